/- Proof. Conditions: none. -/
import Derived.Test.YtinbodeocoeneaaGreatDoorIs37
open Nat renaming reduceEqDiff→Za,reduceBEq→Zb,reduceAdd→Zc,reduceLeDiff→Zd,reduceLT→Ze,reduceMul→Zf,reduceSub→Zg
open Int renaming reduceEq→Zh,reduceLT→Zi,reduceLE→Zj,reduceToNat→Zk
open List renaming mem_of_getElem?→zla,getElem?_eq_some_iff→zlb,length_append→zld,take_length→zlj,length_take→zlo,take_zero→zlr,mem_cons→zlw
open Nat renaming le_refl→zna,le_add_right→znd
namespace Go.Proofs.YtinbodeocoeneaaGreatDoor
open Go.Eng
set_option linter.all false
set_option maxRecDepth 20000
structure ApI (d:Dat) (B:List (Nat × List AV)) (m p ko kw gw go:Nat) (hp H:CH) (n:Nat) (cur:List Itm) (A:List (List AV)):Prop where
 bx:∀x∈B,gc H x.1=.bx x.2∧m≤x.1∧x.1<p
 b2:gc H p=.bx [.rw ko go cur.length,.rw kw gw d.w.length]
 b3:gc H ko=.rn go 2 A
 b4:gc H kw=.rw gw 10 (mapC wrC d.w)
 up:Up m hp H
 nst:Nst H m n cur A
 fr:∀k,n≤k→gc H k=.no
 lp:m≤p∧p<n
 lo:m≤ko∧ko<n
 lw:m≤kw∧kw<n
theorem ApI.same {d:Dat} {B:List (Nat × List AV)} {m p ko kw gw go:Nat} {hp H H':CH} {n n':Nat} {cur:List Itm} {A:List (List AV)} (h:ApI d B m p ko kw gw go hp H n cur A) (hn:n≤n') (he:∀j,j<n→gc H' j=gc H j) (hf:∀k,n'≤k→gc H' k=.no):ApI d B m p ko kw gw go hp H' n' cur A:=by
 obtain ⟨h1,h2,h3,h4,h5,h6,h7,h8,h9,h10⟩:=h
 exact ⟨fun x hx=>⟨by rw [he _ (by have:=h1 x hx;omega)];exact (h1 x hx).1,(h1 x hx).2⟩,by rw [he _ (by omega)];exact h2,by rw [he _ (by omega)];exact h3,by rw [he _ (by omega)];exact h4,
  fun k hk=>by rw [he _ (by omega)];exact h5 k hk,h6.frame hn fun k _ hk=>he k hk,hf,by omega,by omega,by omega⟩
theorem ApI.next {d:Dat} {B:List (Nat × List AV)} {m p ko kw gw go:Nat} {hp H H':CH} {n n':Nat} {cur:List Itm} {A:List (List AV)} (h:ApI d B m p ko kw gw go hp H n cur A) (hn:n≤n') {i:Nat} {x:Itm} {k g z:Nat} (ex:cur[i]?=some x) (eA:A[i]?=some [.s x.t,.rw k g z])
  (h0:gc H k=.rw g 7 (mapC celC x.l)) {l':List Cel} {g':Nat} (hk:gc H' k=.rw g' 7 (mapC celC l')) (ho:gc H' ko=.rn go 2 (A.set i [.s x.t,.rw k g' l'.length])) (he:∀j,j<n→j≠k→j≠ko→gc H' j=gc H j) (hf:∀k,n'≤k→gc H' k=.no) :
  ApI d B m p ko kw gw go hp H' n' (cur.set i (.mk x.t l')) (A.set i [.s x.t,.rw k g' l'.length]):=by
 obtain ⟨h1,h2,h3,h4,h5,h6,h7,h8,h9,h10⟩:=h
 have r:=h6.row eA
 have e1:p≠k:=fun e=>by rw [←e,h2] at h0;cases h0
 have e2:p≠ko:=fun e=>by rw [←e,h2] at h3;cases h3
 have e3:kw≠k:=fun e=>by rw [←e,h4] at h0;cases h0
 have e4:kw≠ko:=fun e=>by rw [←e,h4] at h3;cases h3
 refine ⟨fun y hy=>?_,by rw [he _ (by omega) e1 e2,List.length_set];exact h2,ho,by rw [he _ (by omega) e3 e4];exact h4,fun j hj=>by rw [he _ (by omega) (by omega) (by omega)];exact h5 j hj,?_,hf,by omega,by omega,by omega⟩
 .obtain ⟨q1,q2,q3⟩:=h1 y hy
  refine ⟨?_,q2,q3⟩
  rw [he _ (by omega) (fun e=>by rw [e,h0] at q1;cases q1) (fun e=>by rw [e,h3] at q1;cases q1)]
  exact q1
 .refine h6.set ex eA hn hk fun j a b c ⟨g0,c0,q⟩=>he j b c fun e=>by rw [e,h3] at q;cases q
theorem rsome_ok (d:Dat) (hd:d.Fit) (f a:ByteArray) (hp:CH) (m:Nat):MeetsF Tryz.prog 115 hp m [dx d,.s f,.s a] (.b (d.w.any (hits f a))):=by
 have h2:=hd.lw
 obtain ⟨R,hR⟩:∃R,d.w.any (hits f a)=R:=⟨_,rfl⟩
 rw [hR]
 refine meetsF Tryz.func115 (by kernel_rfl) cc115 cr115 rfl fun hf=>?_;unfold ck115
 simp only [go_sem,↓reduceIte,Za,Zb,Zc,Zd,Ze,reduceCtorEq,Zf,Zg,Zh,Zi,Zj,Zk]
 refine loopg (fun k:Nat=>⟨[(1,.s f),(2,.s a),(3,.bx m 0),(7,.i .i64 k)],(m,.bx [.ds (mapC itC d.i),.ds (mapC wrC d.w)])::hp,m+1⟩)
  (fun k=>k≤d.w.length∧(d.w.drop k).any (hits f a)=R) (fun k=>d.w.length - k) 0 ⟨Nat.zero_le _,hR⟩ ?_ (fun k ⟨hk,hk2⟩=>?_)
 .refine weak_ok ?_ (Sub.cons ?_ (Sub.base hf ?_)) (zna _)
  all_goals first | (simp only [go_sem,↓reduceIte,Za,Zb,Zc,Zd,Ze,reduceCtorEq,Zf,Zg,Zh,Zi,Zj,Zk];done) | (dsimp only;omega) | trace_state
 simp only [go_sem,↓reduceIte,Za,Zb,Zc,Zd,Ze,reduceCtorEq,Zf,Zg,Zh,Zi,Zj,Zk]
 refine cdK_of (fun q=>?_) (fun q=>?_)
 .have q:k<d.w.length:=by simpa using q
  obtain ⟨x,ex⟩:∃x,d.w[k]?=some x:=⟨d.w[k],by simp [q]⟩
  rw [drop_at ex,List.any_cons] at hk2
  have k6:k<9223372036854775807:=by omega
  have next:hits f a x=false→(d.w.drop (k+1)).any (hits f a)=R:=fun e=>by rw [e,Bool.false_or] at hk2;exact hk2
  have stop:hits f a x=true→R=true:=fun e=>by rw [e,Bool.true_or] at hk2;exact hk2.symm
  unfold hits at next stop
  simp only [q,getK_s (mapC_get wrC ex),go_sem,↓reduceIte,Za,Zb,Zc,Zd,Ze,reduceCtorEq,Zf,Zg,Zh,Zi,Zj,Zk]
  refine grK_of (fun g=>?_) (fun g=>?_)
  .have g':x.f=f:=by simpa using g
   simp only [q,g',getK_s (mapC_get wrC ex),go_sem,↓reduceIte,Za,Zb,Zc,Zd,Ze,reduceCtorEq,Zf,Zg,Zh,Zi,Zj,Zk]
   refine cdK_of (fun g2=>?_) (fun g2=>?_)
   .have g3:x.a=a:=by simpa using g2
    have:=stop (by simp [g',g3])
    subst this
    simp only [go_sem,↓reduceIte,Za,Zb,Zc,Zd,Ze,reduceCtorEq,Zf,Zg,Zh,Zi,Zj,Zk]
   .have g3:¬x.a=a:=by simpa using g2
    simp only [wr64s k k6,go_sem,↓reduceIte,Za,Zb,Zc,Zd,Ze,reduceCtorEq,Zf,Zg,Zh,Zi,Zj,Zk]
    refine ⟨k+1,⟨q,next (by simp [g3])⟩,by omega,weakG_ok ?_ (SubG.cons ?_ ?_ ?_ (SubG.base hf ?_ ?_ ?_))⟩
    all_goals first | (simp only [go_sem,↓reduceIte,Za,Zb,Zc,Zd,Ze,reduceCtorEq,Zf,Zg,Zh,Zi,Zj,Zk];done) | (dsimp only;omega) | trace_state
  .have g':¬x.f=f:=by simpa using g
   simp only [q,g',go_sem,↓reduceIte,Za,Zb,Zc,Zd,Ze,reduceCtorEq,Zf,Zg,Zh,Zi,Zj,Zk]
   simp only [wr64s k k6,go_sem,↓reduceIte,Za,Zb,Zc,Zd,Ze,reduceCtorEq,Zf,Zg,Zh,Zi,Zj,Zk]
   refine ⟨k+1,⟨q,next (by simp [g'])⟩,by omega,weakG_ok ?_ (SubG.cons ?_ ?_ ?_ (SubG.base hf ?_ ?_ ?_))⟩
   all_goals first | (simp only [go_sem,↓reduceIte,Za,Zb,Zc,Zd,Ze,reduceCtorEq,Zf,Zg,Zh,Zi,Zj,Zk];done) | (dsimp only;omega) | trace_state
 .have q:k=d.w.length:=by simp at q;omega
  subst q
  rw [List.drop_length] at hk2
  simp at hk2
  subst hk2
  simp only [go_sem,↓reduceIte,Za,Zb,Zc,Zd,Ze,reduceCtorEq,Zf,Zg,Zh,Zi,Zj,Zk]
set_option maxHeartbeats 2000000 in
theorem rApply_nest (d:Dat) (hd:d.Fit2) (f a:ByteArray) (hp:CH) (m:Nat):Meets Tryz.prog 64 hp m [dx d,.s f,.s a] (NestR (appV d f a) m hp):=by
 have h1:=hd.f.li
 have h2:=hd.w
 have hs:=rsome_ok d hd.f f a
 obtain ⟨b,hb⟩:∃b,d.w.any (hits f a)=b:=⟨_,rfl⟩
 rw [hb] at hs
 refine meetsN Tryz.func64 (by kernel_rfl) cc64 cr64 rfl fun hf=>?_
 unfold ck64
 simp only [go_sem,↓reduceIte,Za,Zb,Zc,Zd,Ze,reduceCtorEq,Zf,Zg,Zh,Zi,Zj,Zk]
 refine vcCall.r (rclone_ok d hd.f hd.w _ _) fun H0 p r ⟨ko,go,A,kw,gw,hr,c1,c2,c3,c4,c5,c6,c7⟩=>?_
 subst hr
 have e0:gc H0 m=.bx [.ds (mapC itC d.i),.ds (mapC wrC d.w)]:=(c3 m (by omega)).trans (by simp only [go_sem,↓reduceIte,Za,Zb,Zc,Zd,Ze,reduceCtorEq,Zf,Zg,Zh,Zi,Zj,Zk])
 have e1:gc H0 (m+1)=.bx [.e0,.e0]:=(c3 (m+1) (by omega)).trans (by simp only [go_sem,↓reduceIte,Za,Zb,Zc,Zd,Ze,reduceCtorEq,Zf,Zg,Zh,Zi,Zj,Zk])
 have y1:¬p=m:=by omega
 have y2:¬p=m+1:=by omega
 simp only [e0,e1,y1,y2,go_sem,↓reduceIte,Za,Zb,Zc,Zd,Ze,reduceCtorEq,Zf,Zg,Zh,Zi,Zj,Zk]
 refine vcCall.f (hs _ _) ?_
 cases b with
 | true =>
  have ea:argA d f a=a:=by unfold argA;rw [hb,if_pos rfl]
  simp only [go_sem,↓reduceIte,Za,Zb,Zc,Zd,Ze,reduceCtorEq,Zf,Zg,Zh,Zi,Zj,Zk]
  refine loop (fun q:Nat × CH × Nat × List (List AV)=>⟨[(1,.s f),(2,.s (argA d f a)),(3,.bx m 0),(6,.bx (m+1) 0),(7,.bx p 0),(8,.i .i64 q.1)],q.2.1,q.2.2.1⟩)
   (fun q=>q.1≤d.w.length∧ApI d [(m,[.ds (mapC itC d.i),.ds (mapC wrC d.w)]),(m+1,[.e0,.e0])] m p ko kw gw go hp q.2.1 q.2.2.1 (appL f (argA d f a) (d.w.take q.1) d.i) q.2.2.2)
   (fun q=>d.w.length - q.1) (0,_,_,A) ?_ (weak_ok ?_ (Sub.refl _) (zna _)) (fun ⟨j,H,n,A⟩ ⟨hj0,hj⟩=>?_)
  .refine ⟨Nat.zero_le _,?_⟩
   dsimp only
   have hst:∀k,k<p→gc ((p,.bx [.rw ko go d.i.length,.rw kw gw d.w.length])::(p,.bx [.e0,.e0])::H0) k=gc H0 k:=fun k hk=>by rw [gc_ne _ _ (by omega),gc_ne _ _ (by omega)]
   refine ⟨fun x hx=>?_,by rw [gc_same,zlr];rfl,by rw [hst _ c4.2];exact c1,by rw [hst _ c5.2];exact c2,fun k hk=>by rw [hst _ (by omega)];exact (c3 k (by omega)).trans (by rw [gc_ne _ _ (by omega),gc_ne _ _ (by omega)]),?_,?_,by omega,by omega,by omega⟩
   .simp only [zlw,List.not_mem_nil,or_false] at hx
    rcases hx with rfl | rfl
    .exact ⟨by rw [hst _ (by omega)];exact e0,by dsimp only;omega,by dsimp only;omega⟩
    .exact ⟨by rw [hst _ (by omega)];exact e1,by dsimp only;omega,by dsimp only;omega⟩
   .rw [zlr]
    refine ⟨c6.len,fun i x e=>?_,c6.inj⟩
    obtain ⟨k,g',k1,k2,k3,k4⟩:=c6.get i x e
    exact ⟨k,g',by omega,by omega,k3,by rw [hst _ k2];exact k4⟩
   .intro k hk
    rw [gc_ne _ _ (by omega),gc_ne _ _ (by omega)]
    exact c7 k (by omega)
  .simp only [ea,go_sem,↓reduceIte,Za,Zb,Zc,Zd,Ze,reduceCtorEq,Zf,Zg,Zh,Zi,Zj,Zk]
  dsimp only at hj0 hj
  have q1:=(hj.bx (m,[.ds (mapC itC d.i),.ds (mapC wrC d.w)]) (by simp)).1
  have q2:=(hj.bx (m+1,[.e0,.e0]) (by simp)).1
  have q3:=hj.b2
  have q4:=hj.b3
  have lp:=hj.lp
  have lo:=hj.lo
  dsimp only at q1 q2
  obtain ⟨L,hL⟩:∃L,appL f (argA d f a) (d.w.take j) d.i=L:=⟨_,rfl⟩
  have hcl:∀x∈L,x.l.length≤200000000000:=fun x hx=>by
   rw [←hL] at hx
   have:=appL_cells hd.c x hx
   rw [zlo] at this
   have:=hd.w
   omega
  have hLl:L.length=d.i.length:=by rw [←hL,appL_len]
  rw [hL] at hj q3
  have hLA:L.length=A.length:=hj.nst.len.symm
  rw [hLA] at q3
  simp only [q1,q2,q3,q4,go_sem,↓reduceIte,Za,Zb,Zc,Zd,Ze,reduceCtorEq,Zf,Zg,Zh,Zi,Zj,Zk]
  have u0:¬n=m:=by omega
  have u1:¬m=n:=by omega
  have u2:¬n=m+1:=by omega
  have u3:¬m+1=n:=by omega
  have u4:¬n=p:=by omega
  have u5:¬p=n:=by omega
  have u6:¬n=ko:=by omega
  have u7:¬ko=n:=by omega
  refine cdK_of (fun c=>?_) (fun c=>?_)
  .have c:j<d.w.length:=by simpa using c
   obtain ⟨w,ew⟩:∃w,d.w[j]?=some w:=⟨d.w[j],by simp [c]⟩
   have fw:=hd.f.w (zla ew)
   have j6:j<9223372036854775807:=by have:=hd.w;omega
   have hstep:=appL_step (f:=f) (a:=argA d f a) (l:=d.i) ew
   rw [hL] at hstep
   have same:∀H',(∀k,k<n→gc H' k=gc H k)→(∀k,n+1≤k→gc H' k=.no)→appS f (argA d f a) L w=L→ApI d [(m,[.ds (mapC itC d.i),.ds (mapC wrC d.w)]),(m+1,[.e0,.e0])] m p ko kw gw go hp H' (n+1) (appL f (argA d f a) (d.w.take (j+1)) d.i) A:=fun H' x1 x2 e=>by
    rw [hstep,e]
    exact hj.same (Nat.le_succ n) x1 x2
   by_cases hf:w.f=f
   case neg =>
    have hs:=(show appS f (argA d f a) L w=L by unfold appS hits;rw [if_neg (by simp [hf])])
    simp only [c,hf,q1,q2,q3,q4,u0,u1,u2,u3,u4,u5,u6,u7,getK_s (mapC_get wrC ew),wr64s j j6,go_sem,↓reduceIte,Za,Zb,Zc,Zd,Ze,reduceCtorEq,Zf,Zg,Zh,Zi,Zj,Zk]
    refine ⟨(j+1,_,_,_),⟨c,same _ ?_ ?_ hs⟩,by dsimp only;omega,weak_ok ?_ (Sub.refl _) (zna _)⟩
    .intro k hk;rw [gc_ne _ _ (by omega),gc_ne _ _ (by omega)]
    .intro k hk;rw [gc_ne _ _ (by omega),gc_ne _ _ (by omega)];exact hj.fr k (by omega)
    .simp only [go_sem,↓reduceIte,Za,Zb,Zc,Zd,Ze,reduceCtorEq,Zf,Zg,Zh,Zi,Zj,Zk]
   by_cases ha:w.a=argA d f a
   case neg =>
    have hs:=(show appS f (argA d f a) L w=L by unfold appS hits;rw [if_neg (by simp [ha])])
    simp only [c,hf,ha,q1,q2,q3,q4,u0,u1,u2,u3,u4,u5,u6,u7,getK_s (mapC_get wrC ew),wr64s j j6,go_sem,↓reduceIte,Za,Zb,Zc,Zd,Ze,reduceCtorEq,Zf,Zg,Zh,Zi,Zj,Zk]
    refine ⟨(j+1,_,_,_),⟨c,same _ ?_ ?_ hs⟩,by dsimp only;omega,weak_ok ?_ (Sub.refl _) (zna _)⟩
    .intro k hk;rw [gc_ne _ _ (by omega),gc_ne _ _ (by omega)]
    .intro k hk;rw [gc_ne _ _ (by omega),gc_ne _ _ (by omega)];exact hj.fr k (by omega)
    .simp only [go_sem,↓reduceIte,Za,Zb,Zc,Zd,Ze,reduceCtorEq,Zf,Zg,Zh,Zi,Zj,Zk]
   by_cases hi:w.i<0
   case pos =>
    have hs:=(show appS f (argA d f a) L w=L by unfold appS wrI;simp [show ¬0≤w.i by omega])
    simp only [c,hf,ha,hi,q1,q2,q3,q4,u0,u1,u2,u3,u4,u5,u6,u7,getK_s (mapC_get wrC ew),wr64s j j6,go_sem,↓reduceIte,Za,Zb,Zc,Zd,Ze,reduceCtorEq,Zf,Zg,Zh,Zi,Zj,Zk]
    refine ⟨(j+1,_,_,_),⟨c,same _ ?_ ?_ hs⟩,by dsimp only;omega,weak_ok ?_ (Sub.refl _) (zna _)⟩
    .intro k hk;rw [gc_ne _ _ (by omega),gc_ne _ _ (by omega)]
    .intro k hk;rw [gc_ne _ _ (by omega),gc_ne _ _ (by omega)];exact hj.fr k (by omega)
    .simp only [go_sem,↓reduceIte,Za,Zb,Zc,Zd,Ze,reduceCtorEq,Zf,Zg,Zh,Zi,Zj,Zk]
   obtain ⟨i,hwi⟩:∃i:Nat,w.i=i:=⟨w.i.toNat,by omega⟩
   by_cases hil:i<L.length
   case neg =>
    have hil':(A.length:Int)≤i:=by omega
    have hs:=(show appS f (argA d f a) L w=L by unfold appS wrI;rw [hwi,Int.toNat_natCast,List.getElem?_eq_none (by omega)];simp)
    simp only [c,hf,ha,hi,hwi,hil',Int.not_lt.2 (Int.natCast_nonneg i),q1,q2,q3,q4,u0,u1,u2,u3,u4,u5,u6,u7,getK_s (mapC_get wrC ew),wr64s j j6,go_sem,↓reduceIte,Za,Zb,Zc,Zd,Ze,reduceCtorEq,Zf,Zg,Zh,Zi,Zj,Zk]
    refine ⟨(j+1,_,_,_),⟨c,same _ ?_ ?_ hs⟩,by dsimp only;omega,weak_ok ?_ (Sub.refl _) (zna _)⟩
    .intro k hk;rw [gc_ne _ _ (by omega),gc_ne _ _ (by omega)]
    .intro k hk;rw [gc_ne _ _ (by omega),gc_ne _ _ (by omega)];exact hj.fr k (by omega)
    .simp only [go_sem,↓reduceIte,Za,Zb,Zc,Zd,Ze,reduceCtorEq,Zf,Zg,Zh,Zi,Zj,Zk]
   have hil':¬(A.length:Int)≤i:=by omega
   have hiA:i<A.length:=by omega
   obtain ⟨x,ex⟩:∃x,L[i]?=some x:=⟨L[i],by simp [hil]⟩
   obtain ⟨k,g,k1,k2,k3,k4⟩:=hj.nst.get i x ex
   have hxl:=hcl x (zla ex)
   have np:¬k=p:=fun e=>by rw [e,hj.b2] at k4;cases k4
   have np':¬p=k:=fun e=>np e.symm
   have no:¬k=ko:=fun e=>by rw [e,q4] at k4;cases k4
   have no':¬ko=k:=fun e=>no e.symm
   have nq:¬p=ko:=fun e=>by rw [←e,hj.b2] at q4;cases q4
   have nq':¬ko=p:=fun e=>nq e.symm
   have nm:¬k=m:=fun e=>by rw [e,q1] at k4;cases k4
   have nm1:¬k=m+1:=fun e=>by rw [e,q2] at k4;cases k4
   have v0:¬n=m:=by omega
   have v1:¬m=n:=by omega
   have v2:¬n=m+1:=by omega
   have v3:¬m+1=n:=by omega
   have v4:¬n=p:=by omega
   have v5:¬p=n:=by omega
   have v6:¬n=ko:=by omega
   have v7:¬ko=n:=by omega
   have v8:¬n=k:=by omega
   have v9:¬k=n:=by omega
   have v10:¬n+1=m:=by omega
   have v11:¬m=n+1:=by omega
   have v12:¬n+1=m+1:=by omega
   have v13:¬m+1=n+1:=by omega
   have v14:¬n+1=p:=by omega
   have v15:¬p=n+1:=by omega
   have v16:¬n+1=ko:=by omega
   have v17:¬ko=n+1:=by omega
   have v18:¬n+1=k:=by omega
   have v19:¬k=n+1:=by omega
   have v20:¬n+2=m:=by omega
   have v21:¬m=n+2:=by omega
   have v22:¬n+2=m+1:=by omega
   have v23:¬m+1=n+2:=by omega
   have v24:¬n+2=p:=by omega
   have v25:¬p=n+2:=by omega
   have v26:¬n+2=ko:=by omega
   have v27:¬ko=n+2:=by omega
   have v28:¬n+2=k:=by omega
   have v29:¬k=n+2:=by omega
   have w0:¬n=n+1:=by omega
   have w1:¬n+1=n:=by omega
   have w2:¬n=n+2:=by omega
   have w3:¬n+2=n:=by omega
   simp only [c,hf,ha,hi,hwi,hil',hiA,Int.not_lt.2 (Int.natCast_nonneg i),q1,q2,q3,q4,k3,k4,np,np',no,no',nq,nq',nm,nm1,u0,u1,u2,u3,u4,u5,u6,u7,v0,v1,v2,v3,v4,v5,v6,v7,v8,v9,v10,v11,v12,v13,v14,v15,v16,v17,v18,v19,v20,v21,v22,v23,v24,v25,v26,v27,v28,v29,getK_s (mapC_get wrC ew),getK_s k3,wr64s j j6,go_sem,↓reduceIte,Za,Zb,Zc,Zd,Ze,reduceCtorEq,Zf,Zg,Zh,Zi,Zj,Zk]
   refine vcCall.f (rcopy_ok w.c.v fw _ _) ?_
   simp only [q1,q2,q3,q4,k3,k4,np,np',no,no',nq,nq',nm,nm1,u0,u1,u2,u3,u4,u5,u6,u7,v0,v1,v2,v3,v4,v5,v6,v7,v8,v9,v10,v11,v12,v13,v14,v15,v16,v17,v18,v19,v20,v21,v22,v23,v24,v25,v26,v27,v28,v29,getK_s k3,go_sem,↓reduceIte,Za,Zb,Zc,Zd,Ze,reduceCtorEq,Zf,Zg,Zh,Zi,Zj,Zk]
   refine vcCall.f (MeetsF.lend (R:=[(k,.sh g 7 (mapC celC x.l))]) (B:=[]) ?_ trivial ?_ rfl (at_ok x.l (by omega) w.c.f w.c.a _ _)) ?_
   .simp only [k4,no,no',np,np',v0,v1,v2,v3,v4,v5,v6,v7,v8,v9,v10,v11,v12,v13,v14,v15,v16,v17,v18,v19,v20,v21,v22,v23,v24,v25,v26,v27,v28,v29,go_sem,↓reduceIte,Za,Zb,Zc,Zd,Ze,reduceCtorEq,Zf,Zg,Zh,Zi,Zj,Zk]
   .simp only [k4,no,no',np,np',v0,v1,v2,v3,v4,v5,v6,v7,v8,v9,v10,v11,v12,v13,v14,v15,v16,v17,v18,v19,v20,v21,v22,v23,v24,v25,v26,v27,v28,v29,go_sem,↓reduceIte,Za,Zb,Zc,Zd,Ze,reduceCtorEq,Zf,Zg,Zh,Zi,Zj,Zk]
   have hst:appS f (argA d f a) L w=L.set i (.mk x.t (putC x.l w.c)):=by
    unfold appS wrI
    rw [if_pos (by unfold hits;simp [hf,ha]),if_pos (by omega),hwi,Int.toNat_natCast,ex]
   simp only [q1,q2,q3,q4,k3,k4,np,np',no,no',nq,nq',nm,nm1,u0,u1,u2,u3,u4,u5,u6,u7,v0,v1,v2,v3,v4,v5,v6,v7,v8,v9,v10,v11,v12,v13,v14,v15,v16,v17,v18,v19,v20,v21,v22,v23,v24,v25,v26,v27,v28,v29,getK_s k3,go_sem,↓reduceIte,Za,Zb,Zc,Zd,Ze,reduceCtorEq,Zf,Zg,Zh,Zi,Zj,Zk]
   refine cdK_of (fun q=>?_) (fun q=>?_)
   .have q:atI w.c.f w.c.a x.l<0:=by simpa using q
    have hput:putC x.l w.c=x.l++[w.c]:=by unfold putC;rw [if_neg (by omega)]
    have k8:(x.l.length+1)*112≤140737488355328∧x.l.length≤9223372036854775806:=by omega
    simp only [q1,q2,q3,q4,k3,k4,np,np',no,no',nq,nq',nm,nm1,u0,u1,u2,u3,u4,u5,u6,u7,v0,v1,v2,v3,v4,v5,v6,v7,v8,v9,v10,v11,v12,v13,v14,v15,v16,v17,v18,v19,v20,v21,v22,v23,v24,v25,v26,v27,v28,v29,w0,w1,w2,w3,getK_s k3,k8.1,k8.2,wr64s j j6,go_sem,↓reduceIte,Za,Zb,Zc,Zd,Ze,reduceCtorEq,Zf,Zg,Zh,Zi,Zj,Zk]
    refine ⟨hiA,(j+1,_,_,A.set i [.s x.t,.rw k (g+1) (putC x.l w.c).length]),?_,by dsimp only;omega,weak_ok ?_ (Sub.refl _) (zna _)⟩
    .dsimp only
     refine ⟨c,?_⟩
     rw [hstep,hst]
     refine ApI.next (g':=(g+1)) (l':=putC x.l w.c) hj (znd n 2) ex k3 k4 ?_ ?_ ?_ ?_
     .rw [gc_ne _ _ no',gc_same,hput]
     .rw [gc_same,hput,zld,List.length_singleton]
     .intro j hj1 hj2 hj3
      rw [gc_ne _ _ (Ne.symm hj3),gc_ne _ _ (Ne.symm hj2),gc_ne _ _ (by omega),gc_ne _ _ (by omega),gc_ne _ _ (by omega),gc_ne _ _ (by omega),gc_ne _ _ (by omega)]
     .intro j hj1
      rw [gc_ne _ _ (by omega),gc_ne _ _ (by omega),gc_ne _ _ (by omega),gc_ne _ _ (by omega),gc_ne _ _ (by omega),gc_ne _ _ (by omega),gc_ne _ _ (by omega)]
      exact hj.fr j (by omega)
    .simp only [go_sem,↓reduceIte,Za,Zb,Zc,Zd,Ze,reduceCtorEq,Zf,Zg,Zh,Zi,Zj,Zk]
   .have q:0≤atI w.c.f w.c.a x.l:=by simp at q;omega
    obtain ⟨y,c0,hy,ey,_⟩:=at_cell q
    have hyl:=(zlb.1 ey).1
    have hput:putC x.l w.c=x.l.set y w.c:=by unfold putC;rw [if_pos q,hy,Int.toNat_natCast]
    simp only [hy,Int.not_lt.2 (Int.natCast_nonneg y),hyl,getK_s (mapC_get celC ey),q1,q2,q3,q4,k3,k4,np,np',no,no',nq,nq',nm,nm1,u0,u1,u2,u3,u4,u5,u6,u7,v0,v1,v2,v3,v4,v5,v6,v7,v8,v9,v10,v11,v12,v13,v14,v15,v16,v17,v18,v19,v20,v21,v22,v23,v24,v25,v26,v27,v28,v29,w0,w1,w2,w3,getK_s k3,wr64s j j6,go_sem,↓reduceIte,Za,Zb,Zc,Zd,Ze,reduceCtorEq,Zf,Zg,Zh,Zi,Zj,Zk]
    refine ⟨hiA,(j+1,_,_,A.set i [.s x.t,.rw k g (putC x.l w.c).length]),?_,by dsimp only;omega,weak_ok ?_ (Sub.refl _) (zna _)⟩
    .dsimp only
     refine ⟨c,?_⟩
     rw [hstep,hst]
     refine ApI.next (g':=g) (l':=putC x.l w.c) hj (znd n 2) ex k3 k4 ?_ ?_ ?_ ?_
     .rw [gc_ne _ _ no',gc_same,hput]
     .rw [gc_same,hput,List.length_set]
     .intro j hj1 hj2 hj3
      rw [gc_ne _ _ (Ne.symm hj3),gc_ne _ _ (Ne.symm hj2),gc_ne _ _ (by omega),gc_ne _ _ (by omega),gc_ne _ _ (by omega),gc_ne _ _ (by omega),gc_ne _ _ (by omega)]
     .intro j hj1
      rw [gc_ne _ _ (by omega),gc_ne _ _ (by omega),gc_ne _ _ (by omega),gc_ne _ _ (by omega),gc_ne _ _ (by omega),gc_ne _ _ (by omega),gc_ne _ _ (by omega)]
      exact hj.fr j (by omega)
    .simp only [go_sem,↓reduceIte,Za,Zb,Zc,Zd,Ze,reduceCtorEq,Zf,Zg,Zh,Zi,Zj,Zk]
  .have c:j=d.w.length:=by simp at c;omega
   subst c
   simp only [q1,q2,q3,q4,u0,u1,u2,u3,u4,u5,u6,u7,go_sem,↓reduceIte,Za,Zb,Zc,Zd,Ze,reduceCtorEq,Zf,Zg,Zh,Zi,Zj,Zk]
   rw [zlj] at hL
   have eL:appV d f a=.mk L d.w:=by rw [←hL];rfl
   rw [eL]
   refine ⟨ko,go,A,kw,gw,congrArg (fun z=>AV.ag [.rw ko go z,.rw kw gw d.w.length]) hLA.symm,?_,?_,?_,lo,hj.lw,?_,?_⟩
   .rw [gc_ne _ _ (by have:=c4;omega)];exact q4
   .rw [gc_ne _ _ (by have:=c5;omega),Dat.w_mk];exact hj.b4
   .exact up_in hj.up (by omega)
   .refine ⟨hj.nst.len,fun i x e=>?_,hj.nst.inj⟩
    obtain ⟨k,g,k1,k2,k3,k4⟩:=hj.nst.get i x e
    refine ⟨k,g,k1,k2,k3,?_⟩
    rw [gc_ne _ _ (fun e=>by rw [←e,q2] at k4;cases k4)]
    exact k4
   .intro k hk
    rw [gc_ne _ _ (by omega)]
    exact hj.fr k hk
 | false =>
  have ea:argA d f a=⟨#[]⟩:=by unfold argA;rw [hb,if_neg (by simp)]
  simp only [go_sem,↓reduceIte,Za,Zb,Zc,Zd,Ze,reduceCtorEq,Zf,Zg,Zh,Zi,Zj,Zk]
  refine loop (fun q:Nat × CH × Nat × List (List AV)=>⟨[(1,.s f),(2,.s (argA d f a)),(3,.bx m 0),(6,.bx (m+1) 0),(7,.bx p 0),(8,.i .i64 q.1)],q.2.1,q.2.2.1⟩)
   (fun q=>q.1≤d.w.length∧ApI d [(m,[.ds (mapC itC d.i),.ds (mapC wrC d.w)]),(m+1,[.e0,.e0])] m p ko kw gw go hp q.2.1 q.2.2.1 (appL f (argA d f a) (d.w.take q.1) d.i) q.2.2.2)
   (fun q=>d.w.length - q.1) (0,_,_,A) ?_ (weak_ok ?_ (Sub.refl _) (zna _)) (fun ⟨j,H,n,A⟩ ⟨hj0,hj⟩=>?_)
  .refine ⟨Nat.zero_le _,?_⟩
   dsimp only
   have hst:∀k,k<p→gc ((p,.bx [.rw ko go d.i.length,.rw kw gw d.w.length])::(p,.bx [.e0,.e0])::H0) k=gc H0 k:=fun k hk=>by rw [gc_ne _ _ (by omega),gc_ne _ _ (by omega)]
   refine ⟨fun x hx=>?_,by rw [gc_same,zlr];rfl,by rw [hst _ c4.2];exact c1,by rw [hst _ c5.2];exact c2,fun k hk=>by rw [hst _ (by omega)];exact (c3 k (by omega)).trans (by rw [gc_ne _ _ (by omega),gc_ne _ _ (by omega)]),?_,?_,by omega,by omega,by omega⟩
   .simp only [zlw,List.not_mem_nil,or_false] at hx
    rcases hx with rfl | rfl
    .exact ⟨by rw [hst _ (by omega)];exact e0,by dsimp only;omega,by dsimp only;omega⟩
    .exact ⟨by rw [hst _ (by omega)];exact e1,by dsimp only;omega,by dsimp only;omega⟩
   .rw [zlr]
    refine ⟨c6.len,fun i x e=>?_,c6.inj⟩
    obtain ⟨k,g',k1,k2,k3,k4⟩:=c6.get i x e
    exact ⟨k,g',by omega,by omega,k3,by rw [hst _ k2];exact k4⟩
   .intro k hk
    rw [gc_ne _ _ (by omega),gc_ne _ _ (by omega)]
    exact c7 k (by omega)
  .simp only [ea,go_sem,↓reduceIte,Za,Zb,Zc,Zd,Ze,reduceCtorEq,Zf,Zg,Zh,Zi,Zj,Zk]
  dsimp only at hj0 hj
  have q1:=(hj.bx (m,[.ds (mapC itC d.i),.ds (mapC wrC d.w)]) (by simp)).1
  have q2:=(hj.bx (m+1,[.e0,.e0]) (by simp)).1
  have q3:=hj.b2
  have q4:=hj.b3
  have lp:=hj.lp
  have lo:=hj.lo
  dsimp only at q1 q2
  obtain ⟨L,hL⟩:∃L,appL f (argA d f a) (d.w.take j) d.i=L:=⟨_,rfl⟩
  have hcl:∀x∈L,x.l.length≤200000000000:=fun x hx=>by
   rw [←hL] at hx
   have:=appL_cells hd.c x hx
   rw [zlo] at this
   have:=hd.w
   omega
  have hLl:L.length=d.i.length:=by rw [←hL,appL_len]
  rw [hL] at hj q3
  have hLA:L.length=A.length:=hj.nst.len.symm
  rw [hLA] at q3
  simp only [q1,q2,q3,q4,go_sem,↓reduceIte,Za,Zb,Zc,Zd,Ze,reduceCtorEq,Zf,Zg,Zh,Zi,Zj,Zk]
  have u0:¬n=m:=by omega
  have u1:¬m=n:=by omega
  have u2:¬n=m+1:=by omega
  have u3:¬m+1=n:=by omega
  have u4:¬n=p:=by omega
  have u5:¬p=n:=by omega
  have u6:¬n=ko:=by omega
  have u7:¬ko=n:=by omega
  refine cdK_of (fun c=>?_) (fun c=>?_)
  .have c:j<d.w.length:=by simpa using c
   obtain ⟨w,ew⟩:∃w,d.w[j]?=some w:=⟨d.w[j],by simp [c]⟩
   have fw:=hd.f.w (zla ew)
   have j6:j<9223372036854775807:=by have:=hd.w;omega
   have hstep:=appL_step (f:=f) (a:=argA d f a) (l:=d.i) ew
   rw [hL] at hstep
   have same:∀H',(∀k,k<n→gc H' k=gc H k)→(∀k,n+1≤k→gc H' k=.no)→appS f (argA d f a) L w=L→ApI d [(m,[.ds (mapC itC d.i),.ds (mapC wrC d.w)]),(m+1,[.e0,.e0])] m p ko kw gw go hp H' (n+1) (appL f (argA d f a) (d.w.take (j+1)) d.i) A:=fun H' x1 x2 e=>by
    rw [hstep,e]
    exact hj.same (Nat.le_succ n) x1 x2
   by_cases hf:w.f=f
   case neg =>
    have hs:=(show appS f (argA d f a) L w=L by unfold appS hits;rw [if_neg (by simp [hf])])
    simp only [c,hf,q1,q2,q3,q4,u0,u1,u2,u3,u4,u5,u6,u7,getK_s (mapC_get wrC ew),wr64s j j6,go_sem,↓reduceIte,Za,Zb,Zc,Zd,Ze,reduceCtorEq,Zf,Zg,Zh,Zi,Zj,Zk]
    refine ⟨(j+1,_,_,_),⟨c,same _ ?_ ?_ hs⟩,by dsimp only;omega,weak_ok ?_ (Sub.refl _) (zna _)⟩
    .intro k hk;rw [gc_ne _ _ (by omega),gc_ne _ _ (by omega)]
    .intro k hk;rw [gc_ne _ _ (by omega),gc_ne _ _ (by omega)];exact hj.fr k (by omega)
    .simp only [go_sem,↓reduceIte,Za,Zb,Zc,Zd,Ze,reduceCtorEq,Zf,Zg,Zh,Zi,Zj,Zk]
   by_cases ha:w.a=argA d f a
   case neg =>
    have hs:=(show appS f (argA d f a) L w=L by unfold appS hits;rw [if_neg (by simp [ha])])
    simp only [c,hf,ha,q1,q2,q3,q4,u0,u1,u2,u3,u4,u5,u6,u7,getK_s (mapC_get wrC ew),wr64s j j6,go_sem,↓reduceIte,Za,Zb,Zc,Zd,Ze,reduceCtorEq,Zf,Zg,Zh,Zi,Zj,Zk]
    refine ⟨(j+1,_,_,_),⟨c,same _ ?_ ?_ hs⟩,by dsimp only;omega,weak_ok ?_ (Sub.refl _) (zna _)⟩
    .intro k hk;rw [gc_ne _ _ (by omega),gc_ne _ _ (by omega)]
    .intro k hk;rw [gc_ne _ _ (by omega),gc_ne _ _ (by omega)];exact hj.fr k (by omega)
    .simp only [go_sem,↓reduceIte,Za,Zb,Zc,Zd,Ze,reduceCtorEq,Zf,Zg,Zh,Zi,Zj,Zk]
   by_cases hi:w.i<0
   case pos =>
    have hs:=(show appS f (argA d f a) L w=L by unfold appS wrI;simp [show ¬0≤w.i by omega])
    simp only [c,hf,ha,hi,q1,q2,q3,q4,u0,u1,u2,u3,u4,u5,u6,u7,getK_s (mapC_get wrC ew),wr64s j j6,go_sem,↓reduceIte,Za,Zb,Zc,Zd,Ze,reduceCtorEq,Zf,Zg,Zh,Zi,Zj,Zk]
    refine ⟨(j+1,_,_,_),⟨c,same _ ?_ ?_ hs⟩,by dsimp only;omega,weak_ok ?_ (Sub.refl _) (zna _)⟩
    .intro k hk;rw [gc_ne _ _ (by omega),gc_ne _ _ (by omega)]
    .intro k hk;rw [gc_ne _ _ (by omega),gc_ne _ _ (by omega)];exact hj.fr k (by omega)
    .simp only [go_sem,↓reduceIte,Za,Zb,Zc,Zd,Ze,reduceCtorEq,Zf,Zg,Zh,Zi,Zj,Zk]
   obtain ⟨i,hwi⟩:∃i:Nat,w.i=i:=⟨w.i.toNat,by omega⟩
   by_cases hil:i<L.length
   case neg =>
    have hil':(A.length:Int)≤i:=by omega
    have hs:=(show appS f (argA d f a) L w=L by unfold appS wrI;rw [hwi,Int.toNat_natCast,List.getElem?_eq_none (by omega)];simp)
    simp only [c,hf,ha,hi,hwi,hil',Int.not_lt.2 (Int.natCast_nonneg i),q1,q2,q3,q4,u0,u1,u2,u3,u4,u5,u6,u7,getK_s (mapC_get wrC ew),wr64s j j6,go_sem,↓reduceIte,Za,Zb,Zc,Zd,Ze,reduceCtorEq,Zf,Zg,Zh,Zi,Zj,Zk]
    refine ⟨(j+1,_,_,_),⟨c,same _ ?_ ?_ hs⟩,by dsimp only;omega,weak_ok ?_ (Sub.refl _) (zna _)⟩
    .intro k hk;rw [gc_ne _ _ (by omega),gc_ne _ _ (by omega)]
    .intro k hk;rw [gc_ne _ _ (by omega),gc_ne _ _ (by omega)];exact hj.fr k (by omega)
    .simp only [go_sem,↓reduceIte,Za,Zb,Zc,Zd,Ze,reduceCtorEq,Zf,Zg,Zh,Zi,Zj,Zk]
   have hil':¬(A.length:Int)≤i:=by omega
   have hiA:i<A.length:=by omega
   obtain ⟨x,ex⟩:∃x,L[i]?=some x:=⟨L[i],by simp [hil]⟩
   obtain ⟨k,g,k1,k2,k3,k4⟩:=hj.nst.get i x ex
   have hxl:=hcl x (zla ex)
   have np:¬k=p:=fun e=>by rw [e,hj.b2] at k4;cases k4
   have np':¬p=k:=fun e=>np e.symm
   have no:¬k=ko:=fun e=>by rw [e,q4] at k4;cases k4
   have no':¬ko=k:=fun e=>no e.symm
   have nq:¬p=ko:=fun e=>by rw [←e,hj.b2] at q4;cases q4
   have nq':¬ko=p:=fun e=>nq e.symm
   have nm:¬k=m:=fun e=>by rw [e,q1] at k4;cases k4
   have nm1:¬k=m+1:=fun e=>by rw [e,q2] at k4;cases k4
   have v0:¬n=m:=by omega
   have v1:¬m=n:=by omega
   have v2:¬n=m+1:=by omega
   have v3:¬m+1=n:=by omega
   have v4:¬n=p:=by omega
   have v5:¬p=n:=by omega
   have v6:¬n=ko:=by omega
   have v7:¬ko=n:=by omega
   have v8:¬n=k:=by omega
   have v9:¬k=n:=by omega
   have v10:¬n+1=m:=by omega
   have v11:¬m=n+1:=by omega
   have v12:¬n+1=m+1:=by omega
   have v13:¬m+1=n+1:=by omega
   have v14:¬n+1=p:=by omega
   have v15:¬p=n+1:=by omega
   have v16:¬n+1=ko:=by omega
   have v17:¬ko=n+1:=by omega
   have v18:¬n+1=k:=by omega
   have v19:¬k=n+1:=by omega
   have v20:¬n+2=m:=by omega
   have v21:¬m=n+2:=by omega
   have v22:¬n+2=m+1:=by omega
   have v23:¬m+1=n+2:=by omega
   have v24:¬n+2=p:=by omega
   have v25:¬p=n+2:=by omega
   have v26:¬n+2=ko:=by omega
   have v27:¬ko=n+2:=by omega
   have v28:¬n+2=k:=by omega
   have v29:¬k=n+2:=by omega
   have w0:¬n=n+1:=by omega
   have w1:¬n+1=n:=by omega
   have w2:¬n=n+2:=by omega
   have w3:¬n+2=n:=by omega
   simp only [c,hf,ha,hi,hwi,hil',hiA,Int.not_lt.2 (Int.natCast_nonneg i),q1,q2,q3,q4,k3,k4,np,np',no,no',nq,nq',nm,nm1,u0,u1,u2,u3,u4,u5,u6,u7,v0,v1,v2,v3,v4,v5,v6,v7,v8,v9,v10,v11,v12,v13,v14,v15,v16,v17,v18,v19,v20,v21,v22,v23,v24,v25,v26,v27,v28,v29,getK_s (mapC_get wrC ew),getK_s k3,wr64s j j6,go_sem,↓reduceIte,Za,Zb,Zc,Zd,Ze,reduceCtorEq,Zf,Zg,Zh,Zi,Zj,Zk]
   refine vcCall.f (rcopy_ok w.c.v fw _ _) ?_
   simp only [q1,q2,q3,q4,k3,k4,np,np',no,no',nq,nq',nm,nm1,u0,u1,u2,u3,u4,u5,u6,u7,v0,v1,v2,v3,v4,v5,v6,v7,v8,v9,v10,v11,v12,v13,v14,v15,v16,v17,v18,v19,v20,v21,v22,v23,v24,v25,v26,v27,v28,v29,getK_s k3,go_sem,↓reduceIte,Za,Zb,Zc,Zd,Ze,reduceCtorEq,Zf,Zg,Zh,Zi,Zj,Zk]
   refine vcCall.f (MeetsF.lend (R:=[(k,.sh g 7 (mapC celC x.l))]) (B:=[]) ?_ trivial ?_ rfl (at_ok x.l (by omega) w.c.f w.c.a _ _)) ?_
   .simp only [k4,no,no',np,np',v0,v1,v2,v3,v4,v5,v6,v7,v8,v9,v10,v11,v12,v13,v14,v15,v16,v17,v18,v19,v20,v21,v22,v23,v24,v25,v26,v27,v28,v29,go_sem,↓reduceIte,Za,Zb,Zc,Zd,Ze,reduceCtorEq,Zf,Zg,Zh,Zi,Zj,Zk]
   .simp only [k4,no,no',np,np',v0,v1,v2,v3,v4,v5,v6,v7,v8,v9,v10,v11,v12,v13,v14,v15,v16,v17,v18,v19,v20,v21,v22,v23,v24,v25,v26,v27,v28,v29,go_sem,↓reduceIte,Za,Zb,Zc,Zd,Ze,reduceCtorEq,Zf,Zg,Zh,Zi,Zj,Zk]
   have hst:appS f (argA d f a) L w=L.set i (.mk x.t (putC x.l w.c)):=by
    unfold appS wrI
    rw [if_pos (by unfold hits;simp [hf,ha]),if_pos (by omega),hwi,Int.toNat_natCast,ex]
   simp only [q1,q2,q3,q4,k3,k4,np,np',no,no',nq,nq',nm,nm1,u0,u1,u2,u3,u4,u5,u6,u7,v0,v1,v2,v3,v4,v5,v6,v7,v8,v9,v10,v11,v12,v13,v14,v15,v16,v17,v18,v19,v20,v21,v22,v23,v24,v25,v26,v27,v28,v29,getK_s k3,go_sem,↓reduceIte,Za,Zb,Zc,Zd,Ze,reduceCtorEq,Zf,Zg,Zh,Zi,Zj,Zk]
   refine cdK_of (fun q=>?_) (fun q=>?_)
   .have q:atI w.c.f w.c.a x.l<0:=by simpa using q
    have hput:putC x.l w.c=x.l++[w.c]:=by unfold putC;rw [if_neg (by omega)]
    have k8:(x.l.length+1)*112≤140737488355328∧x.l.length≤9223372036854775806:=by omega
    simp only [q1,q2,q3,q4,k3,k4,np,np',no,no',nq,nq',nm,nm1,u0,u1,u2,u3,u4,u5,u6,u7,v0,v1,v2,v3,v4,v5,v6,v7,v8,v9,v10,v11,v12,v13,v14,v15,v16,v17,v18,v19,v20,v21,v22,v23,v24,v25,v26,v27,v28,v29,w0,w1,w2,w3,getK_s k3,k8.1,k8.2,wr64s j j6,go_sem,↓reduceIte,Za,Zb,Zc,Zd,Ze,reduceCtorEq,Zf,Zg,Zh,Zi,Zj,Zk]
    refine ⟨hiA,(j+1,_,_,A.set i [.s x.t,.rw k (g+1) (putC x.l w.c).length]),?_,by dsimp only;omega,weak_ok ?_ (Sub.refl _) (zna _)⟩
    .dsimp only
     refine ⟨c,?_⟩
     rw [hstep,hst]
     refine ApI.next (g':=(g+1)) (l':=putC x.l w.c) hj (znd n 2) ex k3 k4 ?_ ?_ ?_ ?_
     .rw [gc_ne _ _ no',gc_same,hput]
     .rw [gc_same,hput,zld,List.length_singleton]
     .intro j hj1 hj2 hj3
      rw [gc_ne _ _ (Ne.symm hj3),gc_ne _ _ (Ne.symm hj2),gc_ne _ _ (by omega),gc_ne _ _ (by omega),gc_ne _ _ (by omega),gc_ne _ _ (by omega),gc_ne _ _ (by omega)]
     .intro j hj1
      rw [gc_ne _ _ (by omega),gc_ne _ _ (by omega),gc_ne _ _ (by omega),gc_ne _ _ (by omega),gc_ne _ _ (by omega),gc_ne _ _ (by omega),gc_ne _ _ (by omega)]
      exact hj.fr j (by omega)
    .simp only [go_sem,↓reduceIte,Za,Zb,Zc,Zd,Ze,reduceCtorEq,Zf,Zg,Zh,Zi,Zj,Zk]
   .have q:0≤atI w.c.f w.c.a x.l:=by simp at q;omega
    obtain ⟨y,c0,hy,ey,_⟩:=at_cell q
    have hyl:=(zlb.1 ey).1
    have hput:putC x.l w.c=x.l.set y w.c:=by unfold putC;rw [if_pos q,hy,Int.toNat_natCast]
    simp only [hy,Int.not_lt.2 (Int.natCast_nonneg y),hyl,getK_s (mapC_get celC ey),q1,q2,q3,q4,k3,k4,np,np',no,no',nq,nq',nm,nm1,u0,u1,u2,u3,u4,u5,u6,u7,v0,v1,v2,v3,v4,v5,v6,v7,v8,v9,v10,v11,v12,v13,v14,v15,v16,v17,v18,v19,v20,v21,v22,v23,v24,v25,v26,v27,v28,v29,w0,w1,w2,w3,getK_s k3,wr64s j j6,go_sem,↓reduceIte,Za,Zb,Zc,Zd,Ze,reduceCtorEq,Zf,Zg,Zh,Zi,Zj,Zk]
    refine ⟨hiA,(j+1,_,_,A.set i [.s x.t,.rw k g (putC x.l w.c).length]),?_,by dsimp only;omega,weak_ok ?_ (Sub.refl _) (zna _)⟩
    .dsimp only
     refine ⟨c,?_⟩
     rw [hstep,hst]
     refine ApI.next (g':=g) (l':=putC x.l w.c) hj (znd n 2) ex k3 k4 ?_ ?_ ?_ ?_
     .rw [gc_ne _ _ no',gc_same,hput]
     .rw [gc_same,hput,List.length_set]
     .intro j hj1 hj2 hj3
      rw [gc_ne _ _ (Ne.symm hj3),gc_ne _ _ (Ne.symm hj2),gc_ne _ _ (by omega),gc_ne _ _ (by omega),gc_ne _ _ (by omega),gc_ne _ _ (by omega),gc_ne _ _ (by omega)]
     .intro j hj1
      rw [gc_ne _ _ (by omega),gc_ne _ _ (by omega),gc_ne _ _ (by omega),gc_ne _ _ (by omega),gc_ne _ _ (by omega),gc_ne _ _ (by omega),gc_ne _ _ (by omega)]
      exact hj.fr j (by omega)
    .simp only [go_sem,↓reduceIte,Za,Zb,Zc,Zd,Ze,reduceCtorEq,Zf,Zg,Zh,Zi,Zj,Zk]
  .have c:j=d.w.length:=by simp at c;omega
   subst c
   simp only [q1,q2,q3,q4,u0,u1,u2,u3,u4,u5,u6,u7,go_sem,↓reduceIte,Za,Zb,Zc,Zd,Ze,reduceCtorEq,Zf,Zg,Zh,Zi,Zj,Zk]
   rw [zlj] at hL
   have eL:appV d f a=.mk L d.w:=by rw [←hL];rfl
   rw [eL]
   refine ⟨ko,go,A,kw,gw,congrArg (fun z=>AV.ag [.rw ko go z,.rw kw gw d.w.length]) hLA.symm,?_,?_,?_,lo,hj.lw,?_,?_⟩
   .rw [gc_ne _ _ (by have:=c4;omega)];exact q4
   .rw [gc_ne _ _ (by have:=c5;omega),Dat.w_mk];exact hj.b4
   .exact up_in hj.up (by omega)
   .refine ⟨hj.nst.len,fun i x e=>?_,hj.nst.inj⟩
    obtain ⟨k,g,k1,k2,k3,k4⟩:=hj.nst.get i x e
    refine ⟨k,g,k1,k2,k3,?_⟩
    rw [gc_ne _ _ (fun e=>by rw [←e,q2] at k4;cases k4)]
    exact k4
   .intro k hk
    rw [gc_ne _ _ (by omega)]
    exact hj.fr k hk
theorem rApply_ok (d:Dat) (hd:d.Fit2) (f a:ByteArray) (hp:CH) (m:Nat):MeetsF Tryz.prog 64 hp m [dx d,.s f,.s a] (dx (appV d f a)):=nest_pure (rApply_nest d hd f a hp m)
theorem dapp1_ok (w:Wri) (f a:ByteArray) (c1 c2:Nat) (hp:CH) (m:Nat) (hc1:gc hp c1=.bx [.s f]) (hc2:gc hp c2=.bx [.s a]):MeetsF Tryz.prog 107 hp m [wx w,.bx c1 0,.bx c2 0] (.b (hits f a w)):=by
 unfold hits
 refine meetsF Tryz.func107 (by kernel_rfl) cc107 cr107 rfl fun hf=>?_;unfold ck107
 have hlt:=bx_lt hf hc1
 have hlt2:=bx_lt hf hc2
 have z1:¬c1=m:=by omega
 have z2:¬m=c1:=by omega
 have z3:¬c2=m:=by omega
 have z4:¬m=c2:=by omega
 simp only [z1,z2,z3,z4,hc1,hc2,go_sem,↓reduceIte,Za,Zb,Zc,Zd,Ze,reduceCtorEq,Zf,Zg,Zh,Zi,Zj,Zk]
theorem ro_lt {hp:CH} {n k:Nat} {cs:List AV} (hf:∀k,n≤k→gc hp k=.no) (h:gc hp k=.ro cs):k<n:=by
 rcases Nat.lt_or_ge k n with q | q
 .exact q
 .rw [hf k q] at h;cases h
theorem dapp2_ok (y c:Cel) (b:Nat) (hp:CH) (m:Nat) (hc:gc hp b=.ro [.s c.f,.s c.a,.i .i64 c.v.k,.i .i64 c.v.n,.s c.v.s,.ds (mapC valC c.v.items),.ds (stC c.v.keys)]):MeetsF Tryz.prog 109 hp m [cx y,.bx b 0] (.b (decide (y.f=c.f)&&decide (y.a=c.a))):=by
 refine meetsF Tryz.func109 (by kernel_rfl) cc109 cr109 rfl fun hf=>?_;unfold ck109
 have hlt:=ro_lt hf hc
 have z1:¬b=m:=by omega
 have z2:¬m=b:=by omega
 simp only [z1,z2,hc,go_sem,↓reduceIte,Za,Zb,Zc,Zd,Ze,reduceCtorEq,Zf,Zg,Zh,Zi,Zj,Zk]
theorem fidx_none {α:Type} (q:α→Bool):∀(l:List α) (j:Nat),l.any q=false→fidx q l j=-1
 | [],j,_=>rfl
 | x::r,j,h=>by
  simp only [List.any_cons,Bool.or_eq_false_iff] at h
  rw [fidx,if_neg (by simp [h.1])]
  exact fidx_none q r (j+1) h.2
theorem fidx_some {α:Type} (q:α→Bool):∀(l:List α) (j:Nat),l.any q=true→(j:Int)≤fidx q l j
 | [],j,h=>by simp at h
 | x::r,j,h=>by
  rw [fidx]
  split
  .exact Int.le_refl _
  .rename_i e
   have:=fidx_some q r (j+1) (by simpa [e] using h)
   omega
theorem fidx_eq (l:List Wri) (f a:ByteArray):decide (0≤fidx (hits f a) l 0)=l.any (hits f a):=by
 cases h:l.any (hits f a) with
 | true=>have:=fidx_some _ l 0 h;simp at this ⊢;exact this
 | false=>rw [fidx_none _ l 0 h];rfl
theorem set_same {α:Type} {l:List α} {i:Nat} {x:α} (h:l[i]?=some x):l.set i x=l:=by
 obtain ⟨hi,rfl⟩:=zlb.1 h
 exact List.set_getElem_self hi
theorem fidx_at {α:Type} (q:α→Bool):∀(l:List α) (j:Nat) (i:Nat) (x:α),fidx q l j=((j+i:Nat):Int)→l[i]?=some x→q x=true
 | [],j,i,x,_,h=>by simp at h
 | y::r,j,i,x,h,hx=>by
  rw [fidx] at h
  split at h
  .rename_i e
   have:i=0:=by omega
   subst this
   simp at hx
   subst hx
   exact e
  .cases i with
   | zero =>
    exfalso
    have:=fidx_lt q r (j+1)
    omega
   | succ i=>exact fidx_at q r (j+1) i x (by rw [h];congr 1;omega) (by simpa using hx)
theorem at_eq {l:List Cel} {f a:ByteArray} {i:Nat} {c:Cel} (h:atI f a l=i) (hc:l[i]?=some c):c.f=f∧c.a=a:=by
 have:=fidx_at _ l 0 i c (by unfold atI at h;rw [h];simp) hc
 simpa using this
set_option maxHeartbeats 4000000 in
theorem dApply_nest (d:Dat) (hd:d.Fit2) (f a:ByteArray) (hp:CH) (m:Nat):Meets Tryz.prog 57 hp m [dx d,.s f,.s a] (NestR (appV d f a) m hp):=by
 have h1:=hd.f.li
 have h2:=hd.w
 obtain ⟨I,hI⟩:∃I,fidx (hits f a) d.w 0=I:=⟨_,rfl⟩
 have hfi:=first_wri d.w (hits f a) 107 [.bx (m+1) 0,.bx (m+2) 0] (by omega)
 rw [hI] at hfi
 obtain ⟨b,hb⟩:∃b,d.w.any (hits f a)=b:=⟨_,rfl⟩
 have hIb:decide (0≤I)=b:=by rw [←hI,fidx_eq,hb]
 refine meetsN Tryz.func57 (by kernel_rfl) cc57 cr57 rfl fun hf=>?_
 unfold ck57
 simp only [go_sem,↓reduceIte,Za,Zb,Zc,Zd,Ze,reduceCtorEq,Zf,Zg,Zh,Zi,Zj,Zk]
 refine vcCall.r (dcopied_ok d hd.f hd.w _ _) fun H0 p r ⟨ko,go,A,kw,gw,hr,c1,c2,c3,c4,c5,c6,c7⟩=>?_
 subst hr
 have e0:gc H0 m=.bx [.ds (mapC itC d.i),.ds (mapC wrC d.w)]:=(c3 m (by omega)).trans (by simp only [go_sem,↓reduceIte,Za,Zb,Zc,Zd,Ze,reduceCtorEq,Zf,Zg,Zh,Zi,Zj,Zk])
 have e1:gc H0 (m+1)=.bx [.s f]:=(c3 (m+1) (by omega)).trans (by simp only [go_sem,↓reduceIte,Za,Zb,Zc,Zd,Ze,reduceCtorEq,Zf,Zg,Zh,Zi,Zj,Zk])
 have e2:gc H0 (m+2)=.bx [.s a]:=(c3 (m+2) (by omega)).trans (by simp only [go_sem,↓reduceIte,Za,Zb,Zc,Zd,Ze,reduceCtorEq,Zf,Zg,Zh,Zi,Zj,Zk])
 have e3:gc H0 (m+3)=.bx [.e0,.e0]:=(c3 (m+3) (by omega)).trans (by simp only [go_sem,↓reduceIte,Za,Zb,Zc,Zd,Ze,reduceCtorEq,Zf,Zg,Zh,Zi,Zj,Zk])
 have y1:¬p=m:=by omega
 have y2:¬p=m+1:=by omega
 have y3:¬p=m+2:=by omega
 have y4:¬p=m+3:=by omega
 simp only [e0,e1,e2,e3,y1,y2,y3,y4,go_sem,↓reduceIte,Za,Zb,Zc,Zd,Ze,reduceCtorEq,Zf,Zg,Zh,Zi,Zj,Zk]
 refine vcCall.f (hfi _ _ fun w hw hp' n hn he=>dapp1_ok w f a (m+1) (m+2) hp' n ((he (m+1) (by omega)).trans (by (simp only [e1,y1,y2,y3,y4,go_sem,↓reduceIte,Za,Zb,Zc,Zd,Ze,reduceCtorEq,Zf,Zg,Zh,Zi,Zj,Zk]))) ((he (m+2) (by omega)).trans (by (simp only [e2,y1,y2,y3,y4,go_sem,↓reduceIte,Za,Zb,Zc,Zd,Ze,reduceCtorEq,Zf,Zg,Zh,Zi,Zj,Zk])))) ?_
 cases b with
 | true =>
  have ea:argA d f a=a:=by unfold argA;rw [hb,if_pos rfl]
  simp only [e0,e1,e2,e3,y1,y2,y3,y4,hIb,go_sem,↓reduceIte,Za,Zb,Zc,Zd,Ze,reduceCtorEq,Zf,Zg,Zh,Zi,Zj,Zk]
  refine loop (fun q:Nat × CH × Nat × List (List AV)=>⟨[(4,.bx (m+1) 0),(5,.bx (m+2) 0),(6,.bx (m+3) 0),(7,.bx p 0),(28,.ds (mapC wrC d.w)),(29,.i .i64 d.w.length),(30,.i .i64 q.1)],q.2.1,q.2.2.1⟩)
   (fun q=>q.1≤d.w.length∧ApI d [(m,[.ds (mapC itC d.i),.ds (mapC wrC d.w)]),(m+1,[.s f]),(m+2,[.s (argA d f a)]),(m+3,[.e0,.e0])] m p ko kw gw go hp q.2.1 q.2.2.1 (appL f (argA d f a) (d.w.take q.1) d.i) q.2.2.2)
   (fun q=>d.w.length - q.1) (0,_,_,A) ?_ (weak_ok ?_ (Sub.refl _) (zna _)) (fun ⟨j,H,n,A⟩ ⟨hj0,hj⟩=>?_)
  .refine ⟨Nat.zero_le _,?_⟩
   dsimp only
   have hst:∀k,k<p→k≠m+2→gc ((p,.bx [.rw ko go d.i.length,.rw kw gw d.w.length])::(p,.bx [.e0,.e0])::H0) k=gc H0 k:=fun k hk hk2=>by rw [gc_ne _ _ (by omega),gc_ne _ _ (by omega)]
   refine ⟨fun x hx=>?_,by rw [gc_same,zlr];rfl,by rw [hst _ c4.2 (by omega)];exact c1,by rw [hst _ c5.2 (by omega)];exact c2,fun k hk=>by rw [hst _ (by omega) (by omega)];exact (c3 k (by omega)).trans (by rw [gc_ne _ _ (by omega),gc_ne _ _ (by omega),gc_ne _ _ (by omega),gc_ne _ _ (by omega)]),?_,?_,by omega,by omega,by omega⟩
   .simp only [zlw,List.not_mem_nil,or_false] at hx
    rcases hx with rfl | rfl | rfl | rfl
    .exact ⟨by rw [hst _ (by omega) (by omega)];exact e0,by dsimp only;omega,by dsimp only;omega⟩
    .exact ⟨by rw [hst _ (by omega) (by omega)];exact e1,by dsimp only;omega,by dsimp only;omega⟩
    .exact ⟨by rw [gc_ne _ _ (by dsimp only;omega),gc_ne _ _ (by dsimp only;omega),ea];exact e2,by dsimp only;omega,by dsimp only;omega⟩
    .exact ⟨by rw [hst _ (by omega) (by omega)];exact e3,by dsimp only;omega,by dsimp only;omega⟩
   .rw [zlr]
    refine ⟨c6.len,fun i x e=>?_,c6.inj⟩
    obtain ⟨k,g',k1,k2,k3,k4⟩:=c6.get i x e
    exact ⟨k,g',by omega,by omega,k3,by rw [hst _ k2 (by omega)];exact k4⟩
   .intro k hk
    rw [gc_ne _ _ (by omega),gc_ne _ _ (by omega)]
    exact c7 k (by omega)
  .simp only [go_sem,↓reduceIte,Za,Zb,Zc,Zd,Ze,reduceCtorEq,Zf,Zg,Zh,Zi,Zj,Zk]
  dsimp only at hj0 hj
  have q1:=(hj.bx (m,[.ds (mapC itC d.i),.ds (mapC wrC d.w)]) (by simp)).1
  have q2:=(hj.bx (m+1,[.s f]) (by simp)).1
  have q2b:=(hj.bx (m+2,[.s (argA d f a)]) (by simp)).1
  have q2c:=(hj.bx (m+3,[.e0,.e0]) (by simp)).1
  have q2d:=(hj.bx (m+3,[.e0,.e0]) (by simp)).2.2
  have q3:=hj.b2
  have q4:=hj.b3
  have lp:=hj.lp
  have lo:=hj.lo
  dsimp only at q1 q2 q2b q2c q2d
  obtain ⟨L,hL⟩:∃L,appL f (argA d f a) (d.w.take j) d.i=L:=⟨_,rfl⟩
  have hcl:∀x∈L,x.l.length≤200000000000:=fun x hx=>by
   rw [←hL] at hx
   have:=appL_cells hd.c x hx
   rw [zlo] at this
   have:=hd.w
   omega
  have hLl:L.length=d.i.length:=by rw [←hL,appL_len]
  rw [hL] at hj q3
  have hLA:L.length=A.length:=hj.nst.len.symm
  rw [hLA] at q3
  obtain ⟨arg,harg⟩:∃x,argA d f a=x:=⟨_,rfl⟩
  rw [harg] at hj hL q2b ⊢
  simp only [q1,q2,q2b,q2c,q3,q4,go_sem,↓reduceIte,Za,Zb,Zc,Zd,Ze,reduceCtorEq,Zf,Zg,Zh,Zi,Zj,Zk]
  have u0:¬n=m:=by omega
  have u1:¬m=n:=by omega
  have u2:¬n=m+1:=by omega
  have u3:¬m+1=n:=by omega
  have u4:¬n=m+2:=by omega
  have u5:¬m+2=n:=by omega
  have u6:¬n=m+3:=by omega
  have u7:¬m+3=n:=by omega
  have u8:¬n=p:=by omega
  have u9:¬p=n:=by omega
  have u10:¬n=ko:=by omega
  have u11:¬ko=n:=by omega
  refine cdK_of (fun c=>?_) (fun c=>?_)
  .have c:j<d.w.length:=by simpa using c
   obtain ⟨w,ew⟩:∃w,d.w[j]?=some w:=⟨d.w[j],by simp [c]⟩
   have fw:=hd.f.w (zla ew)
   have j6:j<9223372036854775807:=by have:=hd.w;omega
   have hstep:=appL_step (f:=f) (a:=arg) (l:=d.i) ew
   rw [hL] at hstep
   have same:∀H',(∀k,k<n→gc H' k=gc H k)→(∀k,n+1≤k→gc H' k=.no)→appS f arg L w=L→ApI d [(m,[.ds (mapC itC d.i),.ds (mapC wrC d.w)]),(m+1,[.s f]),(m+2,[.s arg]),(m+3,[.e0,.e0])] m p ko kw gw go hp H' (n+1) (appL f arg (d.w.take (j+1)) d.i) A:=fun H' x1 x2 e=>by
    rw [hstep,e]
    exact hj.same (Nat.le_succ n) x1 x2
   by_cases hf:w.f=f
   case neg =>
    have hs:=(show appS f arg L w=L by unfold appS hits;rw [if_neg (by simp [hf])])
    simp only [c,hf,q1,q2,q2b,q2c,q3,q4,u0,u1,u2,u3,u4,u5,u6,u7,u8,u9,u10,u11,getK_s (mapC_get wrC ew),wr64s j j6,go_sem,↓reduceIte,Za,Zb,Zc,Zd,Ze,reduceCtorEq,Zf,Zg,Zh,Zi,Zj,Zk]
    refine ⟨(j+1,_,_,_),⟨c,same _ ?_ ?_ hs⟩,by dsimp only;omega,weak_ok ?_ (Sub.refl _) (zna _)⟩
    .intro k hk;rw [gc_ne _ _ (by omega),gc_ne _ _ (by omega)]
    .intro k hk;rw [gc_ne _ _ (by omega),gc_ne _ _ (by omega)];exact hj.fr k (by omega)
    .simp only [go_sem,↓reduceIte,Za,Zb,Zc,Zd,Ze,reduceCtorEq,Zf,Zg,Zh,Zi,Zj,Zk]
   by_cases ha:w.a=arg
   case neg =>
    have hs:=(show appS f arg L w=L by unfold appS hits;rw [if_neg (by simp [ha])])
    simp only [c,hf,ha,q1,q2,q2b,q2c,q3,q4,u0,u1,u2,u3,u4,u5,u6,u7,u8,u9,u10,u11,getK_s (mapC_get wrC ew),wr64s j j6,go_sem,↓reduceIte,Za,Zb,Zc,Zd,Ze,reduceCtorEq,Zf,Zg,Zh,Zi,Zj,Zk]
    refine ⟨(j+1,_,_,_),⟨c,same _ ?_ ?_ hs⟩,by dsimp only;omega,weak_ok ?_ (Sub.refl _) (zna _)⟩
    .intro k hk;rw [gc_ne _ _ (by omega),gc_ne _ _ (by omega)]
    .intro k hk;rw [gc_ne _ _ (by omega),gc_ne _ _ (by omega)];exact hj.fr k (by omega)
    .simp only [go_sem,↓reduceIte,Za,Zb,Zc,Zd,Ze,reduceCtorEq,Zf,Zg,Zh,Zi,Zj,Zk]
   by_cases hi:w.i<0
   case pos =>
    have hs:=(show appS f arg L w=L by unfold appS wrI;simp [show ¬0≤w.i by omega])
    simp only [c,hf,ha,hi,q1,q2,q2b,q2c,q3,q4,u0,u1,u2,u3,u4,u5,u6,u7,u8,u9,u10,u11,getK_s (mapC_get wrC ew),wr64s j j6,go_sem,↓reduceIte,Za,Zb,Zc,Zd,Ze,reduceCtorEq,Zf,Zg,Zh,Zi,Zj,Zk]
    refine ⟨(j+1,_,_,_),⟨c,same _ ?_ ?_ hs⟩,by dsimp only;omega,weak_ok ?_ (Sub.refl _) (zna _)⟩
    .intro k hk;rw [gc_ne _ _ (by omega),gc_ne _ _ (by omega)]
    .intro k hk;rw [gc_ne _ _ (by omega),gc_ne _ _ (by omega)];exact hj.fr k (by omega)
    .simp only [go_sem,↓reduceIte,Za,Zb,Zc,Zd,Ze,reduceCtorEq,Zf,Zg,Zh,Zi,Zj,Zk]
   obtain ⟨i,hwi⟩:∃i:Nat,w.i=i:=⟨w.i.toNat,by omega⟩
   by_cases hil:i<L.length
   case neg =>
    have hil':(A.length:Int)≤i:=by omega
    have hs:=(show appS f arg L w=L by unfold appS wrI;rw [hwi,Int.toNat_natCast,List.getElem?_eq_none (by omega)];simp)
    simp only [c,hf,ha,hi,hwi,hil',Int.not_lt.2 (Int.natCast_nonneg i),q1,q2,q2b,q2c,q3,q4,u0,u1,u2,u3,u4,u5,u6,u7,u8,u9,u10,u11,getK_s (mapC_get wrC ew),wr64s j j6,go_sem,↓reduceIte,Za,Zb,Zc,Zd,Ze,reduceCtorEq,Zf,Zg,Zh,Zi,Zj,Zk]
    refine ⟨(j+1,_,_,_),⟨c,same _ ?_ ?_ hs⟩,by dsimp only;omega,weak_ok ?_ (Sub.refl _) (zna _)⟩
    .intro k hk;rw [gc_ne _ _ (by omega),gc_ne _ _ (by omega)]
    .intro k hk;rw [gc_ne _ _ (by omega),gc_ne _ _ (by omega)];exact hj.fr k (by omega)
    .simp only [go_sem,↓reduceIte,Za,Zb,Zc,Zd,Ze,reduceCtorEq,Zf,Zg,Zh,Zi,Zj,Zk]
   have hil':¬(A.length:Int)≤i:=by omega
   have hiA:i<A.length:=by omega
   obtain ⟨x,ex⟩:∃x,L[i]?=some x:=⟨L[i],by simp [hil]⟩
   obtain ⟨k,g,k1,k2,k3,k4⟩:=hj.nst.get i x ex
   have hxl:=hcl x (zla ex)
   have np:¬k=p:=fun e=>by rw [e,hj.b2] at k4;cases k4
   have np':¬p=k:=fun e=>np e.symm
   have no:¬k=ko:=fun e=>by rw [e,q4] at k4;cases k4
   have no':¬ko=k:=fun e=>no e.symm
   have nq:¬p=ko:=fun e=>by rw [←e,hj.b2] at q4;cases q4
   have nq':¬ko=p:=fun e=>nq e.symm
   have nm:¬k=m:=fun e=>by rw [e,q1] at k4;cases k4
   have nm1:¬k=m+1:=fun e=>by rw [e,q2] at k4;cases k4
   have nm2:¬k=m+2:=fun e=>by rw [e,q2b] at k4;cases k4
   have nm3:¬k=m+3:=fun e=>by rw [e,q2c] at k4;cases k4
   have v0:¬n=m:=by omega
   have v1:¬m=n:=by omega
   have v2:¬n=m+1:=by omega
   have v3:¬m+1=n:=by omega
   have v4:¬n=m+2:=by omega
   have v5:¬m+2=n:=by omega
   have v6:¬n=m+3:=by omega
   have v7:¬m+3=n:=by omega
   have v8:¬n=p:=by omega
   have v9:¬p=n:=by omega
   have v10:¬n=ko:=by omega
   have v11:¬ko=n:=by omega
   have v12:¬n=k:=by omega
   have v13:¬k=n:=by omega
   have v14:¬n+1=m:=by omega
   have v15:¬m=n+1:=by omega
   have v16:¬n+1=m+1:=by omega
   have v17:¬m+1=n+1:=by omega
   have v18:¬n+1=m+2:=by omega
   have v19:¬m+2=n+1:=by omega
   have v20:¬n+1=m+3:=by omega
   have v21:¬m+3=n+1:=by omega
   have v22:¬n+1=p:=by omega
   have v23:¬p=n+1:=by omega
   have v24:¬n+1=ko:=by omega
   have v25:¬ko=n+1:=by omega
   have v26:¬n+1=k:=by omega
   have v27:¬k=n+1:=by omega
   have v28:¬n+2=m:=by omega
   have v29:¬m=n+2:=by omega
   have v30:¬n+2=m+1:=by omega
   have v31:¬m+1=n+2:=by omega
   have v32:¬n+2=m+2:=by omega
   have v33:¬m+2=n+2:=by omega
   have v34:¬n+2=m+3:=by omega
   have v35:¬m+3=n+2:=by omega
   have v36:¬n+2=p:=by omega
   have v37:¬p=n+2:=by omega
   have v38:¬n+2=ko:=by omega
   have v39:¬ko=n+2:=by omega
   have v40:¬n+2=k:=by omega
   have v41:¬k=n+2:=by omega
   have w0:¬n=n+1:=by omega
   have w1:¬n+1=n:=by omega
   have w2:¬n=n+2:=by omega
   have w3:¬n+2=n:=by omega
   have x0:¬n+1=n+2:=by omega
   have x1:¬n+2=n+1:=by omega
   simp only [c,hf,ha,hi,hwi,hil',hiA,Int.not_lt.2 (Int.natCast_nonneg i),getK_s (mapC_get wrC ew),getK_s k3,wr64s j j6,q1,q2,q2b,q2c,q3,q4,k3,k4,np,np',no,no',nq,nq',nm,nm1,nm2,nm3,u0,u1,u2,u3,u4,u5,u6,u7,u8,u9,u10,u11,v0,v1,v2,v3,v4,v5,v6,v7,v8,v9,v10,v11,v12,v13,v14,v15,v16,v17,v18,v19,v20,v21,v22,v23,v24,v25,v26,v27,v28,v29,v30,v31,v32,v33,v34,v35,v36,v37,v38,v39,v40,v41,w0,w1,w2,w3,x0,x1,go_sem,↓reduceIte,Za,Zb,Zc,Zd,Ze,reduceCtorEq,Zf,Zg,Zh,Zi,Zj,Zk]
   refine vcCall.f (copy_ok w.c.v fw _ _) ?_
   simp only [hiA,getK_s k3,q1,q2,q2b,q2c,q3,q4,k3,k4,np,np',no,no',nq,nq',nm,nm1,nm2,nm3,u0,u1,u2,u3,u4,u5,u6,u7,u8,u9,u10,u11,v0,v1,v2,v3,v4,v5,v6,v7,v8,v9,v10,v11,v12,v13,v14,v15,v16,v17,v18,v19,v20,v21,v22,v23,v24,v25,v26,v27,v28,v29,v30,v31,v32,v33,v34,v35,v36,v37,v38,v39,v40,v41,w0,w1,w2,w3,x0,x1,go_sem,↓reduceIte,Za,Zb,Zc,Zd,Ze,reduceCtorEq,Zf,Zg,Zh,Zi,Zj,Zk]
   refine vcCall.f (MeetsF.lend (R:=[(k,.sh g 7 (mapC celC x.l))]) (B:=[(n+1,.ro [.s w.c.f,.s w.c.a,.i .i64 w.c.v.k,.i .i64 w.c.v.n,.s w.c.v.s,.ds (mapC valC w.c.v.items),.ds (stC w.c.v.keys)])]) ?_ ?_ ?_ rfl (first_cel x.l (fun y=>decide (y.f=w.c.f)&&decide (y.a=w.c.a)) 109 [.bx (n+1) 0] (by omega) _ _ fun y hy hp' n' _ he=>dapp2_ok y w.c (n+1) hp' n' ((he (n+1) (by omega)).trans (by simp only [go_sem,↓reduceIte,Za,Zb,Zc,Zd,Ze,reduceCtorEq,Zf,Zg,Zh,Zi,Zj,Zk])))) ?_
   .simp only [q1,q2,q2b,q2c,q3,q4,k3,k4,np,np',no,no',nq,nq',nm,nm1,nm2,nm3,u0,u1,u2,u3,u4,u5,u6,u7,u8,u9,u10,u11,v0,v1,v2,v3,v4,v5,v6,v7,v8,v9,v10,v11,v12,v13,v14,v15,v16,v17,v18,v19,v20,v21,v22,v23,v24,v25,v26,v27,v28,v29,v30,v31,v32,v33,v34,v35,v36,v37,v38,v39,v40,v41,w0,w1,w2,w3,x0,x1,go_sem,↓reduceIte,Za,Zb,Zc,Zd,Ze,reduceCtorEq,Zf,Zg,Zh,Zi,Zj,Zk]
   .simp only [q1,q2,q2b,q2c,q3,q4,k3,k4,np,np',no,no',nq,nq',nm,nm1,nm2,nm3,u0,u1,u2,u3,u4,u5,u6,u7,u8,u9,u10,u11,v0,v1,v2,v3,v4,v5,v6,v7,v8,v9,v10,v11,v12,v13,v14,v15,v16,v17,v18,v19,v20,v21,v22,v23,v24,v25,v26,v27,v28,v29,v30,v31,v32,v33,v34,v35,v36,v37,v38,v39,v40,v41,w0,w1,w2,w3,x0,x1,go_sem,↓reduceIte,Za,Zb,Zc,Zd,Ze,reduceCtorEq,Zf,Zg,Zh,Zi,Zj,Zk]
    try exact ⟨_,rfl,rfl⟩
   .simp only [q1,q2,q2b,q2c,q3,q4,k3,k4,np,np',no,no',nq,nq',nm,nm1,nm2,nm3,u0,u1,u2,u3,u4,u5,u6,u7,u8,u9,u10,u11,v0,v1,v2,v3,v4,v5,v6,v7,v8,v9,v10,v11,v12,v13,v14,v15,v16,v17,v18,v19,v20,v21,v22,v23,v24,v25,v26,v27,v28,v29,v30,v31,v32,v33,v34,v35,v36,v37,v38,v39,v40,v41,w0,w1,w2,w3,x0,x1,go_sem,↓reduceIte,Za,Zb,Zc,Zd,Ze,reduceCtorEq,Zf,Zg,Zh,Zi,Zj,Zk]
   have hst:appS f arg L w=L.set i (.mk x.t (putC x.l w.c)):=by
    unfold appS wrI
    rw [if_pos (by unfold hits;simp [hf,ha]),if_pos (by omega),hwi,Int.toNat_natCast,ex]
   have hat:fidx (fun y:Cel=>decide (y.f=w.c.f)&&decide (y.a=w.c.a)) x.l 0=atI w.c.f w.c.a x.l:=rfl
   rw [hat]
   simp only [hiA,getK_s k3,q1,q2,q2b,q2c,q3,q4,k3,k4,np,np',no,no',nq,nq',nm,nm1,nm2,nm3,u0,u1,u2,u3,u4,u5,u6,u7,u8,u9,u10,u11,v0,v1,v2,v3,v4,v5,v6,v7,v8,v9,v10,v11,v12,v13,v14,v15,v16,v17,v18,v19,v20,v21,v22,v23,v24,v25,v26,v27,v28,v29,v30,v31,v32,v33,v34,v35,v36,v37,v38,v39,v40,v41,w0,w1,w2,w3,x0,x1,go_sem,↓reduceIte,Za,Zb,Zc,Zd,Ze,reduceCtorEq,Zf,Zg,Zh,Zi,Zj,Zk]
   refine cdK_of (fun q=>?_) (fun q=>?_)
   .have q:0≤atI w.c.f w.c.a x.l:=by simpa using q
    obtain ⟨y,c0,hy,ey,_⟩:=at_cell q
    have hyl:=(zlb.1 ey).1
    have hput:putC x.l w.c=x.l.set y w.c:=by unfold putC;rw [if_pos q,hy,Int.toNat_natCast]
    obtain ⟨c1',c2'⟩:=at_eq hy ey
    simp only [hy,c1',c2',hyl,Int.natCast_nonneg y,Int.not_lt.2 (Int.natCast_nonneg y),hiA,getK_s (mapC_get celC ey),getK_s k3,wr64s j j6,mapC_get celC ey,q1,q2,q2b,q2c,q3,q4,k3,k4,np,np',no,no',nq,nq',nm,nm1,nm2,nm3,u0,u1,u2,u3,u4,u5,u6,u7,u8,u9,u10,u11,v0,v1,v2,v3,v4,v5,v6,v7,v8,v9,v10,v11,v12,v13,v14,v15,v16,v17,v18,v19,v20,v21,v22,v23,v24,v25,v26,v27,v28,v29,v30,v31,v32,v33,v34,v35,v36,v37,v38,v39,v40,v41,w0,w1,w2,w3,x0,x1,go_sem,↓reduceIte,Za,Zb,Zc,Zd,Ze,reduceCtorEq,Zf,Zg,Zh,Zi,Zj,Zk]
    have hset:A.set i [.s x.t,.rw k g (putC x.l w.c).length]=A:=by rw [hput,List.length_set];exact set_same k3
    refine ⟨(j+1,_,_,A.set i [.s x.t,.rw k g (putC x.l w.c).length]),?_,by dsimp only;omega,weak_ok ?_ (Sub.refl _) (zna _)⟩
    .dsimp only
     refine ⟨c,?_⟩
     rw [hstep,hst]
     refine ApI.next (g':=g) (l':=putC x.l w.c) hj (znd n 12) ex k3 k4 ?_ ?_ ?_ ?_
     .rw [gc_same,hput]
     .rw [hset,gc_ne _ _ no,gc_ne _ _ (by omega),gc_ne _ _ (by omega),gc_ne _ _ (by omega),gc_ne _ _ (by omega),gc_ne _ _ (by omega)]
      exact q4
     .intro j hj1 hj2 hj3
      rw [gc_ne _ _ (Ne.symm hj2),gc_ne _ _ (by omega),gc_ne _ _ (by omega),gc_ne _ _ (by omega),gc_ne _ _ (by omega),gc_ne _ _ (by omega)]
     .intro j hj1
      rw [gc_ne _ _ (by omega),gc_ne _ _ (by omega),gc_ne _ _ (by omega),gc_ne _ _ (by omega),gc_ne _ _ (by omega),gc_ne _ _ (by omega)]
      exact hj.fr j (by omega)
    .simp only [go_sem,↓reduceIte,Za,Zb,Zc,Zd,Ze,reduceCtorEq,Zf,Zg,Zh,Zi,Zj,Zk]
   .have q:atI w.c.f w.c.a x.l<0:=by simp at q;omega
    have hput:putC x.l w.c=x.l++[w.c]:=by unfold putC;rw [if_neg (by omega)]
    have k8:(x.l.length+1)*112≤140737488355328∧x.l.length≤9223372036854775806:=by omega
    simp only [k8.1,k8.2,hiA,getK_s k3,k3,wr64s j j6,q1,q2,q2b,q2c,q3,q4,k3,k4,np,np',no,no',nq,nq',nm,nm1,nm2,nm3,u0,u1,u2,u3,u4,u5,u6,u7,u8,u9,u10,u11,v0,v1,v2,v3,v4,v5,v6,v7,v8,v9,v10,v11,v12,v13,v14,v15,v16,v17,v18,v19,v20,v21,v22,v23,v24,v25,v26,v27,v28,v29,v30,v31,v32,v33,v34,v35,v36,v37,v38,v39,v40,v41,w0,w1,w2,w3,x0,x1,go_sem,↓reduceIte,Za,Zb,Zc,Zd,Ze,reduceCtorEq,Zf,Zg,Zh,Zi,Zj,Zk]
    refine ⟨(j+1,_,_,A.set i [.s x.t,.rw k (g+1) (putC x.l w.c).length]),?_,by dsimp only;omega,weak_ok ?_ (Sub.refl _) (zna _)⟩
    .dsimp only
     refine ⟨c,?_⟩
     rw [hstep,hst]
     refine ApI.next (g':=g+1) (l':=putC x.l w.c) hj (znd n 13) ex k3 k4 ?_ ?_ ?_ ?_
     .rw [gc_ne _ _ no',gc_same,hput]
     .rw [gc_same,hput,zld,List.length_singleton]
     .intro j hj1 hj2 hj3
      rw [gc_ne _ _ (Ne.symm hj3),gc_ne _ _ (Ne.symm hj2),gc_ne _ _ (by omega),gc_ne _ _ (by omega),gc_ne _ _ (by omega),gc_ne _ _ (by omega),gc_ne _ _ (by omega)]
     .intro j hj1
      rw [gc_ne _ _ (by omega),gc_ne _ _ (by omega),gc_ne _ _ (by omega),gc_ne _ _ (by omega),gc_ne _ _ (by omega),gc_ne _ _ (by omega),gc_ne _ _ (by omega)]
      exact hj.fr j (by omega)
    .simp only [go_sem,↓reduceIte,Za,Zb,Zc,Zd,Ze,reduceCtorEq,Zf,Zg,Zh,Zi,Zj,Zk]
  .have c:j=d.w.length:=by have:=hj0;simp at c;omega
   subst c
   simp only [q2c,q3,u0,u1,u2,u3,u4,u5,u6,u7,u8,u9,u10,u11,go_sem,↓reduceIte,Za,Zb,Zc,Zd,Ze,reduceCtorEq,Zf,Zg,Zh,Zi,Zj,Zk]
   rw [zlj] at hL
   have eL:appV d f a=.mk L d.w:=by rw [←hL,←harg];rfl
   rw [eL]
   refine ⟨ko,go,A,kw,gw,congrArg (fun z=>AV.ag [.rw ko go z,.rw kw gw d.w.length]) hLA.symm,?_,?_,?_,lo,hj.lw,?_,?_⟩
   .rw [gc_ne _ _ (by have:=c4;omega)];exact q4
   .rw [gc_ne _ _ (by have:=c5;omega),Dat.w_mk];exact hj.b4
   .exact up_in hj.up (by omega)
   .refine ⟨hj.nst.len,fun i x e=>?_,hj.nst.inj⟩
    obtain ⟨k,g,k1,k2,k3,k4⟩:=hj.nst.get i x e
    refine ⟨k,g,k1,k2,k3,?_⟩
    rw [gc_ne _ _ (fun e=>by rw [←e,q2c] at k4;cases k4)]
    exact k4
   .intro k hk
    rw [gc_ne _ _ (by omega)]
    exact hj.fr k hk
 | false =>
  have ea:argA d f a=⟨#[]⟩:=by unfold argA;rw [hb,if_neg (by simp)]
  simp only [e0,e1,e2,e3,y1,y2,y3,y4,hIb,go_sem,↓reduceIte,Za,Zb,Zc,Zd,Ze,reduceCtorEq,Zf,Zg,Zh,Zi,Zj,Zk]
  refine loop (fun q:Nat × CH × Nat × List (List AV)=>⟨[(4,.bx (m+1) 0),(5,.bx (m+2) 0),(6,.bx (m+3) 0),(7,.bx p 0),(28,.ds (mapC wrC d.w)),(29,.i .i64 d.w.length),(30,.i .i64 q.1)],q.2.1,q.2.2.1⟩)
   (fun q=>q.1≤d.w.length∧ApI d [(m,[.ds (mapC itC d.i),.ds (mapC wrC d.w)]),(m+1,[.s f]),(m+2,[.s (argA d f a)]),(m+3,[.e0,.e0])] m p ko kw gw go hp q.2.1 q.2.2.1 (appL f (argA d f a) (d.w.take q.1) d.i) q.2.2.2)
   (fun q=>d.w.length - q.1) (0,_,_,A) ?_ (weak_ok ?_ (Sub.refl _) (zna _)) (fun ⟨j,H,n,A⟩ ⟨hj0,hj⟩=>?_)
  .refine ⟨Nat.zero_le _,?_⟩
   dsimp only
   have hst:∀k,k<p→k≠m+2→gc ((m+2,.bx [.s ⟨#[]⟩])::(p,.bx [.rw ko go d.i.length,.rw kw gw d.w.length])::(p,.bx [.e0,.e0])::H0) k=gc H0 k:=fun k hk hk2=>by rw [gc_ne _ _ (Ne.symm hk2),gc_ne _ _ (by omega),gc_ne _ _ (by omega)]
   refine ⟨fun x hx=>?_,by rw [gc_ne _ _ (by omega),gc_same,zlr];rfl,by rw [hst _ c4.2 (by omega)];exact c1,by rw [hst _ c5.2 (by omega)];exact c2,fun k hk=>by rw [hst _ (by omega) (by omega)];exact (c3 k (by omega)).trans (by rw [gc_ne _ _ (by omega),gc_ne _ _ (by omega),gc_ne _ _ (by omega),gc_ne _ _ (by omega)]),?_,?_,by omega,by omega,by omega⟩
   .simp only [zlw,List.not_mem_nil,or_false] at hx
    rcases hx with rfl | rfl | rfl | rfl
    .exact ⟨by rw [hst _ (by omega) (by omega)];exact e0,by dsimp only;omega,by dsimp only;omega⟩
    .exact ⟨by rw [hst _ (by omega) (by omega)];exact e1,by dsimp only;omega,by dsimp only;omega⟩
    .exact ⟨by rw [gc_same,ea],by dsimp only;omega,by dsimp only;omega⟩
    .exact ⟨by rw [hst _ (by omega) (by omega)];exact e3,by dsimp only;omega,by dsimp only;omega⟩
   .rw [zlr]
    refine ⟨c6.len,fun i x e=>?_,c6.inj⟩
    obtain ⟨k,g',k1,k2,k3,k4⟩:=c6.get i x e
    exact ⟨k,g',by omega,by omega,k3,by rw [hst _ k2 (by omega)];exact k4⟩
   .intro k hk
    rw [gc_ne _ _ (by omega),gc_ne _ _ (by omega),gc_ne _ _ (by omega)]
    exact c7 k (by omega)
  .simp only [go_sem,↓reduceIte,Za,Zb,Zc,Zd,Ze,reduceCtorEq,Zf,Zg,Zh,Zi,Zj,Zk]
  dsimp only at hj0 hj
  have q1:=(hj.bx (m,[.ds (mapC itC d.i),.ds (mapC wrC d.w)]) (by simp)).1
  have q2:=(hj.bx (m+1,[.s f]) (by simp)).1
  have q2b:=(hj.bx (m+2,[.s (argA d f a)]) (by simp)).1
  have q2c:=(hj.bx (m+3,[.e0,.e0]) (by simp)).1
  have q2d:=(hj.bx (m+3,[.e0,.e0]) (by simp)).2.2
  have q3:=hj.b2
  have q4:=hj.b3
  have lp:=hj.lp
  have lo:=hj.lo
  dsimp only at q1 q2 q2b q2c q2d
  obtain ⟨L,hL⟩:∃L,appL f (argA d f a) (d.w.take j) d.i=L:=⟨_,rfl⟩
  have hcl:∀x∈L,x.l.length≤200000000000:=fun x hx=>by
   rw [←hL] at hx
   have:=appL_cells hd.c x hx
   rw [zlo] at this
   have:=hd.w
   omega
  have hLl:L.length=d.i.length:=by rw [←hL,appL_len]
  rw [hL] at hj q3
  have hLA:L.length=A.length:=hj.nst.len.symm
  rw [hLA] at q3
  obtain ⟨arg,harg⟩:∃x,argA d f a=x:=⟨_,rfl⟩
  rw [harg] at hj hL q2b ⊢
  simp only [q1,q2,q2b,q2c,q3,q4,go_sem,↓reduceIte,Za,Zb,Zc,Zd,Ze,reduceCtorEq,Zf,Zg,Zh,Zi,Zj,Zk]
  have u0:¬n=m:=by omega
  have u1:¬m=n:=by omega
  have u2:¬n=m+1:=by omega
  have u3:¬m+1=n:=by omega
  have u4:¬n=m+2:=by omega
  have u5:¬m+2=n:=by omega
  have u6:¬n=m+3:=by omega
  have u7:¬m+3=n:=by omega
  have u8:¬n=p:=by omega
  have u9:¬p=n:=by omega
  have u10:¬n=ko:=by omega
  have u11:¬ko=n:=by omega
  refine cdK_of (fun c=>?_) (fun c=>?_)
  .have c:j<d.w.length:=by simpa using c
   obtain ⟨w,ew⟩:∃w,d.w[j]?=some w:=⟨d.w[j],by simp [c]⟩
   have fw:=hd.f.w (zla ew)
   have j6:j<9223372036854775807:=by have:=hd.w;omega
   have hstep:=appL_step (f:=f) (a:=arg) (l:=d.i) ew
   rw [hL] at hstep
   have same:∀H',(∀k,k<n→gc H' k=gc H k)→(∀k,n+1≤k→gc H' k=.no)→appS f arg L w=L→ApI d [(m,[.ds (mapC itC d.i),.ds (mapC wrC d.w)]),(m+1,[.s f]),(m+2,[.s arg]),(m+3,[.e0,.e0])] m p ko kw gw go hp H' (n+1) (appL f arg (d.w.take (j+1)) d.i) A:=fun H' x1 x2 e=>by
    rw [hstep,e]
    exact hj.same (Nat.le_succ n) x1 x2
   by_cases hf:w.f=f
   case neg =>
    have hs:=(show appS f arg L w=L by unfold appS hits;rw [if_neg (by simp [hf])])
    simp only [c,hf,q1,q2,q2b,q2c,q3,q4,u0,u1,u2,u3,u4,u5,u6,u7,u8,u9,u10,u11,getK_s (mapC_get wrC ew),wr64s j j6,go_sem,↓reduceIte,Za,Zb,Zc,Zd,Ze,reduceCtorEq,Zf,Zg,Zh,Zi,Zj,Zk]
    refine ⟨(j+1,_,_,_),⟨c,same _ ?_ ?_ hs⟩,by dsimp only;omega,weak_ok ?_ (Sub.refl _) (zna _)⟩
    .intro k hk;rw [gc_ne _ _ (by omega),gc_ne _ _ (by omega)]
    .intro k hk;rw [gc_ne _ _ (by omega),gc_ne _ _ (by omega)];exact hj.fr k (by omega)
    .simp only [go_sem,↓reduceIte,Za,Zb,Zc,Zd,Ze,reduceCtorEq,Zf,Zg,Zh,Zi,Zj,Zk]
   by_cases ha:w.a=arg
   case neg =>
    have hs:=(show appS f arg L w=L by unfold appS hits;rw [if_neg (by simp [ha])])
    simp only [c,hf,ha,q1,q2,q2b,q2c,q3,q4,u0,u1,u2,u3,u4,u5,u6,u7,u8,u9,u10,u11,getK_s (mapC_get wrC ew),wr64s j j6,go_sem,↓reduceIte,Za,Zb,Zc,Zd,Ze,reduceCtorEq,Zf,Zg,Zh,Zi,Zj,Zk]
    refine ⟨(j+1,_,_,_),⟨c,same _ ?_ ?_ hs⟩,by dsimp only;omega,weak_ok ?_ (Sub.refl _) (zna _)⟩
    .intro k hk;rw [gc_ne _ _ (by omega),gc_ne _ _ (by omega)]
    .intro k hk;rw [gc_ne _ _ (by omega),gc_ne _ _ (by omega)];exact hj.fr k (by omega)
    .simp only [go_sem,↓reduceIte,Za,Zb,Zc,Zd,Ze,reduceCtorEq,Zf,Zg,Zh,Zi,Zj,Zk]
   by_cases hi:w.i<0
   case pos =>
    have hs:=(show appS f arg L w=L by unfold appS wrI;simp [show ¬0≤w.i by omega])
    simp only [c,hf,ha,hi,q1,q2,q2b,q2c,q3,q4,u0,u1,u2,u3,u4,u5,u6,u7,u8,u9,u10,u11,getK_s (mapC_get wrC ew),wr64s j j6,go_sem,↓reduceIte,Za,Zb,Zc,Zd,Ze,reduceCtorEq,Zf,Zg,Zh,Zi,Zj,Zk]
    refine ⟨(j+1,_,_,_),⟨c,same _ ?_ ?_ hs⟩,by dsimp only;omega,weak_ok ?_ (Sub.refl _) (zna _)⟩
    .intro k hk;rw [gc_ne _ _ (by omega),gc_ne _ _ (by omega)]
    .intro k hk;rw [gc_ne _ _ (by omega),gc_ne _ _ (by omega)];exact hj.fr k (by omega)
    .simp only [go_sem,↓reduceIte,Za,Zb,Zc,Zd,Ze,reduceCtorEq,Zf,Zg,Zh,Zi,Zj,Zk]
   obtain ⟨i,hwi⟩:∃i:Nat,w.i=i:=⟨w.i.toNat,by omega⟩
   by_cases hil:i<L.length
   case neg =>
    have hil':(A.length:Int)≤i:=by omega
    have hs:=(show appS f arg L w=L by unfold appS wrI;rw [hwi,Int.toNat_natCast,List.getElem?_eq_none (by omega)];simp)
    simp only [c,hf,ha,hi,hwi,hil',Int.not_lt.2 (Int.natCast_nonneg i),q1,q2,q2b,q2c,q3,q4,u0,u1,u2,u3,u4,u5,u6,u7,u8,u9,u10,u11,getK_s (mapC_get wrC ew),wr64s j j6,go_sem,↓reduceIte,Za,Zb,Zc,Zd,Ze,reduceCtorEq,Zf,Zg,Zh,Zi,Zj,Zk]
    refine ⟨(j+1,_,_,_),⟨c,same _ ?_ ?_ hs⟩,by dsimp only;omega,weak_ok ?_ (Sub.refl _) (zna _)⟩
    .intro k hk;rw [gc_ne _ _ (by omega),gc_ne _ _ (by omega)]
    .intro k hk;rw [gc_ne _ _ (by omega),gc_ne _ _ (by omega)];exact hj.fr k (by omega)
    .simp only [go_sem,↓reduceIte,Za,Zb,Zc,Zd,Ze,reduceCtorEq,Zf,Zg,Zh,Zi,Zj,Zk]
   have hil':¬(A.length:Int)≤i:=by omega
   have hiA:i<A.length:=by omega
   obtain ⟨x,ex⟩:∃x,L[i]?=some x:=⟨L[i],by simp [hil]⟩
   obtain ⟨k,g,k1,k2,k3,k4⟩:=hj.nst.get i x ex
   have hxl:=hcl x (zla ex)
   have np:¬k=p:=fun e=>by rw [e,hj.b2] at k4;cases k4
   have np':¬p=k:=fun e=>np e.symm
   have no:¬k=ko:=fun e=>by rw [e,q4] at k4;cases k4
   have no':¬ko=k:=fun e=>no e.symm
   have nq:¬p=ko:=fun e=>by rw [←e,hj.b2] at q4;cases q4
   have nq':¬ko=p:=fun e=>nq e.symm
   have nm:¬k=m:=fun e=>by rw [e,q1] at k4;cases k4
   have nm1:¬k=m+1:=fun e=>by rw [e,q2] at k4;cases k4
   have nm2:¬k=m+2:=fun e=>by rw [e,q2b] at k4;cases k4
   have nm3:¬k=m+3:=fun e=>by rw [e,q2c] at k4;cases k4
   have v0:¬n=m:=by omega
   have v1:¬m=n:=by omega
   have v2:¬n=m+1:=by omega
   have v3:¬m+1=n:=by omega
   have v4:¬n=m+2:=by omega
   have v5:¬m+2=n:=by omega
   have v6:¬n=m+3:=by omega
   have v7:¬m+3=n:=by omega
   have v8:¬n=p:=by omega
   have v9:¬p=n:=by omega
   have v10:¬n=ko:=by omega
   have v11:¬ko=n:=by omega
   have v12:¬n=k:=by omega
   have v13:¬k=n:=by omega
   have v14:¬n+1=m:=by omega
   have v15:¬m=n+1:=by omega
   have v16:¬n+1=m+1:=by omega
   have v17:¬m+1=n+1:=by omega
   have v18:¬n+1=m+2:=by omega
   have v19:¬m+2=n+1:=by omega
   have v20:¬n+1=m+3:=by omega
   have v21:¬m+3=n+1:=by omega
   have v22:¬n+1=p:=by omega
   have v23:¬p=n+1:=by omega
   have v24:¬n+1=ko:=by omega
   have v25:¬ko=n+1:=by omega
   have v26:¬n+1=k:=by omega
   have v27:¬k=n+1:=by omega
   have v28:¬n+2=m:=by omega
   have v29:¬m=n+2:=by omega
   have v30:¬n+2=m+1:=by omega
   have v31:¬m+1=n+2:=by omega
   have v32:¬n+2=m+2:=by omega
   have v33:¬m+2=n+2:=by omega
   have v34:¬n+2=m+3:=by omega
   have v35:¬m+3=n+2:=by omega
   have v36:¬n+2=p:=by omega
   have v37:¬p=n+2:=by omega
   have v38:¬n+2=ko:=by omega
   have v39:¬ko=n+2:=by omega
   have v40:¬n+2=k:=by omega
   have v41:¬k=n+2:=by omega
   have w0:¬n=n+1:=by omega
   have w1:¬n+1=n:=by omega
   have w2:¬n=n+2:=by omega
   have w3:¬n+2=n:=by omega
   have x0:¬n+1=n+2:=by omega
   have x1:¬n+2=n+1:=by omega
   simp only [c,hf,ha,hi,hwi,hil',hiA,Int.not_lt.2 (Int.natCast_nonneg i),getK_s (mapC_get wrC ew),getK_s k3,wr64s j j6,q1,q2,q2b,q2c,q3,q4,k3,k4,np,np',no,no',nq,nq',nm,nm1,nm2,nm3,u0,u1,u2,u3,u4,u5,u6,u7,u8,u9,u10,u11,v0,v1,v2,v3,v4,v5,v6,v7,v8,v9,v10,v11,v12,v13,v14,v15,v16,v17,v18,v19,v20,v21,v22,v23,v24,v25,v26,v27,v28,v29,v30,v31,v32,v33,v34,v35,v36,v37,v38,v39,v40,v41,w0,w1,w2,w3,x0,x1,go_sem,↓reduceIte,Za,Zb,Zc,Zd,Ze,reduceCtorEq,Zf,Zg,Zh,Zi,Zj,Zk]
   refine vcCall.f (copy_ok w.c.v fw _ _) ?_
   simp only [hiA,getK_s k3,q1,q2,q2b,q2c,q3,q4,k3,k4,np,np',no,no',nq,nq',nm,nm1,nm2,nm3,u0,u1,u2,u3,u4,u5,u6,u7,u8,u9,u10,u11,v0,v1,v2,v3,v4,v5,v6,v7,v8,v9,v10,v11,v12,v13,v14,v15,v16,v17,v18,v19,v20,v21,v22,v23,v24,v25,v26,v27,v28,v29,v30,v31,v32,v33,v34,v35,v36,v37,v38,v39,v40,v41,w0,w1,w2,w3,x0,x1,go_sem,↓reduceIte,Za,Zb,Zc,Zd,Ze,reduceCtorEq,Zf,Zg,Zh,Zi,Zj,Zk]
   refine vcCall.f (MeetsF.lend (R:=[(k,.sh g 7 (mapC celC x.l))]) (B:=[(n+1,.ro [.s w.c.f,.s w.c.a,.i .i64 w.c.v.k,.i .i64 w.c.v.n,.s w.c.v.s,.ds (mapC valC w.c.v.items),.ds (stC w.c.v.keys)])]) ?_ ?_ ?_ rfl (first_cel x.l (fun y=>decide (y.f=w.c.f)&&decide (y.a=w.c.a)) 109 [.bx (n+1) 0] (by omega) _ _ fun y hy hp' n' _ he=>dapp2_ok y w.c (n+1) hp' n' ((he (n+1) (by omega)).trans (by simp only [go_sem,↓reduceIte,Za,Zb,Zc,Zd,Ze,reduceCtorEq,Zf,Zg,Zh,Zi,Zj,Zk])))) ?_
   .simp only [q1,q2,q2b,q2c,q3,q4,k3,k4,np,np',no,no',nq,nq',nm,nm1,nm2,nm3,u0,u1,u2,u3,u4,u5,u6,u7,u8,u9,u10,u11,v0,v1,v2,v3,v4,v5,v6,v7,v8,v9,v10,v11,v12,v13,v14,v15,v16,v17,v18,v19,v20,v21,v22,v23,v24,v25,v26,v27,v28,v29,v30,v31,v32,v33,v34,v35,v36,v37,v38,v39,v40,v41,w0,w1,w2,w3,x0,x1,go_sem,↓reduceIte,Za,Zb,Zc,Zd,Ze,reduceCtorEq,Zf,Zg,Zh,Zi,Zj,Zk]
   .simp only [q1,q2,q2b,q2c,q3,q4,k3,k4,np,np',no,no',nq,nq',nm,nm1,nm2,nm3,u0,u1,u2,u3,u4,u5,u6,u7,u8,u9,u10,u11,v0,v1,v2,v3,v4,v5,v6,v7,v8,v9,v10,v11,v12,v13,v14,v15,v16,v17,v18,v19,v20,v21,v22,v23,v24,v25,v26,v27,v28,v29,v30,v31,v32,v33,v34,v35,v36,v37,v38,v39,v40,v41,w0,w1,w2,w3,x0,x1,go_sem,↓reduceIte,Za,Zb,Zc,Zd,Ze,reduceCtorEq,Zf,Zg,Zh,Zi,Zj,Zk]
    try exact ⟨_,rfl,rfl⟩
   .simp only [q1,q2,q2b,q2c,q3,q4,k3,k4,np,np',no,no',nq,nq',nm,nm1,nm2,nm3,u0,u1,u2,u3,u4,u5,u6,u7,u8,u9,u10,u11,v0,v1,v2,v3,v4,v5,v6,v7,v8,v9,v10,v11,v12,v13,v14,v15,v16,v17,v18,v19,v20,v21,v22,v23,v24,v25,v26,v27,v28,v29,v30,v31,v32,v33,v34,v35,v36,v37,v38,v39,v40,v41,w0,w1,w2,w3,x0,x1,go_sem,↓reduceIte,Za,Zb,Zc,Zd,Ze,reduceCtorEq,Zf,Zg,Zh,Zi,Zj,Zk]
   have hst:appS f arg L w=L.set i (.mk x.t (putC x.l w.c)):=by
    unfold appS wrI
    rw [if_pos (by unfold hits;simp [hf,ha]),if_pos (by omega),hwi,Int.toNat_natCast,ex]
   have hat:fidx (fun y:Cel=>decide (y.f=w.c.f)&&decide (y.a=w.c.a)) x.l 0=atI w.c.f w.c.a x.l:=rfl
   rw [hat]
   simp only [hiA,getK_s k3,q1,q2,q2b,q2c,q3,q4,k3,k4,np,np',no,no',nq,nq',nm,nm1,nm2,nm3,u0,u1,u2,u3,u4,u5,u6,u7,u8,u9,u10,u11,v0,v1,v2,v3,v4,v5,v6,v7,v8,v9,v10,v11,v12,v13,v14,v15,v16,v17,v18,v19,v20,v21,v22,v23,v24,v25,v26,v27,v28,v29,v30,v31,v32,v33,v34,v35,v36,v37,v38,v39,v40,v41,w0,w1,w2,w3,x0,x1,go_sem,↓reduceIte,Za,Zb,Zc,Zd,Ze,reduceCtorEq,Zf,Zg,Zh,Zi,Zj,Zk]
   refine cdK_of (fun q=>?_) (fun q=>?_)
   .have q:0≤atI w.c.f w.c.a x.l:=by simpa using q
    obtain ⟨y,c0,hy,ey,_⟩:=at_cell q
    have hyl:=(zlb.1 ey).1
    have hput:putC x.l w.c=x.l.set y w.c:=by unfold putC;rw [if_pos q,hy,Int.toNat_natCast]
    obtain ⟨c1',c2'⟩:=at_eq hy ey
    simp only [hy,c1',c2',hyl,Int.natCast_nonneg y,Int.not_lt.2 (Int.natCast_nonneg y),hiA,getK_s (mapC_get celC ey),getK_s k3,wr64s j j6,mapC_get celC ey,q1,q2,q2b,q2c,q3,q4,k3,k4,np,np',no,no',nq,nq',nm,nm1,nm2,nm3,u0,u1,u2,u3,u4,u5,u6,u7,u8,u9,u10,u11,v0,v1,v2,v3,v4,v5,v6,v7,v8,v9,v10,v11,v12,v13,v14,v15,v16,v17,v18,v19,v20,v21,v22,v23,v24,v25,v26,v27,v28,v29,v30,v31,v32,v33,v34,v35,v36,v37,v38,v39,v40,v41,w0,w1,w2,w3,x0,x1,go_sem,↓reduceIte,Za,Zb,Zc,Zd,Ze,reduceCtorEq,Zf,Zg,Zh,Zi,Zj,Zk]
    have hset:A.set i [.s x.t,.rw k g (putC x.l w.c).length]=A:=by rw [hput,List.length_set];exact set_same k3
    refine ⟨(j+1,_,_,A.set i [.s x.t,.rw k g (putC x.l w.c).length]),?_,by dsimp only;omega,weak_ok ?_ (Sub.refl _) (zna _)⟩
    .dsimp only
     refine ⟨c,?_⟩
     rw [hstep,hst]
     refine ApI.next (g':=g) (l':=putC x.l w.c) hj (znd n 12) ex k3 k4 ?_ ?_ ?_ ?_
     .rw [gc_same,hput]
     .rw [hset,gc_ne _ _ no,gc_ne _ _ (by omega),gc_ne _ _ (by omega),gc_ne _ _ (by omega),gc_ne _ _ (by omega),gc_ne _ _ (by omega)]
      exact q4
     .intro j hj1 hj2 hj3
      rw [gc_ne _ _ (Ne.symm hj2),gc_ne _ _ (by omega),gc_ne _ _ (by omega),gc_ne _ _ (by omega),gc_ne _ _ (by omega),gc_ne _ _ (by omega)]
     .intro j hj1
      rw [gc_ne _ _ (by omega),gc_ne _ _ (by omega),gc_ne _ _ (by omega),gc_ne _ _ (by omega),gc_ne _ _ (by omega),gc_ne _ _ (by omega)]
      exact hj.fr j (by omega)
    .simp only [go_sem,↓reduceIte,Za,Zb,Zc,Zd,Ze,reduceCtorEq,Zf,Zg,Zh,Zi,Zj,Zk]
   .have q:atI w.c.f w.c.a x.l<0:=by simp at q;omega
    have hput:putC x.l w.c=x.l++[w.c]:=by unfold putC;rw [if_neg (by omega)]
    have k8:(x.l.length+1)*112≤140737488355328∧x.l.length≤9223372036854775806:=by omega
    simp only [k8.1,k8.2,hiA,getK_s k3,k3,wr64s j j6,q1,q2,q2b,q2c,q3,q4,k3,k4,np,np',no,no',nq,nq',nm,nm1,nm2,nm3,u0,u1,u2,u3,u4,u5,u6,u7,u8,u9,u10,u11,v0,v1,v2,v3,v4,v5,v6,v7,v8,v9,v10,v11,v12,v13,v14,v15,v16,v17,v18,v19,v20,v21,v22,v23,v24,v25,v26,v27,v28,v29,v30,v31,v32,v33,v34,v35,v36,v37,v38,v39,v40,v41,w0,w1,w2,w3,x0,x1,go_sem,↓reduceIte,Za,Zb,Zc,Zd,Ze,reduceCtorEq,Zf,Zg,Zh,Zi,Zj,Zk]
    refine ⟨(j+1,_,_,A.set i [.s x.t,.rw k (g+1) (putC x.l w.c).length]),?_,by dsimp only;omega,weak_ok ?_ (Sub.refl _) (zna _)⟩
    .dsimp only
     refine ⟨c,?_⟩
     rw [hstep,hst]
     refine ApI.next (g':=g+1) (l':=putC x.l w.c) hj (znd n 13) ex k3 k4 ?_ ?_ ?_ ?_
     .rw [gc_ne _ _ no',gc_same,hput]
     .rw [gc_same,hput,zld,List.length_singleton]
     .intro j hj1 hj2 hj3
      rw [gc_ne _ _ (Ne.symm hj3),gc_ne _ _ (Ne.symm hj2),gc_ne _ _ (by omega),gc_ne _ _ (by omega),gc_ne _ _ (by omega),gc_ne _ _ (by omega),gc_ne _ _ (by omega)]
     .intro j hj1
      rw [gc_ne _ _ (by omega),gc_ne _ _ (by omega),gc_ne _ _ (by omega),gc_ne _ _ (by omega),gc_ne _ _ (by omega),gc_ne _ _ (by omega),gc_ne _ _ (by omega)]
      exact hj.fr j (by omega)
    .simp only [go_sem,↓reduceIte,Za,Zb,Zc,Zd,Ze,reduceCtorEq,Zf,Zg,Zh,Zi,Zj,Zk]
  .have c:j=d.w.length:=by have:=hj0;simp at c;omega
   subst c
   simp only [q2c,q3,u0,u1,u2,u3,u4,u5,u6,u7,u8,u9,u10,u11,go_sem,↓reduceIte,Za,Zb,Zc,Zd,Ze,reduceCtorEq,Zf,Zg,Zh,Zi,Zj,Zk]
   rw [zlj] at hL
   have eL:appV d f a=.mk L d.w:=by rw [←hL,←harg];rfl
   rw [eL]
   refine ⟨ko,go,A,kw,gw,congrArg (fun z=>AV.ag [.rw ko go z,.rw kw gw d.w.length]) hLA.symm,?_,?_,?_,lo,hj.lw,?_,?_⟩
   .rw [gc_ne _ _ (by have:=c4;omega)];exact q4
   .rw [gc_ne _ _ (by have:=c5;omega),Dat.w_mk];exact hj.b4
   .exact up_in hj.up (by omega)
   .refine ⟨hj.nst.len,fun i x e=>?_,hj.nst.inj⟩
    obtain ⟨k,g,k1,k2,k3,k4⟩:=hj.nst.get i x e
    refine ⟨k,g,k1,k2,k3,?_⟩
    rw [gc_ne _ _ (fun e=>by rw [←e,q2c] at k4;cases k4)]
    exact k4
   .intro k hk
    rw [gc_ne _ _ (by omega)]
    exact hj.fr k hk
theorem dApply_ok (d:Dat) (hd:d.Fit2) (f a:ByteArray) (hp:CH) (m:Nat):MeetsF Tryz.prog 57 hp m [dx d,.s f,.s a] (dx (appV d f a)):=nest_pure (dApply_nest d hd f a hp m)
end Go.Proofs.YtinbodeocoeneaaGreatDoor
