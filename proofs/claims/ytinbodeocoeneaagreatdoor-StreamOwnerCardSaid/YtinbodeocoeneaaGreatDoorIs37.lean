/- Proof. Conditions: none. -/
import Derived.Test.YtinbodeocoeneaaGreatDoorIs36
open Nat renaming reduceEqDiff→Za,reduceBEq→Zb,reduceAdd→Zc,reduceLeDiff→Zd,reduceLT→Ze,reduceMul→Zf,reduceSub→Zg
open Int renaming reduceEq→Zh,reduceLT→Zi,reduceLE→Zj,reduceToNat→Zk
open List renaming mem_of_getElem?→zla,getElem?_eq_some_iff→zlb,take_length→zlj,take_of_length_le→zlk,length_take→zlo,take_zero→zlr
open Nat renaming le_refl→zna
namespace Go.Proofs.YtinbodeocoeneaaGreatDoor
open Go.Eng
set_option linter.all false
set_option maxRecDepth 20000
structure Nst (H:CH) (lo hi:Nat) (l:List Itm) (A:List (List AV)):Prop where
 len:A.length=l.length
 get:∀(i:Nat) x,l[i]?=some x→∃k g,lo≤k∧k<hi∧A[i]?=some [.s x.t,.rw k g x.l.length]∧gc H k=.rw g 7 (mapC celC x.l)
 inj:∀(i i':Nat) t t' k g g' z z',A[i]?=some [.s t,.rw k g z]→A[i']?=some [.s t',.rw k g' z']→i=i'
theorem Nst.nil (H:CH) (lo hi:Nat):Nst H lo hi [] []:=⟨rfl,fun i x e=>by simp at e,fun i i' t t' k g g' z z' e=>by simp at e⟩
theorem Nst.frame {H H':CH} {lo hi hi':Nat} {l:List Itm} {A:List (List AV)} (h:Nst H lo hi l A) (hh:hi≤hi') (e:∀k,lo≤k→k<hi→gc H' k=gc H k):Nst H' lo hi' l A :=
 ⟨h.len,fun i x q=>by
  obtain ⟨k,g,h1,h2,h3,h4⟩:=h.get i x q
  exact ⟨k,g,h1,Nat.lt_of_lt_of_le h2 hh,h3,by rw [e k h1 h2];exact h4⟩,h.inj⟩
theorem Nst.row {H:CH} {lo hi:Nat} {l:List Itm} {A:List (List AV)} (h:Nst H lo hi l A) {i:Nat} {t:ByteArray} {k g z:Nat} (e:A[i]?=some [.s t,.rw k g z]):lo≤k∧k<hi:=by
 have hi':i<l.length:=by rw [←h.len];exact (zlb.1 e).1
 obtain ⟨k',g',h1,h2,h3,_⟩:=h.get i l[i] (by simp [hi'])
 rw [e] at h3
 simp only [Option.some.injEq,List.cons.injEq,AV.rw.injEq] at h3
 omega
theorem Nst.snoc {H:CH} {lo hi hi':Nat} {l:List Itm} {A:List (List AV)} (h:Nst H lo hi l A) {x:Itm} {k g:Nat} (hk:hi≤k) (hl:lo≤k) (hh:k<hi') (e:gc H k=.rw g 7 (mapC celC x.l)) :
  Nst H lo hi' (l++[x]) (A++[[.s x.t,.rw k g x.l.length]]):=by
 refine ⟨by simp [h.len],fun i y q=>?_,fun i i' t t' k1 g1 g2 z z' e1 e2=>?_⟩
 .rw [List.getElem?_append] at q
  split at q
  .rename_i hi
   obtain ⟨k',g',h1,h2,h3,h4⟩:=h.get i y q
   exact ⟨k',g',h1,by omega,by rw [List.getElem?_append_left (by rw [h.len];exact hi)];exact h3,h4⟩
  .rename_i hi
   have:i - l.length=0:=by have:=(zlb.1 q).1;simp at this;omega
   rw [this] at q
   simp at q
   subst q
   exact ⟨k,g,hl,hh,by rw [List.getElem?_append_right (by rw [h.len];omega),h.len,this];rfl,e⟩
 .rw [List.getElem?_append] at e1 e2
  have key:∀{j:Nat} {t:ByteArray} {k1 g1 z:Nat},(if j<A.length then A[j]? else [[AV.s x.t,AV.rw k g x.l.length]][j - A.length]?)=some [AV.s t,AV.rw k1 g1 z]→(j<A.length∧k1<hi)∨(j=A.length∧k1=k):=fun {j t k1 g1 z} q=>by
   split at q
   .rename_i hj
    exact .inl ⟨hj,(h.row q).2⟩
   .rename_i hj
    have:j - A.length=0:=by have:=(zlb.1 q).1;simp at this;omega
    rw [this] at q
    simp only [List.getElem?_cons_zero,Option.some.injEq,List.cons.injEq,AV.rw.injEq] at q
    exact .inr ⟨by omega,q.2.1.1.symm⟩
  rcases key e1 with ⟨a1,a2⟩ | ⟨a1,a2⟩<;>rcases key e2 with ⟨b1,b2⟩ | ⟨b1,b2⟩
  .rw [if_pos a1] at e1
   rw [if_pos b1] at e2
   exact h.inj i i' t t' k1 g1 g2 z z' e1 e2
  .omega
  .omega
  .omega
def NestR (d:Dat) (m:Nat) (hp:CH) (hp':CH) (n':Nat) (r:AV):Prop :=
 ∃ko go A kw gw,r=.ag [.rw ko go d.i.length,.rw kw gw d.w.length]∧gc hp' ko=.rn go 2 A∧gc hp' kw=.rw gw 10 (mapC wrC d.w)∧Up m hp hp'∧(m≤ko∧ko<n')∧(m≤kw∧kw<n')∧Nst hp' m n' d.i A∧∀k,n'≤k→gc hp' k=.no
theorem snoc_cel (l:List Cel) (c:Cel):mapC celC l++[[AV.s c.f,.s c.a,.i .i64 c.v.k,.i .i64 c.v.n,.s c.v.s,.ds (mapC valC c.v.items),.ds (stC c.v.keys)]]=mapC celC (l++[c]):=mapC_snoc celC l c
theorem snoc_wri (l:List Wri) (x:Wri):mapC wrC l++[[AV.s x.f,.s x.a,.i .i64 x.i,.s x.c.f,.s x.c.a,.i .i64 x.c.v.k,.i .i64 x.c.v.n,.s x.c.v.s,.ds (mapC valC x.c.v.items),.ds (stC x.c.v.keys)]]=mapC wrC (l++[x]):=mapC_snoc wrC l x
attribute [go_sem] snoc_cel snoc_wri
structure ClI (d:Dat) (m:Nat) (hp H:CH) (n j g:Nat) (A:List (List AV)):Prop where
 lj:j≤d.i.length
 ln:m+4≤n
 b0:gc H m=.bx [.ds (mapC itC d.i),.ds (mapC wrC d.w)]
 b1:gc H (m+1)=.bx [.e0,.e0]
 b2:gc H (m+2)=.bx [.rw (m+3) g j,.e0]
 b3:gc H (m+3)=.rn g 2 A
 up:Up m hp H
 nst:Nst H (m+4) n (d.i.take j) A
 fr:∀k,n≤k→gc H k=.no
theorem gcs_no {hp:CH} {n:Nat} (h:∀k,n≤k→gc hp k=.no) {j n':Nat} {c:Chunk} (hj:j<n') (hn:n≤n'):∀k,n'≤k→gc ((j,c)::hp) k=.no:=fun k hk=>by
 rw [gc_ne _ _ (by omega)]
 exact h k (by omega)
theorem up_in {m:Nat} {hp H:CH} {j:Nat} {c:Chunk} (h:Up m hp H) (hj:m≤j):Up m hp ((j,c)::H):=h.cons c hj
set_option maxHeartbeats 1000000 in
theorem rclone_ok (d:Dat) (hd:d.Fit) (hw:d.w.length≤100000000000) (hp:CH) (m:Nat):Meets Tryz.prog 35 hp m [dx d] (NestR d m hp):=by
 have h1:=hd.li
 have h2:=hd.lw
 refine meetsN Tryz.func35 (by kernel_rfl) cc35 cr35 rfl fun hf=>?_
 unfold ck35
 simp only [go_sem,↓reduceIte,Za,Zb,Zc,Zd,Ze,reduceCtorEq,Zf,Zg,Zh,Zi,Zj,Zk]
 refine loop (fun q:Nat × CH × Nat × List (List AV) × Nat=>⟨[(1,.bx m 0),(2,.bx (m+1) 0),(3,.bx (m+2) 0),(4,.i .i64 q.1)],q.2.1,q.2.2.1⟩)
  (fun q=>ClI d m hp q.2.1 q.2.2.1 q.1 q.2.2.2.2 q.2.2.2.1)
  (fun q=>d.i.length - q.1) (0,(m+3,.rn 0 2 [])::(m+2,.bx [.rw (m+3) 0 0,.e0])::(m+3,.rw 0 2 [])::(m+2,.bx [.e0,.e0])::(m+1,.bx [.e0,.e0])::(m,.bx [.ds (mapC itC d.i),.ds (mapC wrC d.w)])::hp,m+4,[],0) ?_ ?_ (fun ⟨j,H,n,A,g⟩ hj=>?_)
 .dsimp only
  refine ⟨Nat.zero_le _,zna _,by simp only [go_sem,↓reduceIte,Za,Zb,Zc,Zd,Ze,reduceCtorEq,Zf,Zg,Zh,Zi,Zj,Zk],by simp only [go_sem,↓reduceIte,Za,Zb,Zc,Zd,Ze,reduceCtorEq,Zf,Zg,Zh,Zi,Zj,Zk],by simp only [go_sem,↓reduceIte,Za,Zb,Zc,Zd,Ze,reduceCtorEq,Zf,Zg,Zh,Zi,Zj,Zk],by simp only [go_sem,↓reduceIte,Za,Zb,Zc,Zd,Ze,reduceCtorEq,Zf,Zg,Zh,Zi,Zj,Zk],?_,by rw [zlr];exact Nst.nil _ _ _,?_⟩
  .exact up_in (up_in (up_in (up_in (up_in (up_in (Up.refl m hp) (by omega)) (by omega)) (by omega)) (by omega)) (by omega)) (by omega)
  .exact gcs_no (gcs_no (gcs_no (gcs_no (gcs_no (gcs_no hf (Nat.lt_succ_self m) (Nat.le_succ m)) (Nat.lt_succ_self _) (Nat.le_succ _)) (Nat.lt_succ_self _) (Nat.le_succ _)) (Nat.lt_succ_self _) (Nat.le_succ _)) (by omega) (zna _)) (by omega) (zna _)
 .exact (weak_b0 (c:=m+2) (i:=0) (m:=2) (cs:=[.e0,.e0]) (by simp only [go_sem,↓reduceIte,Za,Zb,Zc,Zd,Ze,reduceCtorEq,Zf,Zg,Zh,Zi,Zj,Zk]) rfl).trans ((weak_rn (k:=m+3) (by simp only [go_sem,↓reduceIte,Za,Zb,Zc,Zd,Ze,reduceCtorEq,Zf,Zg,Zh,Zi,Zj,Zk])).trans (weak_ok (by simp only [go_sem,↓reduceIte,Za,Zb,Zc,Zd,Ze,reduceCtorEq,Zf,Zg,Zh,Zi,Zj,Zk]) (Sub.refl _) (zna _)))
 dsimp only at hj
 have i0:=hj.ln
 have i1:=hj.b0
 have i2:=hj.b1
 have i3:=hj.b2
 have i4:=hj.b3
 simp only [i1,i2,i3,i4,go_sem,↓reduceIte,Za,Zb,Zc,Zd,Ze,reduceCtorEq,Zf,Zg,Zh,Zi,Zj,Zk]
 refine cdK_of (fun c=>?_) (fun c=>?_)
 .have c:j<d.i.length:=by simpa using c
  obtain ⟨x,ex⟩:∃x,d.i[j]?=some x:=⟨d.i[j],by simp [c]⟩
  have hx:=hd.ll (zla ex)
  simp only [c,i1,i2,i3,i4,getK_s (mapC_get itC ex),go_sem,↓reduceIte,Za,Zb,Zc,Zd,Ze,reduceCtorEq,Zf,Zg,Zh,Zi,Zj,Zk]
  refine loopg (fun k:Nat=>⟨[(1,.bx m 0),(2,.bx (m+1) 0),(3,.bx (m+2) 0),(4,.i .i64 j),(5,.bx n 0),(6,.i .i64 k)],(n,.bx [.s x.t,.rw (n+1) k k])::(n+1,.rw k 7 (mapC celC (x.l.take k)))::H,n+2⟩)
   (fun k=>k≤x.l.length) (fun k=>x.l.length - k) 0 (Nat.zero_le _) ?_ (fun k hk=>?_)
  .refine (weak_b0 (c:=n) (i:=1) (m:=7) (cs:=[.s x.t,.e0]) (by simp only [go_sem,↓reduceIte,Za,Zb,Zc,Zd,Ze,reduceCtorEq,Zf,Zg,Zh,Zi,Zj,Zk]) rfl).trans (weak_ok ?_ (Sub.cons ?_ (Sub.cons ?_ (Sub.base hj.fr ?_))) (zna _))
   all_goals first | ((simp only [List.set_cons_succ,List.set_cons_zero,zlr,mapC_nil,go_sem,↓reduceIte,Za,Zb,Zc,Zd,Ze,reduceCtorEq,Zf,Zg,Zh,Zi,Zj,Zk]);done) | (dsimp only;omega) | trace_state
  have n1:¬n=m:=by omega
  have n2:¬n=m+1:=by omega
  have n3:¬n=m+2:=by omega
  have n4:¬n=m+3:=by omega
  have n5:¬n+1=m:=by omega
  have n6:¬n+1=m+1:=by omega
  have n7:¬n+1=m+2:=by omega
  have n8:¬n+1=m+3:=by omega
  have n9:¬n+2=m:=by omega
  have n10:¬n+2=m+1:=by omega
  have n11:¬n+2=m+2:=by omega
  have n12:¬n+2=m+3:=by omega
  have n13:m<n+2:=by omega
  have n14:m+1<n+2:=by omega
  have n15:m+2<n+2:=by omega
  simp only [c,i1,i2,i3,i4,n1,n2,n3,n4,n5,n6,n7,n8,getK_s (mapC_get itC ex),go_sem,↓reduceIte,Za,Zb,Zc,Zd,Ze,reduceCtorEq,Zf,Zg,Zh,Zi,Zj,Zk]
  refine cdK_of (fun q=>?_) (fun q=>?_)
  .have q:k<x.l.length:=by simpa using q
   obtain ⟨y,ey⟩:∃y,x.l[k]?=some y:=⟨x.l[k],by simp [q]⟩
   have fy:=hd.c (zla ex) (zla ey)
   have hlk:(x.l.take k).length=k:=by rw [zlo];omega
   simp only [c,q,i1,i2,i3,i4,n1,n2,n3,n4,n5,n6,n7,n8,n9,n10,n11,n12,getK_s (mapC_get itC ex),getK_s (mapC_get celC ey),go_sem,↓reduceIte,Za,Zb,Zc,Zd,Ze,reduceCtorEq,Zf,Zg,Zh,Zi,Zj,Zk]
   refine vcCall.f (rcopy_ok y.v fy _ _) ?_
   simp only [c,q,n1,n2,n3,n4,n5,n6,n7,n8,n9,n10,n11,n12,hlk,go_sem,↓reduceIte,Za,Zb,Zc,Zd,Ze,reduceCtorEq,Zf,Zg,Zh,Zi,Zj,Zk]
   have k8:(k+1)*112≤140737488355328∧k≤9223372036854775806:=by omega
   have k6:k<9223372036854775807:=by omega
   simp only [wr64s k k6,take_snoc ey,go_sem,↓reduceIte,Za,Zb,Zc,Zd,Ze,reduceCtorEq,Zf,Zg,Zh,Zi,Zj,Zk]
   refine ⟨k8.1,k8.2,k+1,q,by omega,weakG_ok ?_ (SubG.cons ?_ ?_ ?_ (SubG.cons ?_ ?_ ?_ (SubG.base hj.fr ?_ ?_ ?_)))⟩
   all_goals first | ((simp only [n13,n14,n15,go_sem,↓reduceIte,Za,Zb,Zc,Zd,Ze,reduceCtorEq,Zf,Zg,Zh,Zi,Zj,Zk]);done) | (dsimp only;omega) | trace_state
  .have q:k=x.l.length:=by simp at q;omega
   subst q
   rw [zlj]
   have j8:(j+1)*40≤140737488355328∧j≤9223372036854775806:=by omega
   have j6:j<9223372036854775807:=by omega
   have hA:A.length=j:=by rw [hj.nst.len,zlo];omega
   simp only [i3,i4,n1,n2,n3,n4,n5,n6,n7,n8,n9,n10,n11,n12,hA,wr64s j j6,go_sem,↓reduceIte,Za,Zb,Zc,Zd,Ze,reduceCtorEq,Zf,Zg,Zh,Zi,Zj,Zk]
   refine ⟨j8.1,j8.2,(j+1,_,_,A++[[.s x.t,.rw (n+1) x.l.length x.l.length]],g+1),?_,by dsimp only;omega,weak_ok ?_ (Sub.refl _) (zna _)⟩
   .dsimp only
    refine ⟨c,by omega,?_,?_,?_,?_,?_,?_,?_⟩
    .simp only [i1,n1,n5,n9,go_sem,↓reduceIte,Za,Zb,Zc,Zd,Ze,reduceCtorEq,Zf,Zg,Zh,Zi,Zj,Zk]
    .simp only [i2,n2,n6,n10,go_sem,↓reduceIte,Za,Zb,Zc,Zd,Ze,reduceCtorEq,Zf,Zg,Zh,Zi,Zj,Zk]
    .simp only [go_sem,↓reduceIte,Za,Zb,Zc,Zd,Ze,reduceCtorEq,Zf,Zg,Zh,Zi,Zj,Zk]
    .simp only [go_sem,↓reduceIte,Za,Zb,Zc,Zd,Ze,reduceCtorEq,Zf,Zg,Zh,Zi,Zj,Zk]
    .exact up_in (up_in (up_in (up_in (up_in hj.up (by omega)) (by omega)) (by omega)) (by omega)) (by omega)
    .rw [←take_snoc ex]
     refine (hj.nst.frame (hi':=n) (zna _) fun k k1 k2=>?_).snoc (k:=n+1) (by omega) (by omega) (by omega) ?_
     .rw [gc_ne _ _ (by omega),gc_ne _ _ (by omega),gc_ne _ _ (by omega),gc_ne _ _ (by omega),gc_ne _ _ (by omega)]
     .rw [gc_ne _ _ (by omega),gc_ne _ _ (by omega),gc_ne _ _ (by omega),gc_ne _ _ (by omega),gc_same]
    .intro k hk
     rw [gc_ne _ _ (by omega),gc_ne _ _ (by omega),gc_ne _ _ (by omega),gc_ne _ _ (by omega),gc_ne _ _ (by omega)]
     exact hj.fr k (by omega)
   .simp only [go_sem,↓reduceIte,Za,Zb,Zc,Zd,Ze,reduceCtorEq,Zf,Zg,Zh,Zi,Zj,Zk]
 .have c:j=d.i.length:=by have:=hj.lj;simp at c;omega
  subst c
  simp only [i1,i2,i3,i4,go_sem,↓reduceIte,Za,Zb,Zc,Zd,Ze,reduceCtorEq,Zf,Zg,Zh,Zi,Zj,Zk]
  have n1:¬n=m:=by omega
  have n2:¬n=m+1:=by omega
  have n3:¬n=m+2:=by omega
  have n3':¬m+2=n:=by omega
  have n13:m<n+1:=by omega
  have n14:m+1<n+1:=by omega
  have n15:m+2<n+1:=by omega
  have n16:m+3<n+1:=by omega
  have n5:¬n+1=m:=by omega
  have n6:¬n+1=m+1:=by omega
  have n7:¬n+1=m+2:=by omega
  have n8:¬n+1=m+3:=by omega
  refine loopg (fun k:Nat=>⟨[(1,.bx m 0),(2,.bx (m+1) 0),(3,.bx (m+2) 0),(8,.i .i64 k)],(m+2,.bx [.rw (m+3) g d.i.length,.rw n k k])::(n,.rw k 10 (mapC wrC (d.w.take k)))::H,n+1⟩)
   (fun k=>k≤d.w.length) (fun k=>d.w.length - k) 0 (Nat.zero_le _) ?_ (fun k hk=>?_)
  .refine (weak_b0 (c:=m+2) (i:=1) (m:=10) (cs:=[.rw (m+3) g d.i.length,.e0]) i3 rfl).trans (weak_ok ?_ (SubX.sub (SubX.cons ?_ (SubX.cons ?_ (SubX.base hj.fr ?_)))) (zna _))
   all_goals first | ((simp only [List.set_cons_succ,List.set_cons_zero,zlr,mapC_nil,n3,n3',go_sem,↓reduceIte,Za,Zb,Zc,Zd,Ze,reduceCtorEq,Zf,Zg,Zh,Zi,Zj,Zk]);done) | (dsimp only;omega) | trace_state
  simp only [i1,i2,n1,n2,n3,go_sem,↓reduceIte,Za,Zb,Zc,Zd,Ze,reduceCtorEq,Zf,Zg,Zh,Zi,Zj,Zk]
  refine cdK_of (fun q=>?_) (fun q=>?_)
  .have q:k<d.w.length:=by simpa using q
   obtain ⟨y,ey⟩:∃y,d.w[k]?=some y:=⟨d.w[k],by simp [q]⟩
   have fy:=hd.w (zla ey)
   have hlk:(d.w.take k).length=k:=by rw [zlo];omega
   have hw2:(k:Int)<d.w.length:=by omega
   simp only [q,hw2,i1,i2,n1,n2,n3,n3',n5,n6,n7,n8,getK_s (mapC_get wrC ey),go_sem,↓reduceIte,Za,Zb,Zc,Zd,Ze,reduceCtorEq,Zf,Zg,Zh,Zi,Zj,Zk]
   refine vcCall.f (rcopy_ok y.c.v fy _ _) ?_
   have k8:(k+1)*152≤140737488355328∧k≤9223372036854775806:=by omega
   have k6:k<9223372036854775807:=by omega
   simp only [q,n1,n2,n3,n3',n5,n6,n7,n8,hlk,wr64s k k6,take_snoc ey,go_sem,↓reduceIte,Za,Zb,Zc,Zd,Ze,reduceCtorEq,Zf,Zg,Zh,Zi,Zj,Zk]
   refine ⟨k8.1,k8.2,k+1,q,by omega,weakG_ok ?_ (SubGX.sub (SubGX.cons ?_ ?_ ?_ (SubGX.cons ?_ ?_ ?_ (SubGX.base hj.fr ?_ ?_ ?_))))⟩
   all_goals first | ((simp only [n3,n3',n13,n14,n15,n16,go_sem,↓reduceIte,Za,Zb,Zc,Zd,Ze,reduceCtorEq,Zf,Zg,Zh,Zi,Zj,Zk]);done) | (dsimp only;omega) | trace_state
  .have q:k=d.w.length:=by simp at q;omega
   subst q
   rw [zlj]
   simp only [i2,n1,n2,n3,go_sem,↓reduceIte,Za,Zb,Zc,Zd,Ze,reduceCtorEq,Zf,Zg,Zh,Zi,Zj,Zk]
   refine ⟨m+3,g,A,n,d.w.length,rfl,?_,?_,?_,by omega,by omega,?_,?_⟩
   .rw [gc_ne _ _ (by omega),gc_ne _ _ (by omega),gc_ne _ _ (by omega)]
    exact i4
   .rw [gc_ne _ _ (by omega),gc_ne _ _ (by omega),gc_same]
   .exact up_in (up_in (up_in hj.up (by omega)) (by omega)) (by omega)
   .have h:=hj.nst
    rw [zlj] at h
    refine ⟨h.len,fun i x e=>?_,h.inj⟩
    obtain ⟨k,g',k1,k2,k3,k4⟩:=h.get i x e
    refine ⟨k,g',by omega,by omega,k3,?_⟩
    rw [gc_ne _ _ (by omega),gc_ne _ _ (by omega),gc_ne _ _ (by omega)]
    exact k4
   .intro k hk
    rw [gc_ne _ _ (by omega),gc_ne _ _ (by omega),gc_ne _ _ (by omega)]
    exact hj.fr k (by omega)
set_option maxHeartbeats 1000000 in
theorem dcopied_ok (d:Dat) (hd:d.Fit) (hw:d.w.length≤100000000000) (hp:CH) (m:Nat):Meets Tryz.prog 105 hp m [dx d] (NestR d m hp):=by
 have h1:=hd.li
 have h2:=hd.lw
 refine meetsN Tryz.func105 (by kernel_rfl) cc105 cr105 rfl fun hf=>?_
 unfold ck105
 simp only [go_sem,↓reduceIte,Za,Zb,Zc,Zd,Ze,reduceCtorEq,Zf,Zg,Zh,Zi,Zj,Zk]
 refine loop (fun q:Nat × CH × Nat × List (List AV) × Nat=>⟨[(1,.bx m 0),(2,.bx (m+1) 0),(3,.bx (m+2) 0),(12,.ds (mapC itC d.i)),(13,.i .i64 d.i.length),(14,.i .i64 q.1)],q.2.1,q.2.2.1⟩)
  (fun q=>ClI d m hp q.2.1 q.2.2.1 q.1 q.2.2.2.2 q.2.2.2.1)
  (fun q=>d.i.length - q.1) (0,(m+3,.rn 0 2 [])::(m+2,.bx [.rw (m+3) 0 0,.e0])::(m+3,.rw 0 2 [])::(m+2,.bx [.e0,.e0])::(m+1,.bx [.e0,.e0])::(m,.bx [.ds (mapC itC d.i),.ds (mapC wrC d.w)])::hp,m+4,[],0) ?_ ?_ (fun ⟨j,H,n,A,g⟩ hj=>?_)
 .dsimp only
  refine ⟨Nat.zero_le _,zna _,by simp only [go_sem,↓reduceIte,Za,Zb,Zc,Zd,Ze,reduceCtorEq,Zf,Zg,Zh,Zi,Zj,Zk],by simp only [go_sem,↓reduceIte,Za,Zb,Zc,Zd,Ze,reduceCtorEq,Zf,Zg,Zh,Zi,Zj,Zk],by simp only [go_sem,↓reduceIte,Za,Zb,Zc,Zd,Ze,reduceCtorEq,Zf,Zg,Zh,Zi,Zj,Zk],by simp only [go_sem,↓reduceIte,Za,Zb,Zc,Zd,Ze,reduceCtorEq,Zf,Zg,Zh,Zi,Zj,Zk],?_,by rw [zlr];exact Nst.nil _ _ _,?_⟩
  .exact up_in (up_in (up_in (up_in (up_in (up_in (Up.refl m hp) (by omega)) (by omega)) (by omega)) (by omega)) (by omega)) (by omega)
  .exact gcs_no (gcs_no (gcs_no (gcs_no (gcs_no (gcs_no hf (Nat.lt_succ_self m) (Nat.le_succ m)) (Nat.lt_succ_self _) (Nat.le_succ _)) (Nat.lt_succ_self _) (Nat.le_succ _)) (Nat.lt_succ_self _) (Nat.le_succ _)) (by omega) (zna _)) (by omega) (zna _)
 .exact (weak_b0 (c:=m+2) (i:=0) (m:=2) (cs:=[.e0,.e0]) (by simp only [go_sem,↓reduceIte,Za,Zb,Zc,Zd,Ze,reduceCtorEq,Zf,Zg,Zh,Zi,Zj,Zk]) rfl).trans ((weak_rn (k:=m+3) (by simp only [go_sem,↓reduceIte,Za,Zb,Zc,Zd,Ze,reduceCtorEq,Zf,Zg,Zh,Zi,Zj,Zk])).trans (weak_ok (by simp only [go_sem,↓reduceIte,Za,Zb,Zc,Zd,Ze,reduceCtorEq,Zf,Zg,Zh,Zi,Zj,Zk]) (Sub.refl _) (zna _)))
 dsimp only at hj
 have i0:=hj.ln
 have i1:=hj.b0
 have i2:=hj.b1
 have i3:=hj.b2
 have i4:=hj.b3
 simp only [i1,i2,i3,i4,go_sem,↓reduceIte,Za,Zb,Zc,Zd,Ze,reduceCtorEq,Zf,Zg,Zh,Zi,Zj,Zk]
 refine cdK_of (fun c=>?_) (fun c=>?_)
 .have c:j<d.i.length:=by simpa using c
  obtain ⟨x,ex⟩:∃x,d.i[j]?=some x:=⟨d.i[j],by simp [c]⟩
  have hx:=hd.ll (zla ex)
  simp only [c,i1,i2,i3,i4,getK_s (mapC_get itC ex),go_sem,↓reduceIte,Za,Zb,Zc,Zd,Ze,reduceCtorEq,Zf,Zg,Zh,Zi,Zj,Zk]
  refine loopg (fun k:Nat=>⟨[(1,.bx m 0),(2,.bx (m+1) 0),(3,.bx (m+2) 0),(6,.bx (n+1) 0),(12,.ds (mapC itC d.i)),(13,.i .i64 d.i.length),(14,.i .i64 j),(22,.ds (mapC celC x.l)),(23,.i .i64 x.l.length),(24,.i .i64 k)],(n+1,.bx [.s x.t,.rw (n+2) k k])::(n+2,.rw k 7 (mapC celC (x.l.take k)))::H,n+3⟩)
   (fun k=>k≤x.l.length) (fun k=>x.l.length - k) 0 (Nat.zero_le _) ?_ (fun k hk=>?_)
  .refine (weak_b0 (c:=n+1) (i:=1) (m:=7) (cs:=[.s x.t,.e0]) (by simp only [go_sem,↓reduceIte,Za,Zb,Zc,Zd,Ze,reduceCtorEq,Zf,Zg,Zh,Zi,Zj,Zk]) rfl).trans (weak_ok ?_ (Sub.cons ?_ (Sub.cons ?_ (Sub.base hj.fr ?_))) (zna _))
   all_goals first | ((simp only [List.set_cons_succ,List.set_cons_zero,zlr,mapC_nil,go_sem,↓reduceIte,Za,Zb,Zc,Zd,Ze,reduceCtorEq,Zf,Zg,Zh,Zi,Zj,Zk]);done) | (dsimp only;omega) | trace_state
  have n1:¬n=m:=by omega
  have n2:¬n=m+1:=by omega
  have n3:¬n=m+2:=by omega
  have n4:¬n=m+3:=by omega
  have n5:¬n+1=m:=by omega
  have n6:¬n+1=m+1:=by omega
  have n7:¬n+1=m+2:=by omega
  have n8:¬n+1=m+3:=by omega
  have n9:¬n+2=m:=by omega
  have n10:¬n+2=m+1:=by omega
  have n11:¬n+2=m+2:=by omega
  have n12:¬n+2=m+3:=by omega
  have n13:¬n+3=m:=by omega
  have n14:¬n+3=m+1:=by omega
  have n15:¬n+3=m+2:=by omega
  have n16:¬n+3=m+3:=by omega
  have n17:¬n+4=m:=by omega
  have n18:¬n+4=m+1:=by omega
  have n19:¬n+4=m+2:=by omega
  have n20:¬n+4=m+3:=by omega
  have n21:m<n+3:=by omega
  have n22:m+1<n+3:=by omega
  have n23:m+2<n+3:=by omega
  simp only [c,i1,i2,i3,i4,n1,n2,n3,n4,n5,n6,n7,n8,n9,n10,n11,n12,n13,n14,n15,n16,n17,n18,n19,n20,getK_s (mapC_get itC ex),go_sem,↓reduceIte,Za,Zb,Zc,Zd,Ze,reduceCtorEq,Zf,Zg,Zh,Zi,Zj,Zk]
  refine cdK_of (fun q=>?_) (fun q=>?_)
  .have q:k<x.l.length:=by simpa using q
   obtain ⟨y,ey⟩:∃y,x.l[k]?=some y:=⟨x.l[k],by simp [q]⟩
   have fy:=hd.c (zla ex) (zla ey)
   have hlk:(x.l.take k).length=k:=by rw [zlo];omega
   simp only [c,q,i1,i2,i3,i4,n1,n2,n3,n4,n5,n6,n7,n8,n9,n10,n11,n12,n13,n14,n15,n16,n17,n18,n19,n20,n9,n10,n11,n12,n13,n14,n15,n16,n17,n18,n19,n20,getK_s (mapC_get itC ex),getK_s (mapC_get celC ey),go_sem,↓reduceIte,Za,Zb,Zc,Zd,Ze,reduceCtorEq,Zf,Zg,Zh,Zi,Zj,Zk]
   refine vcCall.f (copy_ok y.v fy _ _) ?_
   simp only [c,q,n1,n2,n3,n4,n5,n6,n7,n8,n9,n10,n11,n12,n13,n14,n15,n16,n17,n18,n19,n20,n9,n10,n11,n12,n13,n14,n15,n16,n17,n18,n19,n20,hlk,go_sem,↓reduceIte,Za,Zb,Zc,Zd,Ze,reduceCtorEq,Zf,Zg,Zh,Zi,Zj,Zk]
   have k8:(k+1)*112≤140737488355328∧k≤9223372036854775806:=by omega
   have k6:k<9223372036854775807:=by omega
   simp only [wr64s k k6,take_snoc ey,go_sem,↓reduceIte,Za,Zb,Zc,Zd,Ze,reduceCtorEq,Zf,Zg,Zh,Zi,Zj,Zk]
   refine ⟨k8.1,k8.2,k+1,q,by omega,weakG_ok ?_ (SubG.cons ?_ ?_ ?_ (SubG.cons ?_ ?_ ?_ (SubG.base hj.fr ?_ ?_ ?_)))⟩
   all_goals first | ((simp only [n21,n22,n23,go_sem,↓reduceIte,Za,Zb,Zc,Zd,Ze,reduceCtorEq,Zf,Zg,Zh,Zi,Zj,Zk]);done) | (dsimp only;omega) | trace_state
  .have q:k=x.l.length:=by simp at q;omega
   subst q
   rw [zlj]
   have j8:(j+1)*40≤140737488355328∧j≤9223372036854775806:=by omega
   have j6:j<9223372036854775807:=by omega
   have hA:A.length=j:=by rw [hj.nst.len,zlo];omega
   simp only [i3,i4,n1,n2,n3,n4,n5,n6,n7,n8,n9,n10,n11,n12,n13,n14,n15,n16,n17,n18,n19,n20,n9,n10,n11,n12,n13,n14,n15,n16,n17,n18,n19,n20,hA,wr64s j j6,go_sem,↓reduceIte,Za,Zb,Zc,Zd,Ze,reduceCtorEq,Zf,Zg,Zh,Zi,Zj,Zk]
   refine ⟨j8.1,j8.2,(j+1,_,_,A++[[.s x.t,.rw (n+2) x.l.length x.l.length]],g+1),?_,by dsimp only;omega,weak_ok ?_ (Sub.refl _) (zna _)⟩
   .dsimp only
    refine ⟨c,by omega,?_,?_,?_,?_,?_,?_,?_⟩
    .simp only [i1,n1,n2,n3,n4,n5,n6,n7,n8,n9,n10,n11,n12,n13,n14,n15,n16,n17,n18,n19,n20,go_sem,↓reduceIte,Za,Zb,Zc,Zd,Ze,reduceCtorEq,Zf,Zg,Zh,Zi,Zj,Zk]
    .simp only [i2,n1,n2,n3,n4,n5,n6,n7,n8,n9,n10,n11,n12,n13,n14,n15,n16,n17,n18,n19,n20,go_sem,↓reduceIte,Za,Zb,Zc,Zd,Ze,reduceCtorEq,Zf,Zg,Zh,Zi,Zj,Zk]
    .simp only [n1,n2,n3,n4,n5,n6,n7,n8,n9,n10,n11,n12,n13,n14,n15,n16,n17,n18,n19,n20,go_sem,↓reduceIte,Za,Zb,Zc,Zd,Ze,reduceCtorEq,Zf,Zg,Zh,Zi,Zj,Zk]
    .simp only [n1,n2,n3,n4,n5,n6,n7,n8,n9,n10,n11,n12,n13,n14,n15,n16,n17,n18,n19,n20,go_sem,↓reduceIte,Za,Zb,Zc,Zd,Ze,reduceCtorEq,Zf,Zg,Zh,Zi,Zj,Zk]
    .exact up_in (up_in (up_in (up_in (up_in hj.up (by omega)) (by omega)) (by omega)) (by omega)) (by omega)
    .rw [←take_snoc ex]
     refine (hj.nst.frame (hi':=n) (zna _) fun k k1 k2=>?_).snoc (k:=n+2) (by omega) (by omega) (by omega) ?_
     .rw [gc_ne _ _ (by omega),gc_ne _ _ (by omega),gc_ne _ _ (by omega),gc_ne _ _ (by omega),gc_ne _ _ (by omega)]
     .rw [gc_ne _ _ (by omega),gc_ne _ _ (by omega),gc_ne _ _ (by omega),gc_ne _ _ (by omega),gc_same]
    .intro k hk
     rw [gc_ne _ _ (by omega),gc_ne _ _ (by omega),gc_ne _ _ (by omega),gc_ne _ _ (by omega),gc_ne _ _ (by omega)]
     exact hj.fr k (by omega)
   .simp only [go_sem,↓reduceIte,Za,Zb,Zc,Zd,Ze,reduceCtorEq,Zf,Zg,Zh,Zi,Zj,Zk]
 .have c:j=d.i.length:=by have:=hj.lj;simp at c;omega
  subst c
  simp only [i1,i2,i3,i4,go_sem,↓reduceIte,Za,Zb,Zc,Zd,Ze,reduceCtorEq,Zf,Zg,Zh,Zi,Zj,Zk]
  have n1:¬n=m:=by omega
  have n2:¬n=m+1:=by omega
  have n3:¬n=m+2:=by omega
  have n3':¬m+2=n:=by omega
  have n13:m<n+1:=by omega
  have n14:m+1<n+1:=by omega
  have n15:m+2<n+1:=by omega
  have n16:m+3<n+1:=by omega
  have n5:¬n+1=m:=by omega
  have n6:¬n+1=m+1:=by omega
  have n7:¬n+1=m+2:=by omega
  have n8:¬n+1=m+3:=by omega
  refine loopg (fun k:Nat=>⟨[(2,.bx (m+1) 0),(3,.bx (m+2) 0),(47,.ds (mapC wrC d.w)),(48,.i .i64 d.w.length),(49,.i .i64 k)],(m+2,.bx [.rw (m+3) g d.i.length,.rw n k k])::(n,.rw k 10 (mapC wrC (d.w.take k)))::H,n+1⟩)
   (fun k=>k≤d.w.length) (fun k=>d.w.length - k) 0 (Nat.zero_le _) ?_ (fun k hk=>?_)
  .refine (weak_b0 (c:=m+2) (i:=1) (m:=10) (cs:=[.rw (m+3) g d.i.length,.e0]) i3 rfl).trans (weak_ok ?_ (SubX.sub (SubX.cons ?_ (SubX.cons ?_ (SubX.base hj.fr ?_)))) (zna _))
   all_goals first | ((simp only [List.set_cons_succ,List.set_cons_zero,zlr,mapC_nil,n3,n3',go_sem,↓reduceIte,Za,Zb,Zc,Zd,Ze,reduceCtorEq,Zf,Zg,Zh,Zi,Zj,Zk]);done) | (dsimp only;omega) | trace_state
  simp only [i1,i2,n1,n2,n3,go_sem,↓reduceIte,Za,Zb,Zc,Zd,Ze,reduceCtorEq,Zf,Zg,Zh,Zi,Zj,Zk]
  refine cdK_of (fun q=>?_) (fun q=>?_)
  .have q:k<d.w.length:=by simpa using q
   obtain ⟨y,ey⟩:∃y,d.w[k]?=some y:=⟨d.w[k],by simp [q]⟩
   have fy:=hd.w (zla ey)
   have hlk:(d.w.take k).length=k:=by rw [zlo];omega
   have hw2:(k:Int)<d.w.length:=by omega
   simp only [q,hw2,i1,i2,n1,n2,n3,n3',n5,n6,n7,n8,getK_s (mapC_get wrC ey),go_sem,↓reduceIte,Za,Zb,Zc,Zd,Ze,reduceCtorEq,Zf,Zg,Zh,Zi,Zj,Zk]
   refine vcCall.f (copy_ok y.c.v fy _ _) ?_
   have k8:(k+1)*152≤140737488355328∧k≤9223372036854775806:=by omega
   have k6:k<9223372036854775807:=by omega
   simp only [q,n1,n2,n3,n3',n5,n6,n7,n8,hlk,wr64s k k6,take_snoc ey,go_sem,↓reduceIte,Za,Zb,Zc,Zd,Ze,reduceCtorEq,Zf,Zg,Zh,Zi,Zj,Zk]
   refine ⟨k8.1,k8.2,k+1,q,by omega,weakG_ok ?_ (SubGX.sub (SubGX.cons ?_ ?_ ?_ (SubGX.cons ?_ ?_ ?_ (SubGX.base hj.fr ?_ ?_ ?_))))⟩
   all_goals first | ((simp only [n3,n3',n13,n14,n15,n16,go_sem,↓reduceIte,Za,Zb,Zc,Zd,Ze,reduceCtorEq,Zf,Zg,Zh,Zi,Zj,Zk]);done) | (dsimp only;omega) | trace_state
  .have q:k=d.w.length:=by simp at q;omega
   subst q
   rw [zlj]
   simp only [i2,n1,n2,n3,go_sem,↓reduceIte,Za,Zb,Zc,Zd,Ze,reduceCtorEq,Zf,Zg,Zh,Zi,Zj,Zk]
   refine ⟨m+3,g,A,n,d.w.length,rfl,?_,?_,?_,by omega,by omega,?_,?_⟩
   .rw [gc_ne _ _ (by omega),gc_ne _ _ (by omega),gc_ne _ _ (by omega)]
    exact i4
   .rw [gc_ne _ _ (by omega),gc_ne _ _ (by omega),gc_same]
   .exact up_in (up_in (up_in hj.up (by omega)) (by omega)) (by omega)
   .have h:=hj.nst
    rw [zlj] at h
    refine ⟨h.len,fun i x e=>?_,h.inj⟩
    obtain ⟨k,g',k1,k2,k3,k4⟩:=h.get i x e
    refine ⟨k,g',by omega,by omega,k3,?_⟩
    rw [gc_ne _ _ (by omega),gc_ne _ _ (by omega),gc_ne _ _ (by omega)]
    exact k4
   .intro k hk
    rw [gc_ne _ _ (by omega),gc_ne _ _ (by omega),gc_ne _ _ (by omega)]
    exact hj.fr k (by omega)
theorem cvA_s (hp:CH) (s:ByteArray):cvA hp (.s s)=some (.s s):=by simp [cvA,pureC,AV.pur,AV.one]
theorem cvA_sh {hp:CH} {k g n len:Nat} {l:List (List AV)} (h:gc hp k=.sh g n l) (hl:len=l.length):cvA hp (.rw k g len)=some (.ds l):=by simp [cvA,pureC,h,hl]
theorem nest_pure {f:FuncId} {d:Dat} {hp:CH} {m:Nat} {args:List AV} (h:Meets Tryz.prog f hp m args (NestR d m hp)):MeetsF Tryz.prog f hp m args (dx d):=by
 refine Meets.nest h fun hp' n' r ⟨ko,go,A,kw,gw,hr,h1,h2,h3,⟨h4,h4'⟩,⟨h5,h5'⟩,hN,hF⟩=>?_
 subst hr
 have hget:=hN.get
 have hlen:=hN.len
 obtain ⟨ks,hks⟩:∃ks:List AV,ks=A.map fun e=>e.getD 1 .un:=⟨_,rfl⟩
 have hin:∀(i:Nat) t k g z,A[i]?=some [.s t,.rw k g z]→AV.rw k g z∈ks:=fun i t k g z e=>by
  rw [hks]
  exact List.mem_map.2 ⟨_,zla e,rfl⟩
 have hge:∀α∈ks,∀k g len,α=.rw k g len→m≤k:=fun α hα k g len e=>by
  rw [hks] at hα
  obtain ⟨x,hx,rfl⟩:=List.mem_map.1 hα
  obtain ⟨i,hi,rfl⟩:=List.mem_iff_getElem.1 hx
  obtain ⟨k',g',q1,q2,q3,q4⟩:=hget i (d.i[i]'(by omega)) (by simp)
  rw [List.getElem?_eq_getElem hi] at q3
  simp only [Option.some.injEq] at q3
  rw [q3] at e
  simp only [List.getD_cons_succ,List.getD_cons_zero,AV.rw.injEq] at e
  omega
 have hko:gc (shutL hp' ks) ko=.rn go 2 A:=by
  rcases gc_shutL (k:=ko) (l:=ks) (hp:=hp') with e | e<;>rw [e,h1]<;>rfl
 have hkw:gc (shutL hp' ks) kw=.rw gw 10 (mapC wrC d.w)∨gc (shutL hp' ks) kw=.sh gw 10 (mapC wrC d.w):=by
  rcases gc_shutL (k:=kw) (l:=ks) (hp:=hp') with e | e
  .exact .inl (by rw [e,h2])
  .exact .inr (by rw [e,h2];rfl)
 have hup:Up m hp (shutL hp' ks):=fun k hk=>by
  rw [gc_shutL_not fun α hα g len e=>by have:=hge α hα k g len e;omega]
  exact h3 k hk
 have hne:ko≠kw:=fun e=>by subst e;rw [h1] at h2;cases h2
 refine ⟨ks,ko,go,2,A,mapC itC d.i,hko,by rw [mapC_len,hlen],fun j e he=>?_,?_⟩
 .have hj:j<d.i.length:=by rw [←hlen];exact (zlb.1 he).1
  obtain ⟨k,g,q1,q2,q3,q4⟩:=hget j d.i[j] (by simp [hj])
  rw [he] at q3
  simp only [Option.some.injEq] at q3
  subst q3
  refine ⟨itC d.i[j],mapC_get itC (by simp [hj]),?_⟩
  have hs:gc (shutL hp' ks) k=.sh g 7 (mapC celC d.i[j].l):=gc_shutL_in ⟨_,hin j _ k g _ he⟩ (.inl q4)
  rw [cvT,cvT,cvT,cvA_s,cvA_sh hs (by rw [mapC_len])]
  rfl
 .obtain ⟨S,hS⟩:∃S,shutL hp' ks=S:=⟨_,rfl⟩
  rw [hS] at hko hkw hup
  unfold pureQ
  rw [hS]
  have e1:rcells (.ag [.rw ko go d.i.length,.rw kw gw d.w.length])=[.rw ko go d.i.length,.rw kw gw d.w.length]:=rfl
  rw [e1,shutL,shutL,shutL]
  have e2:shutC ((ko,.rw go 2 (mapC itC d.i))::S) (.rw ko go d.i.length)=(ko,.sh go 2 (mapC itC d.i))::(ko,.rw go 2 (mapC itC d.i))::S:=by simp [shutC,gc_same]
  rw [e2]
  have up2:Up m hp ((ko,.sh go 2 (mapC itC d.i))::(ko,.rw go 2 (mapC itC d.i))::S):=up_in (up_in hup h4) h4
  rcases hkw with e | e
  .have e3:shutC ((ko,.sh go 2 (mapC itC d.i))::(ko,.rw go 2 (mapC itC d.i))::S) (.rw kw gw d.w.length)=(kw,.sh gw 10 (mapC wrC d.w))::(ko,.sh go 2 (mapC itC d.i))::(ko,.rw go 2 (mapC itC d.i))::S:=by
    simp [shutC,gc_ne _ _ hne,e]
   rw [e3]
   refine ⟨up_in up2 h5,?_⟩
   simp [cvR,cvA,pureL,pureC,gc_same,gc_ne _ _ hne,gc_ne _ _ (Ne.symm hne),mapC_len]
   rw [zlk (by rw [mapC_len];exact zna _),zlk (by rw [mapC_len];exact zna _)]
   exact ⟨rfl,rfl⟩
  .have e3:shutC ((ko,.sh go 2 (mapC itC d.i))::(ko,.rw go 2 (mapC itC d.i))::S) (.rw kw gw d.w.length)=(ko,.sh go 2 (mapC itC d.i))::(ko,.rw go 2 (mapC itC d.i))::S:=by
    simp [shutC,gc_ne _ _ hne,e]
   rw [e3]
   refine ⟨up2,?_⟩
   simp [cvR,cvA,pureL,pureC,gc_same,gc_ne _ _ hne,e,mapC_len]
   rw [zlk (by rw [mapC_len];exact zna _),zlk (by rw [mapC_len];exact zna _)]
   exact ⟨rfl,rfl⟩
theorem rCloneF_ok (d:Dat) (hd:d.Fit) (hw:d.w.length≤100000000000) (hp:CH) (m:Nat):MeetsF Tryz.prog 35 hp m [dx d] (dx d):=nest_pure (rclone_ok d hd hw hp m)
theorem set_cel (l:List Cel) (i:Nat) (c:Cel):(mapC celC l).set i [AV.s c.f,.s c.a,.i .i64 c.v.k,.i .i64 c.v.n,.s c.v.s,.ds (mapC valC c.v.items),.ds (stC c.v.keys)]=mapC celC (l.set i c):=by
 rw [show [AV.s c.f,.s c.a,.i .i64 c.v.k,.i .i64 c.v.n,.s c.v.s,.ds (mapC valC c.v.items),.ds (stC c.v.keys)]=celC c from rfl]
 simp [mapC,List.map_set]
attribute [go_sem] set_cel
/-! ### What a write makes of a dataset -/
def putC (l:List Cel) (c:Cel):List Cel:=if 0≤atI c.f c.a l then l.set (atI c.f c.a l).toNat c else l++[c]
def wrI (l:List Itm) (w:Wri):List Itm:=if 0≤w.i then (match l[w.i.toNat]? with | some x=>l.set w.i.toNat (.mk x.t (putC x.l w.c)) | none=>l) else l
def hits (f a:ByteArray) (w:Wri):Bool:=decide (w.f=f)&&decide (w.a=a)
def appS (f a:ByteArray) (l:List Itm) (w:Wri):List Itm:=if hits f a w=true then wrI l w else l
def argA (d:Dat) (f a:ByteArray):ByteArray:=if d.w.any (hits f a)=true then a else ⟨#[]⟩
def appL (f a:ByteArray) (ws:List Wri) (l:List Itm):List Itm:=ws.foldl (appS f a) l
def appV (d:Dat) (f a:ByteArray):Dat:=.mk (appL f (argA d f a) d.w d.i) d.w
theorem wrI_len (l:List Itm) (w:Wri):(wrI l w).length=l.length:=by
 unfold wrI
 split
 .split<;>simp
 .rfl
theorem appS_len (f a:ByteArray) (l:List Itm) (w:Wri):(appS f a l w).length=l.length:=by
 unfold appS
 split
 .exact wrI_len l w
 .rfl
theorem appL_len (f a:ByteArray) (ws:List Wri):∀l:List Itm,(appL f a ws l).length=l.length:=by
 induction ws with
 | nil=>intro l;rfl
 | cons w ws ih=>intro l;rw [appL,List.foldl_cons];exact (ih _).trans (appS_len f a l w)
theorem appL_step {f a:ByteArray} {ws:List Wri} {l:List Itm} {j:Nat} {w:Wri} (h:ws[j]?=some w):appL f a (ws.take (j+1)) l=appS f a (appL f a (ws.take j) l) w:=by
 unfold appL
 rw [←take_snoc h,List.foldl_append]
 rfl
theorem putC_len (l:List Cel) (c:Cel):(putC l c).length≤l.length+1:=by
 unfold putC
 split<;>simp
structure Dat.Fit2 (d:Dat):Prop where
 f:d.Fit
 w:d.w.length≤100000000000
 c:∀x∈d.i,x.l.length≤100000000000
theorem wrI_cells {l:List Itm} {w:Wri} {B:Nat} (h:∀x∈l,x.l.length≤B):∀x∈wrI l w,x.l.length≤B+1:=by
 unfold wrI
 split
 .split
  .rename_i x hx
   intro y hy
   rcases List.mem_or_eq_of_mem_set hy with hy | rfl
   .have:=h y hy;omega
   .have:=putC_len x.l w.c
    have:=h x (zla hx)
    rw [Itm.l_mk]
    omega
  .intro x hx;have:=h x hx;omega
 .intro x hx;have:=h x hx;omega
theorem appL_cells {f a:ByteArray}:∀{ws:List Wri} {l:List Itm} {B:Nat},(∀x∈l,x.l.length≤B)→∀x∈appL f a ws l,x.l.length≤B+ws.length
 | [],l,B,h=>h
 | w::ws,l,B,h=>fun x hx=>by
  rw [appL,List.foldl_cons] at hx
  have h1:∀x∈appS f a l w,x.l.length≤B+1:=by
   unfold appS
   split
   .exact wrI_cells h
   .intro x hx;have:=h x hx;omega
  have:=appL_cells (ws:=ws) h1 x hx
  rw [List.length_cons]
  omega
theorem Nst.set {H H':CH} {lo hi hi':Nat} {l:List Itm} {A:List (List AV)} (h:Nst H lo hi l A) {i:Nat} {x:Itm} {k g z:Nat} (ex:l[i]?=some x) (eA:A[i]?=some [.s x.t,.rw k g z]) (hh:hi≤hi') {l':List Cel} {g':Nat}
  (hk:gc H' k=.rw g' 7 (mapC celC l')) (he:∀j,lo≤j→j<hi→j≠k→(∃g c,gc H j=.rw g 7 c)→gc H' j=gc H j):Nst H' lo hi' (l.set i (.mk x.t l')) (A.set i [.s x.t,.rw k g' l'.length]):=by
 have hiA:i<A.length:=(zlb.1 eA).1
 have hil:i<l.length:=(zlb.1 ex).1
 have hrow:=h.row eA
 refine ⟨by simp [h.len],fun j y q=>?_,fun j j' t t' k1 g1 g2 z1 z2 e1 e2=>?_⟩
 .by_cases e:i=j
  .subst e
   rw [List.getElem?_set_self hil] at q
   cases q
   exact ⟨k,g',hrow.1,by omega,by rw [List.getElem?_set_self hiA];rfl,hk⟩
  .rw [List.getElem?_set_ne e] at q
   obtain ⟨k',g'',q1,q2,q3,q4⟩:=h.get j y q
   refine ⟨k',g'',q1,by omega,by rw [List.getElem?_set_ne e];exact q3,?_⟩
   rw [he k' q1 q2 (fun e2=>e (h.inj i j _ _ _ _ _ _ _ eA (by rw [e2] at q3;exact q3))) ⟨_,_,q4⟩]
   exact q4
 .have key:∀{j:Nat} {t:ByteArray} {k1 g1 z1:Nat},(A.set i [.s x.t,.rw k g' l'.length])[j]?=some [.s t,.rw k1 g1 z1]→∃t0 g0 z0,A[j]?=some [.s t0,.rw k1 g0 z0]:=fun {j t k1 g1 z1} q=>by
   by_cases e:i=j
   .subst e
    rw [List.getElem?_set_self hiA] at q
    simp only [Option.some.injEq,List.cons.injEq,AV.rw.injEq] at q
    exact ⟨_,_,_,by rw [eA,q.2.1.1]⟩
   .rw [List.getElem?_set_ne e] at q
    exact ⟨_,_,_,q⟩
  obtain ⟨t0,g0,z0,a1⟩:=key e1
  obtain ⟨t3,g3,z3,a2⟩:=key e2
  exact h.inj j j' _ _ _ _ _ _ _ a1 a2
end Go.Proofs.YtinbodeocoeneaaGreatDoor
