/- Proof. Conditions: none. -/
import Derived.Test.YtinbodeocoeneaaGreatDoorIs26
open Nat renaming reduceEqDiff→Za,reduceBEq→Zb,reduceAdd→Zc,reduceLeDiff→Zd,reduceLT→Ze,reduceMul→Zf,reduceSub→Zg
open Int renaming reduceEq→Zh,reduceLT→Zi,reduceLE→Zj,reduceToNat→Zk
open List renaming mem_of_getElem?→zla,getElem?_eq_some_iff→zlb,drop_length→zll
open Nat renaming le_refl→zna
namespace Go.Proofs.YtinbodeocoeneaaGreatDoor
open Go.Eng
set_option linter.all false
set_option maxRecDepth 20000
theorem root1_ok (x:Itm) (name:ByteArray) (c:Nat) (hp:CH) (m:Nat) (hc:gc hp c=.bx [.s name]):MeetsF Tryz.prog 93 hp m [ix' x,.bx c 0] (.b (decide (x.t=name))):=by
 refine meetsF Tryz.func93 (by kernel_rfl) cc93 cr93 rfl fun hf=>?_;unfold ck93
 have hlt:=bx_lt hf hc
 have z1:¬c=m:=by omega
 have z2:¬m=c:=by omega
 simp only [z1,z2,hc,go_sem,↓reduceIte,Za,Zb,Zc,Zd,Ze,reduceCtorEq,Zf,Zg,Zh,Zi,Zj,Zk]
theorem dRoot_ok (d:Dat) (hd:d.Fit) (name:ByteArray) (hp:CH) (m:Nat):MeetsF Tryz.prog 51 hp m [dx d,.s name] (resI (fidx (fun x:Itm=>decide (x.t=name)) d.i 0)):=by
 have h1:=hd.li
 obtain ⟨R,hR⟩:∃R,fidx (fun x:Itm=>decide (x.t=name)) d.i 0=R:=⟨_,rfl⟩
 have hfi:=first_itm d.i (fun x:Itm=>decide (x.t=name)) 93 [.bx (m+1) 0] (by omega)
 rw [hR] at hfi ⊢
 refine meetsF Tryz.func51 (by kernel_rfl) cc51 cr51 rfl fun hf=>?_;unfold ck51
 simp only [go_sem,↓reduceIte,Za,Zb,Zc,Zd,Ze,reduceCtorEq,Zf,Zg,Zh,Zi,Zj,Zk]
 refine vcCall.f (hfi _ _ fun x hx hp' n hn he=>root1_ok x name (m+1) hp' n ((he (m+1) (by omega)).trans (by simp only [go_sem,↓reduceIte,Za,Zb,Zc,Zd,Ze,reduceCtorEq,Zf,Zg,Zh,Zi,Zj,Zk]))) ?_
 simp only [go_sem,↓reduceIte,Za,Zb,Zc,Zd,Ze,reduceCtorEq,Zf,Zg,Zh,Zi,Zj,Zk]
theorem rRoot_ok (d:Dat) (hd:d.Fit) (name:ByteArray) (hp:CH) (m:Nat):MeetsF Tryz.prog 36 hp m [dx d,.s name] (resI (fidx (fun x:Itm=>decide (x.t=name)) d.i 0)):=by
 have h1:=hd.li
 obtain ⟨R,hR⟩:∃R,fidx (fun x:Itm=>decide (x.t=name)) d.i 0=R:=⟨_,rfl⟩
 rw [hR]
 refine meetsF Tryz.func36 (by kernel_rfl) cc36 cr36 rfl fun hf=>?_;unfold ck36
 simp only [go_sem,↓reduceIte,Za,Zb,Zc,Zd,Ze,reduceCtorEq,Zf,Zg,Zh,Zi,Zj,Zk]
 refine loop (fun p:Nat × Nat=>⟨[(1,.s name),(2,.bx m 0),(6,.i .i64 p.1)],(m,.bx [.ds (mapC itC d.i),.ds (mapC wrC d.w)])::hp,p.2⟩)
  (fun p=>p.1≤d.i.length∧m+1≤p.2∧R=fidx (fun x:Itm=>decide (x.t=name)) (d.i.drop p.1) p.1) (fun p=>d.i.length - p.1) (0,m+1) ?_ ?_ (fun ⟨j,n⟩ hj=>?_)
 .exact ⟨by simp,by simp,hR.symm⟩
 .refine weak_ok ?_ (Sub.refl _) (zna _)
  simp only [go_sem,↓reduceIte,Za,Zb,Zc,Zd,Ze,reduceCtorEq,Zf,Zg,Zh,Zi,Zj,Zk]
 dsimp only at hj
 obtain ⟨hj1,hj2,hj3⟩:=hj
 simp only [go_sem,↓reduceIte,Za,Zb,Zc,Zd,Ze,reduceCtorEq,Zf,Zg,Zh,Zi,Zj,Zk]
 refine cdK_of (fun q=>?_) (fun q=>?_)
 .have q:j<d.i.length:=by simpa using q
  obtain ⟨x,ex⟩:∃x,d.i[j]?=some x:=⟨d.i[j],by simp [q]⟩
  rw [drop_at ex,fidx] at hj3
  simp only [q,getK_s (mapC_get itC ex),go_sem,↓reduceIte,Za,Zb,Zc,Zd,Ze,reduceCtorEq,Zf,Zg,Zh,Zi,Zj,Zk]
  refine cdK_of (fun c1=>?_) (fun c1=>?_)
  .rw [if_pos c1] at hj3
   simp only [hj3,go_sem,↓reduceIte,Za,Zb,Zc,Zd,Ze,reduceCtorEq,Zf,Zg,Zh,Zi,Zj,Zk]
  .rw [if_neg (by simp [c1])] at hj3
   simp only [go_sem,↓reduceIte,Za,Zb,Zc,Zd,Ze,reduceCtorEq,Zf,Zg,Zh,Zi,Zj,Zk]
   refine ⟨(j+1,_),⟨by dsimp only;omega,by dsimp only;omega,hj3⟩,by dsimp only;omega,weak_ok ?_ (Sub.refl _) (zna _)⟩
   simp only [wr64s j (by omega),go_sem,↓reduceIte,Za,Zb,Zc,Zd,Ze,reduceCtorEq,Zf,Zg,Zh,Zi,Zj,Zk]
 .have q:j=d.i.length:=by simp at q;omega
  subst q
  rw [zll,fidx] at hj3
  simp only [hj3,go_sem,↓reduceIte,Za,Zb,Zc,Zd,Ze,reduceCtorEq,Zf,Zg,Zh,Zi,Zj,Zk]
def atI (f a:ByteArray) (l:List Cel):Int:=fidx (fun c:Cel=>decide (c.f=f)&&decide (c.a=a)) l 0
theorem fidx_lt {α:Type} (q:α→Bool):∀(l:List α) (j:Nat),fidx q l j=-1∨((j:Int)≤fidx q l j∧fidx q l j<(j+l.length:Nat))
 | [],j=>.inl rfl
 | x::r,j=>by
  rw [fidx]
  split
  .right;simp;omega
  .have:=fidx_lt q r (j+1)
   simp at this ⊢
   omega
theorem lookup1_ok (x:Cel) (f a:ByteArray) (c1 c2:Nat) (hp:CH) (m:Nat) (hc1:gc hp c1=.bx [.s f]) (hc2:gc hp c2=.bx [.s a]):MeetsF Tryz.prog 144 hp m [cx x,.bx c1 0,.bx c2 0] (.b (decide (x.f=f)&&decide (x.a=a))):=by
 refine meetsF Tryz.func144 (by kernel_rfl) cc144 cr144 rfl fun hf=>?_;unfold ck144
 have hlt:=bx_lt hf hc1
 have hlt2:=bx_lt hf hc2
 have z1:¬c1=m:=by omega
 have z2:¬m=c1:=by omega
 have z3:¬c2=m:=by omega
 have z4:¬m=c2:=by omega
 simp only [z1,z2,z3,z4,hc1,hc2,go_sem,↓reduceIte,Za,Zb,Zc,Zd,Ze,reduceCtorEq,Zf,Zg,Zh,Zi,Zj,Zk]
def cellV (l:List Cel) (i:Int):Val:=if 0≤i then (match l[i.toNat]? with | some c=>c.v | none=>zVal) else zVal
def lookX (l:List Cel) (f a:ByteArray):Val:=if 0≤atI f a l then cellV l (atI f a l) else cellV l (atI f ⟨#[]⟩ l)
def lookV (d:Dat) (i:Int) (f a:ByteArray):Val:=if i<0∨(d.i.length:Int)≤i then zVal else (match d.i[i.toNat]? with | some x=>lookX x.l f a | none=>zVal)
theorem at_cell {l:List Cel} {f a:ByteArray} (h:0≤atI f a l):∃(j:Nat) (c:Cel),atI f a l=j∧l[j]?=some c∧cellV l (atI f a l)=c.v:=by
 have h2:=fidx_lt (fun c:Cel=>decide (c.f=f)&&decide (c.a=a)) l 0
 have h3:atI f a l<l.length:=by unfold atI at h ⊢;simp at h2;omega
 refine ⟨(atI f a l).toNat,l[(atI f a l).toNat]'(by omega),by omega,by simp,?_⟩
 rw [cellV,if_pos h]
 have:l[(atI f a l).toNat]?=some (l[(atI f a l).toNat]'(by omega)):=by simp
 rw [this]
theorem dLookup_ok (d:Dat) (hd:d.Fit) (i:Int) (f a:ByteArray) (hp:CH) (m:Nat):MeetsF Tryz.prog 100 hp m [dx d,.i .i64 i,.s f,.s a] (vx (lookV d i f a)):=by
 have h1:=hd.li
 obtain ⟨R,hR⟩:∃R,lookV d i f a=R:=⟨_,rfl⟩
 have e:=hR
 rw [lookV] at e
 rw [hR]
 refine meetsF Tryz.func100 (by kernel_rfl) cc100 cr100 rfl fun hf=>?_;unfold ck100
 simp only [go_sem,↓reduceIte,Za,Zb,Zc,Zd,Ze,reduceCtorEq,Zf,Zg,Zh,Zi,Zj,Zk]
 refine cdK_of (fun c=>?_) (fun c=>?_)
 .have c:i<0∨(d.i.length:Int)≤i:=by simpa using c
  rw [if_pos c] at e
  subst e
  simp only [go_sem,↓reduceIte,Za,Zb,Zc,Zd,Ze,reduceCtorEq,Zf,Zg,Zh,Zi,Zj,Zk]
  try rfl
 have c:¬(i<0∨(d.i.length:Int)≤i):=by simpa using c
 rw [if_neg c] at e
 obtain ⟨j,rfl⟩:∃j:Nat,i=j:=⟨i.toNat,by omega⟩
 have q:j<d.i.length:=by omega
 obtain ⟨x,ex⟩:∃x,d.i[j]?=some x:=⟨d.i[j],by simp [q]⟩
 have hl:=hd.ll (zla ex)
 have hcf:=fun c hc=>hd.c (zla ex) (c:=c) hc
 simp only [Int.toNat_natCast,ex] at e
 simp only [q,getK_s (mapC_get itC ex),go_sem,↓reduceIte,Za,Zb,Zc,Zd,Ze,reduceCtorEq,Zf,Zg,Zh,Zi,Zj,Zk]
 refine loop (fun p:Nat × Nat=>⟨[(6,.bx (m+1) 0),(8,.bx (m+2) 0),(9,.ds (mapC celC x.l)),(31,.ag [.s a,.s ⟨#[]⟩]),(32,.i .i64 p.1)],
   (m+2,.bx [.i .i64 0,.i .i64 0,.s ⟨#[]⟩,.e0,.e0])::(m+1,.bx [.s f])::(m,.bx [.ds (mapC itC d.i),.ds (mapC wrC d.w)])::hp,p.2⟩)
  (fun p=>p.1≤2∧m+3≤p.2∧(1≤p.1→¬0≤atI f a x.l)∧(2≤p.1→¬0≤atI f ⟨#[]⟩ x.l)) (fun p=>2 - p.1) (0,m+3) ?_ ?_ (fun ⟨k,n⟩ hj=>?_)
 .exact ⟨by simp,by simp,by simp,by simp⟩
 .refine weak_ok ?_ (Sub.refl _) (zna _)
  simp only [go_sem,↓reduceIte,Za,Zb,Zc,Zd,Ze,reduceCtorEq,Zf,Zg,Zh,Zi,Zj,Zk]
 dsimp only at hj
 obtain ⟨hj1,hj2,hj3,hj4⟩:=hj
 have z1:¬n=m:=by omega
 have z2:¬n=m+1:=by omega
 have z3:¬n=m+2:=by omega
 have z4:m≤n:=by omega
 have z5:¬m+1=n:=by omega
 have z6:¬m+2=n:=by omega
 have w1:IntKind.i64.wrap (0+1)=1:=by decide
 have w2:IntKind.i64.wrap (1+1)=2:=by decide
 simp only [z1,z2,z3,z4,z5,z6,go_sem,↓reduceIte,Za,Zb,Zc,Zd,Ze,reduceCtorEq,Zf,Zg,Zh,Zi,Zj,Zk]
 refine cdK_of (fun p=>?_) (fun p=>?_)
 .have p:k<2:=by simp at p;omega
  have hk:k=0∨k=1:=by omega
  rcases hk with hk | hk
  .subst hk
   have hl0:0≤atI f a x.l→lookX x.l f a=cellV x.l (atI f a x.l):=fun h=>by rw [lookX,if_pos h]
   have hfi:=first_cel x.l (fun c:Cel=>decide (c.f=f)&&decide (c.a=a)) 144 [.bx (m+1) 0,.bx n 0] (by omega)
   rw [show fidx (fun c:Cel=>decide (c.f=f)&&decide (c.a=a)) x.l 0=atI f a x.l from rfl] at hfi
   simp only [z1,z2,z3,z4,z5,z6,go_sem,↓reduceIte,Za,Zb,Zc,Zd,Ze,reduceCtorEq,Zf,Zg,Zh,Zi,Zj,Zk]
   refine vcCall.f (hfi _ _ fun y hy hp' n' hn he=>lookup1_ok y f a (m+1) n hp' n' ((he (m+1) (by omega)).trans (by simp only [z1,z2,z3,z4,z5,z6,go_sem,↓reduceIte,Za,Zc,reduceCtorEq])) ((he n (by omega)).trans (by simp only [z1,z2,z3,z4,z5,z6,go_sem,↓reduceIte,Za,Zc,reduceCtorEq]))) ?_
   simp only [z1,z2,z3,z4,z5,z6,go_sem,↓reduceIte,Za,Zb,Zc,Zd,Ze,reduceCtorEq,Zf,Zg,Zh,Zi,Zj,Zk]
   refine cdK_of (fun c1=>?_) (fun c1=>?_)
   .have c1:0≤atI f a x.l:=by simpa using c1
    obtain ⟨b,y,e1,ey,e2⟩:=at_cell c1
    have hb:b<x.l.length:=(zlb.1 ey).1
    rw [hl0 c1,e2] at e
    rw [e1]
    simp only [z1,z2,z3,z4,z5,z6,hb,getK_s (mapC_get celC ey),go_sem,↓reduceIte,Za,Zb,Zc,Zd,Ze,reduceCtorEq,Zf,Zg,Zh,Zi,Zj,Zk]
    refine vcCall.f (copy_ok y.v (hcf y (zla ey)) _ _) ?_
    simp only [z1,z2,z3,z4,z5,z6,go_sem,↓reduceIte,Za,Zb,Zc,Zd,Ze,reduceCtorEq,Zf,Zg,Zh,Zi,Zj,Zk]
    rw [e]
   .have c1:¬0≤atI f a x.l:=by simpa using c1
    simp only [z1,z2,z3,z4,z5,z6,go_sem,↓reduceIte,Za,Zb,Zc,Zd,Ze,reduceCtorEq,Zf,Zg,Zh,Zi,Zj,Zk]
    refine ⟨(1,_),⟨by dsimp only;omega,by dsimp only;omega,fun _=>c1,fun h=>absurd h (by simp)⟩,by dsimp only;omega,weak_ok ?_ (Sub.cons ?_ (Sub.cons ?_ (Sub.cons ?_ (Sub.base hf ?_)))) (zna _)⟩
    all_goals
     simp only [z1,z2,z3,z4,z5,z6,w1,w2,go_sem,↓reduceIte,Za,Zb,Zc,Zd,Ze,reduceCtorEq,Zf,Zg,Zh,Zi,Zj,Zk]
  .subst hk
   have hl0:0≤atI f ⟨#[]⟩ x.l→lookX x.l f a=cellV x.l (atI f ⟨#[]⟩ x.l):=fun _=>by rw [lookX,if_neg (hj3 (by simp))]
   have hfi:=first_cel x.l (fun c:Cel=>decide (c.f=f)&&decide (c.a=⟨#[]⟩)) 144 [.bx (m+1) 0,.bx n 0] (by omega)
   rw [show fidx (fun c:Cel=>decide (c.f=f)&&decide (c.a=⟨#[]⟩)) x.l 0=atI f ⟨#[]⟩ x.l from rfl] at hfi
   simp only [z1,z2,z3,z4,z5,z6,go_sem,↓reduceIte,Za,Zb,Zc,Zd,Ze,reduceCtorEq,Zf,Zg,Zh,Zi,Zj,Zk]
   refine vcCall.f (hfi _ _ fun y hy hp' n' hn he=>lookup1_ok y f ⟨#[]⟩ (m+1) n hp' n' ((he (m+1) (by omega)).trans (by simp only [z1,z2,z3,z4,z5,z6,go_sem,↓reduceIte,Za,Zc,reduceCtorEq])) ((he n (by omega)).trans (by simp only [z1,z2,z3,z4,z5,z6,go_sem,↓reduceIte,Za,Zc,reduceCtorEq]))) ?_
   simp only [z1,z2,z3,z4,z5,z6,go_sem,↓reduceIte,Za,Zb,Zc,Zd,Ze,reduceCtorEq,Zf,Zg,Zh,Zi,Zj,Zk]
   refine cdK_of (fun c1=>?_) (fun c1=>?_)
   .have c1:0≤atI f ⟨#[]⟩ x.l:=by simpa using c1
    obtain ⟨b,y,e1,ey,e2⟩:=at_cell c1
    have hb:b<x.l.length:=(zlb.1 ey).1
    rw [hl0 c1,e2] at e
    rw [e1]
    simp only [z1,z2,z3,z4,z5,z6,hb,getK_s (mapC_get celC ey),go_sem,↓reduceIte,Za,Zb,Zc,Zd,Ze,reduceCtorEq,Zf,Zg,Zh,Zi,Zj,Zk]
    refine vcCall.f (copy_ok y.v (hcf y (zla ey)) _ _) ?_
    simp only [z1,z2,z3,z4,z5,z6,go_sem,↓reduceIte,Za,Zb,Zc,Zd,Ze,reduceCtorEq,Zf,Zg,Zh,Zi,Zj,Zk]
    rw [e]
   .have c1:¬0≤atI f ⟨#[]⟩ x.l:=by simpa using c1
    simp only [z1,z2,z3,z4,z5,z6,go_sem,↓reduceIte,Za,Zb,Zc,Zd,Ze,reduceCtorEq,Zf,Zg,Zh,Zi,Zj,Zk]
    refine ⟨(2,_),⟨by dsimp only;omega,by dsimp only;omega,fun _=>hj3 (by simp),fun _=>c1⟩,by dsimp only;omega,weak_ok ?_ (Sub.cons ?_ (Sub.cons ?_ (Sub.cons ?_ (Sub.base hf ?_)))) (zna _)⟩
    all_goals
     simp only [z1,z2,z3,z4,z5,z6,w1,w2,go_sem,↓reduceIte,Za,Zb,Zc,Zd,Ze,reduceCtorEq,Zf,Zg,Zh,Zi,Zj,Zk]
 .have p:k=2:=by simp at p;omega
  subst p
  have h3:=hj3 (by simp)
  have h4:=hj4 (by simp)
  rw [lookX,if_neg h3,cellV,if_neg h4] at e
  subst e
  simp only [z1,z2,z3,z4,z5,z6,go_sem,↓reduceIte,Za,Zb,Zc,Zd,Ze,reduceCtorEq,Zf,Zg,Zh,Zi,Zj,Zk]
  try rfl
theorem at_ok (l:List Cel) (hl:l.length≤1256584717421) (f a:ByteArray) (hp:CH) (m:Nat):MeetsF Tryz.prog 116 hp m [.ds (mapC celC l),.s f,.s a] (.i .i64 (atI f a l)):=by
 obtain ⟨R,hR⟩:∃R,atI f a l=R:=⟨_,rfl⟩
 rw [hR]
 refine meetsF Tryz.func116 (by kernel_rfl) cc116 cr116 rfl fun hf=>?_;unfold ck116
 simp only [go_sem,↓reduceIte,Za,Zb,Zc,Zd,Ze,reduceCtorEq,Zf,Zg,Zh,Zi,Zj,Zk]
 refine loop (fun p:Nat × Nat=>⟨[(0,.ds (mapC celC l)),(1,.s f),(2,.s a),(7,.i .i64 p.1)],hp,p.2⟩)
  (fun p=>p.1≤l.length∧m≤p.2∧R=fidx (fun c:Cel=>decide (c.f=f)&&decide (c.a=a)) (l.drop p.1) p.1) (fun p=>l.length - p.1) (0,m) ?_ ?_ (fun ⟨j,n⟩ hj=>?_)
 .exact ⟨by simp,by simp,hR.symm⟩
 .refine weak_ok ?_ (Sub.refl _) (zna _)
  simp only [go_sem,↓reduceIte,Za,Zb,Zc,Zd,Ze,reduceCtorEq,Zf,Zg,Zh,Zi,Zj,Zk]
 dsimp only at hj
 obtain ⟨hj1,hj2,hj3⟩:=hj
 simp only [go_sem,↓reduceIte,Za,Zb,Zc,Zd,Ze,reduceCtorEq,Zf,Zg,Zh,Zi,Zj,Zk]
 refine cdK_of (fun q=>?_) (fun q=>?_)
 .have q:j<l.length:=by simpa using q
  obtain ⟨x,ex⟩:∃x,l[j]?=some x:=⟨l[j],by simp [q]⟩
  rw [drop_at ex,fidx] at hj3
  simp only [q,getK_s (mapC_get celC ex),go_sem,↓reduceIte,Za,Zb,Zc,Zd,Ze,reduceCtorEq,Zf,Zg,Zh,Zi,Zj,Zk]
  refine grK_of (fun g=>?_) (fun g=>?_)
  .rw [g,Bool.true_and] at hj3
   simp only [q,g,getK_s (mapC_get celC ex),go_sem,↓reduceIte,Za,Zb,Zc,Zd,Ze,reduceCtorEq,Zf,Zg,Zh,Zi,Zj,Zk]
   refine cdK_of (fun g2=>?_) (fun g2=>?_)
   .rw [if_pos g2] at hj3
    subst hj3
    simp only [go_sem,↓reduceIte,Za,Zb,Zc,Zd,Ze,reduceCtorEq,Zf,Zg,Zh,Zi,Zj,Zk]
   .rw [if_neg (by simp [g2])] at hj3
    simp only [go_sem,↓reduceIte,Za,Zb,Zc,Zd,Ze,reduceCtorEq,Zf,Zg,Zh,Zi,Zj,Zk]
    refine ⟨(j+1,_),⟨by dsimp only;omega,by dsimp only;omega,hj3⟩,by dsimp only;omega,weak_ok ?_ (Sub.refl _) (zna _)⟩
    simp only [wr64s j (by omega),go_sem,↓reduceIte,Za,Zb,Zc,Zd,Ze,reduceCtorEq,Zf,Zg,Zh,Zi,Zj,Zk]
  .rw [g,Bool.false_and,if_neg (by simp)] at hj3
   simp only [q,g,go_sem,↓reduceIte,Za,Zb,Zc,Zd,Ze,reduceCtorEq,Zf,Zg,Zh,Zi,Zj,Zk]
   refine ⟨(j+1,_),⟨by dsimp only;omega,by dsimp only;omega,hj3⟩,by dsimp only;omega,weak_ok ?_ (Sub.refl _) (zna _)⟩
   simp only [wr64s j (by omega),go_sem,↓reduceIte,Za,Zb,Zc,Zd,Ze,reduceCtorEq,Zf,Zg,Zh,Zi,Zj,Zk]
 .have q:j=l.length:=by simp at q;omega
  subst q
  rw [zll,fidx] at hj3
  simp only [hj3,go_sem,↓reduceIte,Za,Zb,Zc,Zd,Ze,reduceCtorEq,Zf,Zg,Zh,Zi,Zj,Zk]
theorem rLookup_ok (d:Dat) (hd:d.Fit) (i:Int) (f a:ByteArray) (hp:CH) (m:Nat):MeetsF Tryz.prog 81 hp m [dx d,.i .i64 i,.s f,.s a] (vx (lookV d i f a)):=by
 have h1:=hd.li
 obtain ⟨R,hR⟩:∃R,lookV d i f a=R:=⟨_,rfl⟩
 have e:=hR
 rw [lookV] at e
 rw [hR]
 refine meetsF Tryz.func81 (by kernel_rfl) cc81 cr81 rfl fun hf=>?_;unfold ck81
 simp only [go_sem,↓reduceIte,Za,Zb,Zc,Zd,Ze,reduceCtorEq,Zf,Zg,Zh,Zi,Zj,Zk]
 refine cdK_of (fun c=>?_) (fun c=>?_)
 .have c:i<0∨(d.i.length:Int)≤i:=by simpa using c
  rw [if_pos c] at e
  subst e
  simp only [go_sem,↓reduceIte,Za,Zb,Zc,Zd,Ze,reduceCtorEq,Zf,Zg,Zh,Zi,Zj,Zk]
  try rfl
 have c:¬(i<0∨(d.i.length:Int)≤i):=by simpa using c
 rw [if_neg c] at e
 obtain ⟨j,rfl⟩:∃j:Nat,i=j:=⟨i.toNat,by omega⟩
 have q:j<d.i.length:=by omega
 obtain ⟨x,ex⟩:∃x,d.i[j]?=some x:=⟨d.i[j],by simp [q]⟩
 have hl:=hd.ll (zla ex)
 have hcf:=fun c hc=>hd.c (zla ex) (c:=c) hc
 simp only [Int.toNat_natCast,ex] at e
 simp only [q,getK_s (mapC_get itC ex),go_sem,↓reduceIte,Za,Zb,Zc,Zd,Ze,reduceCtorEq,Zf,Zg,Zh,Zi,Zj,Zk]
 refine vcCall.f (at_ok x.l hl _ _ _ _) ?_
 simp only [go_sem,↓reduceIte,Za,Zb,Zc,Zd,Ze,reduceCtorEq,Zf,Zg,Zh,Zi,Zj,Zk]
 refine cdK_of (fun c1=>?_) (fun c1=>?_)
 .have c1:¬0≤atI f a x.l:=by simp at c1;omega
  rw [lookX,if_neg c1] at e
  simp only [go_sem,↓reduceIte,Za,Zb,Zc,Zd,Ze,reduceCtorEq,Zf,Zg,Zh,Zi,Zj,Zk]
  refine vcCall.f (at_ok x.l hl _ _ _ _) ?_
  simp only [go_sem,↓reduceIte,Za,Zb,Zc,Zd,Ze,reduceCtorEq,Zf,Zg,Zh,Zi,Zj,Zk]
  refine cdK_of (fun c2=>?_) (fun c2=>?_)
  .have c2:¬0≤atI f ⟨#[]⟩ x.l:=by simp at c2;omega
   rw [cellV,if_neg c2] at e
   subst e
   simp only [go_sem,↓reduceIte,Za,Zb,Zc,Zd,Ze,reduceCtorEq,Zf,Zg,Zh,Zi,Zj,Zk]
   try rfl
  .have c2:0≤atI f ⟨#[]⟩ x.l:=by simp at c2;omega
   obtain ⟨b,y,e1,ey,e2⟩:=at_cell c2
   rw [e2] at e
   rw [e1]
   have hb:b<x.l.length:=(zlb.1 ey).1
   simp only [hb,getK_s (mapC_get celC ey),go_sem,↓reduceIte,Za,Zb,Zc,Zd,Ze,reduceCtorEq,Zf,Zg,Zh,Zi,Zj,Zk]
   refine vcCall.f (rcopy_ok y.v (hcf y (zla ey)) _ _) ?_
   simp only [go_sem,↓reduceIte,Za,Zb,Zc,Zd,Ze,reduceCtorEq,Zf,Zg,Zh,Zi,Zj,Zk]
   rw [e]
 .have c1:0≤atI f a x.l:=by simp at c1;omega
  rw [lookX,if_pos c1] at e
  obtain ⟨b,y,e1,ey,e2⟩:=at_cell c1
  rw [e2] at e
  rw [e1]
  have hb:b<x.l.length:=(zlb.1 ey).1
  have hb0:¬(b:Int)<0:=by omega
  simp only [hb,hb0,getK_s (mapC_get celC ey),go_sem,↓reduceIte,Za,Zb,Zc,Zd,Ze,reduceCtorEq,Zf,Zg,Zh,Zi,Zj,Zk]
  refine vcCall.f (rcopy_ok y.v (hcf y (zla ey)) _ _) ?_
  simp only [go_sem,↓reduceIte,Za,Zb,Zc,Zd,Ze,reduceCtorEq,Zf,Zg,Zh,Zi,Zj,Zk]
  rw [e]
def lgC:List Cel→Int→Int
 | [],n=>n
 | c::r,n=>if n≤600 then lgC r (IntKind.i64.wrap (n+szV c.v)) else n
def lgI:List Itm→Int→Int
 | [],n=>n
 | x::r,n=>lgI r (lgC x.l (IntKind.i64.wrap (n+x.l.length)))
def lgD (d:Dat):Bool:=decide (60<(d.i.length:Int))||decide (60<(d.w.length:Int))||decide (600<lgI d.i 0)
theorem large_ok (d:Dat) (hd:d.Fit) (hp:CH) (m:Nat):MeetsF Tryz.prog 45 hp m [dx d] (.b (lgD d)):=by
 have h1:=hd.li
 obtain ⟨R,hR⟩:∃R,lgD d=R:=⟨_,rfl⟩
 have e:=hR
 rw [lgD] at e
 rw [hR]
 obtain ⟨N,hN⟩:∃N,lgI d.i 0=N:=⟨_,rfl⟩
 rw [hN] at e
 refine meetsF Tryz.func45 (by kernel_rfl) cc45 cr45 rfl fun hf=>?_;unfold ck45
 simp only [go_sem,↓reduceIte,Za,Zb,Zc,Zd,Ze,reduceCtorEq,Zf,Zg,Zh,Zi,Zj,Zk]
 refine cdK_of (fun c=>?_) (fun c=>?_)
 .rw [c,Bool.true_or] at e
  subst e
  simp only [go_sem,↓reduceIte,Za,Zb,Zc,Zd,Ze,reduceCtorEq,Zf,Zg,Zh,Zi,Zj,Zk]
 rw [c,Bool.false_or] at e
 subst e
 simp only [go_sem,↓reduceIte,Za,Zb,Zc,Zd,Ze,reduceCtorEq,Zf,Zg,Zh,Zi,Zj,Zk]
 refine loop (fun p:Nat × Int × Nat=>⟨[(1,.bx m 0),(3,.i .i64 p.2.1),(4,.i .i64 p.1)],(m,.bx [.ds (mapC itC d.i),.ds (mapC wrC d.w)])::hp,p.2.2⟩)
  (fun p=>p.1≤d.i.length∧m+1≤p.2.2∧N=lgI (d.i.drop p.1) p.2.1) (fun p=>d.i.length - p.1) (0,0,m+1) ?_ ?_ (fun ⟨j,a,n⟩ hj=>?_)
 .exact ⟨by simp,by simp,hN.symm⟩
 .refine weak_ok ?_ (Sub.refl _) (zna _)
  simp only [go_sem,↓reduceIte,Za,Zb,Zc,Zd,Ze,reduceCtorEq,Zf,Zg,Zh,Zi,Zj,Zk]
 dsimp only at hj
 obtain ⟨hj1,hj2,hj3⟩:=hj
 have z1:¬n=m:=by omega
 have z2:m≤n:=by omega
 simp only [z1,z2,go_sem,↓reduceIte,Za,Zb,Zc,Zd,Ze,reduceCtorEq,Zf,Zg,Zh,Zi,Zj,Zk]
 refine cdK_of (fun q=>?_) (fun q=>?_)
 .have q:j<d.i.length:=by simpa using q
  obtain ⟨x,ex⟩:∃x,d.i[j]?=some x:=⟨d.i[j],by simp [q]⟩
  have hx:=zla ex
  have hl:=hd.ll hx
  rw [drop_at ex,lgI] at hj3
  obtain ⟨C,hC⟩:∃C,lgC x.l (IntKind.i64.wrap (a+x.l.length))=C:=⟨_,rfl⟩
  rw [hC] at hj3
  simp only [z1,z2,q,getK_s (mapC_get itC ex),go_sem,↓reduceIte,Za,Zb,Zc,Zd,Ze,reduceCtorEq,Zf,Zg,Zh,Zi,Zj,Zk]
  refine loop (fun p:Nat × Int × Nat=>⟨[(1,.bx m 0),(3,.i .i64 p.2.1),(4,.i .i64 j),(5,.i .i64 p.1)],(m,.bx [.ds (mapC itC d.i),.ds (mapC wrC d.w)])::hp,p.2.2⟩)
   (fun p=>p.1≤x.l.length∧m+1≤p.2.2∧C=lgC (x.l.drop p.1) p.2.1) (fun p=>x.l.length - p.1) (0,IntKind.i64.wrap (a+x.l.length),n) ?_ ?_ (fun ⟨i,b,n⟩ hi=>?_)
  .exact ⟨by simp,hj2,hC.symm⟩
  .refine weak_ok ?_ (Sub.refl _) (zna _)
   simp only [z1,z2,go_sem,↓reduceIte,Za,Zb,Zc,Zd,Ze,reduceCtorEq,Zf,Zg,Zh,Zi,Zj,Zk]
  dsimp only at hi
  obtain ⟨hi1,hi2,hi3⟩:=hi
  have z1:¬n=m:=by omega
  have z2:m≤n:=by omega
  simp only [z1,z2,q,getK_s (mapC_get itC ex),go_sem,↓reduceIte,Za,Zb,Zc,Zd,Ze,reduceCtorEq,Zf,Zg,Zh,Zi,Zj,Zk]
  refine cdK_of (fun p=>?_) (fun p=>?_)
  .simp only [Bool.and_eq_true,decide_eq_true_eq] at p
   obtain ⟨p1,p2⟩:=p
   have p1:i<x.l.length:=by omega
   obtain ⟨y,ey⟩:∃y,x.l[i]?=some y:=⟨x.l[i],by simp [p1]⟩
   have hy:=zla ey
   rw [drop_at ey,lgC,if_pos p2] at hi3
   simp only [z1,z2,q,p1,getK_s (mapC_get itC ex),getK_s (mapC_get celC ey),go_sem,↓reduceIte,Za,Zb,Zc,Zd,Ze,reduceCtorEq,Zf,Zg,Zh,Zi,Zj,Zk]
   refine vcCall.f (size_ok y.v (hd.c hx hy) _ _) ?_
   simp only [z1,z2,go_sem,↓reduceIte,Za,Zb,Zc,Zd,Ze,reduceCtorEq,Zf,Zg,Zh,Zi,Zj,Zk]
   refine ⟨(i+1,IntKind.i64.wrap (b+szV y.v),_),⟨by dsimp only;omega,by dsimp only;omega,hi3⟩,by dsimp only;omega,weak_ok ?_ (Sub.refl _) (zna _)⟩
   simp only [z1,z2,wr64s i (by omega),go_sem,↓reduceIte,Za,Zb,Zc,Zd,Ze,reduceCtorEq,Zf,Zg,Zh,Zi,Zj,Zk]
  .have e2:C=b:=by
    simp only [Bool.and_eq_false_iff,decide_eq_false_iff_not] at p
    rw [hi3]
    rcases Nat.lt_or_ge i x.l.length with p1 | p1
    .obtain ⟨y,ey⟩:∃y,x.l[i]?=some y:=⟨x.l[i],by simp [p1]⟩
     rw [drop_at ey,lgC,if_neg (by omega)]
    .rw [List.drop_eq_nil_of_le p1,lgC]
   rw [e2] at hj3
   simp only [z1,z2,go_sem,↓reduceIte,Za,Zb,Zc,Zd,Ze,reduceCtorEq,Zf,Zg,Zh,Zi,Zj,Zk]
   refine ⟨(j+1,b,_),⟨by dsimp only;omega,by dsimp only;omega,hj3⟩,by dsimp only;omega,weak_ok ?_ (Sub.refl _) (zna _)⟩
   simp only [z1,z2,wr64s j (by omega),go_sem,↓reduceIte,Za,Zb,Zc,Zd,Ze,reduceCtorEq,Zf,Zg,Zh,Zi,Zj,Zk]
 .have q:j=d.i.length:=by simp at q;omega
  subst q
  rw [zll,lgI] at hj3
  subst hj3
  simp only [z1,z2,go_sem,↓reduceIte,Za,Zb,Zc,Zd,Ze,reduceCtorEq,Zf,Zg,Zh,Zi,Zj,Zk]
inductive Arg where
 | mk (n:ByteArray) (v:Val)
def Arg.n:Arg→ByteArray | .mk n _=>n
theorem Arg.n_mk (n:ByteArray) (v:Val):(Arg.mk n v).n=n:=rfl
def Arg.v:Arg→Val | .mk _ v=>v
theorem Arg.v_mk (n:ByteArray) (v:Val):(Arg.mk n v).v=v:=rfl
theorem Arg.eta (x:Arg):Arg.mk x.n x.v=x:=by cases x;rfl
theorem Arg.ext {x y:Arg} (h0:x.n=y.n) (h1:x.v=y.v):x=y:=by cases x;cases y;simp only [Arg.n_mk,Arg.v_mk] at *;simp [*]
attribute [go_sem] Arg.n_mk Arg.v_mk
attribute [grind =] Arg.n_mk Arg.v_mk
attribute [ext] Arg.ext
attribute [grind ext] Arg.ext
def argC (x:Arg):List AV:=[.s x.n,.i .i64 x.v.k,.i .i64 x.v.n,.s x.v.s,.ds (mapC valC x.v.items),.ds (stC x.v.keys)]
inductive Pk where
 | mk (key on name:ByteArray) (args:List Arg) (tn:ByteArray) (tw:List Int) (label:ByteArray) (initial:Int) (picks:List Pk)
def Pk.key:Pk→ByteArray | .mk x _ _ _ _ _ _ _ _=>x
def Pk.on:Pk→ByteArray | .mk _ x _ _ _ _ _ _ _=>x
def Pk.name:Pk→ByteArray | .mk _ _ x _ _ _ _ _ _=>x
def Pk.args:Pk→List Arg | .mk _ _ _ x _ _ _ _ _=>x
def Pk.tn:Pk→ByteArray | .mk _ _ _ _ x _ _ _ _=>x
def Pk.tw:Pk→List Int | .mk _ _ _ _ _ x _ _ _=>x
def Pk.label:Pk→ByteArray | .mk _ _ _ _ _ _ x _ _=>x
def Pk.initial:Pk→Int | .mk _ _ _ _ _ _ _ x _=>x
def Pk.picks:Pk→List Pk | .mk _ _ _ _ _ _ _ _ x=>x
mutual
def pkC:Pk→List AV
 | .mk k o n a tn tw l i p=>[.s k,.s o,.s n,.ds (mapC argC a),.s tn,.ds (mapC in1 tw),.s l,.i .i64 i,.ds (pksC p)]
def pksC:List Pk→List (List AV)
 | []=>[]
 | p::r=>pkC p::pksC r
end
theorem pksC_eq (l:List Pk):pksC l=mapC pkC l:=by
 induction l with
 | nil=>rfl
 | cons v l ih=>rw [pksC,mapC_cons,ih]
theorem pkC_eq (p:Pk):pkC p=[.s p.key,.s p.on,.s p.name,.ds (mapC argC p.args),.s p.tn,.ds (mapC in1 p.tw),.s p.label,.i .i64 p.initial,.ds (mapC pkC p.picks)]:=by
 cases p
 rw [pkC,pksC_eq]
 rfl
attribute [go_sem] pkC_eq
theorem Pk.picks_lt (v x:Pk) (h:x∈v.picks):SizeOf.sizeOf x<SizeOf.sizeOf v:=by
 cases v
 have:=List.sizeOf_lt_of_mem h
 simp only [Pk.picks] at this
 simp
 omega
theorem Pk.ind {Q:Pk→Prop} (h:∀v,(∀x∈v.picks,Q x)→Q v) (v:Pk):Q v:=h v fun x hx=>Pk.ind h x
termination_by SizeOf.sizeOf v
decreasing_by exact Pk.picks_lt v x hx
def txV (s:ByteArray):Val:=.mk 3 0 s [] []
theorem text_ok (s:ByteArray) (hp:CH) (m:Nat):MeetsF Tryz.prog 61 hp m [.s s] (vx (txV s)):=by
 refine meetsF Tryz.func61 (by kernel_rfl) cc61 cr61 rfl fun hf=>?_;unfold ck61
 simp only [go_sem,↓reduceIte,Za,Zb,Zc,Zd,Ze,reduceCtorEq,Zf,Zg,Zh,Zi,Zj,Zk]
 rfl
theorem tx_fit (s:ByteArray):(txV s).Fit:=.mk _ (by simp [txV,Val.items_mk]) (by simp [txV,Val.keys_mk]) (by simp [txV,Val.items_mk])
inductive Ky where
 | mk (t:ByteArray) (g:Int) (l:List ByteArray)
def Ky.t:Ky→ByteArray | .mk t _ _=>t
theorem Ky.t_mk (t:ByteArray) (g:Int) (l:List ByteArray):(Ky.mk t g l).t=t:=rfl
def Ky.g:Ky→Int | .mk _ g _=>g
theorem Ky.g_mk (t:ByteArray) (g:Int) (l:List ByteArray):(Ky.mk t g l).g=g:=rfl
def Ky.l:Ky→List ByteArray | .mk _ _ l=>l
theorem Ky.l_mk (t:ByteArray) (g:Int) (l:List ByteArray):(Ky.mk t g l).l=l:=rfl
theorem Ky.eta (x:Ky):Ky.mk x.t x.g x.l=x:=by cases x;rfl
theorem Ky.ext {x y:Ky} (h0:x.t=y.t) (h1:x.g=y.g) (h2:x.l=y.l):x=y:=by cases x;cases y;simp only [Ky.t_mk,Ky.g_mk,Ky.l_mk] at *;simp [*]
def kyC (x:Ky):List AV:=[.s x.t,.i .i64 x.g,.ds (stC x.l)]
attribute [go_sem] kyC Ky.t_mk Ky.g_mk Ky.l_mk
attribute [grind =] Ky.t_mk Ky.g_mk Ky.l_mk
attribute [ext] Ky.ext
attribute [grind ext] Ky.ext
def typD (d:Dat) (i:Int):ByteArray:=((d.i[i.toNat]?).map Itm.t).getD ⟨#[]⟩
theorem typD_at {d:Dat} {j:Nat} {x:Itm} (h:d.i[j]?=some x):typD d j=x.t:=by rw [typD,Int.toNat_natCast,h];rfl
noncomputable def leafV (v:Val):Bool:=decide (1≤v.k)&&decide (v.k≤4)&&rightV false v
end Go.Proofs.YtinbodeocoeneaaGreatDoor
