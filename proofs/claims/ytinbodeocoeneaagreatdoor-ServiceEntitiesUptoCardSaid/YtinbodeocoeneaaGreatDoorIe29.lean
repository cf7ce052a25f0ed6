/- Proof. Conditions: none. -/
import Derived.Test.YtinbodeocoeneaaGreatDoorIe28
open Nat renaming reduceEqDiff→Za,reduceBEq→Zb,reduceAdd→Zc,reduceLeDiff→Zd,reduceLT→Ze,reduceMul→Zf,reduceSub→Zg
open Int renaming reduceEq→Zh,reduceLT→Zi,reduceLE→Zj,reduceToNat→Zk
open List renaming mem_of_getElem?→zla,drop_length→zll
open Nat renaming le_refl→zna
namespace Go.Proofs.YtinbodeocoeneaaGreatDoor
open Go.Eng
set_option linter.all false
set_option maxRecDepth 20000
inductive Arg where
 | mk (n:ByteArray) (v:Val)
def Arg.n:Arg→ByteArray | .mk n _=>n
theorem Arg.n_mk (n:ByteArray) (v:Val):(Arg.mk n v).n=n:=rfl
def Arg.v:Arg→Val | .mk _ v=>v
theorem Arg.v_mk (n:ByteArray) (v:Val):(Arg.mk n v).v=v:=rfl
theorem Arg.eta (x:Arg):Arg.mk x.n x.v=x:=by cases x;rfl
theorem Arg.ext {x y:Arg} (h0:x.n=y.n) (h1:x.v=y.v):x=y:=by cases x;cases y;simp only [Arg.n_mk,Arg.v_mk] at *;simp [*]
attribute [go_sem] Arg.n_mk Arg.v_mk
attribute [grind =] Arg.n_mk Arg.v_mk
attribute [ext] Arg.ext
attribute [grind ext] Arg.ext
def argC (x:Arg):List AV:=[.s x.n,.i .i64 x.v.k,.i .i64 x.v.n,.s x.v.s,.ds (mapC valC x.v.items),.ds (stC x.v.keys)]
inductive Pk where
 | mk (key on name:ByteArray) (args:List Arg) (tn:ByteArray) (tw:List Int) (label:ByteArray) (initial:Int) (picks:List Pk)
def Pk.key:Pk→ByteArray | .mk x _ _ _ _ _ _ _ _=>x
def Pk.on:Pk→ByteArray | .mk _ x _ _ _ _ _ _ _=>x
def Pk.name:Pk→ByteArray | .mk _ _ x _ _ _ _ _ _=>x
def Pk.args:Pk→List Arg | .mk _ _ _ x _ _ _ _ _=>x
def Pk.tn:Pk→ByteArray | .mk _ _ _ _ x _ _ _ _=>x
def Pk.tw:Pk→List Int | .mk _ _ _ _ _ x _ _ _=>x
def Pk.label:Pk→ByteArray | .mk _ _ _ _ _ _ x _ _=>x
def Pk.initial:Pk→Int | .mk _ _ _ _ _ _ _ x _=>x
def Pk.picks:Pk→List Pk | .mk _ _ _ _ _ _ _ _ x=>x
mutual
def pkC:Pk→List AV
 | .mk k o n a tn tw l i p=>[.s k,.s o,.s n,.ds (mapC argC a),.s tn,.ds (mapC in1 tw),.s l,.i .i64 i,.ds (pksC p)]
def pksC:List Pk→List (List AV)
 | []=>[]
 | p::r=>pkC p::pksC r
end
theorem pksC_eq (l:List Pk):pksC l=mapC pkC l:=by
 induction l with
 | nil=>rfl
 | cons v l ih=>rw [pksC,mapC_cons,ih]
theorem pkC_eq (p:Pk):pkC p=[.s p.key,.s p.on,.s p.name,.ds (mapC argC p.args),.s p.tn,.ds (mapC in1 p.tw),.s p.label,.i .i64 p.initial,.ds (mapC pkC p.picks)]:=by
 cases p
 rw [pkC,pksC_eq]
 rfl
attribute [go_sem] pkC_eq
theorem Pk.picks_lt (v x:Pk) (h:x∈v.picks):SizeOf.sizeOf x<SizeOf.sizeOf v:=by
 cases v
 have:=List.sizeOf_lt_of_mem h
 simp only [Pk.picks] at this
 simp
 omega
theorem Pk.ind {Q:Pk→Prop} (h:∀v,(∀x∈v.picks,Q x)→Q v) (v:Pk):Q v:=h v fun x hx=>Pk.ind h x
termination_by SizeOf.sizeOf v
decreasing_by exact Pk.picks_lt v x hx
def txV (s:ByteArray):Val:=.mk 3 0 s [] []
theorem text_ok (s:ByteArray) (hp:CH) (m:Nat):MeetsF Tryz.prog 61 hp m [.s s] (vx (txV s)):=by
 refine meetsF Tryz.func61 (by kernel_rfl) cc61 cr61 rfl fun hf=>?_;unfold ck61
 simp only [go_sem,↓reduceIte,Za,Zb,Zc,Zd,Ze,reduceCtorEq,Zf,Zg,Zh,Zi,Zj,Zk]
 rfl
theorem tx_fit (s:ByteArray):(txV s).Fit:=.mk _ (by simp [txV,Val.items_mk]) (by simp [txV,Val.keys_mk]) (by simp [txV,Val.items_mk])
noncomputable def smK (d:Dat) (i:Int):List ByteArray→List Val→Bool
 | k::ks,v::vs=>decide (cmpV (lookV d i k ⟨#[]⟩) v=0)&&smK d i ks vs
 | _,_=>true
theorem dsame_ok (d:Dat) (hd:d.Fit) (i:Int) (ks:List ByteArray) (vs:List Val) (hk:ks.length≤vs.length) (hl:vs.length≤1000000000000) (hv:∀v∈vs,v.Fit) (hp:CH) (m:Nat) :
  MeetsF Tryz.prog 151 hp m [dx d,.i .i64 i,.ds (stC ks),.ds (mapC valC vs)] (.b (smK d i ks vs)):=by
 obtain ⟨R,hR⟩:∃R,smK d i ks vs=R:=⟨_,rfl⟩
 rw [hR]
 refine meetsF Tryz.func151 (by kernel_rfl) cc151 cr151 rfl fun hf=>?_;unfold ck151
 simp only [go_sem,↓reduceIte,Za,Zb,Zc,Zd,Ze,reduceCtorEq,Zf,Zg,Zh,Zi,Zj,Zk]
 refine loop (fun p:Nat × Nat=>⟨[(1,.i .i64 i),(3,.ds (mapC valC vs)),(4,.bx m 0),(11,.ds (stC ks)),(12,.i .i64 ks.length),(13,.i .i64 p.1)],(m,.bx [.ds (mapC itC d.i),.ds (mapC wrC d.w)])::hp,p.2⟩)
  (fun p=>p.1≤ks.length∧m+1≤p.2∧R=smK d i (ks.drop p.1) (vs.drop p.1)) (fun p=>ks.length - p.1) (0,m+1) ?_ ?_ (fun ⟨j,n⟩ hj=>?_)
 .exact ⟨by simp,by simp,hR.symm⟩
 .refine weak_ok ?_ (Sub.refl _) (zna _)
  simp only [go_sem,↓reduceIte,Za,Zb,Zc,Zd,Ze,reduceCtorEq,Zf,Zg,Zh,Zi,Zj,Zk]
 dsimp only at hj
 obtain ⟨hj1,hj2,hj3⟩:=hj
 have z1:¬n=m:=by omega
 have z2:m≤n:=by omega
 simp only [z1,z2,go_sem,↓reduceIte,Za,Zb,Zc,Zd,Ze,reduceCtorEq,Zf,Zg,Zh,Zi,Zj,Zk]
 refine cdK_of (fun q=>?_) (fun q=>?_)
 .have q:j<ks.length:=by simpa using q
  have q2:j<vs.length:=by omega
  obtain ⟨k,ek⟩:∃k,ks[j]?=some k:=⟨ks[j],by simp [q]⟩
  obtain ⟨v,ev⟩:∃v,vs[j]?=some v:=⟨vs[j],by simp [q2]⟩
  rw [drop_at ek,drop_at ev,smK] at hj3
  simp only [z1,z2,q,q2,getK_s (mapC_get st1 ek),getK_s (mapC_get valC ev),go_sem,↓reduceIte,Za,Zb,Zc,Zd,Ze,reduceCtorEq,Zf,Zg,Zh,Zi,Zj,Zk]
  first | refine dCallR.f (fun _ _ _=>dLookup_ok d hd _ _ _ _ _) ?_ | refine dCall.f (fun _ _ _=>dLookup_ok d hd _ _ _ _ _) ?_
  simp only [go_sem,↓reduceIte,Za,Zb,Zc,Zd,Ze,reduceCtorEq,Zf,Zg,Zh,Zi,Zj,Zk]
  simp only [z1,z2,q,q2,getK_s (mapC_get valC ev),go_sem,↓reduceIte,Za,Zb,Zc,Zd,Ze,reduceCtorEq,Zf,Zg,Zh,Zi,Zj,Zk]
  first | refine dCallR.f (fun _ _ _=>vsame_ok _ _ (lookV_fit hd _ _ _) (hv v (zla ev)) _ _) ?_ | refine dCall.f (fun _ _ _=>vsame_ok _ _ (lookV_fit hd _ _ _) (hv v (zla ev)) _ _) ?_
  simp only [go_sem,↓reduceIte,Za,Zb,Zc,Zd,Ze,reduceCtorEq,Zf,Zg,Zh,Zi,Zj,Zk]
  refine cdK_of (fun c=>?_) (fun c=>?_)
  .have c:¬cmpV (lookV d i k ⟨#[]⟩) v=0:=by simpa using c
   rw [decide_eq_false c,Bool.false_and] at hj3
   simp only [z1,z2,hj3,go_sem,↓reduceIte,Za,Zb,Zc,Zd,Ze,reduceCtorEq,Zf,Zg,Zh,Zi,Zj,Zk]
  .have c:cmpV (lookV d i k ⟨#[]⟩) v=0:=by simpa using c
   rw [decide_eq_true c,Bool.true_and] at hj3
   simp only [z1,z2,go_sem,↓reduceIte,Za,Zb,Zc,Zd,Ze,reduceCtorEq,Zf,Zg,Zh,Zi,Zj,Zk]
   refine ⟨(j+1,_),⟨by dsimp only;omega,by dsimp only;omega,hj3⟩,by dsimp only;omega,weak_ok ?_ (Sub.refl _) (zna _)⟩
   simp only [z1,z2,wr64s j (by omega),go_sem,↓reduceIte,Za,Zb,Zc,Zd,Ze,reduceCtorEq,Zf,Zg,Zh,Zi,Zj,Zk]
 .have q:j=ks.length:=by simp at q;omega
  subst q
  rw [zll,smK] at hj3
  .simp only [hj3,go_sem,↓reduceIte,Za,Zb,Zc,Zd,Ze,reduceCtorEq,Zf,Zg,Zh,Zi,Zj,Zk]
  .intro _ _ _ _ h;cases h
def fnd (q:Nat→Itm→Bool):List Itm→Nat→Int
 | [],_=>-1
 | x::r,j=>if q j x=true then j else fnd q r (j+1)
noncomputable def findD (d:Dat) (name:ByteArray) (ks:List ByteArray) (vs:List Val):Int :=
 if ks.length≠vs.length then -1 else fnd (fun i x=>decide (x.t=name)&&smK d i ks vs) d.i 0
theorem dFind_ok (d:Dat) (hd:d.Fit) (name:ByteArray) (ks:List ByteArray) (vs:List Val) (hl:vs.length≤1000000000000) (hv:∀v∈vs,v.Fit) (hp:CH) (m:Nat) :
  MeetsF Tryz.prog 119 hp m [dx d,.s name,.ds (stC ks),.ds (mapC valC vs)] (resI (findD d name ks vs)):=by
 have hli:=hd.li
 obtain ⟨R,hR⟩:∃R,findD d name ks vs=R:=⟨_,rfl⟩
 have e:=hR
 rw [findD] at e
 rw [hR]
 refine meetsF Tryz.func119 (by kernel_rfl) cc119 cr119 rfl fun hf=>?_;unfold ck119
 simp only [go_sem,↓reduceIte,Za,Zb,Zc,Zd,Ze,reduceCtorEq,Zf,Zg,Zh,Zi,Zj,Zk]
 refine cdK_of (fun c=>?_) (fun c=>?_)
 .have c:ks.length≠vs.length:=by simp at c;omega
  rw [if_pos c] at e
  subst e
  simp only [go_sem,↓reduceIte,Za,Zb,Zc,Zd,Ze,reduceCtorEq,Zf,Zg,Zh,Zi,Zj,Zk]
 have c:ks.length=vs.length:=by simp at c;omega
 rw [if_neg (by simpa using c)] at e
 simp only [go_sem,↓reduceIte,Za,Zb,Zc,Zd,Ze,reduceCtorEq,Zf,Zg,Zh,Zi,Zj,Zk]
 refine loop (fun p:Nat × Nat=>⟨[(1,.s name),(2,.ds (stC ks)),(3,.ds (mapC valC vs)),(4,.bx m 0),(18,.ds (mapC itC d.i)),(19,.i .i64 d.i.length),(20,.i .i64 p.1)],(m,.bx [.ds (mapC itC d.i),.ds (mapC wrC d.w)])::hp,p.2⟩)
  (fun p=>p.1≤d.i.length∧m+1≤p.2∧R=fnd (fun i x=>decide (x.t=name)&&smK d i ks vs) (d.i.drop p.1) p.1) (fun p=>d.i.length - p.1) (0,m+1) ?_ ?_ (fun ⟨j,n⟩ hj=>?_)
 .exact ⟨by simp,by simp,e.symm⟩
 .refine weak_ok ?_ (Sub.refl _) (zna _)
  simp only [go_sem,↓reduceIte,Za,Zb,Zc,Zd,Ze,reduceCtorEq,Zf,Zg,Zh,Zi,Zj,Zk]
 dsimp only at hj
 obtain ⟨hj1,hj2,hj3⟩:=hj
 have z1:¬n=m:=by omega
 have z2:m≤n:=by omega
 simp only [z1,z2,go_sem,↓reduceIte,Za,Zb,Zc,Zd,Ze,reduceCtorEq,Zf,Zg,Zh,Zi,Zj,Zk]
 refine cdK_of (fun q=>?_) (fun q=>?_)
 .have q:j<d.i.length:=by simpa using q
  obtain ⟨x,ex⟩:∃x,d.i[j]?=some x:=⟨d.i[j],by simp [q]⟩
  rw [drop_at ex,fnd] at hj3
  simp only [z1,z2,q,getK_s (mapC_get itC ex),go_sem,↓reduceIte,Za,Zb,Zc,Zd,Ze,reduceCtorEq,Zf,Zg,Zh,Zi,Zj,Zk]
  refine cdK_of (fun c1=>?_) (fun c1=>?_)
  .have c1:¬x.t=name:=by simpa using c1
   rw [decide_eq_false c1,Bool.false_and,if_neg (by simp)] at hj3
   simp only [z1,z2,go_sem,↓reduceIte,Za,Zb,Zc,Zd,Ze,reduceCtorEq,Zf,Zg,Zh,Zi,Zj,Zk]
   refine ⟨(j+1,_),⟨by dsimp only;omega,by dsimp only;omega,hj3⟩,by dsimp only;omega,weak_ok ?_ (Sub.cons ?_ (Sub.base hf ?_)) (zna _)⟩
   all_goals
    simp only [z1,z2,wr64s j (by omega),go_sem,↓reduceIte,Za,Zb,Zc,Zd,Ze,reduceCtorEq,Zf,Zg,Zh,Zi,Zj,Zk]
  have c1:x.t=name:=by simpa using c1
  rw [decide_eq_true c1,Bool.true_and] at hj3
  simp only [z1,z2,go_sem,↓reduceIte,Za,Zb,Zc,Zd,Ze,reduceCtorEq,Zf,Zg,Zh,Zi,Zj,Zk]
  refine vcCall.f (dsame_ok d hd _ ks vs (by omega) hl hv _ _) ?_
  simp only [z1,z2,go_sem,↓reduceIte,Za,Zb,Zc,Zd,Ze,reduceCtorEq,Zf,Zg,Zh,Zi,Zj,Zk]
  refine cdK_of (fun c2=>?_) (fun c2=>?_)
  .rw [if_pos c2] at hj3
   simp only [z1,z2,hj3,go_sem,↓reduceIte,Za,Zb,Zc,Zd,Ze,reduceCtorEq,Zf,Zg,Zh,Zi,Zj,Zk]
  .rw [if_neg (by simp [c2])] at hj3
   simp only [z1,z2,go_sem,↓reduceIte,Za,Zb,Zc,Zd,Ze,reduceCtorEq,Zf,Zg,Zh,Zi,Zj,Zk]
   refine ⟨(j+1,_),⟨by dsimp only;omega,by dsimp only;omega,hj3⟩,by dsimp only;omega,weak_ok ?_ (Sub.cons ?_ (Sub.base hf ?_)) (zna _)⟩
   all_goals
    simp only [z1,z2,wr64s j (by omega),go_sem,↓reduceIte,Za,Zb,Zc,Zd,Ze,reduceCtorEq,Zf,Zg,Zh,Zi,Zj,Zk]
 .have q:j=d.i.length:=by simp at q;omega
  subst q
  rw [zll,fnd] at hj3
  simp only [hj3,go_sem,↓reduceIte,Za,Zb,Zc,Zd,Ze,reduceCtorEq,Zf,Zg,Zh,Zi,Zj,Zk]
theorem rFind_ok (d:Dat) (hd:d.Fit) (name:ByteArray) (ks:List ByteArray) (vs:List Val) (hl:vs.length≤1000000000000) (hv:∀v∈vs,v.Fit) (hp:CH) (m:Nat) :
  MeetsF Tryz.prog 122 hp m [dx d,.s name,.ds (stC ks),.ds (mapC valC vs)] (resI (findD d name ks vs)):=by
 have hli:=hd.li
 obtain ⟨R,hR⟩:∃R,findD d name ks vs=R:=⟨_,rfl⟩
 have e:=hR
 rw [findD] at e
 rw [hR]
 refine meetsF Tryz.func122 (by kernel_rfl) cc122 cr122 rfl fun hf=>?_;unfold ck122
 simp only [go_sem,↓reduceIte,Za,Zb,Zc,Zd,Ze,reduceCtorEq,Zf,Zg,Zh,Zi,Zj,Zk]
 refine cdK_of (fun c=>?_) (fun c=>?_)
 .have c:ks.length≠vs.length:=by simp at c;omega
  rw [if_pos c] at e
  subst e
  simp only [go_sem,↓reduceIte,Za,Zb,Zc,Zd,Ze,reduceCtorEq,Zf,Zg,Zh,Zi,Zj,Zk]
 have c:ks.length=vs.length:=by simp at c;omega
 rw [if_neg (by simpa using c)] at e
 simp only [go_sem,↓reduceIte,Za,Zb,Zc,Zd,Ze,reduceCtorEq,Zf,Zg,Zh,Zi,Zj,Zk]
 refine loop (fun p:Nat × Nat=>⟨[(1,.s name),(2,.ds (stC ks)),(3,.ds (mapC valC vs)),(4,.bx m 0),(10,.i .i64 p.1)],(m,.bx [.ds (mapC itC d.i),.ds (mapC wrC d.w)])::hp,p.2⟩)
  (fun p=>p.1≤d.i.length∧m+1≤p.2∧R=fnd (fun i x=>decide (x.t=name)&&smK d i ks vs) (d.i.drop p.1) p.1) (fun p=>d.i.length - p.1) (0,m+1) ?_ ?_ (fun ⟨j,n⟩ hj=>?_)
 .exact ⟨by simp,by simp,e.symm⟩
 .refine weak_ok ?_ (Sub.refl _) (zna _)
  simp only [go_sem,↓reduceIte,Za,Zb,Zc,Zd,Ze,reduceCtorEq,Zf,Zg,Zh,Zi,Zj,Zk]
 dsimp only at hj
 obtain ⟨hj1,hj2,hj3⟩:=hj
 have z1:¬n=m:=by omega
 have z2:m≤n:=by omega
 simp only [z1,z2,go_sem,↓reduceIte,Za,Zb,Zc,Zd,Ze,reduceCtorEq,Zf,Zg,Zh,Zi,Zj,Zk]
 refine cdK_of (fun q=>?_) (fun q=>?_)
 .have q:j<d.i.length:=by simpa using q
  obtain ⟨x,ex⟩:∃x,d.i[j]?=some x:=⟨d.i[j],by simp [q]⟩
  rw [drop_at ex,fnd] at hj3
  simp only [z1,z2,q,getK_s (mapC_get itC ex),go_sem,↓reduceIte,Za,Zb,Zc,Zd,Ze,reduceCtorEq,Zf,Zg,Zh,Zi,Zj,Zk]
  obtain ⟨T,hT⟩:∃T,(decide (x.t=name)&&smK d j ks vs)=T:=⟨_,rfl⟩
  rw [hT] at hj3
  refine loop (fun p:Nat × Bool × Nat=>⟨[(1,.s name),(2,.ds (stC ks)),(3,.ds (mapC valC vs)),(4,.bx m 0),(10,.i .i64 j),(11,.b p.2.1),(12,.i .i64 p.1)],(m,.bx [.ds (mapC itC d.i),.ds (mapC wrC d.w)])::hp,p.2.2⟩)
   (fun p=>p.1≤ks.length∧m+1≤p.2.2∧T=(p.2.1&&smK d j (ks.drop p.1) (vs.drop p.1))) (fun p=>ks.length - p.1) (0,decide (x.t=name),n) ?_ ?_ (fun ⟨i,b,n⟩ hi=>?_)
  .exact ⟨by simp,hj2,hT.symm⟩
  .refine weak_ok ?_ (Sub.refl _) (zna _)
   simp only [z1,z2,go_sem,↓reduceIte,Za,Zb,Zc,Zd,Ze,reduceCtorEq,Zf,Zg,Zh,Zi,Zj,Zk]
  dsimp only at hi
  obtain ⟨hi1,hi2,hi3⟩:=hi
  have z1:¬n=m:=by omega
  have z2:m≤n:=by omega
  simp only [z1,z2,go_sem,↓reduceIte,Za,Zb,Zc,Zd,Ze,reduceCtorEq,Zf,Zg,Zh,Zi,Zj,Zk]
  refine cdK_of (fun c1=>?_) (fun c1=>?_)
  .simp only [Bool.and_eq_true,decide_eq_true_eq] at c1
   obtain ⟨c1,c2⟩:=c1
   subst c2
   have c1:i<ks.length:=by omega
   have q2:i<vs.length:=by omega
   obtain ⟨k,ek⟩:∃k,ks[i]?=some k:=⟨ks[i],by simp [c1]⟩
   obtain ⟨v,ev⟩:∃v,vs[i]?=some v:=⟨vs[i],by simp [q2]⟩
   rw [drop_at ek,drop_at ev,smK,Bool.true_and] at hi3
   simp only [z1,z2,c1,q2,getK_s (mapC_get st1 ek),getK_s (mapC_get valC ev),go_sem,↓reduceIte,Za,Zb,Zc,Zd,Ze,reduceCtorEq,Zf,Zg,Zh,Zi,Zj,Zk]
   first | refine dCallR.f (fun _ _ _=>rLookup_ok d hd _ _ _ _ _) ?_ | refine dCall.f (fun _ _ _=>rLookup_ok d hd _ _ _ _ _) ?_
   simp only [go_sem,↓reduceIte,Za,Zb,Zc,Zd,Ze,reduceCtorEq,Zf,Zg,Zh,Zi,Zj,Zk]
   simp only [z1,z2,c1,q2,getK_s (mapC_get valC ev),go_sem,↓reduceIte,Za,Zb,Zc,Zd,Ze,reduceCtorEq,Zf,Zg,Zh,Zi,Zj,Zk]
   first | refine dCallR.f (fun _ _ _=>same_ok _ _ (lookV_fit hd _ _ _) (hv v (zla ev)) _ _) ?_ | refine dCall.f (fun _ _ _=>same_ok _ _ (lookV_fit hd _ _ _) (hv v (zla ev)) _ _) ?_
   simp only [go_sem,↓reduceIte,Za,Zb,Zc,Zd,Ze,reduceCtorEq,Zf,Zg,Zh,Zi,Zj,Zk]
   refine ⟨(i+1,decide (cmpV (lookV d j k ⟨#[]⟩) v=0),_),⟨by dsimp only;omega,by dsimp only;omega,hi3⟩,by dsimp only;omega,weak_ok ?_ (Sub.refl _) (zna _)⟩
   simp only [z1,z2,wr64s i (by omega),go_sem,↓reduceIte,Za,Zb,Zc,Zd,Ze,reduceCtorEq,Zf,Zg,Zh,Zi,Zj,Zk]
  .have e3:T=b:=by
    rcases Nat.lt_or_ge i ks.length with c2 | c2
    .have:b=false:=by simp [c2] at c1;exact c1
     rw [hi3,this,Bool.false_and]
    .rw [List.drop_eq_nil_of_le c2,smK,Bool.and_true] at hi3
     .exact hi3
     .intro _ _ _ _ h;cases h
   subst e3
   simp only [z1,z2,go_sem,↓reduceIte,Za,Zb,Zc,Zd,Ze,reduceCtorEq,Zf,Zg,Zh,Zi,Zj,Zk]
   refine cdK_of (fun c2=>?_) (fun c2=>?_)
   .rw [if_pos c2] at hj3
    simp only [z1,z2,hj3,go_sem,↓reduceIte,Za,Zb,Zc,Zd,Ze,reduceCtorEq,Zf,Zg,Zh,Zi,Zj,Zk]
   .rw [if_neg (by simp [c2])] at hj3
    simp only [z1,z2,go_sem,↓reduceIte,Za,Zb,Zc,Zd,Ze,reduceCtorEq,Zf,Zg,Zh,Zi,Zj,Zk]
    refine ⟨(j+1,_),⟨by dsimp only;omega,by dsimp only;omega,hj3⟩,by dsimp only;omega,weak_ok ?_ (Sub.refl _) (zna _)⟩
    simp only [z1,z2,wr64s j (by omega),go_sem,↓reduceIte,Za,Zb,Zc,Zd,Ze,reduceCtorEq,Zf,Zg,Zh,Zi,Zj,Zk]
 .have q:j=d.i.length:=by simp at q;omega
  subst q
  rw [zll,fnd] at hj3
  simp only [hj3,go_sem,↓reduceIte,Za,Zb,Zc,Zd,Ze,reduceCtorEq,Zf,Zg,Zh,Zi,Zj,Zk]
inductive Ky where
 | mk (t:ByteArray) (g:Int) (l:List ByteArray)
def Ky.t:Ky→ByteArray | .mk t _ _=>t
theorem Ky.t_mk (t:ByteArray) (g:Int) (l:List ByteArray):(Ky.mk t g l).t=t:=rfl
def Ky.g:Ky→Int | .mk _ g _=>g
theorem Ky.g_mk (t:ByteArray) (g:Int) (l:List ByteArray):(Ky.mk t g l).g=g:=rfl
def Ky.l:Ky→List ByteArray | .mk _ _ l=>l
theorem Ky.l_mk (t:ByteArray) (g:Int) (l:List ByteArray):(Ky.mk t g l).l=l:=rfl
theorem Ky.eta (x:Ky):Ky.mk x.t x.g x.l=x:=by cases x;rfl
theorem Ky.ext {x y:Ky} (h0:x.t=y.t) (h1:x.g=y.g) (h2:x.l=y.l):x=y:=by cases x;cases y;simp only [Ky.t_mk,Ky.g_mk,Ky.l_mk] at *;simp [*]
def kyC (x:Ky):List AV:=[.s x.t,.i .i64 x.g,.ds (stC x.l)]
attribute [go_sem] kyC Ky.t_mk Ky.g_mk Ky.l_mk
attribute [grind =] Ky.t_mk Ky.g_mk Ky.l_mk
attribute [ext] Ky.ext
attribute [grind ext] Ky.ext
def typD (d:Dat) (i:Int):ByteArray:=((d.i[i.toNat]?).map Itm.t).getD ⟨#[]⟩
theorem typD_at {d:Dat} {j:Nat} {x:Itm} (h:d.i[j]?=some x):typD d j=x.t:=by rw [typD,Int.toNat_natCast,h];rfl
noncomputable def leafV (v:Val):Bool:=decide (1≤v.k)&&decide (v.k≤4)&&rightV false v
end Go.Proofs.YtinbodeocoeneaaGreatDoor
