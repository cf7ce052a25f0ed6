/- Proof. Conditions: none. -/
import Derived.Test.YtinbodeocoeneaaDoorId48
open Nat renaming reduceEqDiff→Za,reduceBEq→Zb,reduceAdd→Zc,reduceLeDiff→Zd,reduceLT→Ze,reduceMul→Zf,reduceSub→Zg
open Int renaming reduceEq→Zh,reduceLT→Zi,reduceLE→Zj,reduceToNat→Zk
open Nat renaming le_refl→zna
namespace Go.Proofs.YtinbodeocoeneaaDoor
open Go.Eng
set_option linter.all false
set_option maxRecDepth 20000
abbrev rvC (n:ByteArray) (g:List Dfn) (s:Sup) (d:Dat):List AV:=[.s n,.ds (mapC dfC g),.ds (stC s.g),.ds (mapC dfC s.doc),.ds (mapC kyC s.keys),.ds (mapC jnC s.joins),.ds (mapC itC d.i),.ds (mapC wrC d.w)]
def RepAt (hp:CH) (α:AV):Option Val→Prop
 | none=>α=.np
 | some r=>∃k,α=.bx k 0∧gc hp k=.bx [.i .i64 r.k,.i .i64 r.n,.s r.s,.ds (mapC valC r.items),.ds (stC r.keys)]
theorem vfail_ok (t:ByteArray) (hp:CH) (m:Nat):MeetsF Tryd.prog 23 hp m [.s t] (vx (failV t)):=by
 refine meetsF Tryd.func23 (by kernel_rfl) cc23 cr23 rfl fun hf=>?_;unfold ck23
 simp only [go_sem,↓reduceIte,Za,Zb,Zc,Zd,Ze,reduceCtorEq,Zf,Zg,Zh,Zi,Zj,Zk]
 rfl
theorem vexists_ok (n:ByteArray) (g:List Dfn) (s:Sup) (d:Dat) (i:Int) {c:Nat} {hp:CH} (hc:gc hp c=.bx (rvC n g s d)) (m:Nat):MeetsF Tryd.prog 41 hp m [.bx c 0,.i .i64 i] (.b (exB d i)):=by
 rw [exB]
 refine meetsF Tryd.func41 (by kernel_rfl) cc41 cr41 rfl fun hf=>?_;unfold ck41
 have hlt:=bx_lt hf hc
 simp (disch:=omega) only [ite_ne,hc,go_sem,↓reduceIte,Za,Zb,Zc,Zd,Ze,reduceCtorEq,Zf,Zg,Zh,Zi,Zj,Zk]
theorem vdefines_ok (n:ByteArray) (g:List Dfn) (hg:g.length≤1048576) (hgf:∀t∈g,t.fields.length≤1000000000000) (on f:ByteArray) (hp:CH) (m:Nat):MeetsF Tryd.prog 18 hp m [grx n g,.s on,.s f] (.b (defB g on f)):=by
 have h1:=tFind_ok g (by omega) on
 rw [defB]
 cases hR:findD' g on with
 | none =>
  rw [hR,resD] at h1
  refine meetsF Tryd.func18 (by kernel_rfl) cc18 cr18 rfl fun hf=>?_;unfold ck18
  simp only [go_sem,↓reduceIte,Za,Zb,Zc,Zd,Ze,reduceCtorEq,Zf,Zg,Zh,Zi,Zj,Zk]
  refine vcCall.f (h1 _ _) ?_
  simp only [go_sem,↓reduceIte,Za,Zb,Zc,Zd,Ze,reduceCtorEq,Zf,Zg,Zh,Zi,Zj,Zk]
 | some t =>
  rw [hR,resD] at h1
  have hm:t∈g:=List.mem_of_find?_eq_some (show g.find? _=some t from hR)
  have h2:=fField_ok t (hgf t hm) f
  obtain ⟨F,hF⟩:∃F,findF t.fields f=F:=⟨_,rfl⟩
  rw [hF,resF] at h2
  dsimp only
  rw [hF,sTypename]
  refine meetsF Tryd.func18 (by kernel_rfl) cc18 cr18 rfl fun hf=>?_;unfold ck18
  simp only [go_sem,↓reduceIte,Za,Zb,Zc,Zd,Ze,reduceCtorEq,Zf,Zg,Zh,Zi,Zj,Zk]
  refine vcCall.f (h1 _ _) ?_
  simp only [go_sem,↓reduceIte,Za,Zb,Zc,Zd,Ze,reduceCtorEq,Zf,Zg,Zh,Zi,Zj,Zk]
  refine cdK_of (fun q=>?_) (fun q=>?_)
  .have e:decide (t.k=1)=false:=by simpa using q
   rw [e]
   simp only [go_sem,↓reduceIte,Za,Zb,Zc,Zd,Ze,reduceCtorEq,Zf,Zg,Zh,Zi,Zj,Zk]
  .have e:decide (t.k=1)=true:=by simpa using q
   rw [e]
   simp only [go_sem,↓reduceIte,Za,Zb,Zc,Zd,Ze,reduceCtorEq,Zf,Zg,Zh,Zi,Zj,Zk]
   refine cdK_of (fun q2=>?_) (fun q2=>?_)
   .rw [q2]
    simp only [go_sem,↓reduceIte,Za,Zb,Zc,Zd,Ze,reduceCtorEq,Zf,Zg,Zh,Zi,Zj,Zk]
   .rw [q2]
    simp only [go_sem,↓reduceIte,Za,Zb,Zc,Zd,Ze,reduceCtorEq,Zf,Zg,Zh,Zi,Zj,Zk]
    refine vcCall.f (h2 _ _) ?_
    simp only [go_sem,↓reduceIte,Za,Zb,Zc,Zd,Ze,reduceCtorEq,Zf,Zg,Zh,Zi,Zj,Zk]
theorem sNeed_take {s:Sup} {d:Dat} {rep:Option Val} {i:Int} {L:List ByteArray} {j:Nat} {f:ByteArray} (h:L[j]?=some f) :
  (L.take j).map (fun x=>leafOf (rqV d i rep x))++[leafOf (rqV d i rep f)]=(L.take (j+1)).map (fun x=>leafOf (rqV d i rep x)):=by
 rw [←take_snoc h,List.map_append]
 rfl
theorem badO {d:Dat} {v:Val} {b:Bool} (h:(decide (v.k=9)||decide (v.k=6)||decide (v.k=8)&&exB d v.n)=b):badV d v=b:=by
 rw [←h,badV]
 simp [Bool.or_assoc]
theorem leafO_z {v:Val} (h:(decide (v.k<1)||decide (4<v.k)||!rightV false v)=true):leafOf v=zVal:=by
 rw [leafOf,if_neg]
 intro h2
 simp only [leafV,Bool.and_eq_true,decide_eq_true_eq] at h2
 simp [h2] at h
 omega
theorem leafO_v {v:Val} (h:(decide (v.k<1)||decide (4<v.k)||!rightV false v)=false):leafOf v=v:=by
 rw [leafOf,if_pos]
 simp only [leafV,Bool.and_eq_true,decide_eq_true_eq]
 simp at h
 exact ⟨⟨by omega,by omega⟩,h.2⟩
set_option maxHeartbeats 2000000 in
theorem vrequired_ok (gn:ByteArray) (g:List Dfn) (s:Sup) (hs:SOk s) (d:Dat) {B:Nat} (hd:DOk d B) (i:Int) (hi:exB d i=true) (f:ByteArray) (rep:Option Val) (hr:ROk rep) {c:Nat} {hp:CH} (hc:gc hp c=.bx (rvC gn g s d)) {α:AV} (hα:RepAt hp α rep) (m:Nat) :
  MeetsF Tryd.prog 20 hp m [.bx c 0,.i .i64 i,.s f,α] (.tp [.ds (mapC valC (sVals s d rep i f)),.b (sFail s d rep i f)]):=by
 have hnl:=sNeed_len hs d i f
 have hvl:=sVals_len s d rep i f
 obtain ⟨i',x,rfl,ex,hil,ht⟩:=exB_at hi
 have hN:=tNeeds_ok s hs x.t f
 obtain ⟨V,hV⟩:∃V,sVals s d rep i' f=V:=⟨_,rfl⟩
 obtain ⟨F,hF⟩:∃F,sFail s d rep i' f=F:=⟨_,rfl⟩
 have hVe:=hV
 have hFe:=hF
 rw [sVals] at hVe
 rw [sFail] at hFe
 rw [hV] at hvl
 rw [hV,hF]
 obtain ⟨L,hL⟩:∃L,sNeed s d i' f=L:=⟨_,rfl⟩
 have hLe:=hL
 rw [sNeed,ht] at hLe
 rw [hLe] at hN
 rw [hL] at hVe hFe hnl hvl
 refine meetsF Tryd.func20 (by kernel_rfl) cc20 cr20 rfl fun hf=>?_;unfold ck20
 have hlt:=bx_lt hf hc
 simp (disch:=omega) only [ite_ne,hc,hil,getK_s (mapC_get itC ex),go_sem,↓reduceIte,Za,Zb,Zc,Zd,Ze,reduceCtorEq,Zf,Zg,Zh,Zi,Zj,Zk]
 refine dCallR.f (fun _ _ _=>hN _ _) ?_
 simp (disch:=omega) only [ite_ne,hc,hil,getK_s (mapC_get itC ex),go_sem,↓reduceIte,Za,Zb,Zc,Zd,Ze,reduceCtorEq,Zf,Zg,Zh,Zi,Zj,Zk]
 refine loop (fun q:Nat × Nat=>⟨[(0,.bx c 0),(1,.i .i64 i'),(3,α),(10,.rw (m+17) q.1 q.1),(11,.b ((L.take q.1).any fun f=>badV d (rqV d i' rep f))),(29,.ds (stC L)),(30,.i .i64 L.length),(31,.i .i64 q.1)],(m+17,.rw q.1 5 (mapC valC ((L.take q.1).map fun f=>leafOf (rqV d i' rep f))))::hp,q.2⟩)
  (fun q=>q.1≤L.length∧m+18≤q.2) (fun q=>L.length - q.1) (0,m+18) ?_ ?_ (fun ⟨j,n⟩ hj=>?_)
 .simp
 .refine (weak_e0 (t:=10) (m:=5) ?_).trans (weak_ok ?_ (Sub.cons ?_ (Sub.base hf ?_)) (zna _))
  all_goals (simp (disch:=omega) only [ite_ne,go_sem,↓reduceIte,Za,Zb,Zc,Zd,Ze,reduceCtorEq,Zf,Zg,Zh,Zi,Zj,Zk])
  all_goals rfl
 dsimp only at hj
 obtain ⟨hj1,hj2⟩:=hj
 have hmn:m≤n:=by omega
 simp (disch:=omega) only [ite_ne,go_sem,↓reduceIte,Za,Zb,Zc,Zd,Ze,reduceCtorEq,Zf,Zg,Zh,Zi,Zj,Zk]
 refine cdK_of (fun q=>?_) (fun q=>?_)
 .have q:j<L.length:=by simpa using q
  obtain ⟨f,ef⟩:∃f,L[j]?=some f:=⟨L[j],by simp [q]⟩
  have hst:=sNeed_take (s:=s) (d:=d) (rep:=rep) (i:=i') ef
  have hbd:=any_takeI (fun f=>badV d (rqV d i' rep f)) ef
  have ht:((L.take j).map fun f=>leafOf (rqV d i' rep f)).length=j:=by simp;omega
  have k1:(j+1)*80≤140737488355328:=by omega
  have k2:j+1≤9223372036854775807:=by omega
  have hsm:=rqV_sm hd i' hr f
  obtain ⟨O,hO⟩:∃O,(L.take j).map (fun f=>leafOf (rqV d i' rep f))=O:=⟨_,rfl⟩
  rw [hO] at ht hst ⊢
  obtain ⟨b,hb⟩:∃b,(L.take j).any (fun f=>badV d (rqV d i' rep f))=b:=⟨_,rfl⟩
  rw [hb] at hbd ⊢
  cases rep with
  | none =>
   have hα:α=.np:=hα
   subst hα
   have hlk:=dLookup_ok d hd.f.f i' f ⟨#[]⟩
   have hq:rqV d i' none f=lookV d i' f ⟨#[]⟩:=rfl
   rw [hq] at hst hbd hsm
   obtain ⟨v,hv⟩:∃v,lookV d i' f ⟨#[]⟩=v:=⟨_,rfl⟩
   rw [hv] at hlk hst hbd hsm
   simp (disch:=omega) only [ite_ne,q,hc,getK_s (mapC_get st1 ef),go_sem,↓reduceIte,Za,Zb,Zc,Zd,Ze,reduceCtorEq,Zf,Zg,Zh,Zi,Zj,Zk]
   refine vcCall.f (hlk _ _) ?_
   simp (disch:=omega) only [ite_ne,go_sem,↓reduceIte,Za,Zb,Zc,Zd,Ze,reduceCtorEq,Zf,Zg,Zh,Zi,Zj,Zk]
   refine gCall.f (fun _=>vexists_ok gn g s d v.n (c:=c) (by (simp (disch:=omega) only [ite_ne,hc,go_sem,↓reduceIte,Za,Zb,Zc,Zd,Ze,reduceCtorEq,Zf,Zg,Zh,Zi,Zj,Zk])) _) ?_
   simp (disch:=omega) only [ite_ne,go_sem,↓reduceIte,Za,Zb,Zc,Zd,Ze,reduceCtorEq,Zf,Zg,Zh,Zi,Zj,Zk]
   refine cdK_of (fun c1=>?_) (fun c1=>?_)
   .rw [badO c1] at hbd
    rw [Bool.or_true] at hbd
    simp (disch:=omega) only [ite_ne,go_sem,↓reduceIte,Za,Zb,Zc,Zd,Ze,reduceCtorEq,Zf,Zg,Zh,Zi,Zj,Zk]
    refine gCall.f (fun _=>vRight_ok v hsm.f _ _) ?_
    simp (disch:=omega) only [ite_ne,go_sem,↓reduceIte,Za,Zb,Zc,Zd,Ze,reduceCtorEq,Zf,Zg,Zh,Zi,Zj,Zk]
    refine cdK_of (fun c2=>?_) (fun c2=>?_)
    .rw [leafO_z c2] at hst
     change O++[Val.mk 0 0 ⟨#[]⟩ [] []]=_ at hst
     simp (disch:=omega) only [ite_ne,ht,k1,k2,go_sem,↓reduceIte,Za,Zb,Zc,Zd,Ze,reduceCtorEq,Zf,Zg,Zh,Zi,Zj,Zk]
     refine ⟨(j+1,_),⟨by dsimp only;omega,by dsimp only;omega⟩,by dsimp only;omega,weak_ok ?_ (Sub.cons ?_ (Sub.base hf ?_)) (zna _)⟩
     all_goals
      simp (disch:=omega) only [ite_ne,wr64s j (by omega),hst,hbd,hmn,snoc_zv,go_sem,↓reduceIte,Za,Zb,Zc,Zd,Ze,reduceCtorEq,Zf,Zg,Zh,Zi,Zj,Zk]
    .rw [leafO_v c2] at hst
     simp (disch:=omega) only [ite_ne,ht,k1,k2,go_sem,↓reduceIte,Za,Zb,Zc,Zd,Ze,reduceCtorEq,Zf,Zg,Zh,Zi,Zj,Zk]
     refine ⟨(j+1,_),⟨by dsimp only;omega,by dsimp only;omega⟩,by dsimp only;omega,weak_ok ?_ (Sub.cons ?_ (Sub.base hf ?_)) (zna _)⟩
     all_goals
      simp (disch:=omega) only [ite_ne,wr64s j (by omega),hst,hbd,hmn,snoc_zv,go_sem,↓reduceIte,Za,Zb,Zc,Zd,Ze,reduceCtorEq,Zf,Zg,Zh,Zi,Zj,Zk]
   .rw [badO c1] at hbd
    rw [Bool.or_false] at hbd
    simp (disch:=omega) only [ite_ne,go_sem,↓reduceIte,Za,Zb,Zc,Zd,Ze,reduceCtorEq,Zf,Zg,Zh,Zi,Zj,Zk]
    refine gCall.f (fun _=>vRight_ok v hsm.f _ _) ?_
    simp (disch:=omega) only [ite_ne,go_sem,↓reduceIte,Za,Zb,Zc,Zd,Ze,reduceCtorEq,Zf,Zg,Zh,Zi,Zj,Zk]
    refine cdK_of (fun c2=>?_) (fun c2=>?_)
    .rw [leafO_z c2] at hst
     change O++[Val.mk 0 0 ⟨#[]⟩ [] []]=_ at hst
     simp (disch:=omega) only [ite_ne,ht,k1,k2,go_sem,↓reduceIte,Za,Zb,Zc,Zd,Ze,reduceCtorEq,Zf,Zg,Zh,Zi,Zj,Zk]
     refine ⟨(j+1,_),⟨by dsimp only;omega,by dsimp only;omega⟩,by dsimp only;omega,weak_ok ?_ (Sub.cons ?_ (Sub.base hf ?_)) (zna _)⟩
     all_goals
      simp (disch:=omega) only [ite_ne,wr64s j (by omega),hst,hbd,hmn,snoc_zv,go_sem,↓reduceIte,Za,Zb,Zc,Zd,Ze,reduceCtorEq,Zf,Zg,Zh,Zi,Zj,Zk]
    .rw [leafO_v c2] at hst
     simp (disch:=omega) only [ite_ne,ht,k1,k2,go_sem,↓reduceIte,Za,Zb,Zc,Zd,Ze,reduceCtorEq,Zf,Zg,Zh,Zi,Zj,Zk]
     refine ⟨(j+1,_),⟨by dsimp only;omega,by dsimp only;omega⟩,by dsimp only;omega,weak_ok ?_ (Sub.cons ?_ (Sub.base hf ?_)) (zna _)⟩
     all_goals
      simp (disch:=omega) only [ite_ne,wr64s j (by omega),hst,hbd,hmn,snoc_zv,go_sem,↓reduceIte,Za,Zb,Zc,Zd,Ze,reduceCtorEq,Zf,Zg,Zh,Zi,Zj,Zk]
  | some r =>
   obtain ⟨k,rfl,hk⟩:=hα
   have hkm:=bx_lt hf hk
   have hlk:=get_ok r (hr r rfl).f f
   have hq:rqV d i' (some r) f=(getV r f).getD zVal:=rfl
   rw [hq] at hst hbd hsm
   rw [resV] at hlk
   obtain ⟨v,hv⟩:∃v,(getV r f).getD zVal=v:=⟨_,rfl⟩
   rw [hv] at hlk hst hbd hsm
   obtain ⟨z,hz⟩:∃z,(getV r f).isSome=z:=⟨_,rfl⟩
   rw [hz] at hlk
   simp (disch:=omega) only [ite_ne,q,hc,hk,getK_s (mapC_get st1 ef),go_sem,↓reduceIte,Za,Zb,Zc,Zd,Ze,reduceCtorEq,Zf,Zg,Zh,Zi,Zj,Zk]
   refine vcCall.f (hlk _ _) ?_
   simp (disch:=omega) only [ite_ne,go_sem,↓reduceIte,Za,Zb,Zc,Zd,Ze,reduceCtorEq,Zf,Zg,Zh,Zi,Zj,Zk]
   refine gCall.f (fun _=>vexists_ok gn g s d v.n (c:=c) (by (simp (disch:=omega) only [ite_ne,hc,go_sem,↓reduceIte,Za,Zb,Zc,Zd,Ze,reduceCtorEq,Zf,Zg,Zh,Zi,Zj,Zk])) _) ?_
   simp (disch:=omega) only [ite_ne,go_sem,↓reduceIte,Za,Zb,Zc,Zd,Ze,reduceCtorEq,Zf,Zg,Zh,Zi,Zj,Zk]
   refine cdK_of (fun c1=>?_) (fun c1=>?_)
   .rw [badO c1] at hbd
    rw [Bool.or_true] at hbd
    simp (disch:=omega) only [ite_ne,go_sem,↓reduceIte,Za,Zb,Zc,Zd,Ze,reduceCtorEq,Zf,Zg,Zh,Zi,Zj,Zk]
    refine gCall.f (fun _=>vRight_ok v hsm.f _ _) ?_
    simp (disch:=omega) only [ite_ne,go_sem,↓reduceIte,Za,Zb,Zc,Zd,Ze,reduceCtorEq,Zf,Zg,Zh,Zi,Zj,Zk]
    refine cdK_of (fun c2=>?_) (fun c2=>?_)
    .rw [leafO_z c2] at hst
     change O++[Val.mk 0 0 ⟨#[]⟩ [] []]=_ at hst
     simp (disch:=omega) only [ite_ne,ht,k1,k2,go_sem,↓reduceIte,Za,Zb,Zc,Zd,Ze,reduceCtorEq,Zf,Zg,Zh,Zi,Zj,Zk]
     refine ⟨(j+1,_),⟨by dsimp only;omega,by dsimp only;omega⟩,by dsimp only;omega,weak_ok ?_ (Sub.cons ?_ (Sub.base hf ?_)) (zna _)⟩
     all_goals
      simp (disch:=omega) only [ite_ne,wr64s j (by omega),hst,hbd,hmn,snoc_zv,go_sem,↓reduceIte,Za,Zb,Zc,Zd,Ze,reduceCtorEq,Zf,Zg,Zh,Zi,Zj,Zk]
    .rw [leafO_v c2] at hst
     simp (disch:=omega) only [ite_ne,ht,k1,k2,go_sem,↓reduceIte,Za,Zb,Zc,Zd,Ze,reduceCtorEq,Zf,Zg,Zh,Zi,Zj,Zk]
     refine ⟨(j+1,_),⟨by dsimp only;omega,by dsimp only;omega⟩,by dsimp only;omega,weak_ok ?_ (Sub.cons ?_ (Sub.base hf ?_)) (zna _)⟩
     all_goals
      simp (disch:=omega) only [ite_ne,wr64s j (by omega),hst,hbd,hmn,snoc_zv,go_sem,↓reduceIte,Za,Zb,Zc,Zd,Ze,reduceCtorEq,Zf,Zg,Zh,Zi,Zj,Zk]
   .rw [badO c1] at hbd
    rw [Bool.or_false] at hbd
    simp (disch:=omega) only [ite_ne,go_sem,↓reduceIte,Za,Zb,Zc,Zd,Ze,reduceCtorEq,Zf,Zg,Zh,Zi,Zj,Zk]
    refine gCall.f (fun _=>vRight_ok v hsm.f _ _) ?_
    simp (disch:=omega) only [ite_ne,go_sem,↓reduceIte,Za,Zb,Zc,Zd,Ze,reduceCtorEq,Zf,Zg,Zh,Zi,Zj,Zk]
    refine cdK_of (fun c2=>?_) (fun c2=>?_)
    .rw [leafO_z c2] at hst
     change O++[Val.mk 0 0 ⟨#[]⟩ [] []]=_ at hst
     simp (disch:=omega) only [ite_ne,ht,k1,k2,go_sem,↓reduceIte,Za,Zb,Zc,Zd,Ze,reduceCtorEq,Zf,Zg,Zh,Zi,Zj,Zk]
     refine ⟨(j+1,_),⟨by dsimp only;omega,by dsimp only;omega⟩,by dsimp only;omega,weak_ok ?_ (Sub.cons ?_ (Sub.base hf ?_)) (zna _)⟩
     all_goals
      simp (disch:=omega) only [ite_ne,wr64s j (by omega),hst,hbd,hmn,snoc_zv,go_sem,↓reduceIte,Za,Zb,Zc,Zd,Ze,reduceCtorEq,Zf,Zg,Zh,Zi,Zj,Zk]
    .rw [leafO_v c2] at hst
     simp (disch:=omega) only [ite_ne,ht,k1,k2,go_sem,↓reduceIte,Za,Zb,Zc,Zd,Ze,reduceCtorEq,Zf,Zg,Zh,Zi,Zj,Zk]
     refine ⟨(j+1,_),⟨by dsimp only;omega,by dsimp only;omega⟩,by dsimp only;omega,weak_ok ?_ (Sub.cons ?_ (Sub.base hf ?_)) (zna _)⟩
     all_goals
      simp (disch:=omega) only [ite_ne,wr64s j (by omega),hst,hbd,hmn,snoc_zv,go_sem,↓reduceIte,Za,Zb,Zc,Zd,Ze,reduceCtorEq,Zf,Zg,Zh,Zi,Zj,Zk]
 .have q:j=L.length:=by simp at q;omega
  subst q
  have ht2:V.take L.length=V:=List.take_of_length_le (by omega)
  rw [List.take_length,hVe,hFe]
  simp (disch:=omega) only [ite_ne,hmn,hvl,ht2,zna,go_sem,↓reduceIte,Za,Zb,Zc,Zd,Ze,reduceCtorEq,Zf,Zg,Zh,Zi,Zj,Zk]
end Go.Proofs.YtinbodeocoeneaaDoor
