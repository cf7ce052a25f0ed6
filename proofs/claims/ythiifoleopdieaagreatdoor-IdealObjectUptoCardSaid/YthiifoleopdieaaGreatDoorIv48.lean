/-
  The parts IdK IdL of the proof, in one file. Conditions: none.
-/
import Derived.Test.YthiifoleopdieaaGreatDoorIv47
open Nat renaming reduceEqDiff→zqa,reduceBEq→zqb,reduceAdd→zqc,reduceLeDiff→zqd,reduceLT→zqe,reduceMul→zqf,reduceSub→zqg
open Int renaming reduceEq→zqh,reduceLT→zqi,reduceLE→zqj,reduceToNat→zqk
namespace Go.Proofs.YthiifoleopdieaaGreatDoor
open Go.Eng
set_option linter.unusedVariables false
set_option linter.unusedSimpArgs false
set_option maxRecDepth 20000
theorem snoc_zv (l:List Val):mapC valC l++[[AV.i .i64 0,.i .i64 0,.s ⟨#[]⟩,.ds [],.ds []]]=mapC valC (l++[zVal]):=mapC_snoc valC l zVal
abbrev rdC (s:Sup) (d:Dat):List AV:=[.ds (stC s.g),.ds (mapC dfC s.doc),.ds (mapC kyC s.keys),.ds (mapC jnC s.joins),.ds (mapC itC d.i),.ds (mapC wrC d.w)]
def itD (d:Dat) (i:Int):Itm:=if exB d i=true then (d.i[i.toNat]?).getD (.mk ⟨#[]⟩ []) else .mk ⟨#[]⟩ []
theorem itD_at {d:Dat} {j:Nat} {x:Itm} (h:d.i[j]?=some x) (hj:j < d.i.length):itD d j=x:=by
 have e:exB d j=true:=by simp [exB];omega
 rw [itD,if_pos e,Int.toNat_natCast,h]
 rfl
theorem ritem_ok (s:Sup) (d:Dat) (i:Int) {c:Nat} {hp:CH} (hc:gc hp c=.bx (rdC s d)) (m:Nat):MeetsF Tryz.prog 77 hp m [.bx c 0,.i .i64 i] (.tp [ix' (itD d i),.b (exB d i)]):=by
 obtain ⟨X,hX⟩:∃X,exB d i=X:=⟨_,rfl⟩
 have e:X=(decide (0≤i)&&decide (i < (d.i.length:Int))):=by rw [←hX,exB]
 rw [itD,hX]
 refine meetsF Tryz.func77 (by kernel_rfl) cc77 cr77 rfl fun hf=>?_;unfold ck77
 have hlt:=bx_lt hf hc
 simp (disch:=omega) only [ite_ne,hc,go_sem,↓reduceIte,zqa,zqb,zqc,zqd,zqe,reduceCtorEq,zqf,zqg,zqh,zqi,zqj,zqk]
 refine cdK_of (fun q=>?_) (fun q=>?_)
 ·have e2:X=false:=by
   rw [e,Bool.eq_false_iff]
   intro h
   simp at h q
   omega
  subst e2
  simp only [go_sem,↓reduceIte,zqa,zqb,zqc,zqd,zqe,reduceCtorEq,zqf,zqg,zqh,zqi,zqj,zqk]
  try rfl
 ·have e2:X=true:=by
   rw [e]
   simp at q ⊢
   omega
  subst e2
  obtain ⟨j,x,rfl,ex,hil,ht⟩:=exB_at hX
  rw [if_pos rfl,Int.toNat_natCast,ex]
  simp (disch:=omega) only [ite_ne,hc,hil,getK_s (mapC_get itC ex),go_sem,↓reduceIte,zqa,zqb,zqc,zqd,zqe,reduceCtorEq,zqf,zqg,zqh,zqi,zqj,zqk]
  try rfl
theorem trequires_ok (s:Sup) (hs:SOk s) (d:Dat) (t f:ByteArray) {c:Nat} {hp:CH} (hc:gc hp c=.bx (rdC s d)) (m:Nat):MeetsF Tryz.prog 105 hp m [.bx c 0,.s t,.s f] (.ds (stC (reqJ s.joins t f))):=by
 have hjl:=hs.j
 obtain ⟨R,hR⟩:∃R,reqJ s.joins t f=R:=⟨_,rfl⟩
 rw [hR]
 refine meetsF Tryz.func105 (by kernel_rfl) cc105 cr105 rfl fun hf=>?_;unfold ck105
 have hlt:=bx_lt hf hc
 simp (disch:=omega) only [ite_ne,hc,go_sem,↓reduceIte,zqa,zqb,zqc,zqd,zqe,reduceCtorEq,zqf,zqg,zqh,zqi,zqj,zqk]
 refine loop (fun q:Nat × Nat=>⟨[(1,.s t),(2,.s f),(13,.ds (mapC jnC s.joins)),(14,.i .i64 s.joins.length),(15,.i .i64 q.1)],hp,q.2⟩)
  (fun q=>q.1≤s.joins.length∧m≤q.2∧R=reqJ (s.joins.drop q.1) t f) (fun q=>s.joins.length - q.1) (0,m) ?_ ?_ (fun ⟨j,n⟩ hj=>?_)
 ·exact ⟨by simp,by simp,hR.symm⟩
 ·refine weak_ok ?_ (Sub.refl _) (Nat.le_refl _)
  all_goals (simp (disch:=omega) only [ite_ne,go_sem,↓reduceIte,zqa,zqb,zqc,zqd,zqe,reduceCtorEq,zqf,zqg,zqh,zqi,zqj,zqk])
 dsimp only at hj
 obtain ⟨hj1,hj2,hj3⟩:=hj
 simp (disch:=omega) only [ite_ne,go_sem,↓reduceIte,zqa,zqb,zqc,zqd,zqe,reduceCtorEq,zqf,zqg,zqh,zqi,zqj,zqk]
 refine cdK_of (fun q=>?_) (fun q=>?_)
 ·have q:j < s.joins.length:=by simpa using q
  obtain ⟨y,ey⟩:∃y,s.joins[j]?=some y:=⟨s.joins[j],by simp [q]⟩
  rw [drop_at ey,reqJ_cons] at hj3
  simp (disch:=omega) only [ite_ne,q,getK_s (mapC_get jnC ey),go_sem,↓reduceIte,zqa,zqb,zqc,zqd,zqe,reduceCtorEq,zqf,zqg,zqh,zqi,zqj,zqk]
  refine cdK_of (fun c=>?_) (fun c=>?_)
  ·have c:y.t=t∧y.f=f∧0 < y.req.length:=by
    simp only [Bool.and_eq_true,decide_eq_true_eq] at c
    exact ⟨c.1.1,c.1.2,by omega⟩
   rw [if_pos c] at hj3
   subst hj3
   simp (disch:=omega) only [ite_ne,hj2,go_sem,↓reduceIte,zqa,zqb,zqc,zqd,zqe,reduceCtorEq,zqf,zqg,zqh,zqi,zqj,zqk]
  ·have c:¬(y.t=t∧y.f=f∧0 < y.req.length):=by
    rintro ⟨c1,c2,c3⟩
    rw [Bool.eq_false_iff] at c
    exact c (by simp only [Bool.and_eq_true,decide_eq_true_eq];exact ⟨⟨c1,c2⟩,by omega⟩)
   rw [if_neg c] at hj3
   simp (disch:=omega) only [ite_ne,go_sem,↓reduceIte,zqa,zqb,zqc,zqd,zqe,reduceCtorEq,zqf,zqg,zqh,zqi,zqj,zqk]
   refine ⟨(j+1,_),⟨by dsimp only;omega,by dsimp only;omega,hj3⟩,by dsimp only;omega,weak_ok ?_ (Sub.base hf ?_) (Nat.le_refl _)⟩
   all_goals
    simp (disch:=omega) only [ite_ne,wr64s j (by omega),hj2,go_sem,↓reduceIte,zqa,zqb,zqc,zqd,zqe,reduceCtorEq,zqf,zqg,zqh,zqi,zqj,zqk]
 ·have q:j=s.joins.length:=by simp at q;omega
  subst q
  rw [List.drop_length] at hj3
  have hj3:R=[]:=hj3
  subst hj3
  simp (disch:=omega) only [ite_ne,go_sem,↓reduceIte,zqa,zqb,zqc,zqd,zqe,reduceCtorEq,zqf,zqg,zqh,zqi,zqj,zqk]
theorem need_none {s:Sup} {d:Dat} {i:Int} {p:Pk} (h:exB d i=false):needV s d i p=[]∧failB s d i p=false:=by
 have e:needL s d i p=[]:=by rw [needL,h];rfl
 rw [needV,failB,e]
 exact ⟨rfl,rfl⟩
theorem any_takeI {α:Type} (q:α→Bool) {l:List α} {j:Nat} {x:α} (h:l[j]?=some x):(l.take (j+1)).any q=((l.take j).any q||q x):=by
 rw [←take_snoc h,List.any_append]
 simp
theorem badB (v:Val) (X b:Bool):(b||decide (v.k=9)||decide (v.k=6)||decide (v.k=8)&&X)=(b||(decide (v.k=9)||(decide (v.k=6)||decide (v.k=8)&&X))):=by simp [Bool.or_assoc]
theorem tneeds_ok (s:Sup) (hs:SOk s) (d:Dat) {B:Nat} (hd:DOk d B) (i:Int) (p:Pk) {c:Nat} {hp:CH} (hc:gc hp c=.bx (rdC s d)) (m:Nat) :
  MeetsF Tryz.prog 64 hp m [.bx c 0,.i .i64 i,pkx p] (.tp [.ds (mapC valC (needV s d i p)),.b (failB s d i p)]):=by
 have hnl:=needL_len hs d i p
 have hvl:=needV_len s d i p
 have hN:=need_none (s:=s) (d:=d) (i:=i) (p:=p)
 obtain ⟨V,hV⟩:∃V,needV s d i p=V:=⟨_,rfl⟩
 obtain ⟨F,hF⟩:∃F,failB s d i p=F:=⟨_,rfl⟩
 have hVe:=hV
 have hFe:=hF
 rw [needV] at hVe
 rw [failB] at hFe
 rw [hV,hF] at hN ⊢
 rw [hV] at hvl
 obtain ⟨L,hL⟩:∃L,needL s d i p=L:=⟨_,rfl⟩
 have hLe:=hL
 rw [needL] at hLe
 rw [hL] at hVe hFe hnl hvl
 obtain ⟨X,hX⟩:∃X,exB d i=X:=⟨_,rfl⟩
 rw [hX] at hLe hN
 refine meetsF Tryz.func64 (by kernel_rfl) cc64 cr64 rfl fun hf=>?_;unfold ck64
 have hlt:=bx_lt hf hc
 simp only [go_sem,↓reduceIte,zqa,zqb,zqc,zqd,zqe,reduceCtorEq,zqf,zqg,zqh,zqi,zqj,zqk]
 refine vcCall.f (ritem_ok s d i (c:=c) (by (simp (disch:=omega) only [ite_ne,hc,go_sem,↓reduceIte,zqa,zqb,zqc,zqd,zqe,reduceCtorEq,zqf,zqg,zqh,zqi,zqj,zqk])) _) ?_
 rw [hX]
 simp only [go_sem,↓reduceIte,zqa,zqb,zqc,zqd,zqe,reduceCtorEq,zqf,zqg,zqh,zqi,zqj,zqk]
 cases X with
 | false =>
  obtain ⟨rfl,rfl⟩:=hN rfl
  simp only [go_sem,↓reduceIte,zqa,zqb,zqc,zqd,zqe,reduceCtorEq,zqf,zqg,zqh,zqi,zqj,zqk]
  try rfl
 | true =>
  clear hN
  rw [if_pos rfl] at hLe
  obtain ⟨i',x,rfl,ex,hil,ht⟩:=exB_at hX
  rw [itD_at ex hil]
  rw [ht] at hLe
  simp only [go_sem,↓reduceIte,zqa,zqb,zqc,zqd,zqe,reduceCtorEq,zqf,zqg,zqh,zqi,zqj,zqk]
  refine vcCall.f (trequires_ok s hs d x.t p.name (c:=c) (by (simp (disch:=omega) only [ite_ne,hc,go_sem,↓reduceIte,zqa,zqb,zqc,zqd,zqe,reduceCtorEq,zqf,zqg,zqh,zqi,zqj,zqk])) _) ?_
  rw [hLe]
  simp only [go_sem,↓reduceIte,zqa,zqb,zqc,zqd,zqe,reduceCtorEq,zqf,zqg,zqh,zqi,zqj,zqk]
  refine loop (fun q:Nat × Nat=>⟨[(0,.bx c 0),(1,.i .i64 i'),(10,.rw (m+2) q.1 q.1),(11,.b ((L.take q.1).any fun f=>badV d (lookV d i' f ⟨#[]⟩))),(30,.ds (stC L)),(31,.i .i64 L.length),(32,.i .i64 q.1)],(m+2,.rw q.1 5 (mapC valC ((L.take q.1).map fun f=>leafOf (lookV d i' f ⟨#[]⟩))))::hp,q.2⟩)
   (fun q=>q.1≤L.length∧m+3≤q.2) (fun q=>L.length - q.1) (0,m+3) ?_ ?_ (fun ⟨j,n⟩ hj=>?_)
  ·simp
  ·refine (weak_e0 (t:=10) (m:=5) ?_).trans (weak_ok ?_ (Sub.cons ?_ (Sub.base hf ?_)) (Nat.le_refl _))
   all_goals (simp (disch:=omega) only [ite_ne,go_sem,↓reduceIte,zqa,zqb,zqc,zqd,zqe,reduceCtorEq,zqf,zqg,zqh,zqi,zqj,zqk])
   all_goals rfl
  dsimp only at hj
  obtain ⟨hj1,hj2⟩:=hj
  have hmn:m≤n:=by omega
  simp (disch:=omega) only [ite_ne,go_sem,↓reduceIte,zqa,zqb,zqc,zqd,zqe,reduceCtorEq,zqf,zqg,zqh,zqi,zqj,zqk]
  refine cdK_of (fun q=>?_) (fun q=>?_)
  ·have q:j < L.length:=by simpa using q
   obtain ⟨f,ef⟩:∃f,L[j]?=some f:=⟨L[j],by simp [q]⟩
   have hst:=needV_take (s:=s) (d:=d) (i:=i') (p:=p) ef
   have hbd:=any_takeI (fun f=>badV d (lookV d i' f ⟨#[]⟩)) ef
   have ht:((L.take j).map fun f=>leafOf (lookV d i' f ⟨#[]⟩)).length=j:=by simp;omega
   have k1:(j+1)*80≤140737488355328:=by omega
   have k2:j+1≤9223372036854775807:=by omega
   have hlk:=dLookup_ok d hd.f.f i' f ⟨#[]⟩
   have hsm:=lookV_sm hd i' f ⟨#[]⟩
   obtain ⟨v,hv⟩:∃v,lookV d i' f ⟨#[]⟩=v:=⟨_,rfl⟩
   rw [hv] at hlk hst hbd hsm
   obtain ⟨O,hO⟩:∃O,(L.take j).map (fun f=>leafOf (lookV d i' f ⟨#[]⟩))=O:=⟨_,rfl⟩
   rw [hO] at ht hst ⊢
   obtain ⟨b,hb⟩:∃b,(L.take j).any (fun f=>badV d (lookV d i' f ⟨#[]⟩))=b:=⟨_,rfl⟩
   rw [hb] at hbd ⊢
   rw [badV,←badB] at hbd
   simp (disch:=omega) only [ite_ne,q,hc,getK_s (mapC_get st1 ef),go_sem,↓reduceIte,zqa,zqb,zqc,zqd,zqe,reduceCtorEq,zqf,zqg,zqh,zqi,zqj,zqk]
   refine vcCall.f (hlk _ _) ?_
   simp (disch:=omega) only [ite_ne,go_sem,↓reduceIte,zqa,zqb,zqc,zqd,zqe,reduceCtorEq,zqf,zqg,zqh,zqi,zqj,zqk]
   refine vcCall.f (ritem_ok s d v.n (c:=c) (by (simp (disch:=omega) only [ite_ne,hc,go_sem,↓reduceIte,zqa,zqb,zqc,zqd,zqe,reduceCtorEq,zqf,zqg,zqh,zqi,zqj,zqk])) _) ?_
   simp (disch:=omega) only [ite_ne,go_sem,↓reduceIte,zqa,zqb,zqc,zqd,zqe,reduceCtorEq,zqf,zqg,zqh,zqi,zqj,zqk]
   refine gCall.f (fun _=>vRight_ok v hsm.f _ _) ?_
   simp (disch:=omega) only [ite_ne,go_sem,↓reduceIte,zqa,zqb,zqc,zqd,zqe,reduceCtorEq,zqf,zqg,zqh,zqi,zqj,zqk]
   refine cdK_of (fun c2=>?_) (fun c2=>?_)
   ·have e2:leafOf v=zVal:=by
     rw [leafOf,if_neg]
     intro h
     simp only [leafV,Bool.and_eq_true,decide_eq_true_eq] at h
     simp [h] at c2
     omega
    rw [e2] at hst
    simp (disch:=omega) only [ite_ne,ht,k1,k2,go_sem,↓reduceIte,zqa,zqb,zqc,zqd,zqe,reduceCtorEq,zqf,zqg,zqh,zqi,zqj,zqk]
    refine ⟨(j+1,_),⟨by dsimp only;omega,by dsimp only;omega⟩,by dsimp only;omega,weak_ok ?_ (Sub.cons ?_ (Sub.base hf ?_)) (Nat.le_refl _)⟩
    all_goals
     simp (disch:=omega) only [ite_ne,wr64s j (by omega),hst,hbd,hmn,snoc_zv,go_sem,↓reduceIte,zqa,zqb,zqc,zqd,zqe,reduceCtorEq,zqf,zqg,zqh,zqi,zqj,zqk]
   ·have e2:leafOf v=v:=by
     rw [leafOf,if_pos]
     simp only [leafV,Bool.and_eq_true,decide_eq_true_eq]
     simp at c2
     exact ⟨⟨by omega,by omega⟩,c2.2⟩
    rw [e2] at hst
    simp (disch:=omega) only [ite_ne,ht,k1,k2,go_sem,↓reduceIte,zqa,zqb,zqc,zqd,zqe,reduceCtorEq,zqf,zqg,zqh,zqi,zqj,zqk]
    refine ⟨(j+1,_),⟨by dsimp only;omega,by dsimp only;omega⟩,by dsimp only;omega,weak_ok ?_ (Sub.cons ?_ (Sub.base hf ?_)) (Nat.le_refl _)⟩
    all_goals
     simp (disch:=omega) only [ite_ne,wr64s j (by omega),hst,hbd,hmn,snoc_zv,go_sem,↓reduceIte,zqa,zqb,zqc,zqd,zqe,reduceCtorEq,zqf,zqg,zqh,zqi,zqj,zqk]
  ·have q:j=L.length:=by simp at q;omega
   subst q
   have ht2:V.take L.length=V:=List.take_of_length_le (by omega)
   rw [List.take_length,hVe,hFe]
   simp (disch:=omega) only [ite_ne,hmn,hvl,ht2,Nat.le_refl,go_sem,↓reduceIte,zqa,zqb,zqc,zqd,zqe,reduceCtorEq,zqf,zqg,zqh,zqi,zqj,zqk]
theorem vcopies_ok (l:List Val) (hn:l.length*80≤140737488355327) (hl:∀v∈l,v.Fit) (hp:CH) (m:Nat):MeetsF Tryz.prog 110 hp m [.ds (mapC valC l)] (.ds (mapC valC l)):=copies_ok l hn (fun x hx=>copy_ok x (hl x hx)) hp m
theorem vList_ok (l:List Val) (hn:l.length*80≤140737488355327) (hl:∀v∈l,v.Fit) (hp:CH) (m:Nat):MeetsF Tryz.prog 66 hp m [.ds (mapC valC l)] (vx (listV l)):=by
 refine meetsF Tryz.func66 (by kernel_rfl) cc66 cr66 rfl fun hf=>?_;unfold ck66
 simp only [go_sem,↓reduceIte,zqa,zqb,zqc,zqd,zqe,reduceCtorEq,zqf,zqg,zqh,zqi,zqj,zqk]
 refine vcCall.f (vcopies_ok l hn hl _ _) ?_
 simp only [go_sem,↓reduceIte,zqa,zqb,zqc,zqd,zqe,reduceCtorEq,zqf,zqg,zqh,zqi,zqj,zqk]
 rfl
theorem vText_ok (t:ByteArray) (hp:CH) (m:Nat):MeetsF Tryz.prog 78 hp m [.s t] (vx (txV t)):=by
 refine meetsF Tryz.func78 (by kernel_rfl) cc78 cr78 rfl fun hf=>?_;unfold ck78
 simp only [go_sem,↓reduceIte,zqa,zqb,zqc,zqd,zqe,reduceCtorEq,zqf,zqg,zqh,zqi,zqj,zqk]
 rfl
theorem tfail_ok (t:ByteArray) (hp:CH) (m:Nat):MeetsF Tryz.prog 115 hp m [.s t] (vx (failV t)):=by
 refine meetsF Tryz.func115 (by kernel_rfl) cc115 cr115 rfl fun hf=>?_;unfold ck115
 simp only [go_sem,↓reduceIte,zqa,zqb,zqc,zqd,zqe,reduceCtorEq,zqf,zqg,zqh,zqi,zqj,zqk]
 rfl
theorem targs_ok (s:Sup) (hs:SOk s) (d:Dat) {B:Nat} (hd:DOk d B) (i:Int) (p:Pk) (ha:AOk p.args) {c:Nat} {hp:CH} (hc:gc hp c=.bx (rdC s d)) (m:Nat) :
  MeetsF Tryz.prog 31 hp m [.bx c 0,.i .i64 i,pkx p] (.tp [.s (ofL (argT s d i p)),.b (failB s d i p)]):=by
 have hT:=tText_ok p.args (fun a h=>(ha.v a h).ok) (Nat.le_trans ha.b (by omega)) (Nat.le_trans ha.n (by omega))
 have hN:=fun hp' (h:gc hp' c=.bx (rdC s d)) m'=>tneeds_ok s hs d hd i p (c:=c) (hp:=hp') h m'
 have hnl:=needL_len hs d i p
 have hvl:=needV_len s d i p
 have hP:=jPrint_ok (needV s d i p) (by omega) (needV_lok hd i p) (needV_sum hs hd i p)
 have hLL:=vList_ok (needV s d i p) (by omega) fun v hv=>(needV_sm hd i p v hv).f
 have hal:=argsL_len ha
 have hpl:(prnL (needV s d i p)).length≤64000000000002:=by
  have h1:=prn_len (needV s d i p) fun v hv=>(needV_lok hd i p v hv).r
  have h2:=jc_le ((needV s d i p).map prnV)
  have h3:=needV_sum hs hd i p
  simp only [prnL,List.length_cons,List.length_append,List.length_nil]
  omega
 obtain ⟨R,hR⟩:∃R,argT s d i p=R:=⟨_,rfl⟩
 have e:=hR
 rw [argT] at e
 rw [hR]
 obtain ⟨F,hF⟩:∃F,failB s d i p=F:=⟨_,rfl⟩
 rw [hF] at hN ⊢
 obtain ⟨V,hV⟩:∃V,needV s d i p=V:=⟨_,rfl⟩
 rw [hV] at hP hLL hvl hpl e hN
 obtain ⟨L,hL⟩:∃L,needL s d i p=L:=⟨_,rfl⟩
 rw [hL] at hnl hvl e
 obtain ⟨A,hA⟩:∃A,argsL p.args=A:=⟨_,rfl⟩
 rw [hA] at hT e hal
 refine meetsF Tryz.func31 (by kernel_rfl) cc31 cr31 rfl fun hf=>?_;unfold ck31
 have hlt:=bx_lt hf hc
 simp only [go_sem,↓reduceIte,zqa,zqb,zqc,zqd,zqe,reduceCtorEq,zqf,zqg,zqh,zqi,zqj,zqk]
 refine vcCall.f (hN _ (by (simp (disch:=omega) only [ite_ne,hc,go_sem,↓reduceIte,zqa,zqb,zqc,zqd,zqe,reduceCtorEq,zqf,zqg,zqh,zqi,zqj,zqk])) _) ?_
 simp only [go_sem,↓reduceIte,zqa,zqb,zqc,zqd,zqe,reduceCtorEq,zqf,zqg,zqh,zqi,zqj,zqk]
 refine vcCall.f (hT _ _) ?_
 simp only [go_sem,↓reduceIte,zqa,zqb,zqc,zqd,zqe,reduceCtorEq,zqf,zqg,zqh,zqi,zqj,zqk]
 refine cdK_of (fun q=>?_) (fun q=>?_)
 ·have c2:¬L=[]:=fun h=>by
   subst h
   rw [hvl] at q
   simp at q
  rw [if_neg c2] at e
  simp only [go_sem,↓reduceIte,zqa,zqb,zqc,zqd,zqe,reduceCtorEq,zqf,zqg,zqh,zqi,zqj,zqk]
  refine vcCall.f (hLL _ _) ?_
  simp only [go_sem,↓reduceIte,zqa,zqb,zqc,zqd,zqe,reduceCtorEq,zqf,zqg,zqh,zqi,zqj,zqk]
  refine vcCall.f (hP _ _) ?_
  subst e
  simp (disch:=first | omega | (simp only [List.length_append,List.length_cons,List.length_nil];omega)) only [ite_ne,s_cat,mk_ofL,ofL_app,litS,List.cons_append,List.append_assoc,List.nil_append,List.append_nil,go_sem,↓reduceIte,zqa,zqb,zqc,zqd,zqe,reduceCtorEq,zqf,zqg,zqh,zqi,zqj,zqk]
 ·have c2:L=[]:=by
   have q:¬(0:Int) < V.length:=by simpa using q
   exact List.eq_nil_of_length_eq_zero (by omega)
  rw [if_pos c2,List.append_nil] at e
  subst e
  simp only [go_sem,↓reduceIte,zqa,zqb,zqc,zqd,zqe,reduceCtorEq,zqf,zqg,zqh,zqi,zqj,zqk]
end Go.Proofs.YthiifoleopdieaaGreatDoor
namespace Go.Proofs.YthiifoleopdieaaGreatDoor
open Go.Eng
set_option linter.unusedVariables false
set_option linter.unusedSimpArgs false
set_option maxRecDepth 20000
def RdM (s:Sup) (d:Dat) (f:FuncId) (args:List AV) (r:AV):Prop:=∀(c:Nat) (hp:CH),gc hp c=.bx (rdC s d)→∀m,MeetsF Tryz.prog f hp m (.bx c 0::args) r
theorem traw_of (s:Sup) (hs:SOk s) (d:Dat) {B:Nat} (hd:DOk d B) (p:Pk)
  (hO:∀i,RdM s d 39 [.i .i64 i,.ds (mapC pkC p.picks)] (vx (objectV s d p.picks i)))
  (v:Val) (hv:VSm v) (h:∀x∈v.items,RdM s d 116 [vx x,pkx p] (vx (rawW d (compB s.doc p.tn) (objectV s d p.picks) x))) :
  RdM s d 116 [vx v,pkx p] (vx (rawW d (compB s.doc p.tn) (objectV s d p.picks) v)):=by
 intro k hp hk m
 have hvi:=hv.f.i
 have e:=rawW_eq d (compB s.doc p.tn) (objectV s d p.picks) v
 have hC:=tComposite_ok s.doc (Nat.le_trans hs.d (by omega)) p.tn
 obtain ⟨C,hCe⟩:∃C,compB s.doc p.tn=C:=⟨_,rfl⟩
 obtain ⟨W,hW⟩:∃W,rawW d C (objectV s d p.picks)=W:=⟨_,rfl⟩
 rw [hCe] at e hC h ⊢
 rw [hW] at e h ⊢
 obtain ⟨R,hR⟩:∃R,W v=R:=⟨_,rfl⟩
 rw [hR] at e ⊢
 have hOn:=hO v.n
 obtain ⟨O,hOe⟩:∃O,objectV s d p.picks v.n=O:=⟨_,rfl⟩
 rw [hOe] at e hOn
 have hIt:=fun hp' (q:gc hp' k=.bx (rdC s d)) m'=>ritem_ok s d v.n (c:=k) (hp:=hp') q m'
 obtain ⟨I,hI⟩:∃I,itD d v.n=I:=⟨_,rfl⟩
 obtain ⟨X,hX⟩:∃X,exB d v.n=X:=⟨_,rfl⟩
 rw [hX] at e
 rw [hI,hX] at hIt
 refine meetsF Tryz.func116 (by kernel_rfl) cc116 cr116 rfl fun hf=>?_;unfold ck116
 have hlt:=bx_lt hf hk
 simp only [go_sem,↓reduceIte,zqa,zqb,zqc,zqd,zqe,reduceCtorEq,zqf,zqg,zqh,zqi,zqj,zqk]
 refine cdK_of (fun c0=>?_) (fun c0=>?_)
 ·rw [if_pos (by simp at c0;omega)] at e
  rw [e]
  simp only [c0,go_sem,↓reduceIte,zqa,zqb,zqc,zqd,zqe,reduceCtorEq,zqf,zqg,zqh,zqi,zqj,zqk]
 simp only [go_sem,↓reduceIte,zqa,zqb,zqc,zqd,zqe,reduceCtorEq,zqf,zqg,zqh,zqi,zqj,zqk]
 refine cdK_of (fun c1=>?_) (fun c1=>?_)
 ·rw [if_pos (by simp at c1;omega)] at e
  rw [e]
  simp only [c1,go_sem,↓reduceIte,zqa,zqb,zqc,zqd,zqe,reduceCtorEq,zqf,zqg,zqh,zqi,zqj,zqk]
 simp only [go_sem,↓reduceIte,zqa,zqb,zqc,zqd,zqe,reduceCtorEq,zqf,zqg,zqh,zqi,zqj,zqk]
 refine cdK_of (fun c2=>?_) (fun c2=>?_)
 ·rw [if_pos (by simp at c2;omega)] at e
  rw [e]
  simp only [c2,go_sem,↓reduceIte,zqa,zqb,zqc,zqd,zqe,reduceCtorEq,zqf,zqg,zqh,zqi,zqj,zqk]
 simp only [go_sem,↓reduceIte,zqa,zqb,zqc,zqd,zqe,reduceCtorEq,zqf,zqg,zqh,zqi,zqj,zqk]
 refine cdK_of (fun c3=>?_) (fun c3=>?_)
 ·rw [if_pos (by simp at c3;omega)] at e
  rw [e]
  simp only [c3,go_sem,↓reduceIte,zqa,zqb,zqc,zqd,zqe,reduceCtorEq,zqf,zqg,zqh,zqi,zqj,zqk]
 simp only [go_sem,↓reduceIte,zqa,zqb,zqc,zqd,zqe,reduceCtorEq,zqf,zqg,zqh,zqi,zqj,zqk]
 refine cdK_of (fun c4=>?_) (fun c4=>?_)
 ·rw [if_pos (by simp at c4;omega)] at e
  rw [e]
  simp only [c4,go_sem,↓reduceIte,zqa,zqb,zqc,zqd,zqe,reduceCtorEq,zqf,zqg,zqh,zqi,zqj,zqk]
 simp only [go_sem,↓reduceIte,zqa,zqb,zqc,zqd,zqe,reduceCtorEq,zqf,zqg,zqh,zqi,zqj,zqk]
 refine cdK_of (fun c9=>?_) (fun c9=>?_)
 ·rw [if_pos (by simp at c9;omega)] at e
  rw [e]
  simp only [c9,go_sem,↓reduceIte,zqa,zqb,zqc,zqd,zqe,reduceCtorEq,zqf,zqg,zqh,zqi,zqj,zqk]
 have cn:¬((0≤v.k∧v.k≤4)∨v.k=9):=by simp at c0 c1 c2 c3 c4 c9;omega
 rw [if_neg cn] at e
 simp only [go_sem,↓reduceIte,zqa,zqb,zqc,zqd,zqe,reduceCtorEq,zqf,zqg,zqh,zqi,zqj,zqk]
 refine cdK_of (fun c5=>?_) (fun c5=>?_)
 ·rw [if_pos (by simpa using c5)] at e
  simp only [go_sem,↓reduceIte,zqa,zqb,zqc,zqd,zqe,reduceCtorEq,zqf,zqg,zqh,zqi,zqj,zqk]
  refine loop (fun q:Nat × Nat=>⟨[(0,.bx k 0),(5,.bx (m+1) 0),(6,.bx (m+2) 0),(7,.bx (m+3) 0),(26,.ds (mapC valC v.items)),(27,.i .i64 v.items.length),(28,.i .i64 q.1)],
    (m+1,.bx [.s p.key,.s p.on,.s p.name,.ds (mapC argC p.args),.s p.tn,.ds (mapC in1 p.tw),.s p.label,.i .i64 p.initial,.ds (mapC pkC p.picks)])::(m+2,.bx [.i .i64 0,.i .i64 0,.s ⟨#[]⟩,.e0,.e0])::(m+3,.bx [.i .i64 5,.i .i64 0,.s ⟨#[]⟩,.rw (m+4) q.1 q.1,.e0])::(m+4,.rw q.1 5 (mapC valC ((v.items.take q.1).map W)))::hp,q.2⟩)
   (fun q=>q.1≤v.items.length∧m+5≤q.2) (fun q=>v.items.length - q.1) (0,m+5) ?_ ?_ (fun ⟨j,n⟩ hj=>?_)
  ·simp
  ·refine (weak_b0 (c:=m+3) (i:=3) (m:=5) (gc_same _ _ _) rfl).trans (weak_ok ?_ (Sub.cons ?_ (Sub.cons ?_ (Sub.cons ?_ (Sub.cons ?_ (Sub.base hf ?_))))) (Nat.le_refl _))
   all_goals (simp (disch:=omega) only [ite_ne,go_sem,↓reduceIte,zqa,zqb,zqc,zqd,zqe,reduceCtorEq,zqf,zqg,zqh,zqi,zqj,zqk])
   all_goals rfl
  dsimp only at hj
  obtain ⟨hj1,hj2⟩:=hj
  have hmn:m≤n:=by omega
  simp (disch:=omega) only [ite_ne,go_sem,↓reduceIte,zqa,zqb,zqc,zqd,zqe,reduceCtorEq,zqf,zqg,zqh,zqi,zqj,zqk]
  refine cdK_of (fun q=>?_) (fun q=>?_)
  ·have q:j < v.items.length:=by simpa using q
   obtain ⟨x,ex⟩:∃x,v.items[j]?=some x:=⟨v.items[j],by simp [q]⟩
   have hx:=h x (List.mem_of_getElem? ex) k
   have ht:((v.items.take j).map W).length=j:=by simp;omega
   have hst:=map_take_snocI W ex
   have k1:(j+1)*80≤140737488355328:=by omega
   have k2:j+1≤9223372036854775807:=by omega
   simp (disch:=omega) only [ite_ne,q,getK_s (mapC_get valC ex),go_sem,↓reduceIte,zqa,zqb,zqc,zqd,zqe,reduceCtorEq,zqf,zqg,zqh,zqi,zqj,zqk]
   refine dCallR.f (fun _ hp' e=>hx _ ((e k (.inl (by omega))).trans (by (simp (disch:=omega) only [ite_ne,hk,go_sem,↓reduceIte,zqa,zqb,zqc,zqd,zqe,reduceCtorEq,zqf,zqg,zqh,zqi,zqj,zqk]))) _) ?_
   simp (disch:=omega) only [ite_ne,q,getK_s (mapC_get valC ex),ht,k1,k2,go_sem,↓reduceIte,zqa,zqb,zqc,zqd,zqe,reduceCtorEq,zqf,zqg,zqh,zqi,zqj,zqk]
   refine ⟨(j+1,_),⟨by dsimp only;omega,by dsimp only;omega⟩,by dsimp only;omega,weak_ok ?_ (Sub.cons ?_ (Sub.cons ?_ (Sub.cons ?_ (Sub.cons ?_ (Sub.base hf ?_))))) (Nat.le_refl _)⟩
   all_goals
    simp (disch:=omega) only [ite_ne,wr64s j (by omega),hst,hmn,go_sem,↓reduceIte,zqa,zqb,zqc,zqd,zqe,reduceCtorEq,zqf,zqg,zqh,zqi,zqj,zqk]
  ·have q:j=v.items.length:=by simp at q;omega
   subst q
   have hl1:(v.items.map W).length=v.items.length:=by simp
   have hl2:(v.items.map W).take v.items.length=v.items.map W:=List.take_of_length_le (by omega)
   rw [List.take_length]
   subst e
   simp (disch:=omega) only [ite_ne,hl1,hl2,Nat.le_refl,hmn,go_sem,↓reduceIte,zqa,zqb,zqc,zqd,zqe,reduceCtorEq,zqf,zqg,zqh,zqi,zqj,zqk]
   try rfl
 have c5':¬v.k=5:=by simpa using c5
 rw [if_neg c5'] at e
 simp only [go_sem,↓reduceIte,zqa,zqb,zqc,zqd,zqe,reduceCtorEq,zqf,zqg,zqh,zqi,zqj,zqk]
 refine cdK_of (fun c6=>?_) (fun c6=>?_)
 ·rw [if_pos (by simpa using c6)] at e
  subst e
  simp only [go_sem,↓reduceIte,zqa,zqb,zqc,zqd,zqe,reduceCtorEq,zqf,zqg,zqh,zqi,zqj,zqk]
  refine vcCall.f (tfail_ok _ _ _) ?_
  simp only [go_sem,↓reduceIte,zqa,zqb,zqc,zqd,zqe,reduceCtorEq,zqf,zqg,zqh,zqi,zqj,zqk]
  rfl
 have c6':¬v.k=6:=by simpa using c6
 rw [if_neg c6'] at e
 simp only [go_sem,↓reduceIte,zqa,zqb,zqc,zqd,zqe,reduceCtorEq,zqf,zqg,zqh,zqi,zqj,zqk]
 refine cdK_of (fun c8=>?_) (fun c8=>?_)
 ·rw [if_pos (by simpa using c8)] at e
  simp only [go_sem,↓reduceIte,zqa,zqb,zqc,zqd,zqe,reduceCtorEq,zqf,zqg,zqh,zqi,zqj,zqk]
  refine vcCall.f (hIt _ (by (simp (disch:=omega) only [ite_ne,hk,go_sem,↓reduceIte,zqa,zqb,zqc,zqd,zqe,reduceCtorEq,zqf,zqg,zqh,zqi,zqj,zqk])) _) ?_
  simp only [go_sem,↓reduceIte,zqa,zqb,zqc,zqd,zqe,reduceCtorEq,zqf,zqg,zqh,zqi,zqj,zqk]
  cases X with
  | false =>
   rw [if_neg (by simp)] at e
   subst e
   simp only [go_sem,↓reduceIte,zqa,zqb,zqc,zqd,zqe,reduceCtorEq,zqf,zqg,zqh,zqi,zqj,zqk]
   rfl
  | true =>
   rw [if_pos rfl] at e
   simp (disch:=omega) only [ite_ne,hk,go_sem,↓reduceIte,zqa,zqb,zqc,zqd,zqe,reduceCtorEq,zqf,zqg,zqh,zqi,zqj,zqk]
   refine dCallR.f (fun _ hp' e=>hC _ _) ?_
   simp (disch:=omega) only [ite_ne,go_sem,↓reduceIte,zqa,zqb,zqc,zqd,zqe,reduceCtorEq,zqf,zqg,zqh,zqi,zqj,zqk]
   cases C with
   | false =>
    rw [if_neg (by simp)] at e
    subst e
    simp only [go_sem,↓reduceIte,zqa,zqb,zqc,zqd,zqe,reduceCtorEq,zqf,zqg,zqh,zqi,zqj,zqk]
    refine vcCall.f (tfail_ok _ _ _) ?_
    simp only [go_sem,↓reduceIte,zqa,zqb,zqc,zqd,zqe,reduceCtorEq,zqf,zqg,zqh,zqi,zqj,zqk]
    rfl
   | true =>
    rw [if_pos rfl] at e
    subst e
    simp only [go_sem,↓reduceIte,zqa,zqb,zqc,zqd,zqe,reduceCtorEq,zqf,zqg,zqh,zqi,zqj,zqk]
    refine vcCall.f (hOn _ _ (by (simp (disch:=omega) only [ite_ne,hk,go_sem,↓reduceIte,zqa,zqb,zqc,zqd,zqe,reduceCtorEq,zqf,zqg,zqh,zqi,zqj,zqk])) _) ?_
    simp only [go_sem,↓reduceIte,zqa,zqb,zqc,zqd,zqe,reduceCtorEq,zqf,zqg,zqh,zqi,zqj,zqk]
 ·rw [if_neg (by simpa using c8)] at e
  subst e
  simp only [go_sem,↓reduceIte,zqa,zqb,zqc,zqd,zqe,reduceCtorEq,zqf,zqg,zqh,zqi,zqj,zqk]
  rfl
theorem traw_ok (s:Sup) (hs:SOk s) (d:Dat) {B:Nat} (hd:DOk d B) (p:Pk)
  (hO:∀i,RdM s d 39 [.i .i64 i,.ds (mapC pkC p.picks)] (vx (objectV s d p.picks i)))
  (v:Val) (hv:VSm v):RdM s d 116 [vx v,pkx p] (vx (rawW d (compB s.doc p.tn) (objectV s d p.picks) v)):=by
 have:=Val.ind (Q:=fun v=>VSm v→RdM s d 116 [vx v,pkx p] (vx (rawW d (compB s.doc p.tn) (objectV s d p.picks) v)))
  (fun v ih hv=>traw_of s hs d hd p hO v hv (fun x hx=>ih x hx ⟨hv.f.x hx,hv.r.x hx,by
   have h1:=hv.b
   have h2:avL (valC x)≤avLL (mapC valC v.items):=avLL_in (List.mem_map_of_mem (f:=valC) hx)
   rw [avL_val] at h1
   omega⟩)) v
 exact this hv
theorem tpick_of (s:Sup) (hs:SOk s) (d:Dat) {B:Nat} (hd:DOk d B) (p:Pk) (ha:AOk p.args)
  (hRw:∀v,VSm v→RdM s d 116 [vx v,pkx p] (vx (rawW d (compB s.doc p.tn) (objectV s d p.picks) v)))
  (i:Int):RdM s d 79 [.i .i64 i,.s (typD d i),pkx p] (vx (pickV s d p i)):=by
 intro k hp hk m
 have hA:=fun hp' (q:gc hp' k=.bx (rdC s d)) m'=>targs_ok s hs d hd i p ha (c:=k) (hp:=hp') q m'
 have hL:=dLookup_ok d hd.f.f i p.name (ofL (argT s d i p))
 have hR:=hRw _ (lookV_sm hd i p.name (ofL (argT s d i p))) k
 obtain ⟨R,hRe⟩:∃R,pickV s d p i=R:=⟨_,rfl⟩
 have e:=hRe
 rw [pickV_eq,pickW] at e
 unfold sTypename at e
 rw [hRe]
 obtain ⟨W,hW⟩:∃W,rawW d (compB s.doc p.tn) (objectV s d p.picks) (lookV d i p.name (ofL (argT s d i p)))=W:=⟨_,rfl⟩
 rw [hW] at e hR
 obtain ⟨v,hv⟩:∃v,lookV d i p.name (ofL (argT s d i p))=v:=⟨_,rfl⟩
 rw [hv] at hL hR
 obtain ⟨A,hAe⟩:∃A,ofL (argT s d i p)=A:=⟨_,rfl⟩
 rw [hAe] at hA hL
 obtain ⟨F,hFe⟩:∃F,failB s d i p=F:=⟨_,rfl⟩
 rw [hFe] at hA e
 obtain ⟨T,hT⟩:∃T,typD d i=T:=⟨_,rfl⟩
 rw [hT] at e ⊢
 refine meetsF Tryz.func79 (by kernel_rfl) cc79 cr79 rfl fun hf=>?_;unfold ck79
 have hlt:=bx_lt hf hk
 simp only [go_sem,↓reduceIte,zqa,zqb,zqc,zqd,zqe,reduceCtorEq,zqf,zqg,zqh,zqi,zqj,zqk]
 refine cdK_of (fun c=>?_) (fun c=>?_)
 ·rw [if_pos (by simpa using c)] at e
  subst e
  simp only [go_sem,↓reduceIte,zqa,zqb,zqc,zqd,zqe,reduceCtorEq,zqf,zqg,zqh,zqi,zqj,zqk]
  refine vcCall.f (vText_ok _ _ _) ?_
  simp only [go_sem,↓reduceIte,zqa,zqb,zqc,zqd,zqe,reduceCtorEq,zqf,zqg,zqh,zqi,zqj,zqk]
 rw [if_neg (by simpa using c)] at e
 simp only [go_sem,↓reduceIte,zqa,zqb,zqc,zqd,zqe,reduceCtorEq,zqf,zqg,zqh,zqi,zqj,zqk]
 refine vcCall.f (hA _ (by (simp (disch:=omega) only [ite_ne,hk,go_sem,↓reduceIte,zqa,zqb,zqc,zqd,zqe,reduceCtorEq,zqf,zqg,zqh,zqi,zqj,zqk])) _) ?_
 simp only [go_sem,↓reduceIte,zqa,zqb,zqc,zqd,zqe,reduceCtorEq,zqf,zqg,zqh,zqi,zqj,zqk]
 cases F with
 | true =>
  rw [if_pos rfl] at e
  subst e
  simp only [go_sem,↓reduceIte,zqa,zqb,zqc,zqd,zqe,reduceCtorEq,zqf,zqg,zqh,zqi,zqj,zqk]
  refine vcCall.f (tfail_ok _ _ _) ?_
  simp only [go_sem,↓reduceIte,zqa,zqb,zqc,zqd,zqe,reduceCtorEq,zqf,zqg,zqh,zqi,zqj,zqk]
  rfl
 | false =>
  rw [if_neg (by simp)] at e
  subst e
  simp (disch:=omega) only [ite_ne,hk,go_sem,↓reduceIte,zqa,zqb,zqc,zqd,zqe,reduceCtorEq,zqf,zqg,zqh,zqi,zqj,zqk]
  refine dCallR.f (fun _ hp' e=>hL _ _) ?_
  simp (disch:=omega) only [ite_ne,hk,go_sem,↓reduceIte,zqa,zqb,zqc,zqd,zqe,reduceCtorEq,zqf,zqg,zqh,zqi,zqj,zqk]
  refine dCallR.f (fun _ hp' e=>hR _ ((e k (.inl (by omega))).trans (by (simp (disch:=omega) only [ite_ne,hk,go_sem,↓reduceIte,zqa,zqb,zqc,zqd,zqe,reduceCtorEq,zqf,zqg,zqh,zqi,zqj,zqk]))) _) ?_
  simp (disch:=omega) only [ite_ne,go_sem,↓reduceIte,zqa,zqb,zqc,zqd,zqe,reduceCtorEq,zqf,zqg,zqh,zqi,zqj,zqk]
end Go.Proofs.YthiifoleopdieaaGreatDoor
