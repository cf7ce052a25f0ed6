/-
  The parts IdM IdJ IdO of the proof, in one file. Conditions: none.
-/
import Derived.Test.YthiifoleopdieaaGreatDoorIv48
open Nat renaming reduceEqDiff→zqa,reduceBEq→zqb,reduceAdd→zqc,reduceLeDiff→zqd,reduceLT→zqe,reduceMul→zqf,reduceSub→zqg
open Int renaming reduceEq→zqh,reduceLT→zqi,reduceLE→zqj,reduceToNat→zqk
namespace Go.Proofs.YthiifoleopdieaaGreatDoor
open Go.Eng
set_option linter.unusedVariables false
set_option linter.unusedSimpArgs false
set_option maxRecDepth 20000
set_option maxHeartbeats 1000000 in
theorem tObject_of (s:Sup) (hs:SOk s) (d:Dat) {B:Nat} (hd:DOk d B) (l:List Pk) (hl:l.length≤1048576)
  (h:∀p∈l,∀i,RdM s d 79 [.i .i64 i,.s (typD d i),pkx p] (vx (pickV s d p i)))
  (i:Int):RdM s d 39 [.i .i64 i,.ds (mapC pkC l)] (vx (objectV s d l i)):=by
 intro k hp hk m
 have hIt:=fun hp' (q:gc hp' k=.bx (rdC s d)) m'=>ritem_ok s d i (c:=k) (hp:=hp') q m'
 obtain ⟨R,hR⟩:∃R,objectV s d l i=R:=⟨_,rfl⟩
 have e:=hR
 rw [objectV] at e
 rw [hR]
 obtain ⟨X,hX⟩:∃X,exB d i=X:=⟨_,rfl⟩
 have h2:=fun p hp=>h p hp i
 rw [hX] at e hIt
 refine meetsF Tryz.func39 (by kernel_rfl) cc39 cr39 rfl fun hf=>?_;unfold ck39
 have hlt:=bx_lt hf hk
 simp only [go_sem,↓reduceIte,zqa,zqb,zqc,zqd,zqe,reduceCtorEq,zqf,zqg,zqh,zqi,zqj,zqk]
 refine vcCall.f (hIt _ (by (simp (disch:=omega) only [ite_ne,hk,go_sem,↓reduceIte,zqa,zqb,zqc,zqd,zqe,reduceCtorEq,zqf,zqg,zqh,zqi,zqj,zqk])) _) ?_
 cases X with
 | false =>
  rw [if_neg (by simp)] at e
  subst e
  simp only [go_sem,↓reduceIte,zqa,zqb,zqc,zqd,zqe,reduceCtorEq,zqf,zqg,zqh,zqi,zqj,zqk]
  rfl
 | true =>
 rw [if_pos rfl] at e
 obtain ⟨i',x,rfl,ex,hil,ht⟩:=exB_at hX
 have hF:∀j p,l[j]?=some p→fieldsV s d (l.take (j+1)) i'=if p.on=x.t then fieldsV s d (l.take j) i'++[(p.key,pickV s d p i')] else fieldsV s d (l.take j) i':=by
  intro j p hjp
  rw [←take_snoc hjp,fieldsV_eq,fieldsV_eq,List.filter_append,List.map_append,ht]
  by_cases c:p.on=x.t
  ·rw [if_pos c];simp [c]
  ·rw [if_neg c];simp [c]
 rw [ht] at e h2
 rw [itD_at ex hil]
 have hq:∀j,(fieldsV s d (l.take j) i').length≤j:=fun j=>by
  have:=fieldsV_len s d (l.take j) i'
  rw [List.length_take] at this
  omega
 simp only [go_sem,↓reduceIte,zqa,zqb,zqc,zqd,zqe,reduceCtorEq,zqf,zqg,zqh,zqi,zqj,zqk]
 refine vcCall.f (vText_ok _ _ _) ?_
 simp only [go_sem,↓reduceIte,zqa,zqb,zqc,zqd,zqe,reduceCtorEq,zqf,zqg,zqh,zqi,zqj,zqk]
 refine loop (fun q:Nat × List (ByteArray × Val) × Nat=>⟨[(0,.bx k 0),(1,.i .i64 i'),(6,.bx m 0),(7,.bx (m+1) 0),(9,.bx (m+4) 0),(27,.ds (mapC pkC l)),(28,.i .i64 l.length),(29,.i .i64 q.1)],
   (m,.bx [.i .i64 0,.i .i64 0,.s ⟨#[]⟩,.e0,.e0])::(m+1,.bx [.s x.t,.ds (mapC celC x.l)]) ::
   (m+4,.bx [.i .i64 6,.i .i64 0,.s ⟨#[]⟩,.rw (m+3) q.2.1.length (q.2.1.length+1),.rw (m+2) q.2.1.length (q.2.1.length+1)])::(m+3,.rw q.2.1.length 5 (mapC valC (txV x.t::q.2.1.map (·.2))))::(m+2,.rw q.2.1.length 1 (stC (⟨#[95,95,116]⟩::q.2.1.map (·.1))))::hp,q.2.2⟩)
  (fun q=>q.1≤l.length∧m+5≤q.2.2∧q.2.1=fieldsV s d (l.take q.1) i') (fun q=>l.length - q.1) (0,[],m+5) ?_ ?_ (fun ⟨j,F,n⟩ hj=>?_)
 ·exact ⟨by simp,by simp,by dsimp only;rw [List.take_zero,fieldsV_eq];rfl⟩
 ·refine weak_ok ?_ (Sub.cons ?_ (Sub.cons ?_ (Sub.cons ?_ (Sub.cons ?_ (Sub.cons ?_ (Sub.base hf ?_)))))) (Nat.le_refl _)
  all_goals (simp (disch:=omega) only [ite_ne,go_sem,↓reduceIte,zqa,zqb,zqc,zqd,zqe,reduceCtorEq,zqf,zqg,zqh,zqi,zqj,zqk])
  all_goals rfl
 dsimp only at hj
 obtain ⟨hj1,hj2,hj3⟩:=hj
 have hmn:m≤n:=by omega
 have hFl:F.length≤j:=by rw [hj3];exact hq j
 simp (disch:=omega) only [ite_ne,go_sem,↓reduceIte,zqa,zqb,zqc,zqd,zqe,reduceCtorEq,zqf,zqg,zqh,zqi,zqj,zqk]
 refine cdK_of (fun q=>?_) (fun q=>?_)
 ·have q:j < l.length:=by simpa using q
  obtain ⟨p,ep⟩:∃p,l[j]?=some p:=⟨l[j],by simp [q]⟩
  have hst:=hF j p ep
  have hrd:=h2 p (List.mem_of_getElem? ep) k
  rw [←hj3] at hst
  have hl1:(F.map (·.2)).length=F.length:=by simp
  have hl2:(F.map (·.1)).length=F.length:=by simp
  have k1:(F.length+1+1)*80≤140737488355328:=by omega
  have k2:(F.length+1+1)*16≤140737488355328:=by omega
  have k3:F.length+1+1≤9223372036854775807:=by omega
  have k4:l.length - (j+1) < l.length - j:=by omega
  simp (disch:=omega) only [ite_ne,q,getK_s (mapC_get pkC ep),go_sem,↓reduceIte,zqa,zqb,zqc,zqd,zqe,reduceCtorEq,zqf,zqg,zqh,zqi,zqj,zqk]
  refine cdK_of (fun c=>?_) (fun c=>?_)
  ·have c:¬p.on=x.t:=by simpa using c
   rw [if_neg c] at hst
   simp (disch:=omega) only [ite_ne,go_sem,↓reduceIte,zqa,zqb,zqc,zqd,zqe,reduceCtorEq,zqf,zqg,zqh,zqi,zqj,zqk]
   refine ⟨(j+1,F,_),⟨by dsimp only;omega,by dsimp only;omega,hst.symm⟩,k4,weak_ok ?_ (Sub.cons ?_ (Sub.cons ?_ (Sub.cons ?_ (Sub.cons ?_ (Sub.cons ?_ (Sub.base hf ?_)))))) (Nat.le_refl _)⟩
   all_goals
    simp (disch:=omega) only [ite_ne,wr64s j (by omega),hmn,go_sem,↓reduceIte,zqa,zqb,zqc,zqd,zqe,reduceCtorEq,zqf,zqg,zqh,zqi,zqj,zqk]
  ·have c:p.on=x.t:=by simpa using c
   rw [if_pos c] at hst
   simp (disch:=omega) only [ite_ne,hl1,hl2,k1,k2,k3,go_sem,↓reduceIte,zqa,zqb,zqc,zqd,zqe,reduceCtorEq,zqf,zqg,zqh,zqi,zqj,zqk]
   refine dCallR.f (fun _ hp' e=>hrd _ ((e k (.inl (by omega))).trans (by (simp (disch:=omega) only [ite_ne,hk,go_sem,↓reduceIte,zqa,zqb,zqc,zqd,zqe,reduceCtorEq,zqf,zqg,zqh,zqi,zqj,zqk]))) _) ?_
   simp (disch:=omega) only [ite_ne,hl1,hl2,k1,k2,k3,go_sem,↓reduceIte,zqa,zqb,zqc,zqd,zqe,reduceCtorEq,zqf,zqg,zqh,zqi,zqj,zqk]
   refine ⟨(j+1,F++[(p.key,pickV s d p i')],_),⟨by dsimp only;omega,by dsimp only;omega,hst.symm⟩,k4,weak_ok ?_ (Sub.cons ?_ (Sub.cons ?_ (Sub.cons ?_ (Sub.cons ?_ (Sub.cons ?_ (Sub.base hf ?_)))))) (Nat.le_refl _)⟩
   all_goals
    simp (disch:=omega) only [ite_ne,wr64s j (by omega),hmn,List.length_append,List.length_cons,List.length_nil,List.map_append,List.map_cons,List.map_nil,go_sem,↓reduceIte,zqa,zqb,zqc,zqd,zqe,reduceCtorEq,zqf,zqg,zqh,zqi,zqj,zqk]
 ·have q:j=l.length:=by simp at q;omega
  subst q
  rw [List.take_length] at hj3
  rw [←hj3] at e
  subst e
  have hl1:(F.map (·.2)).length=F.length:=by simp
  have hl2:(F.map (·.1)).length=F.length:=by simp
  have hl3:(F.map (·.2)).take F.length=F.map (·.2):=List.take_of_length_le (by omega)
  have hl4:(F.map (·.1)).take F.length=F.map (·.1):=List.take_of_length_le (by omega)
  simp (disch:=omega) only [ite_ne,hl1,hl2,hl3,hl4,Nat.le_refl,hmn,go_sem,↓reduceIte,zqa,zqb,zqc,zqd,zqe,reduceCtorEq,zqf,zqg,zqh,zqi,zqj,zqk]
  try rfl
theorem tpick_ok (s:Sup) (hs:SOk s) (d:Dat) {B:Nat} (hd:DOk d B) (p:Pk) (hpo:p.Ok) (i:Int):RdM s d 79 [.i .i64 i,.s (typD d i),pkx p] (vx (pickV s d p i)):=by
 have:=Pk.ind (Q:=fun p=>p.Ok→∀i,RdM s d 79 [.i .i64 i,.s (typD d i),pkx p] (vx (pickV s d p i)))
  (fun p ih hpo i=>tpick_of s hs d hd p hpo.a (fun v hv=>traw_ok s hs d hd p
   (fun i=>tObject_of s hs d hd p.picks hpo.l (fun x hx i=>ih x hx (hpo.x hx) i) i) v hv) i) p
 exact this hpo i
theorem tobject_ok (s:Sup) (hs:SOk s) (d:Dat) {B:Nat} (hd:DOk d B) (l:List Pk) (hl:l.length≤1048576) (hpo:∀p∈l,p.Ok) (i:Int):RdM s d 39 [.i .i64 i,.ds (mapC pkC l)] (vx (objectV s d l i)) :=
 tObject_of s hs d hd l hl (fun x hx i=>tpick_ok s hs d hd x (hpo x hx) i) i
theorem tObject_ok (s:Sup) (hs:SOk s) (d:Dat) {B:Nat} (hd:DOk d B) (l:List Pk) (hl:l.length≤1048576) (hpo:∀p∈l,p.Ok) (i:Int) (hp:CH) (m:Nat) :
  MeetsF Tryz.prog 15 hp m [supx s,dx d,.i .i64 i,.ds (mapC pkC l)] (vx (objectV s d l i)):=by
 have hO:=tobject_ok s hs d hd l hl hpo i
 obtain ⟨R,hR⟩:∃R,objectV s d l i=R:=⟨_,rfl⟩
 rw [hR] at hO ⊢
 refine meetsF Tryz.func15 (by kernel_rfl) cc15 cr15 rfl fun hf=>?_;unfold ck15
 simp only [go_sem,↓reduceIte,zqa,zqb,zqc,zqd,zqe,reduceCtorEq,zqf,zqg,zqh,zqi,zqj,zqk]
 refine vcCall.f (hO _ _ (gc_same _ _ _) _) ?_
 simp only [go_sem,↓reduceIte,zqa,zqb,zqc,zqd,zqe,reduceCtorEq,zqf,zqg,zqh,zqi,zqj,zqk]
theorem tArgs_ok (s:Sup) (hs:SOk s) (d:Dat) {B:Nat} (hd:DOk d B) (i:Int) (p:Pk) (ha:AOk p.args) (hp:CH) (m:Nat):MeetsF Tryz.prog 12 hp m [supx s,dx d,.i .i64 i,pkx p] (.s (ofL (argT s d i p))):=by
 have hA:=fun c hp' q m'=>targs_ok s hs d hd i p ha (c:=c) (hp:=hp') q m'
 refine meetsF Tryz.func12 (by kernel_rfl) cc12 cr12 rfl fun hf=>?_;unfold ck12
 simp only [go_sem,↓reduceIte,zqa,zqb,zqc,zqd,zqe,reduceCtorEq,zqf,zqg,zqh,zqi,zqj,zqk]
 refine vcCall.f (hA _ _ (gc_same _ _ _) _) ?_
 simp only [go_sem,↓reduceIte,zqa,zqb,zqc,zqd,zqe,reduceCtorEq,zqf,zqg,zqh,zqi,zqj,zqk]
end Go.Proofs.YthiifoleopdieaaGreatDoor
namespace Go.Proofs.YthiifoleopdieaaGreatDoor
open Go.Eng
set_option linter.unusedVariables false
set_option linter.unusedSimpArgs false
set_option maxRecDepth 20000
set_option maxHeartbeats 1000000 in
theorem rObject_of (s:Sup) (hs:SOk s) (d:Dat) {B:Nat} (hd:DOk d B) (l:List Pk) (hl:l.length≤1048576)
  (h:∀p∈l,∀i,exB d i=true→∀hp m,MeetsF Tryz.prog 41 hp m [supx s,dx d,.i .i64 i,pkx p] (vx (pickV s d p i)))
  (i:Int) (hp:CH) (m:Nat):MeetsF Tryz.prog 16 hp m [supx s,dx d,.i .i64 i,.ds (mapC pkC l)] (vx (objectV s d l i)):=by
 have hEx:=exists_ok d i
 obtain ⟨R,hR⟩:∃R,objectV s d l i=R:=⟨_,rfl⟩
 have e:=hR
 rw [objectV] at e
 rw [hR]
 obtain ⟨X,hX⟩:∃X,exB d i=X:=⟨_,rfl⟩
 have h2:=fun p hp=>h p hp i
 rw [hX] at e hEx h2
 refine meetsF Tryz.func16 (by kernel_rfl) cc16 cr16 rfl fun hf=>?_;unfold ck16
 simp only [go_sem,↓reduceIte,zqa,zqb,zqc,zqd,zqe,reduceCtorEq,zqf,zqg,zqh,zqi,zqj,zqk]
 refine vcCall.f (hEx _ _) ?_
 simp only [go_sem,↓reduceIte,zqa,zqb,zqc,zqd,zqe,reduceCtorEq,zqf,zqg,zqh,zqi,zqj,zqk]
 cases X with
 | false =>
  rw [if_neg (by simp)] at e
  subst e
  simp only [go_sem,↓reduceIte,zqa,zqb,zqc,zqd,zqe,reduceCtorEq,zqf,zqg,zqh,zqi,zqj,zqk]
  rfl
 | true =>
 rw [if_pos rfl] at e
 obtain ⟨i',x,rfl,ex,hil,ht⟩:=exB_at hX
 have hF:∀j p,l[j]?=some p→fieldsV s d (l.take (j+1)) i'=if p.on=x.t then fieldsV s d (l.take j) i'++[(p.key,pickV s d p i')] else fieldsV s d (l.take j) i':=by
  intro j p hjp
  rw [←take_snoc hjp,fieldsV_eq,fieldsV_eq,List.filter_append,List.map_append,ht]
  by_cases c:p.on=x.t
  ·rw [if_pos c];simp [c]
  ·rw [if_neg c];simp [c]
 rw [ht] at e
 have hq:∀j,(fieldsV s d (l.take j) i').length≤j:=fun j=>by
  have:=fieldsV_len s d (l.take j) i'
  rw [List.length_take] at this
  omega
 simp (disch:=omega) only [ite_ne,hil,getK_s (mapC_get itC ex),go_sem,↓reduceIte,zqa,zqb,zqc,zqd,zqe,reduceCtorEq,zqf,zqg,zqh,zqi,zqj,zqk]
 refine vcCall.f (text_ok _ _ _) ?_
 simp only [go_sem,↓reduceIte,zqa,zqb,zqc,zqd,zqe,reduceCtorEq,zqf,zqg,zqh,zqi,zqj,zqk]
 refine loop (fun q:Nat × List (ByteArray × Val) × Nat=>⟨[(2,.i .i64 i'),(3,.ds (mapC pkC l)),(4,.bx m 0),(5,.bx (m+1) 0),(8,.bx (m+2) 0),(9,.s x.t),(10,.bx (m+5) 0),(11,.i .i64 q.1)],
   (m,.bx [.ds (stC s.g),.ds (mapC dfC s.doc),.ds (mapC kyC s.keys),.ds (mapC jnC s.joins)])::(m+1,.bx [.ds (mapC itC d.i),.ds (mapC wrC d.w)])::(m+2,.bx [.i .i64 0,.i .i64 0,.s ⟨#[]⟩,.e0,.e0]) ::
   (m+5,.bx [.i .i64 6,.i .i64 0,.s ⟨#[]⟩,.rw (m+4) q.2.1.length (q.2.1.length+1),.rw (m+3) q.2.1.length (q.2.1.length+1)])::(m+4,.rw q.2.1.length 5 (mapC valC (txV x.t::q.2.1.map (·.2))))::(m+3,.rw q.2.1.length 1 (stC (⟨#[95,95,116]⟩::q.2.1.map (·.1))))::hp,q.2.2⟩)
  (fun q=>q.1≤l.length∧m+6≤q.2.2∧q.2.1=fieldsV s d (l.take q.1) i') (fun q=>l.length - q.1) (0,[],m+6) ?_ ?_ (fun ⟨j,F,n⟩ hj=>?_)
 ·exact ⟨by simp,by simp,by dsimp only;rw [List.take_zero,fieldsV_eq];rfl⟩
 ·refine weak_ok ?_ (Sub.cons ?_ (Sub.cons ?_ (Sub.cons ?_ (Sub.cons ?_ (Sub.cons ?_ (Sub.cons ?_ (Sub.base hf ?_))))))) (Nat.le_refl _)
  all_goals (simp (disch:=omega) only [ite_ne,go_sem,↓reduceIte,zqa,zqb,zqc,zqd,zqe,reduceCtorEq,zqf,zqg,zqh,zqi,zqj,zqk])
  all_goals rfl
 dsimp only at hj
 obtain ⟨hj1,hj2,hj3⟩:=hj
 have hmn:m≤n:=by omega
 have hFl:F.length≤j:=by rw [hj3];exact hq j
 simp (disch:=omega) only [ite_ne,go_sem,↓reduceIte,zqa,zqb,zqc,zqd,zqe,reduceCtorEq,zqf,zqg,zqh,zqi,zqj,zqk]
 refine cdK_of (fun q=>?_) (fun q=>?_)
 ·have q:j < l.length:=by simpa using q
  obtain ⟨p,ep⟩:∃p,l[j]?=some p:=⟨l[j],by simp [q]⟩
  have hst:=hF j p ep
  have hrd:=h2 p (List.mem_of_getElem? ep) rfl
  rw [←hj3] at hst
  have hl1:(F.map (·.2)).length=F.length:=by simp
  have hl2:(F.map (·.1)).length=F.length:=by simp
  have k1:(F.length+1+1)*80≤140737488355328:=by omega
  have k2:(F.length+1+1)*16≤140737488355328:=by omega
  have k3:F.length+1+1≤9223372036854775807:=by omega
  have k4:l.length - (j+1) < l.length - j:=by omega
  simp (disch:=omega) only [ite_ne,q,getK_s (mapC_get pkC ep),go_sem,↓reduceIte,zqa,zqb,zqc,zqd,zqe,reduceCtorEq,zqf,zqg,zqh,zqi,zqj,zqk]
  refine cdK_of (fun c=>?_) (fun c=>?_)
  ·have c:p.on=x.t:=by simpa using c
   rw [if_pos c] at hst
   simp (disch:=omega) only [ite_ne,q,getK_s (mapC_get pkC ep),hl1,hl2,k1,k2,k3,go_sem,↓reduceIte,zqa,zqb,zqc,zqd,zqe,reduceCtorEq,zqf,zqg,zqh,zqi,zqj,zqk]
   refine dCallR.f (fun _ hp' e=>hrd _ _) ?_
   simp (disch:=omega) only [ite_ne,q,getK_s (mapC_get pkC ep),hl1,hl2,k1,k2,k3,go_sem,↓reduceIte,zqa,zqb,zqc,zqd,zqe,reduceCtorEq,zqf,zqg,zqh,zqi,zqj,zqk]
   refine ⟨(j+1,F++[(p.key,pickV s d p i')],_),⟨by dsimp only;omega,by dsimp only;omega,hst.symm⟩,k4,weak_ok ?_ (Sub.cons ?_ (Sub.cons ?_ (Sub.cons ?_ (Sub.cons ?_ (Sub.cons ?_ (Sub.cons ?_ (Sub.base hf ?_))))))) (Nat.le_refl _)⟩
   all_goals
    simp (disch:=omega) only [ite_ne,wr64s j (by omega),hmn,List.length_append,List.length_cons,List.length_nil,List.map_append,List.map_cons,List.map_nil,go_sem,↓reduceIte,zqa,zqb,zqc,zqd,zqe,reduceCtorEq,zqf,zqg,zqh,zqi,zqj,zqk]
  ·have c:¬p.on=x.t:=by simpa using c
   rw [if_neg c] at hst
   simp (disch:=omega) only [ite_ne,go_sem,↓reduceIte,zqa,zqb,zqc,zqd,zqe,reduceCtorEq,zqf,zqg,zqh,zqi,zqj,zqk]
   refine ⟨(j+1,F,_),⟨by dsimp only;omega,by dsimp only;omega,hst.symm⟩,k4,weak_ok ?_ (Sub.cons ?_ (Sub.cons ?_ (Sub.cons ?_ (Sub.cons ?_ (Sub.cons ?_ (Sub.cons ?_ (Sub.base hf ?_))))))) (Nat.le_refl _)⟩
   all_goals
    simp (disch:=omega) only [ite_ne,wr64s j (by omega),hmn,go_sem,↓reduceIte,zqa,zqb,zqc,zqd,zqe,reduceCtorEq,zqf,zqg,zqh,zqi,zqj,zqk]
 ·have q:j=l.length:=by simp at q;omega
  subst q
  rw [List.take_length] at hj3
  rw [←hj3] at e
  subst e
  have hl1:(F.map (·.2)).length=F.length:=by simp
  have hl2:(F.map (·.1)).length=F.length:=by simp
  have hl3:(F.map (·.2)).take F.length=F.map (·.2):=List.take_of_length_le (by omega)
  have hl4:(F.map (·.1)).take F.length=F.map (·.1):=List.take_of_length_le (by omega)
  simp (disch:=omega) only [ite_ne,hl1,hl2,hl3,hl4,Nat.le_refl,hmn,go_sem,↓reduceIte,zqa,zqb,zqc,zqd,zqe,reduceCtorEq,zqf,zqg,zqh,zqi,zqj,zqk]
  try rfl
theorem rpick_ok (s:Sup) (hs:SOk s) (d:Dat) {B:Nat} (hd:DOk d B) (p:Pk) (hpo:p.Ok) (i:Int) (hi:exB d i=true) (hp:CH) (m:Nat):MeetsF Tryz.prog 41 hp m [supx s,dx d,.i .i64 i,pkx p] (vx (pickV s d p i)):=by
 have:=Pk.ind (Q:=fun p=>p.Ok→∀i,exB d i=true→∀hp m,MeetsF Tryz.prog 41 hp m [supx s,dx d,.i .i64 i,pkx p] (vx (pickV s d p i)))
  (fun p ih hpo i hi hp m=>rread_of s hs d hd p hpo.a (fun v hv=>rRaw_ok s hs d hd p (objectV_fit hd hpo.l fun x hx=>hpo.x hx)
   (fun i hp m=>rObject_of s hs d hd p.picks hpo.l (fun x hx i hi hp m=>ih x hx (hpo.x hx) i hi hp m) i hp m) v hv) i hi hp m) p
 exact this hpo i hi hp m
theorem rObject_ok (s:Sup) (hs:SOk s) (d:Dat) {B:Nat} (hd:DOk d B) (l:List Pk) (hl:l.length≤1048576) (hpo:∀p∈l,p.Ok) (i:Int) (hp:CH) (m:Nat) :
  MeetsF Tryz.prog 16 hp m [supx s,dx d,.i .i64 i,.ds (mapC pkC l)] (vx (objectV s d l i)) :=
 rObject_of s hs d hd l hl (fun x hx i hi hp m=>rpick_ok s hs d hd x (hpo x hx) i hi hp m) i hp m
end Go.Proofs.YthiifoleopdieaaGreatDoor
namespace Go.Proofs.YthiifoleopdieaaGreatDoor
open Go.Eng
set_option linter.unusedVariables false
set_option linter.unusedSimpArgs false
set_option maxRecDepth 20000
theorem set_wri (l:List Wri) (i:Nat) (w:Wri):(mapC wrC l).set i [AV.s w.f,.s w.a,.i .i64 w.i,.s w.c.f,.s w.c.a,.i .i64 w.c.v.k,.i .i64 w.c.v.n,.s w.c.v.s,.ds (mapC valC w.c.v.items),.ds (stC w.c.v.keys)]=mapC wrC (l.set i w):=by
 rw [show [AV.s w.f,.s w.a,.i .i64 w.i,.s w.c.f,.s w.c.a,.i .i64 w.c.v.k,.i .i64 w.c.v.n,.s w.c.v.s,.ds (mapC valC w.c.v.items),.ds (stC w.c.v.keys)]=wrC w from rfl]
 simp [mapC,List.map_set]
attribute [go_sem] set_wri
theorem snoc_itm (l:List Itm) (x:Itm):mapC itC l++[[AV.s x.t,.ds (mapC celC x.l)]]=mapC itC (l++[x]):=mapC_snoc itC l x
attribute [go_sem] snoc_itm
theorem cloneW_r (l:List Wri) (h:l.length*152≤140737488355327) (hp:CH) (m:Nat):MeetsX Tryz.prog 83 hp m [.ds (mapC wrC l)] ((m,.rw 0 10 (mapC wrC l))::hp) (m+1) (.rw m 0 l.length):=by
 refine meetsOut (outs:=[(10,mapC wrC l)]) Tryz.func83 (by kernel_rfl) cc83 cr83 rfl fun hf=>?_;unfold ck83
 simp only [go_sem,↓reduceIte,zqa,zqb,zqc,zqd,zqe,reduceCtorEq,zqf,zqg,zqh,zqi,zqj,zqk]
 exact ⟨fun e=>⟨by simpa [mapC] using congrArg List.length e,e⟩,by omega,by omega⟩
theorem cloneC_r (l:List Cel) (h:l.length*112≤140737488355327) (hp:CH) (m:Nat):MeetsX Tryz.prog 85 hp m [.ds (mapC celC l)] ((m,.rw 0 7 (mapC celC l))::hp) (m+1) (.rw m 0 l.length):=by
 refine meetsOut (outs:=[(7,mapC celC l)]) Tryz.func85 (by kernel_rfl) cc85 cr85 rfl fun hf=>?_;unfold ck85
 simp only [go_sem,↓reduceIte,zqa,zqb,zqc,zqd,zqe,reduceCtorEq,zqf,zqg,zqh,zqi,zqj,zqk]
 exact ⟨fun e=>⟨by simpa [mapC] using congrArg List.length e,e⟩,by omega,by omega⟩
set_option maxHeartbeats 1000000 in
theorem icopied_ok (d:Dat) (hd:d.Fit2) (hp:CH) (m:Nat):MeetsF Tryz.prog 44 hp m [dx d] (dx d):=by
 have h1:=hd.f.li
 have h2:=hd.w
 refine meetsF Tryz.func44 (by kernel_rfl) cc44 cr44 rfl fun hf=>?_;unfold ck44
 simp only [go_sem,↓reduceIte,zqa,zqb,zqc,zqd,zqe,reduceCtorEq,zqf,zqg,zqh,zqi,zqj,zqk]
 refine vcCall.x (cloneW_r d.w (by omega) _ _) ?_
 simp only [go_sem,↓reduceIte,zqa,zqb,zqc,zqd,zqe,reduceCtorEq,zqf,zqg,zqh,zqi,zqj,zqk]
 refine loop (fun q:Nat × Nat=>⟨[(1,.bx m 0),(2,.bx (m+1) 0),(3,.bx (m+3) 0),(15,.i .i64 d.w.length),(16,.i .i64 q.1)],(m,.bx [.ds (mapC itC d.i),.ds (mapC wrC d.w)])::(m+1,.bx [.e0,.e0])::(m+3,.bx [.e0,.rw (m+2) 0 d.w.length])::(m+2,.rw 0 10 (mapC wrC d.w))::hp,q.2⟩)
  (fun q=>q.1≤d.w.length∧m+4≤q.2) (fun q=>d.w.length - q.1) (0,m+4) ?_ ?_ (fun ⟨j,n⟩ hj=>?_)
 ·simp
 ·refine weak_ok ?_ (Sub.cons ?_ (Sub.cons ?_ (Sub.cons ?_ (Sub.cons ?_ (Sub.base hf ?_))))) (Nat.le_refl _)
  all_goals (simp (disch:=omega) only [ite_ne,go_sem,↓reduceIte,zqa,zqb,zqc,zqd,zqe,reduceCtorEq,zqf,zqg,zqh,zqi,zqj,zqk])
 dsimp only at hj
 obtain ⟨hj1,hj2⟩:=hj
 have hmn:m≤n:=by omega
 simp (disch:=omega) only [ite_ne,go_sem,↓reduceIte,zqa,zqb,zqc,zqd,zqe,reduceCtorEq,zqf,zqg,zqh,zqi,zqj,zqk]
 refine cdK_of (fun q=>?_) (fun q=>?_)
 ·have q:j < d.w.length:=by simpa using q
  obtain ⟨w,ew⟩:∃w,d.w[j]?=some w:=⟨d.w[j],by simp [q]⟩
  have hwf:=hd.f.w (List.mem_of_getElem? ew)
  have hset:=set_same ew
  simp (disch:=omega) only [ite_ne,q,getK_s (mapC_get wrC ew),mapC_get wrC ew,Nat.le_refl,List.take_length,go_sem,↓reduceIte,zqa,zqb,zqc,zqd,zqe,reduceCtorEq,zqf,zqg,zqh,zqi,zqj,zqk]
  refine dCallR.f (fun _ hp' e=>copy_ok w.c.v hwf _ _) ?_
  simp (disch:=omega) only [ite_ne,q,getK_s (mapC_get wrC ew),mapC_get wrC ew,Nat.le_refl,List.take_length,hset,go_sem,↓reduceIte,zqa,zqb,zqc,zqd,zqe,reduceCtorEq,zqf,zqg,zqh,zqi,zqj,zqk]
  refine ⟨(j+1,_),⟨by dsimp only;omega,by dsimp only;omega⟩,by dsimp only;omega,weak_ok ?_ (Sub.cons ?_ (Sub.cons ?_ (Sub.cons ?_ (Sub.cons ?_ (Sub.base hf ?_))))) (Nat.le_refl _)⟩
  all_goals
   simp (disch:=omega) only [ite_ne,wr64s j (by omega),hmn,go_sem,↓reduceIte,zqa,zqb,zqc,zqd,zqe,reduceCtorEq,zqf,zqg,zqh,zqi,zqj,zqk]
 ·have q:j=d.w.length:=by simp at q;omega
  subst q
  simp (disch:=omega) only [ite_ne,go_sem,↓reduceIte,zqa,zqb,zqc,zqd,zqe,reduceCtorEq,zqf,zqg,zqh,zqi,zqj,zqk]
  refine loop (fun q:Nat × Nat=>⟨[(2,.bx (m+1) 0),(3,.bx (m+3) 0),(35,.ds (mapC itC d.i)),(36,.i .i64 d.i.length),(37,.i .i64 q.1)],(m+1,.bx [.e0,.e0])::(m+3,.bx [.rw n q.1 q.1,.rw (m+2) 0 d.w.length])::(m+2,.rw 0 10 (mapC wrC d.w))::(n,.rw q.1 2 (mapC itC (d.i.take q.1)))::hp,q.2⟩)
   (fun q=>q.1≤d.i.length∧n+1≤q.2) (fun q=>d.i.length - q.1) (0,n+1) ?_ ?_ (fun ⟨j,k⟩ hj=>?_)
  ·simp
  ·refine (weak_b0 (c:=m+3) (i:=0) (m:=2) (cs:=[.e0,.rw (m+2) 0 d.w.length]) (by (simp (disch:=omega) only [ite_ne,go_sem,↓reduceIte,zqa,zqb,zqc,zqd,zqe,reduceCtorEq,zqf,zqg,zqh,zqi,zqj,zqk])) rfl).trans (weak_ok ?_ (Sub.cons ?_ (Sub.cons ?_ (Sub.cons ?_ (Sub.cons ?_ (Sub.base hf ?_))))) (Nat.le_refl _))
   all_goals (simp (disch:=omega) only [ite_ne,hmn,go_sem,↓reduceIte,zqa,zqb,zqc,zqd,zqe,reduceCtorEq,zqf,zqg,zqh,zqi,zqj,zqk])
   all_goals rfl
  dsimp only at hj
  obtain ⟨hj1,hj2⟩:=hj
  have hmk:m≤k:=by omega
  simp (disch:=omega) only [ite_ne,go_sem,↓reduceIte,zqa,zqb,zqc,zqd,zqe,reduceCtorEq,zqf,zqg,zqh,zqi,zqj,zqk]
  refine cdK_of (fun q=>?_) (fun q=>?_)
  ·have q:j < d.i.length:=by simpa using q
   obtain ⟨x,ex⟩:∃x,d.i[j]?=some x:=⟨d.i[j],by simp [q]⟩
   have hxl:=hd.c x (List.mem_of_getElem? ex)
   have hxc:=fun c hc=>hd.f.c (List.mem_of_getElem? ex) (c:=c) hc
   simp (disch:=omega) only [ite_ne,q,getK_s (mapC_get itC ex),go_sem,↓reduceIte,zqa,zqb,zqc,zqd,zqe,reduceCtorEq,zqf,zqg,zqh,zqi,zqj,zqk]
   refine dCallR.r (fun _=>cloneC_r x.l (by omega) _ _) (by simp [mapC]) ?_
   simp (disch:=omega) only [ite_ne,go_sem,↓reduceIte,zqa,zqb,zqc,zqd,zqe,reduceCtorEq,zqf,zqg,zqh,zqi,zqj,zqk]
   refine loop (fun q:Nat × Nat=>⟨[(2,.bx (m+1) 0),(3,.bx (m+3) 0),(7,.bx (k+7) 0),(35,.ds (mapC itC d.i)),(36,.i .i64 d.i.length),(37,.i .i64 j),(49,.i .i64 x.l.length),(50,.i .i64 q.1)],
     (m+1,.bx [.e0,.e0])::(m+3,.bx [.rw n j j,.rw (m+2) 0 d.w.length])::(m+2,.rw 0 10 (mapC wrC d.w))::(n,.rw j 2 (mapC itC (d.i.take j)))::(k+7,.bx [.s x.t,.rw (k+5) 0 x.l.length])::(k+5,.rw 0 7 (mapC celC x.l))::hp,q.2⟩)
    (fun q=>q.1≤x.l.length∧k+8≤q.2) (fun q=>x.l.length - q.1) (0,k+9) ?_ ?_ (fun ⟨i,k2⟩ hi=>?_)
   ·simp
   ·refine weak_ok ?_ (Sub.cons ?_ (Sub.cons ?_ (Sub.cons ?_ (Sub.cons ?_ (Sub.cons ?_ (Sub.cons ?_ (Sub.base hf ?_))))))) (Nat.le_refl _)
    all_goals (simp (disch:=omega) only [ite_ne,hmk,go_sem,↓reduceIte,zqa,zqb,zqc,zqd,zqe,reduceCtorEq,zqf,zqg,zqh,zqi,zqj,zqk])
   dsimp only at hi
   obtain ⟨hi1,hi2⟩:=hi
   have hmk2:m≤k2:=by omega
   simp (disch:=omega) only [ite_ne,go_sem,↓reduceIte,zqa,zqb,zqc,zqd,zqe,reduceCtorEq,zqf,zqg,zqh,zqi,zqj,zqk]
   refine cdK_of (fun q2=>?_) (fun q2=>?_)
   ·have q2:i < x.l.length:=by simpa using q2
    obtain ⟨c,ec⟩:∃c,x.l[i]?=some c:=⟨x.l[i],by simp [q2]⟩
    have hcf:=hxc c (List.mem_of_getElem? ec)
    have hset:=set_same ec
    simp (disch:=omega) only [ite_ne,q2,getK_s (mapC_get celC ec),mapC_get celC ec,Nat.le_refl,List.take_length,go_sem,↓reduceIte,zqa,zqb,zqc,zqd,zqe,reduceCtorEq,zqf,zqg,zqh,zqi,zqj,zqk]
    refine dCallR.f (fun _ hp' e=>copy_ok c.v hcf _ _) ?_
    simp (disch:=omega) only [ite_ne,q2,getK_s (mapC_get celC ec),mapC_get celC ec,Nat.le_refl,List.take_length,hset,go_sem,↓reduceIte,zqa,zqb,zqc,zqd,zqe,reduceCtorEq,zqf,zqg,zqh,zqi,zqj,zqk]
    refine ⟨(i+1,_),⟨by dsimp only;omega,by dsimp only;omega⟩,by dsimp only;omega,weak_ok ?_ (Sub.cons ?_ (Sub.cons ?_ (Sub.cons ?_ (Sub.cons ?_ (Sub.cons ?_ (Sub.cons ?_ (Sub.base hf ?_))))))) (Nat.le_refl _)⟩
    all_goals
     simp (disch:=omega) only [ite_ne,wr64s i (by omega),hmk2,go_sem,↓reduceIte,zqa,zqb,zqc,zqd,zqe,reduceCtorEq,zqf,zqg,zqh,zqi,zqj,zqk]
   ·have q2:i=x.l.length:=by simp at q2;omega
    subst q2
    have ht:(d.i.take j).length=j:=by simp;omega
    have k1:(j+1)*40≤140737488355328:=by omega
    have k2':j+1≤9223372036854775807:=by omega
    simp (disch:=omega) only [ite_ne,Nat.le_refl,List.take_length,ht,k1,k2',go_sem,↓reduceIte,zqa,zqb,zqc,zqd,zqe,reduceCtorEq,zqf,zqg,zqh,zqi,zqj,zqk]
    refine ⟨(j+1,_),⟨by dsimp only;omega,by dsimp only;omega⟩,by dsimp only;omega,weak_ok ?_ (Sub.cons ?_ (Sub.cons ?_ (Sub.cons ?_ (Sub.cons ?_ (Sub.base hf ?_))))) (Nat.le_refl _)⟩
    all_goals
     simp (disch:=omega) only [ite_ne,wr64s j (by omega),hmk2,take_snoc ex,go_sem,↓reduceIte,zqa,zqb,zqc,zqd,zqe,reduceCtorEq,zqf,zqg,zqh,zqi,zqj,zqk]
  ·have q:j=d.i.length:=by simp at q;omega
   subst q
   rw [List.take_length]
   simp (disch:=omega) only [ite_ne,hmk,Nat.le_refl,List.take_length,go_sem,↓reduceIte,zqa,zqb,zqc,zqd,zqe,reduceCtorEq,zqf,zqg,zqh,zqi,zqj,zqk]
end Go.Proofs.YthiifoleopdieaaGreatDoor
