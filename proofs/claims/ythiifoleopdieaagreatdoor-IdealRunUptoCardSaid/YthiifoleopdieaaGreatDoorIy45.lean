/- Proof. Conditions: none. -/
import Derived.Test.YthiifoleopdieaaGreatDoorIy44
open Nat renaming reduceEqDiff→Za,reduceBEq→Zb,reduceAdd→Zc,reduceLeDiff→Zd,reduceLT→Ze,reduceMul→Zf,reduceSub→Zg
open Int renaming reduceEq→Zh,reduceLT→Zi,reduceLE→Zj,reduceToNat→Zk
open Nat renaming le_refl→zna
namespace Go.Proofs.YthiifoleopdieaaGreatDoor
open Go.Eng
set_option linter.all false
set_option maxRecDepth 20000
set_option maxHeartbeats 1000000 in
theorem rObject_of (s:Sup) (hs:SOk s) (d:Dat) {B:Nat} (hd:DOk d B) (l:List Pk) (hl:l.length≤1048576)
  (h:∀p∈l,∀i,exB d i=true→∀hp m,MeetsF Tryz.prog 41 hp m [supx s,dx d,.i .i64 i,pkx p] (vx (pickV s d p i)))
  (i:Int) (hp:CH) (m:Nat):MeetsF Tryz.prog 16 hp m [supx s,dx d,.i .i64 i,.ds (mapC pkC l)] (vx (objectV s d l i)):=by
 have hEx:=exists_ok d i
 obtain ⟨R,hR⟩:∃R,objectV s d l i=R:=⟨_,rfl⟩
 have e:=hR
 rw [objectV] at e
 rw [hR]
 obtain ⟨X,hX⟩:∃X,exB d i=X:=⟨_,rfl⟩
 have h2:=fun p hp=>h p hp i
 rw [hX] at e hEx h2
 refine meetsF Tryz.func16 (by kernel_rfl) cc16 cr16 rfl fun hf=>?_;unfold ck16
 simp only [go_sem,↓reduceIte,Za,Zb,Zc,Zd,Ze,reduceCtorEq,Zf,Zg,Zh,Zi,Zj,Zk]
 refine vcCall.f (hEx _ _) ?_
 simp only [go_sem,↓reduceIte,Za,Zb,Zc,Zd,Ze,reduceCtorEq,Zf,Zg,Zh,Zi,Zj,Zk]
 cases X with
 | false =>
  rw [if_neg (by simp)] at e
  subst e
  simp only [go_sem,↓reduceIte,Za,Zb,Zc,Zd,Ze,reduceCtorEq,Zf,Zg,Zh,Zi,Zj,Zk]
  rfl
 | true =>
 rw [if_pos rfl] at e
 obtain ⟨i',x,rfl,ex,hil,ht⟩:=exB_at hX
 have hF:∀j p,l[j]?=some p→fieldsV s d (l.take (j+1)) i'=if p.on=x.t then fieldsV s d (l.take j) i'++[(p.key,pickV s d p i')] else fieldsV s d (l.take j) i':=by
  intro j p hjp
  rw [←take_snoc hjp,fieldsV_eq,fieldsV_eq,List.filter_append,List.map_append,ht]
  by_cases c:p.on=x.t
  .rw [if_pos c];simp [c]
  .rw [if_neg c];simp [c]
 rw [ht] at e
 have hq:∀j,(fieldsV s d (l.take j) i').length≤j:=fun j=>by
  have:=fieldsV_len s d (l.take j) i'
  rw [List.length_take] at this
  omega
 simp (disch:=omega) only [ite_ne,hil,getK_s (mapC_get itC ex),go_sem,↓reduceIte,Za,Zb,Zc,Zd,Ze,reduceCtorEq,Zf,Zg,Zh,Zi,Zj,Zk]
 refine vcCall.f (text_ok _ _ _) ?_
 simp only [go_sem,↓reduceIte,Za,Zb,Zc,Zd,Ze,reduceCtorEq,Zf,Zg,Zh,Zi,Zj,Zk]
 refine loop (fun q:Nat × List (ByteArray × Val) × Nat=>⟨[(2,.i .i64 i'),(3,.ds (mapC pkC l)),(4,.bx m 0),(5,.bx (m+1) 0),(8,.bx (m+2) 0),(9,.s x.t),(10,.bx (m+5) 0),(11,.i .i64 q.1)],
   (m,.bx [.ds (stC s.g),.ds (mapC dfC s.doc),.ds (mapC kyC s.keys),.ds (mapC jnC s.joins)])::(m+1,.bx [.ds (mapC itC d.i),.ds (mapC wrC d.w)])::(m+2,.bx [.i .i64 0,.i .i64 0,.s ⟨#[]⟩,.e0,.e0]) ::
   (m+5,.bx [.i .i64 6,.i .i64 0,.s ⟨#[]⟩,.rw (m+4) q.2.1.length (q.2.1.length+1),.rw (m+3) q.2.1.length (q.2.1.length+1)])::(m+4,.rw q.2.1.length 5 (mapC valC (txV x.t::q.2.1.map (·.2))))::(m+3,.rw q.2.1.length 1 (stC (⟨#[95,95,116]⟩::q.2.1.map (·.1))))::hp,q.2.2⟩)
  (fun q=>q.1≤l.length∧m+6≤q.2.2∧q.2.1=fieldsV s d (l.take q.1) i') (fun q=>l.length - q.1) (0,[],m+6) ?_ ?_ (fun ⟨j,F,n⟩ hj=>?_)
 .exact ⟨by simp,by simp,by dsimp only;rw [List.take_zero,fieldsV_eq];rfl⟩
 .refine weak_ok ?_ (Sub.cons ?_ (Sub.cons ?_ (Sub.cons ?_ (Sub.cons ?_ (Sub.cons ?_ (Sub.cons ?_ (Sub.base hf ?_))))))) (zna _)
  all_goals (simp (disch:=omega) only [ite_ne,go_sem,↓reduceIte,Za,Zb,Zc,Zd,Ze,reduceCtorEq,Zf,Zg,Zh,Zi,Zj,Zk])
  all_goals rfl
 dsimp only at hj
 obtain ⟨hj1,hj2,hj3⟩:=hj
 have hmn:m≤n:=by omega
 have hFl:F.length≤j:=by rw [hj3];exact hq j
 simp (disch:=omega) only [ite_ne,go_sem,↓reduceIte,Za,Zb,Zc,Zd,Ze,reduceCtorEq,Zf,Zg,Zh,Zi,Zj,Zk]
 refine cdK_of (fun q=>?_) (fun q=>?_)
 .have q:j<l.length:=by simpa using q
  obtain ⟨p,ep⟩:∃p,l[j]?=some p:=⟨l[j],by simp [q]⟩
  have hst:=hF j p ep
  have hrd:=h2 p (List.mem_of_getElem? ep) rfl
  rw [←hj3] at hst
  have hl1:(F.map (·.2)).length=F.length:=by simp
  have hl2:(F.map (·.1)).length=F.length:=by simp
  have k1:(F.length+1+1)*80≤140737488355328:=by omega
  have k2:(F.length+1+1)*16≤140737488355328:=by omega
  have k3:F.length+1+1≤9223372036854775807:=by omega
  have k4:l.length - (j+1)<l.length - j:=by omega
  simp (disch:=omega) only [ite_ne,q,getK_s (mapC_get pkC ep),go_sem,↓reduceIte,Za,Zb,Zc,Zd,Ze,reduceCtorEq,Zf,Zg,Zh,Zi,Zj,Zk]
  refine cdK_of (fun c=>?_) (fun c=>?_)
  .have c:p.on=x.t:=by simpa using c
   rw [if_pos c] at hst
   simp (disch:=omega) only [ite_ne,q,getK_s (mapC_get pkC ep),hl1,hl2,k1,k2,k3,go_sem,↓reduceIte,Za,Zb,Zc,Zd,Ze,reduceCtorEq,Zf,Zg,Zh,Zi,Zj,Zk]
   refine dCallR.f (fun _ hp' e=>hrd _ _) ?_
   simp (disch:=omega) only [ite_ne,q,getK_s (mapC_get pkC ep),hl1,hl2,k1,k2,k3,go_sem,↓reduceIte,Za,Zb,Zc,Zd,Ze,reduceCtorEq,Zf,Zg,Zh,Zi,Zj,Zk]
   refine ⟨(j+1,F++[(p.key,pickV s d p i')],_),⟨by dsimp only;omega,by dsimp only;omega,hst.symm⟩,k4,weak_ok ?_ (Sub.cons ?_ (Sub.cons ?_ (Sub.cons ?_ (Sub.cons ?_ (Sub.cons ?_ (Sub.cons ?_ (Sub.base hf ?_))))))) (zna _)⟩
   all_goals
    simp (disch:=omega) only [ite_ne,wr64s j (by omega),hmn,List.length_append,List.length_cons,List.length_nil,List.map_append,List.map_cons,List.map_nil,go_sem,↓reduceIte,Za,Zb,Zc,Zd,Ze,reduceCtorEq,Zf,Zg,Zh,Zi,Zj,Zk]
  .have c:¬p.on=x.t:=by simpa using c
   rw [if_neg c] at hst
   simp (disch:=omega) only [ite_ne,go_sem,↓reduceIte,Za,Zb,Zc,Zd,Ze,reduceCtorEq,Zf,Zg,Zh,Zi,Zj,Zk]
   refine ⟨(j+1,F,_),⟨by dsimp only;omega,by dsimp only;omega,hst.symm⟩,k4,weak_ok ?_ (Sub.cons ?_ (Sub.cons ?_ (Sub.cons ?_ (Sub.cons ?_ (Sub.cons ?_ (Sub.cons ?_ (Sub.base hf ?_))))))) (zna _)⟩
   all_goals
    simp (disch:=omega) only [ite_ne,wr64s j (by omega),hmn,go_sem,↓reduceIte,Za,Zb,Zc,Zd,Ze,reduceCtorEq,Zf,Zg,Zh,Zi,Zj,Zk]
 .have q:j=l.length:=by simp at q;omega
  subst q
  rw [List.take_length] at hj3
  rw [←hj3] at e
  subst e
  have hl1:(F.map (·.2)).length=F.length:=by simp
  have hl2:(F.map (·.1)).length=F.length:=by simp
  have hl3:(F.map (·.2)).take F.length=F.map (·.2):=List.take_of_length_le (by omega)
  have hl4:(F.map (·.1)).take F.length=F.map (·.1):=List.take_of_length_le (by omega)
  simp (disch:=omega) only [ite_ne,hl1,hl2,hl3,hl4,zna,hmn,go_sem,↓reduceIte,Za,Zb,Zc,Zd,Ze,reduceCtorEq,Zf,Zg,Zh,Zi,Zj,Zk]
  try rfl
theorem rpick_ok (s:Sup) (hs:SOk s) (d:Dat) {B:Nat} (hd:DOk d B) (p:Pk) (hpo:p.Ok) (i:Int) (hi:exB d i=true) (hp:CH) (m:Nat):MeetsF Tryz.prog 41 hp m [supx s,dx d,.i .i64 i,pkx p] (vx (pickV s d p i)):=by
 have:=Pk.ind (Q:=fun p=>p.Ok→∀i,exB d i=true→∀hp m,MeetsF Tryz.prog 41 hp m [supx s,dx d,.i .i64 i,pkx p] (vx (pickV s d p i)))
  (fun p ih hpo i hi hp m=>rread_of s hs d hd p hpo.a (fun v hv=>rRaw_ok s hs d hd p (objectV_fit hd hpo.l fun x hx=>hpo.x hx)
   (fun i hp m=>rObject_of s hs d hd p.picks hpo.l (fun x hx i hi hp m=>ih x hx (hpo.x hx) i hi hp m) i hp m) v hv) i hi hp m) p
 exact this hpo i hi hp m
end Go.Proofs.YthiifoleopdieaaGreatDoor
