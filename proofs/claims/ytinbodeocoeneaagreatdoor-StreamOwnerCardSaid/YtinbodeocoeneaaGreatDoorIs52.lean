/- Proof. Conditions: none. -/
import Derived.Test.YtinbodeocoeneaaGreatDoorIs51
open Nat renaming reduceEqDiff→Za,reduceBEq→Zb,reduceAdd→Zc,reduceLeDiff→Zd,reduceLT→Ze,reduceMul→Zf,reduceSub→Zg
open Int renaming reduceEq→Zh,reduceLT→Zi,reduceLE→Zj,reduceToNat→Zk
open Nat renaming le_refl→zna
namespace Go.Proofs.YtinbodeocoeneaaGreatDoor
open Go.Eng
set_option linter.all false
set_option maxRecDepth 20000
set_option maxHeartbeats 1000000
noncomputable def few45 (s:Sup) (d:Dat) (p:Pln) (v:Val):Bool:=if (lgX s d p.l||decide (szV v > 30))=true then false else p.l.all fun x=>!lgX s d x.picks
theorem few45_ok (s:Sup) (d:Dat) (p:Pln) (hsd:s.doc.length≤1000000000000) (hF:∀t∈s.doc,t.fields.length≤2000000000000) (hd:d.Fit) (hl:p.l.length≤10000000000000) (hpf:∀x∈p.l,x.Fit) (v:Val) (hv:v.Fit) (hp:CH) (m:Nat):MeetsF Tryz.prog 10 hp m [casex s d p,vx v] (.b (few45 s d p v)):=by
 have h1:=rLarge_ok s hsd hF d hd p.l hl hpf
 have h2:=size_ok v hv
 have h3:=fun x (hx:x∈p.l)=>rLarge_ok s hsd hF d hd x.picks (by have:=(hpf x hx).l;omega) (fun y hy=>(hpf x hx).x hy)
 obtain ⟨R,hR⟩:∃R,few45 s d p v=R:=⟨_,rfl⟩
 have e:=hR
 rw [hR]
 rw [few45] at e
 obtain ⟨L,hL⟩:∃L,lgX s d p.l=L:=⟨_,rfl⟩
 obtain ⟨S,hS⟩:∃S,szV v=S:=⟨_,rfl⟩
 rw [hL] at h1 e
 rw [hS] at h2 e
 refine meetsF Tryz.func10 (by kernel_rfl) cc10 cr10 rfl fun hf=>?_;unfold ck10
 simp only [go_sem,↓reduceIte,Za,Zb,Zc,Zd,Ze,reduceCtorEq,Zf,Zg,Zh,Zi,Zj,Zk]
 refine vcCall.f (h1 _ _) ?_
 simp only [go_sem,↓reduceIte,Za,Zb,Zc,Zd,Ze,reduceCtorEq,Zf,Zg,Zh,Zi,Zj,Zk]
 refine gCall.f (fun _=>h2 _ _) ?_
 simp only [go_sem,↓reduceIte,Za,Zb,Zc,Zd,Ze,reduceCtorEq,Zf,Zg,Zh,Zi,Zj,Zk]
 refine cdK_of (fun q=>?_) (fun q=>?_)
 .rw [if_pos (by simpa using q)] at e
  subst e
  simp only [go_sem,↓reduceIte,Za,Zb,Zc,Zd,Ze,reduceCtorEq,Zf,Zg,Zh,Zi,Zj,Zk]
 rw [if_neg (by simpa using q)] at e
 simp only [go_sem,↓reduceIte,Za,Zb,Zc,Zd,Ze,reduceCtorEq,Zf,Zg,Zh,Zi,Zj,Zk]
 refine loop (fun q:Nat × Nat=>⟨[(2,.bx m 0),(5,.i .i64 q.1)],(m,.bx [.ds (stC s.g),.ds (mapC dfC s.doc),.ds (mapC kyC s.keys),.ds (mapC jnC s.joins),.ds (mapC itC d.i),.ds (mapC wrC d.w),.i .i64 p.k,.ds (mapC pkC p.l)])::hp,q.2⟩)
  (fun q=>q.1≤p.l.length∧m+1≤q.2∧R=(p.l.drop q.1).all fun x=>!lgX s d x.picks) (fun q=>p.l.length - q.1) (0,m+2) ?_ ?_ (fun ⟨j,n⟩ hj=>?_)
 .exact ⟨by simp,by simp,e.symm⟩
 .refine weak_ok ?_ (Sub.cons ?_ (Sub.base hf ?_)) (zna _)
  all_goals (simp (disch:=omega) only [ite_ne,go_sem,↓reduceIte,Za,Zb,Zc,Zd,Ze,reduceCtorEq,Zf,Zg,Zh,Zi,Zj,Zk])
 dsimp only at hj
 obtain ⟨hj1,hj2,hj3⟩:=hj
 have hmn:m≤n:=by omega
 simp (disch:=omega) only [ite_ne,go_sem,↓reduceIte,Za,Zb,Zc,Zd,Ze,reduceCtorEq,Zf,Zg,Zh,Zi,Zj,Zk]
 refine cdK_of (fun q=>?_) (fun q=>?_)
 .have q:j<p.l.length:=by simpa using q
  obtain ⟨x,ex⟩:∃x,p.l[j]?=some x:=⟨p.l[j],by simp [q]⟩
  have hx:=h3 x (List.mem_of_getElem? ex)
  rw [drop_at ex,List.all_cons] at hj3
  obtain ⟨b,hb⟩:∃b,lgX s d x.picks=b:=⟨_,rfl⟩
  rw [hb] at hx hj3
  simp (disch:=omega) only [ite_ne,q,getK_s (mapC_get pkC ex),go_sem,↓reduceIte,Za,Zb,Zc,Zd,Ze,reduceCtorEq,Zf,Zg,Zh,Zi,Zj,Zk]
  refine dCallR.f (fun _ _ _=>hx _ _) ?_
  simp (disch:=omega) only [ite_ne,q,getK_s (mapC_get pkC ex),go_sem,↓reduceIte,Za,Zb,Zc,Zd,Ze,reduceCtorEq,Zf,Zg,Zh,Zi,Zj,Zk]
  cases b with
  | true =>
   have hj3:R=false:=by simpa using hj3
   subst hj3
   simp (disch:=omega) only [ite_ne,hmn,go_sem,↓reduceIte,Za,Zb,Zc,Zd,Ze,reduceCtorEq,Zf,Zg,Zh,Zi,Zj,Zk]
  | false =>
   have hj3:R=(p.l.drop (j+1)).all fun x=>!lgX s d x.picks:=by simpa using hj3
   simp (disch:=omega) only [ite_ne,go_sem,↓reduceIte,Za,Zb,Zc,Zd,Ze,reduceCtorEq,Zf,Zg,Zh,Zi,Zj,Zk]
   refine ⟨(j+1,_),⟨by dsimp only;omega,by dsimp only;omega,hj3⟩,by dsimp only;omega,weak_ok ?_ (Sub.cons ?_ (Sub.base hf ?_)) (zna _)⟩
   all_goals
    simp (disch:=omega) only [ite_ne,wr64s j (by omega),hmn,go_sem,↓reduceIte,Za,Zb,Zc,Zd,Ze,reduceCtorEq,Zf,Zg,Zh,Zi,Zj,Zk]
 .have q:j=p.l.length:=by simp at q;omega
  subst q
  rw [List.drop_length] at hj3
  have hj3:R=true:=hj3
  subst hj3
  simp (disch:=omega) only [ite_ne,hmn,go_sem,↓reduceIte,Za,Zb,Zc,Zd,Ze,reduceCtorEq,Zf,Zg,Zh,Zi,Zj,Zk]
theorem few_joins {s:Sup} {d:Dat} {p:Pln} {v:Val} (h:few45 s d p v=true):s.joins.length≤300:=by
 unfold few45 at h
 split at h
 .cases h
 .rename_i q
  rw [Bool.not_eq_true,Bool.or_eq_false_iff] at q
  have q1:=q.1
  unfold lgX at q1
  simp only [Bool.or_eq_false_iff,decide_eq_false_iff_not] at q1
  obtain ⟨⟨⟨⟨⟨_,q2⟩,_⟩,_⟩,_⟩,_⟩:=q1
  omega
noncomputable def eachR (s:Sup) (d:Dat) (p:Pln) (l:List Val):Option (List Val):=(srcP p).map fun x=>l.map (eventV s d p x)
noncomputable def resEs (o:Option (List Val)):AV:=.tp [.ds (mapC valC (o.getD [])),.i .i64 (if o.isSome=true then 0 else 2)]
theorem eventV_fit (s:Sup) (d:Dat) {B:Nat} (hd:DOk d B) (hi:d.i.length≤1048576) (hB:B≤1000000000) (p:Pln) (hk:p.k=3) (hl:p.l.length≤1048576) (hpo:∀x∈p.l,x.Ok) (x:Pk) (v:Val) (hv:VSm v):(eventV s d p x v).Fit :=
 runV_fit s (withD s d x v) p (withD_dok (s:=s) (x:=x) hd hv hi (by omega)) hl hpo (fun q=>by omega)
theorem srcP_k {p:Pln} {x:Pk} (h:srcP p=some x):p.k=3:=(srcP_some h).1
theorem tEventF_ok (s:Sup) (hs:SOk s) (d:Dat) {B:Nat} (hd:DOk d B) (hi:d.i.length≤1048576) (hB:B≤1000000000) (p:Pln) (hf:∀x∈p.l,x.Fit) (hl:p.l.length≤1048576) (hpo:∀x∈p.l,x.Ok) (v:Val) (hv:VSm v) (hp:CH) (m:Nat) :
  MeetsF Tryz.prog 14 hp m [supx s,dx d,plx p,vx v] (resE (eventR s d p v)) :=
 tEvent_ok s hs d hd hi hB p hf hl hpo v hv (fun R hR=>by
  unfold eventR at hR
  cases e:srcP p with
  | none=>rw [e] at hR;cases hR
  | some x =>
   rw [e] at hR
   cases hR
   exact eventV_fit s d hd hi hB p (srcP_k e) hl hpo x v hv) hp m
theorem tEach_ok (s:Sup) (hs:SOk s) (d:Dat) {B:Nat} (hd:DOk d B) (hi:d.i.length≤1048576) (hB:B≤1000000000) (p:Pln) (hf0:∀x∈p.l,x.Fit) (hl:p.l.length≤1048576) (hpo:∀x∈p.l,x.Ok) (l:List Val) (hll:l.length≤1048576) (hv:∀v∈l,VSm v) (hp:CH) (m:Nat) :
  MeetsF Tryz.prog 17 hp m [supx s,dx d,plx p,.ds (mapC valC l)] (resEs (eachR s d p l)):=by
 have hS:=sSource_ok p hf0
 have hE:=fun v (h:v∈l)=>tEventF_ok s hs d hd hi hB p hf0 hl hpo v (hv v h)
 cases h:srcP p with
 | none =>
  rw [eachR,h]
  rw [h,srcRP] at hS
  refine meetsF Tryz.func17 (by kernel_rfl) cc17 cr17 rfl fun hf=>?_;unfold ck17
  simp only [go_sem,↓reduceIte,Za,Zb,Zc,Zd,Ze,reduceCtorEq,Zf,Zg,Zh,Zi,Zj,Zk]
  refine vcCall.f (hS _ _) ?_
  simp only [go_sem,↓reduceIte,Za,Zb,Zc,Zd,Ze,reduceCtorEq,Zf,Zg,Zh,Zi,Zj,Zk]
  rfl
 | some x =>
  have hE:∀v∈l,∀hp m,MeetsF Tryz.prog 14 hp m [supx s,dx d,plx p,vx v] (resE (some (eventV s d p x v))):=fun v hv=>by
   have:=hE v hv
   rw [eventR,h] at this
   exact this
  rw [eachR,h]
  rw [h,srcRP] at hS
  show MeetsF _ _ _ _ _ (resEs (some (l.map (eventV s d p x))))
  obtain ⟨F,hF⟩:∃F,eventV s d p x=F:=⟨_,rfl⟩
  rw [hF] at hE ⊢
  refine meetsF Tryz.func17 (by kernel_rfl) cc17 cr17 rfl fun hf=>?_;unfold ck17
  simp only [go_sem,↓reduceIte,Za,Zb,Zc,Zd,Ze,reduceCtorEq,Zf,Zg,Zh,Zi,Zj,Zk]
  refine vcCall.f (hS _ _) ?_
  simp only [go_sem,↓reduceIte,Za,Zb,Zc,Zd,Ze,reduceCtorEq,Zf,Zg,Zh,Zi,Zj,Zk]
  have S0:CH:=[]
  refine loop (fun q:Nat × Nat=>⟨[(4,.bx m 0),(5,.bx (m+1) 0),(6,.bx (m+2) 0),(12,.rw (m+4) q.1 q.1),(25,.ds (mapC valC l)),(26,.i .i64 l.length),(27,.i .i64 q.1)],
    (m,.bx [.ds (stC s.g),.ds (mapC dfC s.doc),.ds (mapC kyC s.keys),.ds (mapC jnC s.joins)])::(m+1,.bx [.ds (mapC itC d.i),.ds (mapC wrC d.w)])::(m+2,.bx [.i .i64 p.k,.ds (mapC pkC p.l)])::(m+4,.rw q.1 5 (mapC valC ((l.take q.1).map F)))::hp,q.2⟩)
   (fun q=>q.1≤l.length∧m+5≤q.2) (fun q=>l.length - q.1) (0,m+5) ?_ ?_ (fun ⟨j,n⟩ hj=>?_)
  .simp
  .refine (weak_e0 (t:=12) (m:=5) ?_).trans (weak_ok ?_ (Sub.cons ?_ (Sub.cons ?_ (Sub.cons ?_ (Sub.cons ?_ (Sub.base hf ?_))))) (zna _))
   all_goals (simp (disch:=omega) only [ite_ne,go_sem,↓reduceIte,Za,Zb,Zc,Zd,Ze,reduceCtorEq,Zf,Zg,Zh,Zi,Zj,Zk])
   all_goals rfl
  dsimp only at hj
  obtain ⟨hj1,hj2⟩:=hj
  have hmn:m≤n:=by omega
  simp (disch:=omega) only [ite_ne,go_sem,↓reduceIte,Za,Zb,Zc,Zd,Ze,reduceCtorEq,Zf,Zg,Zh,Zi,Zj,Zk]
  refine cdK_of (fun q=>?_) (fun q=>?_)
  .have q:j<l.length:=by simpa using q
   obtain ⟨v,ev⟩:∃v,l[j]?=some v:=⟨l[j],by simp [q]⟩
   have hst:=map_take_snocI F ev
   have ht:((l.take j).map F).length=j:=by simp;omega
   have k1:(j+1)*80≤140737488355328:=by omega
   have k2:j+1≤9223372036854775807:=by omega
   obtain ⟨O,hO⟩:∃O,(l.take j).map F=O:=⟨_,rfl⟩
   rw [hO] at ht hst ⊢
   have hEv:=hE v (List.mem_of_getElem? ev)
   rw [resE] at hEv
   simp (disch:=omega) only [ite_ne,q,getK_s (mapC_get valC ev),go_sem,↓reduceIte,Za,Zb,Zc,Zd,Ze,reduceCtorEq,Zf,Zg,Zh,Zi,Zj,Zk]
   refine vcCall.f (hEv _ _) ?_
   simp (disch:=omega) only [ite_ne,ht,k1,k2,go_sem,↓reduceIte,Za,Zb,Zc,Zd,Ze,reduceCtorEq,Zf,Zg,Zh,Zi,Zj,Zk]
   refine ⟨(j+1,_),⟨by dsimp only;omega,by dsimp only;omega⟩,by dsimp only;omega,weak_ok ?_ (Sub.cons ?_ (Sub.cons ?_ (Sub.cons ?_ (Sub.cons ?_ (Sub.base hf ?_))))) (zna _)⟩
   all_goals
    simp (disch:=omega) only [ite_ne,wr64s j (by omega),hst,hmn,go_sem,↓reduceIte,Za,Zb,Zc,Zd,Ze,reduceCtorEq,Zf,Zg,Zh,Zi,Zj,Zk]
  .have q:j=l.length:=by simp at q;omega
   subst q
   have ht2:(mapC valC (l.map F)).length=l.length:=by rw [mapC_len];simp
   have ht3:(mapC valC (l.map F)).take l.length=mapC valC (l.map F):=List.take_of_length_le (by omega)
   rw [List.take_length]
   simp (disch:=omega) only [ite_ne,hmn,ht2,ht3,zna,go_sem,↓reduceIte,Za,Zb,Zc,Zd,Ze,reduceCtorEq,Zf,Zg,Zh,Zi,Zj,Zk]
   try rfl
noncomputable def ownG (J:List Jn) (f:ByteArray):Nat→Nat→Option Nat
 | _,0=>none
 | g,n+1=>match findJ J sSub f (g:Int) with
  | none=>ownG J f (g+1) n
  | some y=>if y.x=true then ownG J f (g+1) n else some g
noncomputable def ownR (s:Sup) (p:Pln):Int × Int:=match srcP p with
 | none=>(0,2)
 | some x=>match ownG s.joins x.name 0 s.g.length with
  | none=>(0,8)
  | some g=>(g,0)
noncomputable def resO (r:Int × Int):AV:=.tp [.i .i64 r.1,.i .i64 r.2]
theorem tOwner_ok (s:Sup) (hjl:s.joins.length≤1048576) (hj0:JOk s) (hg:s.g.length≤1048576) (p:Pln) (hf0:∀x∈p.l,x.Fit) (hp:CH) (m:Nat):MeetsF Tryz.prog 18 hp m [supx s,plx p] (resO (ownR s p)):=by
 have hS:=sSource_ok p hf0
 rw [ownR]
 cases h:srcP p with
 | none =>
  rw [h,srcRP] at hS
  refine meetsF Tryz.func18 (by kernel_rfl) cc18 cr18 rfl fun hf=>?_;unfold ck18
  simp only [go_sem,↓reduceIte,Za,Zb,Zc,Zd,Ze,reduceCtorEq,Zf,Zg,Zh,Zi,Zj,Zk]
  refine vcCall.f (hS _ _) ?_
  simp only [go_sem,↓reduceIte,Za,Zb,Zc,Zd,Ze,reduceCtorEq,Zf,Zg,Zh,Zi,Zj,Zk]
  rfl
 | some x =>
  rw [h,srcRP] at hS
  have hFd:=fun j:Nat=>tFind2_ok s hjl hj0 sSub x.name (j:Int)
  unfold sSub at hFd
  dsimp only
  obtain ⟨R,hR⟩:∃R,ownG s.joins x.name 0 s.g.length=R:=⟨_,rfl⟩
  rw [hR]
  refine meetsF Tryz.func18 (by kernel_rfl) cc18 cr18 rfl fun hf=>?_;unfold ck18
  simp only [go_sem,↓reduceIte,Za,Zb,Zc,Zd,Ze,reduceCtorEq,Zf,Zg,Zh,Zi,Zj,Zk]
  refine vcCall.f (hS _ _) ?_
  simp only [go_sem,↓reduceIte,Za,Zb,Zc,Zd,Ze,reduceCtorEq,Zf,Zg,Zh,Zi,Zj,Zk]
  refine loopg (fun q:Nat × Nat=>⟨[(2,.bx m 0),(6,.bx (m+2) 0),(21,.i .i64 s.g.length),(22,.i .i64 q.1)],
    (m,.bx [.ds (stC s.g),.ds (mapC dfC s.doc),.ds (mapC kyC s.keys),.ds (mapC jnC s.joins)])::(m+2,.bx [.s x.key,.s x.on,.s x.name,.ds (mapC argC x.args),.s x.tn,.ds (mapC in1 x.tw),.s x.label,.i .i64 x.initial,.ds (mapC pkC x.picks)])::hp,q.2⟩)
   (fun q=>q.1≤s.g.length∧m+3≤q.2∧R=ownG s.joins x.name q.1 (s.g.length - q.1)) (fun q=>s.g.length - q.1) (0,m+3) ?_ ?_ (fun ⟨j,n⟩ hj=>?_)
  .exact ⟨by simp,by simp,hR.symm⟩
  .refine weak_ok ?_ (Sub.cons ?_ (Sub.cons ?_ (Sub.base hf ?_))) (zna _)
   all_goals (simp (disch:=omega) only [ite_ne,go_sem,↓reduceIte,Za,Zb,Zc,Zd,Ze,reduceCtorEq,Zf,Zg,Zh,Zi,Zj,Zk])
  dsimp only at hj
  obtain ⟨hj1,hj2,hj3⟩:=hj
  have hmn:m≤n:=by omega
  have hm1:m<n:=by omega
  have hm2:m+2<n:=by omega
  simp (disch:=omega) only [ite_ne,go_sem,↓reduceIte,Za,Zb,Zc,Zd,Ze,reduceCtorEq,Zf,Zg,Zh,Zi,Zj,Zk]
  refine cdK_of (fun q=>?_) (fun q=>?_)
  .have q:j<s.g.length:=by simpa using q
   obtain ⟨k,hk⟩:∃k,s.g.length - j=k+1:=⟨s.g.length - j - 1,by omega⟩
   have hk2:s.g.length - (j+1)=k:=by omega
   rw [hk,ownG] at hj3
   unfold sSub at hj3
   have hFj:=hFd j
   rw [resJ] at hFj
   obtain ⟨o,ho⟩:∃o,findJ s.joins ⟨#[83,117,98,115,99,114,105,112,116,105,111,110]⟩ x.name (j:Int)=o:=⟨_,rfl⟩
   rw [ho] at hFj hj3
   simp (disch:=omega) only [ite_ne,q,go_sem,↓reduceIte,Za,Zb,Zc,Zd,Ze,reduceCtorEq,Zf,Zg,Zh,Zi,Zj,Zk]
   refine vcCall.f (hFj _ _) ?_
   cases o with
   | none =>
    dsimp only at hj3
    simp (disch:=omega) only [ite_ne,q,go_sem,↓reduceIte,Za,Zb,Zc,Zd,Ze,reduceCtorEq,Zf,Zg,Zh,Zi,Zj,Zk]
    refine ⟨(j+1,_),⟨by dsimp only;omega,by dsimp only;omega,by rw [hk2];exact hj3⟩,by dsimp only;omega,weakG_ok ?_ (SubG.cons ?_ ?_ ?_ (SubG.cons ?_ ?_ ?_ (SubG.base hf ?_ ?_ ?_)))⟩
    all_goals try ((simp (disch:=omega) only [ite_ne,wr64s j (by omega),hmn,hm1,hm2,and_self,go_sem,↓reduceIte,Za,Zb,Zc,Zd,Ze,reduceCtorEq,Zf,Zg,Zh,Zi,Zj,Zk]))
   | some y =>
    dsimp only at hj3
    obtain ⟨b,hb⟩:∃b,y.x=b:=⟨_,rfl⟩
    rw [hb] at hj3
    simp (disch:=omega) only [ite_ne,q,hb,go_sem,↓reduceIte,Za,Zb,Zc,Zd,Ze,reduceCtorEq,Zf,Zg,Zh,Zi,Zj,Zk]
    cases b with
    | true =>
     rw [if_pos rfl] at hj3
     simp (disch:=omega) only [ite_ne,go_sem,↓reduceIte,Za,Zb,Zc,Zd,Ze,reduceCtorEq,Zf,Zg,Zh,Zi,Zj,Zk]
     refine ⟨(j+1,_),⟨by dsimp only;omega,by dsimp only;omega,by rw [hk2];exact hj3⟩,by dsimp only;omega,weakG_ok ?_ (SubG.cons ?_ ?_ ?_ (SubG.cons ?_ ?_ ?_ (SubG.base hf ?_ ?_ ?_)))⟩
     all_goals try ((simp (disch:=omega) only [ite_ne,wr64s j (by omega),hmn,hm1,hm2,and_self,go_sem,↓reduceIte,Za,Zb,Zc,Zd,Ze,reduceCtorEq,Zf,Zg,Zh,Zi,Zj,Zk]))
    | false =>
     rw [if_neg (by simp)] at hj3
     subst hj3
     simp (disch:=omega) only [ite_ne,hmn,go_sem,↓reduceIte,Za,Zb,Zc,Zd,Ze,reduceCtorEq,Zf,Zg,Zh,Zi,Zj,Zk]
     try rfl
  .have q:j=s.g.length:=by simp at q;omega
   subst q
   rw [Nat.sub_self,ownG] at hj3
   subst hj3
   simp (disch:=omega) only [ite_ne,hmn,go_sem,↓reduceIte,Za,Zb,Zc,Zd,Ze,reduceCtorEq,Zf,Zg,Zh,Zi,Zj,Zk]
   try rfl
theorem rOwner_ok (s:Sup) (hjl:s.joins.length≤1048576) (hj0:JOk s) (hg:s.g.length≤1048576) (p:Pln) (hp:CH) (m:Nat):MeetsF Tryz.prog 19 hp m [supx s,plx p] (resO (ownR s p)):=by
 have hS:=rSource_ok p
 rw [ownR]
 cases h:srcP p with
 | none =>
  rw [h,srcRP] at hS
  refine meetsF Tryz.func19 (by kernel_rfl) cc19 cr19 rfl fun hf=>?_;unfold ck19
  simp only [go_sem,↓reduceIte,Za,Zb,Zc,Zd,Ze,reduceCtorEq,Zf,Zg,Zh,Zi,Zj,Zk]
  refine vcCall.f (hS _ _) ?_
  simp only [go_sem,↓reduceIte,Za,Zb,Zc,Zd,Ze,reduceCtorEq,Zf,Zg,Zh,Zi,Zj,Zk]
  rfl
 | some x =>
  rw [h,srcRP] at hS
  have hFd:=fun j:Nat=>rFind2_ok s hjl hj0 sSub x.name (j:Int)
  unfold sSub at hFd
  dsimp only
  obtain ⟨R,hR⟩:∃R,ownG s.joins x.name 0 s.g.length=R:=⟨_,rfl⟩
  rw [hR]
  refine meetsF Tryz.func19 (by kernel_rfl) cc19 cr19 rfl fun hf=>?_;unfold ck19
  simp only [go_sem,↓reduceIte,Za,Zb,Zc,Zd,Ze,reduceCtorEq,Zf,Zg,Zh,Zi,Zj,Zk]
  refine vcCall.f (hS _ _) ?_
  simp only [go_sem,↓reduceIte,Za,Zb,Zc,Zd,Ze,reduceCtorEq,Zf,Zg,Zh,Zi,Zj,Zk]
  refine loopg (fun q:Nat × Nat=>⟨[(2,.bx m 0),(6,.bx (m+2) 0),(8,.i .i64 q.1)],
    (m,.bx [.ds (stC s.g),.ds (mapC dfC s.doc),.ds (mapC kyC s.keys),.ds (mapC jnC s.joins)])::(m+2,.bx [.s x.key,.s x.on,.s x.name,.ds (mapC argC x.args),.s x.tn,.ds (mapC in1 x.tw),.s x.label,.i .i64 x.initial,.ds (mapC pkC x.picks)])::hp,q.2⟩)
   (fun q=>q.1≤s.g.length∧m+3≤q.2∧R=ownG s.joins x.name q.1 (s.g.length - q.1)) (fun q=>s.g.length - q.1) (0,m+3) ?_ ?_ (fun ⟨j,n⟩ hj=>?_)
  .exact ⟨by simp,by simp,hR.symm⟩
  .refine weak_ok ?_ (Sub.cons ?_ (Sub.cons ?_ (Sub.base hf ?_))) (zna _)
   all_goals (simp (disch:=omega) only [ite_ne,go_sem,↓reduceIte,Za,Zb,Zc,Zd,Ze,reduceCtorEq,Zf,Zg,Zh,Zi,Zj,Zk])
  dsimp only at hj
  obtain ⟨hj1,hj2,hj3⟩:=hj
  have hmn:m≤n:=by omega
  have hm1:m<n:=by omega
  have hm2:m+2<n:=by omega
  simp (disch:=omega) only [ite_ne,go_sem,↓reduceIte,Za,Zb,Zc,Zd,Ze,reduceCtorEq,Zf,Zg,Zh,Zi,Zj,Zk]
  refine cdK_of (fun q=>?_) (fun q=>?_)
  .have q:j<s.g.length:=by simpa using q
   obtain ⟨k,hk⟩:∃k,s.g.length - j=k+1:=⟨s.g.length - j - 1,by omega⟩
   have hk2:s.g.length - (j+1)=k:=by omega
   rw [hk,ownG] at hj3
   unfold sSub at hj3
   have hFj:=hFd j
   rw [resJ] at hFj
   obtain ⟨o,ho⟩:∃o,findJ s.joins ⟨#[83,117,98,115,99,114,105,112,116,105,111,110]⟩ x.name (j:Int)=o:=⟨_,rfl⟩
   rw [ho] at hFj hj3
   simp (disch:=omega) only [ite_ne,q,go_sem,↓reduceIte,Za,Zb,Zc,Zd,Ze,reduceCtorEq,Zf,Zg,Zh,Zi,Zj,Zk]
   refine vcCall.f (hFj _ _) ?_
   cases o with
   | none =>
    dsimp only at hj3
    simp (disch:=omega) only [ite_ne,q,go_sem,↓reduceIte,Za,Zb,Zc,Zd,Ze,reduceCtorEq,Zf,Zg,Zh,Zi,Zj,Zk]
    refine ⟨(j+1,_),⟨by dsimp only;omega,by dsimp only;omega,by rw [hk2];exact hj3⟩,by dsimp only;omega,weakG_ok ?_ (SubG.cons ?_ ?_ ?_ (SubG.cons ?_ ?_ ?_ (SubG.base hf ?_ ?_ ?_)))⟩
    all_goals try ((simp (disch:=omega) only [ite_ne,wr64s j (by omega),hmn,hm1,hm2,and_self,go_sem,↓reduceIte,Za,Zb,Zc,Zd,Ze,reduceCtorEq,Zf,Zg,Zh,Zi,Zj,Zk]))
   | some y =>
    dsimp only at hj3
    obtain ⟨b,hb⟩:∃b,y.x=b:=⟨_,rfl⟩
    rw [hb] at hj3
    simp (disch:=omega) only [ite_ne,q,hb,go_sem,↓reduceIte,Za,Zb,Zc,Zd,Ze,reduceCtorEq,Zf,Zg,Zh,Zi,Zj,Zk]
    cases b with
    | true =>
     rw [if_pos rfl] at hj3
     simp (disch:=omega) only [ite_ne,go_sem,↓reduceIte,Za,Zb,Zc,Zd,Ze,reduceCtorEq,Zf,Zg,Zh,Zi,Zj,Zk]
     refine ⟨(j+1,_),⟨by dsimp only;omega,by dsimp only;omega,by rw [hk2];exact hj3⟩,by dsimp only;omega,weakG_ok ?_ (SubG.cons ?_ ?_ ?_ (SubG.cons ?_ ?_ ?_ (SubG.base hf ?_ ?_ ?_)))⟩
     all_goals try ((simp (disch:=omega) only [ite_ne,wr64s j (by omega),hmn,hm1,hm2,and_self,go_sem,↓reduceIte,Za,Zb,Zc,Zd,Ze,reduceCtorEq,Zf,Zg,Zh,Zi,Zj,Zk]))
    | false =>
     rw [if_neg (by simp)] at hj3
     subst hj3
     simp (disch:=omega) only [ite_ne,hmn,go_sem,↓reduceIte,Za,Zb,Zc,Zd,Ze,reduceCtorEq,Zf,Zg,Zh,Zi,Zj,Zk]
     try rfl
  .have q:j=s.g.length:=by simp at q;omega
   subst q
   rw [Nat.sub_self,ownG] at hj3
   subst hj3
   simp (disch:=omega) only [ite_ne,hmn,go_sem,↓reduceIte,Za,Zb,Zc,Zd,Ze,reduceCtorEq,Zf,Zg,Zh,Zi,Zj,Zk]
   try rfl
end Go.Proofs.YtinbodeocoeneaaGreatDoor
