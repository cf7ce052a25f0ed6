/- Proof. Conditions: none. -/
import Derived.Test.YtgollgfifnmaaaaDoorCmP247
open Nat renaming reduceEqDiff→Za,reduceBEq→Zb,reduceAdd→Zc,reduceLeDiff→Zd,reduceLT→Ze,reduceMul→Zf,reduceSub→Zg
open Int renaming reduceEq→Zh,reduceLT→Zi,reduceLE→Zj,reduceToNat→Zk
open Nat renaming le_refl→zna
namespace Go.Proofs.YtgollgfifnmaaaaDoor
open Go.Eng
set_option linter.all false
set_option maxRecDepth 20000
set_option maxHeartbeats 1000000
noncomputable def poF (s:Bool) (t:Dfn) (name:ByteArray) (doc:List Dfn) (j:Nat):List ByteArray:=if s=true then posR t name [] (doc.take j) else []
theorem poF_len (s:Bool) (t:Dfn) (name:ByteArray) (doc:List Dfn) (j:Nat):(poF s t name doc j).length≤j:=by
 unfold poF
 split
 .have:=posR_len t name (doc.take j) []
  rw [List.length_take] at this
  omega
 .simp
theorem poF_step {t x:Dfn} {name:ByteArray} {doc:List Dfn} {j:Nat} (e:doc[j]?=some x):poF true t name doc (j+1)=if x.n ∉ (doc.take j).map Dfn.n∧x.k=1∧kndB t name x=true then poF true t name doc j++[x.n] else poF true t name doc j:=by
 unfold poF
 rw [if_pos rfl,if_pos rfl,←take_snoc e,posR_snoc,List.nil_append]
 split
 .rfl
 .rw [List.append_nil]
theorem rPoss_ok (doc:List Dfn) (hd:DocOk doc) (name:ByteArray) (hp:CH) (m:Nat):MeetsF Tryd.prog 94 hp m [docx doc,.s name] (.ds (stC (posL doc name))):=by
 have h1:=rFind_ok' doc hd.len name
 have hg:=hd.g name
 have hlen:=hd.len
 have hposL:posL doc name=poF (findD' doc name).isSome ((findD' doc name).getD zDf) name doc doc.length:=by
  unfold posL poF
  cases findD' doc name with
  | none=>rfl
  | some t=>rw [if_pos (show (some t).isSome=true from rfl),List.take_length];rfl
 rw [hposL]
 unfold resD at h1
 obtain ⟨t,ht⟩:∃t,(findD' doc name).getD zDf=t:=⟨_,rfl⟩
 obtain ⟨s,hs⟩:∃s,(findD' doc name).isSome=s:=⟨_,rfl⟩
 rw [ht] at h1 hg ⊢
 rw [hs] at h1 ⊢
 obtain ⟨g1,g2,g3⟩:=hg
 obtain ⟨R,hR⟩:∃R,poF s t name doc doc.length=R:=⟨_,rfl⟩
 rw [hR]
 refine meetsF Tryd.func94 (by kernel_rfl) cc94 cr94 rfl fun hf=>?_;unfold ck94
 simp only [go_sem,↓reduceIte,Za,Zb,Zc,Zd,Ze,reduceCtorEq,Zf,Zg,Zh,Zi,Zj,Zk]
 refine vcCall.f (h1 _ _) ?_
 simp (disch:=omega) only [ite_ne,go_sem,↓reduceIte,Za,Zb,Zc,Zd,Ze,reduceCtorEq,Zf,Zg,Zh,Zi,Zj,Zk]
 refine loop (fun p:Nat × Nat=>⟨[(1,.s name),(2,.bx m 0),(5,.rw (m+2) (poF s t name doc p.1).length (poF s t name doc p.1).length),(6,.bx (m+1) 0),(7,.b s),(8,.i .i64 p.1)],
   (m+2,.rw (poF s t name doc p.1).length 1 (stC (poF s t name doc p.1)))::(m,.bx [.ds (mapC dfC doc)])::(m+1,.bx [.i .i64 t.k,.s t.n,.ds t.impl,.ds t.dirs,.ds (mapC fldC t.fields),.ds t.members,.ds t.inputs])::hp,p.2⟩)
  (fun p=>p.1≤doc.length∧m+3≤p.2) (fun p=>doc.length - p.1) (0,m+3) ?_ ?_ (fun ⟨j,k⟩ hj=>?_)
 .exact ⟨by simp,by simp⟩
 .have p0:poF s t name doc 0=[]:=by unfold poF;split<;>rfl
  refine (weak_e0 (t:=5) (m:=1) ?_).trans (weak_ok ?_ (Sub.cons ?_ (Sub.cons ?_ (Sub.cons ?_ (Sub.base hf ?_)))) (zna _))
  all_goals (simp (disch:=omega) only [ite_ne,p0,go_sem,↓reduceIte,Za,Zb,Zc,Zd,Ze,reduceCtorEq,Zf,Zg,Zh,Zi,Zj,Zk])
 dsimp only at hj
 obtain ⟨hj1,hj2⟩:=hj
 have hol:=poF_len s t name doc j
 simp (disch:=omega) only [ite_ne,go_sem,↓reduceIte,Za,Zb,Zc,Zd,Ze,reduceCtorEq,Zf,Zg,Zh,Zi,Zj,Zk]
 refine cdK_of (fun q=>?_) (fun q=>?_)
 .have q:j<doc.length∧s=true:=by simpa using q
  obtain ⟨qj,qs⟩:=q
  subst qs
  obtain ⟨x,ex⟩:∃x,doc[j]?=some x:=⟨doc[j],by simp [qj]⟩
  have hxm:=List.mem_of_getElem? ex
  have hx:=hd.ok x hxm
  have hfr:=rfirst_ok doc hlen j x ex
  have hst:=poF_step (t:=t) (name:=name) ex
  have hha:=rhas_ok (unS x.impl) name (by have:=hd.im x hxm;rw [hx.impl] at this;simpa [mapC] using this)
  rw [←hx.impl] at hha
  have hme:=rmember_ok t g1 g3 x.n
  simp (disch:=omega) only [ite_ne,qj,getK_s (mapC_get dfC ex),go_sem,↓reduceIte,Za,Zb,Zc,Zd,Ze,reduceCtorEq,Zf,Zg,Zh,Zi,Zj,Zk]
  refine gCall.f (fun _=>hfr _ _) ?_
  simp (disch:=omega) only [ite_ne,go_sem,↓reduceIte,Za,Zb,Zc,Zd,Ze,reduceCtorEq,Zf,Zg,Zh,Zi,Zj,Zk]
  refine cdK_of (fun c=>?_) (fun c=>?_)
  .rw [if_neg (fun h=>by rw [decide_eq_true h.1,decide_eq_true h.2.1] at c;cases c)] at hst
   simp (disch:=omega) only [ite_ne,go_sem,↓reduceIte,Za,Zb,Zc,Zd,Ze,reduceCtorEq,Zf,Zg,Zh,Zi,Zj,Zk]
   refine ⟨(j+1,_),⟨by dsimp only;omega,by dsimp only;omega⟩,by dsimp only;omega,weak_ok ?_ (Sub.cons ?_ (Sub.cons ?_ (Sub.cons ?_ (Sub.base hf ?_)))) (zna _)⟩
   all_goals
    simp (disch:=omega) only [ite_ne,hst,wr64s j (by omega),go_sem,↓reduceIte,Za,Zb,Zc,Zd,Ze,reduceCtorEq,Zf,Zg,Zh,Zi,Zj,Zk]
  .simp (disch:=omega) only [ite_ne,go_sem,↓reduceIte,Za,Zb,Zc,Zd,Ze,reduceCtorEq,Zf,Zg,Zh,Zi,Zj,Zk]
   refine gCall.f (fun _=>hha _ _) ?_
   simp (disch:=omega) only [ite_ne,go_sem,↓reduceIte,Za,Zb,Zc,Zd,Ze,reduceCtorEq,Zf,Zg,Zh,Zi,Zj,Zk]
   refine gCall.f (fun _=>hme _ _) ?_
   simp (disch:=omega) only [ite_ne,go_sem,↓reduceIte,Za,Zb,Zc,Zd,Ze,reduceCtorEq,Zf,Zg,Zh,Zi,Zj,Zk]
   refine cdK_of (fun c2=>?_) (fun c2=>?_)
   .have hkn:kndB t name x=true:=by
     unfold kndB
     rw [←Bool.or_assoc]
     exact c2
    have hk1:x.n ∉ (doc.take j).map Dfn.n∧x.k=1:=by
     simp only [Bool.or_eq_false_iff,Bool.not_eq_false',decide_eq_true_eq] at c
     exact ⟨c.2,c.1⟩
    rw [if_pos ⟨hk1.1,hk1.2,hkn⟩] at hst
    have hg:mapC st1 (poF true t name doc j)++[[AV.s x.n]]=mapC st1 (poF true t name doc j++[x.n]):=mapC_snoc st1 _ x.n
    simp (disch:=omega) only [ite_ne,hg,go_sem,↓reduceIte,Za,Zb,Zc,Zd,Ze,reduceCtorEq,Zf,Zg,Zh,Zi,Zj,Zk]
    refine ⟨by omega,by omega,(j+1,_),⟨by dsimp only;omega,by dsimp only;omega⟩,by dsimp only;omega,weak_ok ?_ (Sub.cons ?_ (Sub.cons ?_ (Sub.cons ?_ (Sub.base hf ?_)))) (zna _)⟩
    all_goals
     simp (disch:=omega) only [ite_ne,hst,wr64s j (by omega),List.length_append,List.length_cons,List.length_nil,go_sem,↓reduceIte,Za,Zb,Zc,Zd,Ze,reduceCtorEq,Zf,Zg,Zh,Zi,Zj,Zk]
   .have hkn:¬kndB t name x=true:=by
     unfold kndB
     rw [←Bool.or_assoc]
     simp only [c2]
     decide
    rw [if_neg (fun h=>hkn h.2.2)] at hst
    simp (disch:=omega) only [ite_ne,go_sem,↓reduceIte,Za,Zb,Zc,Zd,Ze,reduceCtorEq,Zf,Zg,Zh,Zi,Zj,Zk]
    refine ⟨(j+1,_),⟨by dsimp only;omega,by dsimp only;omega⟩,by dsimp only;omega,weak_ok ?_ (Sub.cons ?_ (Sub.cons ?_ (Sub.cons ?_ (Sub.base hf ?_)))) (zna _)⟩
    all_goals
     simp (disch:=omega) only [ite_ne,hst,wr64s j (by omega),go_sem,↓reduceIte,Za,Zb,Zc,Zd,Ze,reduceCtorEq,Zf,Zg,Zh,Zi,Zj,Zk]
 .have hRj:poF s t name doc j=R:=by
   rw [←hR]
   cases s with
   | false=>rfl
   | true =>
    have:j=doc.length:=by simp at q;omega
    rw [this]
  rw [hRj]
  simp (disch:=omega) only [ite_ne,go_sem,↓reduceIte,Za,Zb,Zc,Zd,Ze,reduceCtorEq,Zf,Zg,Zh,Zi,Zj,Zk]
theorem rIs_ok (doc:List Dfn) (hd:DocOk doc) (on name:ByteArray) (hp:CH) (m:Nat):MeetsF Tryd.prog 83 hp m [docx doc,.s on,.s name] (.b (decide (on∈posL doc name))):=by
 have hlen:=posL_len doc name
 have hdl:=hd.len
 have h1:=rhas_ok (posL doc name) on (by omega)
 refine meetsF Tryd.func83 (by kernel_rfl) cc83 cr83 rfl fun hf=>?_;unfold ck83
 simp only [go_sem,↓reduceIte,Za,Zb,Zc,Zd,Ze,reduceCtorEq,Zf,Zg,Zh,Zi,Zj,Zk]
 refine vcCall.f (rPoss_ok doc hd name _ _) ?_
 simp only [go_sem,↓reduceIte,Za,Zb,Zc,Zd,Ze,reduceCtorEq,Zf,Zg,Zh,Zi,Zj,Zk]
 refine vcCall.f (h1 _ _) ?_
 simp only [go_sem,↓reduceIte,Za,Zb,Zc,Zd,Ze,reduceCtorEq,Zf,Zg,Zh,Zi,Zj,Zk]
theorem down_ok (path:List Val) (hpl:path.length≤1000000000000) (x:Val) (hp:CH) (m:Nat):MeetsF Tryd.prog 92 hp m [.ds (mapC valC path),vx x] (.ds (mapC valC (path++[x]))):=by
 refine meetsF Tryd.func92 (by kernel_rfl) cc92 cr92 rfl fun hf=>?_;unfold ck92
 simp (disch:=omega) only [ite_ne,go_sem,↓reduceIte,Za,Zb,Zc,Zd,Ze,reduceCtorEq,Zf,Zg,Zh,Zi,Zj,Zk]
 exact ⟨by omega,by omega,by omega,by omega⟩
structure RunR (doc:List Dfn) (hp:CH) (c kp gp:Nat) (P:List Prb):Prop where
 hc:gc hp c=.bx [.ds (mapC dfC doc),.rw kp gp P.length]
 hk:gc hp kp=.rw gp 2 (mapC prbC P)
def wsR (doc:List Dfn) (c kp gp:Nat) (P R:List Prb):CH :=
 [(kp,.rw (gp+R.length) 2 (mapC prbC (P++R))),(c,.bx [.ds (mapC dfC doc),.rw kp (gp+R.length) (P.length+R.length)])]
section
variable {doc:List Dfn} {hp:CH} {c kp gp:Nat} {P R:List Prb}
theorem RunR.n2 (h:RunR doc hp c kp gp P):¬c=kp:=fun e=>by have:=h.hc;rw [e,h.hk] at this;cases this
theorem RunR.lt {n:Nat} (h:RunR doc hp c kp gp P) (hf:∀k,n≤k→gc hp k=.no):c<n∧kp<n :=
 ⟨free_lt hf h.hc (fun e=>by cases e),free_lt hf h.hk (fun e=>by cases e)⟩
theorem RunR.wsLt {n:Nat} (h:RunR doc hp c kp gp P) (hf:∀k,n≤k→gc hp k=.no):wsLt n (wsR doc c kp gp P R):=by
 obtain ⟨h1,h3⟩:=h.lt hf
 refine ⟨h3,trivial,h1,?_,trivial⟩
 intro α hα
 simp only [List.mem_cons,List.not_mem_nil,or_false] at hα
 rcases hα with rfl | rfl
 .rfl
 .exact h3
theorem up_wsR {n:Nat} {hp':CH} (h:RunR doc hp c kp gp P) (h1:gc hp' kp=.rw (gp+R.length) 2 (mapC prbC (P++R))) (h2:gc hp' c=.bx [.ds (mapC dfC doc),.rw kp (gp+R.length) (P.length+R.length)])
  (h4:∀j,j<n→j≠c→j≠kp→gc hp' j=gc hp j):Up n (wsR doc c kp gp P R++hp) hp':=fun j hj=>by
 simp only [wsR,List.cons_append,List.nil_append]
 by_cases e1:kp=j
 .subst e1;rw [gc_same,h1]
 .rw [gc_ne _ _ e1]
  by_cases e2:c=j
  .subst e2;rw [gc_same,h2]
  .rw [gc_ne _ _ e2]
   exact h4 j hj (fun e=>e2 e.symm) (fun e=>e1 e.symm)
theorem RunR.of {hp':CH} (h:RunR doc hp c kp gp P) (e:∀j,(j=c∨j=kp)→gc hp' j=gc hp j):RunR doc hp' c kp gp P :=
 ⟨(e c (.inl rfl)).trans h.hc,(e kp (.inr rfl)).trans h.hk⟩
theorem wsOk_wsR {n0:Nat} (h:RunR doc hp c kp gp P) (h1:c<n0) (h3:kp<n0):wsOk hp n0 (keys (wsR doc c kp gp P R)) (wsR doc c kp gp P R):=by
 refine ⟨h3,by rw [h.hk];trivial,trivial,h1,by rw [h.hc];trivial,⟨rfl,?_,trivial⟩,trivial⟩
 show kp∈[kp,c];simp
end
theorem report_ok {doc:List Dfn} {hp:CH} {c kp gp:Nat} {P:List Prb} (h:RunR doc hp c kp gp P) (path:List Val) (hpl:path.length≤1000000000000) (hP:P.length≤1000000000000) (s:ByteArray) (n:Nat) :
  MeetsX Tryd.prog 58 hp n [.bx c 0,.ds (mapC valC path),.s s] (wsR doc c kp gp P [.mk path s]++hp) n (.tp []):=by
 have hWS:(∀k,n≤k→gc hp k=.no)→wsLt n (wsR doc c kp gp P [.mk path s]):=fun hf=>h.wsLt hf
 have n2:=h.n2
 have m2:¬kp=c:=fun e=>n2 e.symm
 have hc:=h.hc
 have hk:=h.hk
 refine meetsW Tryd.func58 (by kernel_rfl) cc58 cr58 rfl hWS fun hf=>?_;unfold ck58
 obtain ⟨l1,l3⟩:=h.lt hf
 simp (disch:=omega) only [ite_ne,hc,hk,n2,m2,go_sem,↓reduceIte,Za,Zb,Zc,Zd,Ze,reduceCtorEq,Zf,Zg,Zh,Zi,Zj,Zk]
 refine ⟨by omega,by omega,by omega,by omega,up_wsR h ?_ ?_ fun j hj j1 j3=>?_⟩
 all_goals (simp (disch:=omega) only [ite_ne,go_sem,↓reduceIte,Za,Zb,Zc,Zd,Ze,reduceCtorEq,Zf,Zg,Zh,Zi,Zj,Zk])
end Go.Proofs.YtgollgfifnmaaaaDoor
