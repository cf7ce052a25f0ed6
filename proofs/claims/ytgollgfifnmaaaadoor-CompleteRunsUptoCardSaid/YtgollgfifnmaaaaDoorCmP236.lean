/- Proof. Conditions: none. -/
import Derived.Test.YtgollgfifnmaaaaDoorCmP235
open Nat renaming reduceEqDiff→Za,reduceBEq→Zb,reduceAdd→Zc,reduceLeDiff→Zd,reduceLT→Ze,reduceMul→Zf,reduceSub→Zg
open Int renaming reduceEq→Zh,reduceLT→Zi,reduceLE→Zj,reduceToNat→Zk
open Nat renaming le_refl→zna
namespace Go.Proofs.YtgollgfifnmaaaaDoor
open Go.Eng
set_option linter.all false
set_option maxRecDepth 20000
set_option maxHeartbeats 1000000
theorem snoc_prb (l:List Prb) (p:List Val) (s:ByteArray):mapC prbC l++[[AV.ds (mapC valC p),AV.s s]]=mapC prbC (l++[.mk p s]):=mapC_snoc prbC l (.mk p s)
attribute [go_sem] snoc_prb
structure RunH (doc:List Dfn) (F:ByteArray→AV) (hp:CH) (c km kp gp:Nat) (P:List Prb):Prop where
 hc:gc hp c=.bx [.ds (mapC dfC doc),.mp km,.rw kp gp P.length]
 hm:gc hp km=.mq F
 hk:gc hp kp=.rw gp 2 (mapC prbC P)
def wsC (doc:List Dfn) (F:ByteArray→AV) (c km kp gp:Nat) (P R:List Prb):CH :=
 [(kp,.rw (gp+R.length) 2 (mapC prbC (P++R))),(c,.bx [.ds (mapC dfC doc),.mp km,.rw kp (gp+R.length) (P.length+R.length)]),(km,.mq F)]
section
variable {doc:List Dfn} {F:ByteArray→AV} {hp:CH} {c km kp gp:Nat} {P R:List Prb}
theorem RunH.n1 (h:RunH doc F hp c km kp gp P):¬c=km:=fun e=>by have:=h.hc;rw [e,h.hm] at this;cases this
theorem RunH.n2 (h:RunH doc F hp c km kp gp P):¬c=kp:=fun e=>by have:=h.hc;rw [e,h.hk] at this;cases this
theorem RunH.n3 (h:RunH doc F hp c km kp gp P):¬km=kp:=fun e=>by have:=h.hm;rw [e,h.hk] at this;cases this
theorem free_lt {hp:CH} {n k:Nat} {X:Chunk} (hf:∀k,n≤k→gc hp k=.no) (h:gc hp k=X) (hX:X≠.no):k<n:=by
 rcases Nat.lt_or_ge k n with q | q
 .exact q
 .exact absurd (h.symm.trans (hf k q)) hX
theorem RunH.lt {n:Nat} (h:RunH doc F hp c km kp gp P) (hf:∀k,n≤k→gc hp k=.no):c<n∧km<n∧kp<n :=
 ⟨free_lt hf h.hc (fun e=>by cases e),free_lt hf h.hm (fun e=>by cases e),free_lt hf h.hk (fun e=>by cases e)⟩
theorem RunH.wsLt {n:Nat} (h:RunH doc F hp c km kp gp P) (hf:∀k,n≤k→gc hp k=.no):wsLt n (wsC doc F c km kp gp P R):=by
 obtain ⟨h1,h2,h3⟩:=h.lt hf
 refine ⟨h3,trivial,h1,?_,h2,trivial,trivial⟩
 intro α hα
 simp only [List.mem_cons,List.not_mem_nil,or_false] at hα
 rcases hα with rfl | rfl | rfl
 .rfl
 .exact h2
 .exact h3
theorem up_wsC {n:Nat} {hp':CH} (h:RunH doc F hp c km kp gp P) (h1:gc hp' kp=.rw (gp+R.length) 2 (mapC prbC (P++R))) (h2:gc hp' c=.bx [.ds (mapC dfC doc),.mp km,.rw kp (gp+R.length) (P.length+R.length)]) (h3:gc hp' km=.mq F)
  (h4:∀j,j<n→j≠c→j≠km→j≠kp→gc hp' j=gc hp j):Up n (wsC doc F c km kp gp P R++hp) hp':=fun j hj=>by
 simp only [wsC,List.cons_append,List.nil_append]
 by_cases e1:kp=j
 .subst e1;rw [gc_same,h1]
 .rw [gc_ne _ _ e1]
  by_cases e2:c=j
  .subst e2;rw [gc_same,h2]
  .rw [gc_ne _ _ e2]
   by_cases e3:km=j
   .subst e3;rw [gc_same,h3]
   .rw [gc_ne _ _ e3]
    exact h4 j hj (fun e=>e2 e.symm) (fun e=>e3 e.symm) (fun e=>e1 e.symm)
theorem gc_wsC (h:RunH doc F hp c km kp gp P) (hp2:CH):gc (wsC doc F c km kp gp P R++hp2) kp=.rw (gp+R.length) 2 (mapC prbC (P++R))∧gc (wsC doc F c km kp gp P R++hp2) c=.bx [.ds (mapC dfC doc),.mp km,.rw kp (gp+R.length) (P.length+R.length)] ∧
  gc (wsC doc F c km kp gp P R++hp2) km=.mq F∧∀j,j≠c→j≠km→j≠kp→gc (wsC doc F c km kp gp P R++hp2) j=gc hp2 j:=by
 simp only [wsC,List.cons_append,List.nil_append]
 have n1:=h.n1
 have n2:=h.n2
 have n3:=h.n3
 refine ⟨gc_same _ _ _,?_,?_,fun j j1 j2 j3=>?_⟩
 .rw [gc_ne _ _ (fun e=>n2 e.symm),gc_same]
 .rw [gc_ne _ _ (fun e=>n3 e.symm),gc_ne _ _ n1,gc_same]
 .rw [gc_ne _ _ (fun e=>j3 e.symm),gc_ne _ _ (fun e=>j1 e.symm),gc_ne _ _ (fun e=>j2 e.symm)]
theorem RunH.ws (h:RunH doc F hp c km kp gp P) (hp2:CH):RunH doc F (wsC doc F c km kp gp P R++hp2) c km kp (gp+R.length) (P++R):=by
 obtain ⟨h1,h2,h3,_⟩:=gc_wsC (R:=R) h hp2
 exact ⟨by rw [List.length_append];exact h2,h3,h1⟩
theorem RunH.of {hp':CH} (h:RunH doc F hp c km kp gp P) (e:∀j,(j=c∨j=km∨j=kp)→gc hp' j=gc hp j):RunH doc F hp' c km kp gp P :=
 ⟨(e c (.inl rfl)).trans h.hc,(e km (.inr (.inl rfl))).trans h.hm,(e kp (.inr (.inr rfl))).trans h.hk⟩
end
theorem vclone_r (l:List Val) (h:l.length≤1000000000000) (k g len:Nat) (hp:CH) (hk:gc hp k=.rw g 5 (mapC valC l)) (he:len=l.length) (m:Nat):MeetsF Tryd.prog 89 hp m [.rw k g len] (.ds (mapC valC l)):=by
 subst he
 refine meetsF Tryd.func89 (by kernel_rfl) cc89 cr89 rfl fun hf=>?_;unfold ck89
 have hlt:k<m:=free_lt hf hk (fun e=>by cases e)
 simp (disch:=omega) only [ite_ne,hk,go_sem,↓reduceIte,Za,Zb,Zc,Zd,Ze,reduceCtorEq,Zf,Zg,Zh,Zi,Zj,Zk]
 exact ⟨fun e=>by rw [List.eq_nil_of_length_eq_zero (e trivial)];rfl,by omega,by omega⟩
theorem fail_rw {doc:List Dfn} {F:ByteArray→AV} {hp:CH} {c km kp gp:Nat} {P:List Prb} (h:RunH doc F hp c km kp gp P) (path:List Val) (hpl:path.length≤1000000000000) (hP:P.length≤1000000000000) (s:ByteArray) (kq gq:Nat) (hq:gc hp kq=.rw gq 5 (mapC valC path)) (n:Nat) :
  MeetsX Tryd.prog 71 hp n [.bx c 0,.rw kq gq path.length,.s s] (wsC doc F c km kp gp P [.mk path s]++hp) n (vx zVal):=by
 have hWS:(∀k,n≤k→gc hp k=.no)→wsLt n (wsC doc F c km kp gp P [.mk path s]):=fun hf=>h.wsLt hf
 have n1:=h.n1
 have n2:=h.n2
 have n3:=h.n3
 have m1:¬km=c:=fun e=>n1 e.symm
 have m2:¬kp=c:=fun e=>n2 e.symm
 have m3:¬kp=km:=fun e=>n3 e.symm
 have hc:=h.hc
 have hm:=h.hm
 have hk:=h.hk
 refine meetsW Tryd.func71 (by kernel_rfl) cc71 cr71 rfl hWS fun hf=>?_;unfold ck71
 obtain ⟨l1,l2,l3⟩:=h.lt hf
 have l4:kq<n:=free_lt hf hq (fun e=>by cases e)
 simp (disch:=omega) only [ite_ne,hc,hk,hm,n1,n2,n3,m1,m2,m3,go_sem,↓reduceIte,Za,Zb,Zc,Zd,Ze,reduceCtorEq,Zf,Zg,Zh,Zi,Zj,Zk]
 refine dCallR.f (fun _ hp' e=>vclone_r path hpl kq gq _ hp' ((e kq (.inl (by omega))).trans (by rw [gc_ne _ _ (by omega)];exact hq)) rfl _) ?_
 simp (disch:=omega) only [ite_ne,hc,hk,hm,n1,n2,n3,m1,m2,m3,go_sem,↓reduceIte,Za,Zb,Zc,Zd,Ze,reduceCtorEq,Zf,Zg,Zh,Zi,Zj,Zk]
 refine ⟨⟨by omega,by omega⟩,up_wsC h ?_ ?_ ?_ fun j hj j1 j2 j3=>?_⟩
 .rw [gc_ne _ _ n2,gc_same];rfl
 .rw [gc_same];rfl
 .rw [gc_ne _ _ n1,gc_ne _ _ m3,gc_ne _ _ (by omega),hm]
 .rw [gc_ne _ _ (fun e=>j1 e.symm),gc_ne _ _ (fun e=>j3 e.symm),gc_ne _ _ (by omega)]
theorem fail_ok {doc:List Dfn} {F:ByteArray→AV} {hp:CH} {c km kp gp:Nat} {P:List Prb} (h:RunH doc F hp c km kp gp P) (path:List Val) (hpl:path.length≤1000000000000) (hP:P.length≤1000000000000) (s:ByteArray) (kq gq cap:Nat) (hq:gc hp kq=.rc gq 5 cap (mapC valC path)) (n:Nat) :
  MeetsX Tryd.prog 71 hp n [.bx c 0,.rw kq gq path.length,.s s] (wsC doc F c km kp gp P [.mk path s]++hp) n (vx zVal):=by
 have q1:kq≠c:=fun e=>by have:=h.hc;rw [←e,hq] at this;cases this
 have q2:kq≠km:=fun e=>by have:=h.hm;rw [←e,hq] at this;cases this
 have q3:kq≠kp:=fun e=>by have:=h.hk;rw [←e,hq] at this;cases this
 refine Meets.rc hq (fun x hx=>?_) (fail_rw (h.of fun j hj=>gc_ne _ _ fun e=>?_) path hpl hP s kq gq (gc_same _ _ _) n)
 .simp only [wsC,List.mem_cons,List.not_mem_nil,or_false] at hx
  rcases hx with rfl | rfl | rfl
  .exact fun e=>q3 e.symm
  .exact fun e=>q1 e.symm
  .exact fun e=>q2 e.symm
 .rcases hj with rfl | rfl | rfl
  .exact q1 e
  .exact q2 e
  .exact q3 e
noncomputable def posF (doc:List Dfn) (x:ByteArray):AV:=.ds (stC (posL doc x))
theorem is_ok {doc:List Dfn} (hd:DocOk doc) {hp:CH} {c km:Nat} {α:AV} (hc:gc hp c=.bx [.ds (mapC dfC doc),.mp km,α]) (hm:gc hp km=.mq (posF doc)) (on name:ByteArray) (n:Nat) :
  MeetsF Tryd.prog 78 hp n [.bx c 0,.s on,.s name] (.b (decide (on∈posL doc name))):=by
 have n1:¬c=km:=fun e=>by rw [e,hm] at hc;cases hc
 have n2:¬km=c:=fun e=>n1 e.symm
 have hlen:=posL_len doc name
 have hdl:=hd.len
 have hct:=contains_ok (posL doc name) on (by omega)
 rw [ix_mem'] at hct
 refine MeetsF.mq hm rfl (by exact ⟨_,Tryd.func78,by kernel_rfl,by kernel_rfl⟩) fun l hl=>?_
 have hc2:gc ((km,Chunk.mp l)::hp) c=.bx [.ds (mapC dfC doc),.mp km,α]:=by rw [gc_ne _ _ n2];exact hc
 cases e:mfind name l with
 | some β =>
  have hβ:β=.ds (stC (posL doc name)):=hl _ (mfind_mem e)
  subst hβ
  refine meetsN Tryd.func78 (by kernel_rfl) cc78 cr78 rfl fun hf=>?_;unfold ck78
  have l1:km<n:=free_lt hf (gc_same _ _ _) (fun e=>by cases e)
  have l2:c<n:=free_lt hf hc2 (fun e=>by cases e)
  simp (disch:=omega) only [ite_ne,hc,n1,n2,e,go_sem,↓reduceIte,Za,Zb,Zc,Zd,Ze,reduceCtorEq,Zf,Zg,Zh,Zi,Zj,Zk]
  refine vcCall.f (hct _ _) ?_
  simp (disch:=omega) only [ite_ne,hc,n1,n2,e,go_sem,↓reduceIte,Za,Zb,Zc,Zd,Ze,reduceCtorEq,Zf,Zg,Zh,Zi,Zj,Zk]
  refine ⟨l,hl,fun j hj=>.inl (gc_ne _ _ fun q=>hj q.symm),rfl⟩
 | none =>
  refine meetsN Tryd.func78 (by kernel_rfl) cc78 cr78 rfl fun hf=>?_;unfold ck78
  have l1:km<n:=free_lt hf (gc_same _ _ _) (fun e=>by cases e)
  have l2:c<n:=free_lt hf hc2 (fun e=>by cases e)
  simp (disch:=omega) only [ite_ne,hc,n1,n2,e,go_sem,↓reduceIte,Za,Zb,Zc,Zd,Ze,reduceCtorEq,Zf,Zg,Zh,Zi,Zj,Zk]
  refine vcCall.f (pos_ok doc hd name _ _) ?_
  simp (disch:=omega) only [ite_ne,hc,n1,n2,e,go_sem,↓reduceIte,Za,Zb,Zc,Zd,Ze,reduceCtorEq,Zf,Zg,Zh,Zi,Zj,Zk]
  refine vcCall.f (hct _ _) ?_
  simp (disch:=omega) only [ite_ne,hc,n1,n2,e,go_sem,↓reduceIte,Za,Zb,Zc,Zd,Ze,reduceCtorEq,Zf,Zg,Zh,Zi,Zj,Zk]
  refine ⟨_,fun p hp=>?_,fun j hj=>.inl (by rw [if_neg (fun q=>hj q.symm)]),rfl⟩
  rcases mput_mem hp with rfl | hp
  .rfl
  .exact hl p hp
theorem rhas_ok (l:List ByteArray) (s:ByteArray) (hl:l.length≤1000000000000) (hp:CH) (m:Nat):MeetsF Tryd.prog 93 hp m [.ds (stC l),.s s] (.b (decide (s∈l))):=by
 obtain ⟨R,hR⟩:∃R,decide (s∈l)=R:=⟨_,rfl⟩
 rw [hR]
 refine meetsF Tryd.func93 (by kernel_rfl) cc93 cr93 rfl fun hf=>?_;unfold ck93
 simp only [go_sem,↓reduceIte,Za,Zb,Zc,Zd,Ze,reduceCtorEq,Zf,Zg,Zh,Zi,Zj,Zk]
 refine loop (fun p:Nat × Nat=>⟨[(0,.ds (stC l)),(1,.s s),(5,.i .i64 p.1)],hp,p.2⟩) (fun p=>p.1≤l.length∧R=decide (s∈l.drop p.1)) (fun p=>l.length - p.1) (0,m) ?_ ?_ (fun ⟨j,n⟩ hj=>?_)
 .exact ⟨by simp,hR.symm⟩
 .refine weak_ok ?_ (Sub.refl _) (zna _)
  simp only [go_sem,↓reduceIte,Za,Zb,Zc,Zd,Ze,reduceCtorEq,Zf,Zg,Zh,Zi,Zj,Zk]
 dsimp only at hj
 obtain ⟨hj1,hj2⟩:=hj
 simp only [go_sem,↓reduceIte,Za,Zb,Zc,Zd,Ze,reduceCtorEq,Zf,Zg,Zh,Zi,Zj,Zk]
 refine cdK_of (fun q=>?_) (fun q=>?_)
 .have q:j<l.length:=by simpa using q
  obtain ⟨x,ex⟩:∃x,l[j]?=some x:=⟨l[j],by simp [q]⟩
  rw [drop_at ex] at hj2
  simp only [q,getK_s (mapC_get st1 ex),go_sem,↓reduceIte,Za,Zb,Zc,Zd,Ze,reduceCtorEq,Zf,Zg,Zh,Zi,Zj,Zk]
  refine cdK_of (fun c=>?_) (fun c=>?_)
  .have c:x=s:=by simpa using c
   have:R=true:=by rw [hj2];simp [c]
   subst this
   simp only [go_sem,↓reduceIte,Za,Zb,Zc,Zd,Ze,reduceCtorEq,Zf,Zg,Zh,Zi,Zj,Zk]
  .have c:¬x=s:=by simpa using c
   have c':¬s=x:=fun e=>c e.symm
   simp only [go_sem,↓reduceIte,Za,Zb,Zc,Zd,Ze,reduceCtorEq,Zf,Zg,Zh,Zi,Zj,Zk]
   refine ⟨(j+1,_),⟨by dsimp only;omega,by rw [hj2];simp [c']⟩,by dsimp only;omega,weak_ok ?_ (Sub.refl _) (zna _)⟩
   simp only [wr64s j (by omega),go_sem,↓reduceIte,Za,Zb,Zc,Zd,Ze,reduceCtorEq,Zf,Zg,Zh,Zi,Zj,Zk]
 .have q:j=l.length:=by simp at q;omega
  subst q
  rw [List.drop_length] at hj2
  have:R=false:=by rw [hj2];simp
  subst this
  simp only [go_sem,↓reduceIte,Za,Zb,Zc,Zd,Ze,reduceCtorEq,Zf,Zg,Zh,Zi,Zj,Zk]
theorem rfirst_ok (doc:List Dfn) (hl:doc.length≤1000000000000) (at':Nat) (x:Dfn) (ex:doc[at']?=some x) (hp:CH) (m:Nat):MeetsF Tryd.prog 97 hp m [docx doc,.i .i64 at'] (.b (decide (x.n ∉ (doc.take at').map Dfn.n))):=by
 obtain ⟨R,hR⟩:∃R,decide (x.n ∉ (doc.take at').map Dfn.n)=R:=⟨_,rfl⟩
 rw [hR]
 have hat:at' < doc.length:=(List.getElem?_eq_some_iff.1 ex).1
 refine meetsF Tryd.func97 (by kernel_rfl) cc97 cr97 rfl fun hf=>?_;unfold ck97
 simp only [go_sem,↓reduceIte,Za,Zb,Zc,Zd,Ze,reduceCtorEq,Zf,Zg,Zh,Zi,Zj,Zk]
 refine loop (fun p:Nat × Nat=>⟨[(1,.i .i64 at'),(2,.bx m 0),(5,.i .i64 p.1)],(m,.bx [.ds (mapC dfC doc)])::hp,p.2⟩) (fun p=>p.1≤at'∧m+1≤p.2∧∀i t,i<p.1→doc[i]?=some t→t.n≠x.n) (fun p=>at' - p.1) (0,m+1) ?_ ?_ (fun ⟨j,n⟩ hj=>?_)
 .exact ⟨by simp,by simp,fun i t h=>by omega⟩
 .refine weak_ok ?_ (Sub.cons ?_ (Sub.base hf ?_)) (zna _)
  all_goals (simp (disch:=omega) only [ite_ne,go_sem,↓reduceIte,Za,Zb,Zc,Zd,Ze,reduceCtorEq,Zf,Zg,Zh,Zi,Zj,Zk])
 dsimp only at hj
 obtain ⟨hj1,hj2,hj3⟩:=hj
 simp (disch:=omega) only [ite_ne,go_sem,↓reduceIte,Za,Zb,Zc,Zd,Ze,reduceCtorEq,Zf,Zg,Zh,Zi,Zj,Zk]
 refine cdK_of (fun q=>?_) (fun q=>?_)
 .have q:j<at':=by simpa using q
  obtain ⟨y,ey⟩:∃y,doc[j]?=some y:=⟨doc[j]'(by omega),by simp [show j<doc.length by omega]⟩
  have b1:((j:Int)<(doc.length:Int))=True:=eq_true (by omega)
  have b2:((at':Int)<(doc.length:Int))=True:=eq_true (by omega)
  have b3:(j<doc.length)=True:=eq_true (by omega)
  have b4:(at' < doc.length)=True:=eq_true hat
  simp (disch:=omega) only [ite_ne,q,b1,b2,b3,b4,getK_s (mapC_get dfC ey),getK_s (mapC_get dfC ex),go_sem,↓reduceIte,Za,Zb,Zc,Zd,Ze,reduceCtorEq,Zf,Zg,Zh,Zi,Zj,Zk]
  refine cdK_of (fun c=>?_) (fun c=>?_)
  .have c:y.n=x.n:=by simpa using c
   have:R=false:=by
    rw [←hR,decide_eq_false_iff_not,Classical.not_not]
    exact List.mem_map.2 ⟨y,List.mem_of_getElem? (i:=j) (by rw [List.getElem?_take,if_pos q];exact ey),c⟩
   subst this
   simp (disch:=omega) only [ite_ne,go_sem,↓reduceIte,Za,Zb,Zc,Zd,Ze,reduceCtorEq,Zf,Zg,Zh,Zi,Zj,Zk]
  .have c:¬y.n=x.n:=by simpa using c
   simp (disch:=omega) only [ite_ne,go_sem,↓reduceIte,Za,Zb,Zc,Zd,Ze,reduceCtorEq,Zf,Zg,Zh,Zi,Zj,Zk]
   refine ⟨(j+1,_),⟨by dsimp only;omega,by dsimp only;omega,fun i t hi ht=>?_⟩,by dsimp only;omega,weak_ok ?_ (Sub.cons ?_ (Sub.base hf ?_)) (zna _)⟩
   .rcases Nat.lt_or_ge i j with w | w
    .exact hj3 i t w ht
    .have:i=j:=by dsimp only at hi;omega
     subst this
     rw [ey] at ht
     cases ht
     exact c
   all_goals
    simp (disch:=omega) only [ite_ne,wr64s j (by omega),go_sem,↓reduceIte,Za,Zb,Zc,Zd,Ze,reduceCtorEq,Zf,Zg,Zh,Zi,Zj,Zk]
 .have q:j=at':=by simp at q;omega
  subst q
  have:R=true:=by
   rw [←hR,decide_eq_true_eq]
   intro hm
   obtain ⟨t,ht,e⟩:=List.mem_map.1 hm
   obtain ⟨i,hi⟩:=List.getElem?_of_mem ht
   rw [List.getElem?_take] at hi
   split at hi
   .rename_i w
    exact hj3 i t w hi e
   .cases hi
  subst this
  simp (disch:=omega) only [ite_ne,go_sem,↓reduceIte,Za,Zb,Zc,Zd,Ze,reduceCtorEq,Zf,Zg,Zh,Zi,Zj,Zk]
theorem rmember_ok (t:Dfn) (ht:DefOk t) (hl:t.members.length≤1000000000000) (s:ByteArray) (hp:CH) (m:Nat):MeetsF Tryd.prog 98 hp m [dfx t,.s s] (.b (decide (s∈unM t.members))):=by
 obtain ⟨R,hR⟩:∃R,decide (s∈unM t.members)=R:=⟨_,rfl⟩
 rw [hR]
 have hml:∀e∈t.members,e.length=2:=fun e he=>by obtain ⟨x,y,rfl⟩:=ht.mem e he;rfl
 have hml:=eq_true hml
 refine meetsF Tryd.func98 (by kernel_rfl) cc98 cr98 rfl fun hf=>?_;unfold ck98
 simp only [go_sem,↓reduceIte,Za,Zb,Zc,Zd,Ze,reduceCtorEq,Zf,Zg,Zh,Zi,Zj,Zk]
 refine loop (fun p:Nat × Nat=>⟨[(1,.s s),(2,.bx m 0),(5,.i .i64 p.1)],(m,.bx [.i .i64 t.k,.s t.n,.ds t.impl,.ds t.dirs,.ds (mapC fldC t.fields),.ds t.members,.ds t.inputs])::hp,p.2⟩) (fun p=>p.1≤t.members.length∧m+1≤p.2∧R=decide (s∈unM (t.members.drop p.1))) (fun p=>t.members.length - p.1) (0,m+1) ?_ ?_ (fun ⟨j,n⟩ hj=>?_)
 .exact ⟨by simp,by simp,hR.symm⟩
 .refine weak_ok ?_ (Sub.cons ?_ (Sub.base hf ?_)) (zna _)
  all_goals (simp (disch:=omega) only [ite_ne,go_sem,↓reduceIte,Za,Zb,Zc,Zd,Ze,reduceCtorEq,Zf,Zg,Zh,Zi,Zj,Zk])
 dsimp only at hj
 obtain ⟨hj1,hj2,hj3⟩:=hj
 simp (disch:=omega) only [ite_ne,go_sem,↓reduceIte,Za,Zb,Zc,Zd,Ze,reduceCtorEq,Zf,Zg,Zh,Zi,Zj,Zk]
 refine cdK_of (fun q=>?_) (fun q=>?_)
 .have q:j<t.members.length:=by simpa using q
  obtain ⟨e,ee⟩:∃e,t.members[j]?=some e:=⟨t.members[j],by simp [q]⟩
  obtain ⟨x,y,rfl⟩:=ht.mem e (List.mem_of_getElem? ee)
  rw [drop_at ee] at hj3
  have hj3:R=decide (s∈x::unM (t.members.drop (j+1))):=hj3
  simp (disch:=omega) only [ite_ne,q,hml,getK_s ee,go_sem,↓reduceIte,Za,Zb,Zc,Zd,Ze,reduceCtorEq,Zf,Zg,Zh,Zi,Zj,Zk]
  refine cdK_of (fun c=>?_) (fun c=>?_)
  .have c:x=s:=by simpa using c
   have:R=true:=by rw [hj3];simp [c]
   subst this
   simp (disch:=omega) only [ite_ne,go_sem,↓reduceIte,Za,Zb,Zc,Zd,Ze,reduceCtorEq,Zf,Zg,Zh,Zi,Zj,Zk]
  .have c:¬x=s:=by simpa using c
   have c':¬s=x:=fun e=>c e.symm
   simp (disch:=omega) only [ite_ne,go_sem,↓reduceIte,Za,Zb,Zc,Zd,Ze,reduceCtorEq,Zf,Zg,Zh,Zi,Zj,Zk]
   refine ⟨(j+1,_),⟨by dsimp only;omega,by dsimp only;omega,by rw [hj3];simp [c']⟩,by dsimp only;omega,weak_ok ?_ (Sub.cons ?_ (Sub.base hf ?_)) (zna _)⟩
   all_goals
    simp (disch:=omega) only [ite_ne,wr64s j (by omega),go_sem,↓reduceIte,Za,Zb,Zc,Zd,Ze,reduceCtorEq,Zf,Zg,Zh,Zi,Zj,Zk]
 .have q:j=t.members.length:=by simp at q;omega
  subst q
  rw [List.drop_length] at hj3
  have:R=false:=by rw [hj3];simp [unM]
  subst this
  simp (disch:=omega) only [ite_ne,go_sem,↓reduceIte,Za,Zb,Zc,Zd,Ze,reduceCtorEq,Zf,Zg,Zh,Zi,Zj,Zk]
end Go.Proofs.YtgollgfifnmaaaaDoor
