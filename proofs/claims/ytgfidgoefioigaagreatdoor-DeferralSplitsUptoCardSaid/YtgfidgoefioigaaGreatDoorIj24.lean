/- Proof. Conditions: none. -/
import Derived.Test.YtgfidgoefioigaaGreatDoorIj23
noncomputable section
open List renaming not_mem_nil->zf,mem_cons->zh,length_append->zu
open Go.Proofs.Tryz
open List renaming mem_of_getElem?->zla,getElem?_eq_some_iff->zlb,length_append->zld,cons_append->zlh,nil_append->zli,mem_cons->zlw
open Nat renaming le_refl->zna
namespace Go.Proofs.YtgfidgoefioigaaGreatDoor
open Go.Eng
set_option linter.all false
set_option maxRecDepth 20000
set_option maxHeartbeats 1000000
theorem QF (l:List Dc) (p:List Ag) (s:qB):Ab BD l++[[AV.ds (Ab Ar p),AV.s s]]=Ab BD (l++[.mk p s]):=AX BD l (.mk p s)
attribute [go_sem] QF
structure RunH (doc:List Aw) (F:qB->AV) (hp:CH) (c km kp gp:Nat) (P:List Dc):Prop where
 hc:gc hp c=.bx [.ds (Ab B8 doc),.mp km,.rw kp gp P.length]
 hm:gc hp km=.mq F
 hk:gc hp kp=.rw gp 2 (Ab BD P)
def FH (doc:List Aw) (F:qB->AV) (c km kp gp:Nat) (P R:List Dc):CH :=
 [(kp,.rw (gp+R.length) 2 (Ab BD (P++R))),(c,.bx [.ds (Ab B8 doc),.mp km,.rw kp (gp+R.length) (P.length+R.length)]),(km,.mq F)]
section
variable {doc:List Aw} {F:qB->AV} {hp:CH} {c km kp gp:Nat} {P R:List Dc}
section
variable {n:Nat} {Al:CH}
theorem RunH.n1 (h:RunH doc F hp c km kp gp P):¬c=km:=fun e=>by have:=h.hc;rw [e,h.hm] at this;cases this
theorem RunH.n2 (h:RunH doc F hp c km kp gp P):¬c=kp:=fun e=>by have:=h.hc;rw [e,h.hk] at this;cases this
theorem RunH.n3 (h:RunH doc F hp c km kp gp P):¬km=kp:=fun e=>by have:=h.hm;rw [e,h.hk] at this;cases this
theorem Ca {hp:CH} {k:Nat} {X:Ak} (hf:∀k,n<=k->gc hp k=.no) (h:gc hp k=X) (hX:X≠.no):k<n:=by
 rcases Nat.lt_or_ge k n with q | q
 .exact q
 .exact absurd (h.symm.trans (hf k q)) hX
theorem RunH.lt (h:RunH doc F hp c km kp gp P) (hf:∀k,n<=k->gc hp k=.no):c<n∧km<n∧kp<n :=
 ⟨Ca hf h.hc (fun e=>by cases e),Ca hf h.hm (fun e=>by cases e),Ca hf h.hk (fun e=>by cases e)⟩
theorem RunH.wsLt (h:RunH doc F hp c km kp gp P) (hf:∀k,n<=k->gc hp k=.no):wsLt n (FH doc F c km kp gp P R):=by
 obtain ⟨h1,h2,h3⟩:=h.lt hf
 refine ⟨h3,trivial,h1,?_,h2,trivial,trivial⟩
 intro U hα
 simp only [zlw,zf,or_false] at hα
 rcases hα with rfl | rfl | rfl
 .rfl
 .exact h2
 .exact h3
theorem Dr (h:RunH doc F hp c km kp gp P) (h1:gc Al kp=.rw (gp+R.length) 2 (Ab BD (P++R))) (h2:gc Al c=.bx [.ds (Ab B8 doc),.mp km,.rw kp (gp+R.length) (P.length+R.length)]) (h3:gc Al km=.mq F)
 (h4:∀j,j<n->j≠c->j≠km->j≠kp->gc Al j=gc hp j):Up n (FH doc F c km kp gp P R++hp) Al:=fun j hj=>by
 simp only [FH,zlh,zli]
 by_cases e1:kp=j
 .subst e1;rw [Ax,h1]
 .rw [Ai _ _ e1]
  by_cases e2:c=j
  .subst e2;rw [Ax,h2]
  .rw [Ai _ _ e2]
   by_cases e3:km=j
   .subst e3;rw [Ax,h3]
   .rw [Ai _ _ e3]
    exact h4 j hj (fun e=>e2 e.symm) (fun e=>e3 e.symm) (fun e=>e1 e.symm)
theorem Afd (h:RunH doc F hp c km kp gp P) (En:CH):gc (FH doc F c km kp gp P R++En) kp=.rw (gp+R.length) 2 (Ab BD (P++R))∧gc (FH doc F c km kp gp P R++En) c=.bx [.ds (Ab B8 doc),.mp km,.rw kp (gp+R.length) (P.length+R.length)] ∧
 gc (FH doc F c km kp gp P R++En) km=.mq F∧∀j,j≠c->j≠km->j≠kp->gc (FH doc F c km kp gp P R++En) j=gc En j:=by
 simp only [FH,zlh,zli]
 have n1:=h.n1
 have n2:=h.n2
 have n3:=h.n3
 refine ⟨Ax _ _ _,?_,?_,fun j j1 j2 j3=>?_⟩
 .rw [Ai _ _ (fun e=>n2 e.symm),Ax]
 .rw [Ai _ _ (fun e=>n3 e.symm),Ai _ _ n1,Ax]
 .rw [Ai _ _ (fun e=>j3 e.symm),Ai _ _ (fun e=>j1 e.symm),Ai _ _ (fun e=>j2 e.symm)]
theorem RunH.ws (h:RunH doc F hp c km kp gp P) (En:CH):RunH doc F (FH doc F c km kp gp P R++En) c km kp (gp+R.length) (P++R):=by
 obtain ⟨h1,h2,h3,_⟩:=Afd (R:=R) h En
 exact ⟨by rw [zld];exact h2,h3,h1⟩
theorem RunH.of (h:RunH doc F hp c km kp gp P) (e:∀j,(j=c∨j=km∨j=kp)->gc Al j=gc hp j):RunH doc F Al c km kp gp P :=
 ⟨(e c (.inl rfl)).trans h.hc,(e km (.inr (.inl rfl))).trans h.hm,(e kp (.inr (.inr rfl))).trans h.hk⟩
end
end
section
variable {doc:List Aw} {F:qB->AV} {hp:CH} {c km kp gp:Nat} {P:List Dc} {l:List Pk} {p:Pk}
theorem YR (l:List Ag) (h:l.length<=1000000000000) (k g len:Nat) (hp:CH) (hk:gc hp k=.rw g 5 (Ab Ar l)) (he:len=l.length) (m:Nat):Af prog 93 hp m [.rw k g len] (.ds (Ab Ar l)):=by
 subst he
 refine Aj func93 (tA cc93) (tB cc93) (tC cc93) rfl fun hf=>?_;unfold ck93
 have BY:k<m:=Ca hf hk (fun e=>by cases e)
 simp (disch:=omega) only [hk,go_sem]
 exact ⟨fun e=>by rw [List.eq_nil_of_length_eq_zero (e trivial)];rfl,by omega,by omega⟩
theorem Aaq (h:RunH doc F hp c km kp gp P) (path:List Ag) (FM:path.length<=1000000000000) (hP:P.length<=1000000000000) (s:qB) (kq gq:Nat) (hq:gc hp kq=.rw gq 5 (Ab Ar path)) (n:Nat) :
 AU prog 107 hp n [.bx c 0,.rw kq gq path.length,.s s] (FH doc F c km kp gp P [.mk path s]++hp) n (vx A6):=by
 have Dg:(∀k,n<=k->gc hp k=.no)->wsLt n (FH doc F c km kp gp P [.mk path s]):=fun hf=>h.wsLt hf
 have n1:=h.n1
 have n2:=h.n2
 have n3:=h.n3
 have m1:¬km=c:=fun e=>n1 e.symm
 have m2:¬kp=c:=fun e=>n2 e.symm
 have m3:¬kp=km:=fun e=>n3 e.symm
 have hc:=h.hc
 have hm:=h.hm
 have hk:=h.hk
 refine BR func107 (tA cc107) (tB cc107) (tC cc107) rfl Dg fun hf=>?_;unfold ck107
 obtain ⟨l1,l2,l3⟩:=h.lt hf
 have l4:kq<n:=Ca hf hq (fun e=>by cases e)
 simp (disch:=omega) only [hc,hk,hm,n1,n2,n3,m1,m2,m3,go_sem]
 refine Aq.f (fun _ Al e=>YR path FM kq gq _ Al ((e kq (.inl (by omega))).trans (by rw [Ai _ _ (by omega)];exact hq)) rfl _) ?_
 simp (disch:=omega) only [hc,hk,hm,n1,n2,n3,m1,m2,m3,go_sem]
 refine ⟨⟨by omega,by omega⟩,Dr h ?_ ?_ ?_ fun j hj j1 j2 j3=>?_⟩
 .rw [Ai _ _ n2,Ax];rfl
 .rw [Ax];rfl
 .rw [Ai _ _ n1,Ai _ _ m3,Ai _ _ (by omega),hm]
 .rw [Ai _ _ (fun e=>j1 e.symm),Ai _ _ (fun e=>j3 e.symm),Ai _ _ (by omega)]
theorem Ie (h:RunH doc F hp c km kp gp P) (path:List Ag) (FM:path.length<=1000000000000) (hP:P.length<=1000000000000) (s:qB) (kq gq cap:Nat) (hq:gc hp kq=.rc gq 5 cap (Ab Ar path)) (n:Nat) :
 AU prog 107 hp n [.bx c 0,.rw kq gq path.length,.s s] (FH doc F c km kp gp P [.mk path s]++hp) n (vx A6):=by
 have q1:kq≠c:=fun e=>by have:=h.hc;rw [<-e,hq] at this;cases this
 have q2:kq≠km:=fun e=>by have:=h.hm;rw [<-e,hq] at this;cases this
 have q3:kq≠kp:=fun e=>by have:=h.hk;rw [<-e,hq] at this;cases this
 refine AO.rc hq (fun x hx=>?_) (Aaq (h.of fun j hj=>Ai _ _ fun e=>?_) path FM hP s kq gq (Ax _ _ _) n)
 .simp only [FH,zlw,zf,or_false] at hx
  rcases hx with rfl | rfl | rfl
  .exact fun e=>q3 e.symm
  .exact fun e=>q1 e.symm
  .exact fun e=>q2 e.symm
 .rcases hj with rfl | rfl | rfl
  .exact q1 e
  .exact q2 e
  .exact q3 e
def GK (doc:List Aw) (x:qB):AV:=.ds (Bd (Et doc x))
theorem Ai3 (hd:DocOk doc) {U:AV} (hc:gc hp c=.bx [.ds (Ab B8 doc),.mp km,U]) (hm:gc hp km=.mq (GK doc)) (on name:qB) (n:Nat) :
 Af prog 115 hp n [.bx c 0,.s on,.s name] (.b (decide (on∈Et doc name))):=by
 have n1:¬c=km:=fun e=>by rw [e,hm] at hc;cases hc
 have n2:¬km=c:=fun e=>n1 e.symm
 have Bn:=LA doc name
 have G0:=hd.len
 have hct:=J2 (Et doc name) on (by omega)
 rw [NT] at hct
 refine Af.mq hm rfl (by exact ⟨_,func115,by kernel_rfl,by kernel_rfl⟩) fun l hl=>?_
 have hc2:gc ((km,Ak.mp l)::hp) c=.bx [.ds (Ab B8 doc),.mp km,U]:=by rw [Ai _ _ n2];exact hc
 cases e:B9 name l with
 |some β=>
  have hβ:β=.ds (Bd (Et doc name)):=hl _ (IT e)
  subst hβ
  refine W8 func115 (tA cc115) (tB cc115) (tC cc115) rfl fun hf=>?_;unfold ck115
  have l1:km<n:=Ca hf (Ax _ _ _) (fun e=>by cases e)
  have l2:c<n:=Ca hf hc2 (fun e=>by cases e)
  simp (disch:=omega) only [hc,n1,n2,e,go_sem]
  refine Ac.f (hct _ _) ?_
  simp (disch:=omega) only [hc,n1,n2,e,go_sem]
  refine ⟨l,hl,fun j hj=>.inl (Ai _ _ fun q=>hj q.symm),rfl⟩
 |none=>
  refine W8 func115 (tA cc115) (tB cc115) (tC cc115) rfl fun hf=>?_;unfold ck115
  have l1:km<n:=Ca hf (Ax _ _ _) (fun e=>by cases e)
  have l2:c<n:=Ca hf hc2 (fun e=>by cases e)
  simp (disch:=omega) only [hc,n1,n2,e,go_sem]
  refine Ac.f (Aes doc hd name _ _) ?_
  simp (disch:=omega) only [hc,n1,n2,e,go_sem]
  refine Ac.f (hct _ _) ?_
  simp (disch:=omega) only [hc,n1,n2,e,go_sem]
  refine ⟨_,fun p hp=>?_,fun j hj=>.inl (by rw [iN (fun q=>hj q.symm)]),rfl⟩
  rcases Ly hp with rfl | hp
  .rfl
  .exact hl p hp
theorem Od (l:List qB) (s:qB) (hl:l.length<=1000000000000) (hp:CH) (m:Nat):Af prog 132 hp m [.ds (Bd l),.s s] (.b (decide (s∈l))):=by
 obtain ⟨R,hR⟩:=A5 (decide (s∈l))
 rw [hR]
 refine Aj func132 (tA cc132) (tB cc132) (tC cc132) rfl fun hf=>?_;unfold ck132
 simp only [go_sem]
 refine loop (fun p:Nat×Nat=>⟨[(0,.ds (Bd l)),(1,.s s),(5,.i .i64 p.1)],hp,p.2⟩) (fun p=>p.1<=l.length∧R=decide (s∈l.drop p.1)) (fun p=>l.length - p.1) (0,m) ?_ ?_ (fun ⟨j,n⟩ hj=>?_)
 .exact ⟨by simp,hR.symm⟩
 .refine Di ?_
  simp only [go_sem]
 dsimp only at hj
 obtain ⟨Cg,Bc⟩:=hj
 simp only [go_sem]
 refine Ae (fun q=>?_) (fun q=>?_)
 .have q:j<l.length:=by simpa using q
  obtain ⟨x,ex⟩:∃x,l[j]?=some x:=⟨l[j],by simp [q]⟩
  rw [A2 ex] at Bc
  simp only [q,Ad (Aa Cz ex),go_sem]
  refine Ae (fun c=>?_) (fun c=>?_)
  .have c:x=s:=by simpa using c
   have:R=true:=by rw [Bc];simp [c]
   subst this
   simp only [go_sem]
  .have c:¬x=s:=by simpa using c
   have c':¬s=x:=fun e=>c e.symm
   simp only [go_sem]
   refine ⟨(j+1,_),⟨by dsimp only;omega,by rw [Bc];simp [c']⟩,by dsimp only;omega,Di ?_⟩
   simp only [Ap j (by omega),go_sem]
 .have q:j=l.length:=by simp at q;omega
  subst q
  rw [List.drop_length] at Bc
  have:R=false:=by rw [Bc];simp
  subst this
  simp only [go_sem]
theorem U5 (doc:List Aw) (hl:doc.length<=1000000000000) (d8:Nat) (x:Aw) (ex:doc[d8]?=some x) (hp:CH) (m:Nat):Af prog 136 hp m [B0 doc,.i .i64 d8] (.b (decide (x.n ∉ (doc.take d8).map Aw.n))):=by
 obtain ⟨R,hR⟩:=A5 (decide (x.n ∉ (doc.take d8).map Aw.n))
 rw [hR]
 have hat:d8<doc.length:=(zlb.1 ex).1
 refine Aj func136 (tA cc136) (tB cc136) (tC cc136) rfl fun hf=>?_;unfold ck136
 simp only [go_sem]
 refine loop (fun p:Nat×Nat=>⟨[(1,.i .i64 d8),(2,.bx m 0),(5,.i .i64 p.1)],(m,.bx [.ds (Ab B8 doc)])::hp,p.2⟩) (fun p=>p.1<=d8∧m+1<=p.2∧∀i t,i<p.1->doc[i]?=some t->t.n≠x.n) (fun p=>d8 - p.1) (0,m+1) ?_ ?_ (fun ⟨j,n⟩ hj=>?_)
 .exact ⟨by simp,by simp,fun i t h=>by omega⟩
 .refine Gu hf ?_ ?_ ?_ (zna _)
  all_goals (simp (disch:=omega) only [go_sem])
 dsimp only at hj
 obtain ⟨Cg,Bc,As⟩:=hj
 simp (disch:=omega) only [go_sem]
 refine Ae (fun q=>?_) (fun q=>?_)
 .have q:j<d8:=by simpa using q
  obtain ⟨y,ey⟩:∃y,doc[j]?=some y:=⟨doc[j]'(by omega),by simp [show j<doc.length by omega]⟩
  have b1:((j:Int)<(doc.length:Int))=True:=eq_true (by omega)
  have b2:((d8:Int)<(doc.length:Int))=True:=eq_true (by omega)
  have b3:(j<doc.length)=True:=eq_true (by omega)
  have b4:(d8<doc.length)=True:=eq_true hat
  simp (disch:=omega) only [q,b1,b2,b3,b4,Ad (Aa B8 ey),Ad (Aa B8 ex),go_sem]
  refine Ae (fun c=>?_) (fun c=>?_)
  .have c:y.n=x.n:=by simpa using c
   have:R=false:=by
    rw [<-hR,decide_eq_false_iff_not,Classical.not_not]
    exact List.mem_map.2 ⟨y,zla (i:=j) (by rw [List.getElem?_take,iP q];exact ey),c⟩
   subst this
   simp (disch:=omega) only [go_sem]
  .have c:¬y.n=x.n:=by simpa using c
   simp (disch:=omega) only [go_sem]
   refine ⟨(j+1,_),⟨by dsimp only;omega,by dsimp only;omega,fun i t hi ht=>?_⟩,by dsimp only;omega,Gu hf ?_ ?_ ?_ (zna _)⟩
   .rcases Nat.lt_or_ge i j with w | w
    .exact As i t w ht
    .have:i=j:=by dsimp only at hi;omega
     subst this
     rw [ey] at ht
     cases ht
     exact c
   all_goals
    simp (disch:=omega) only [Ap j (by omega),go_sem]
 .have q:j=d8:=by simp at q;omega
  subst q
  have:R=true:=by
   rw [<-hR,decide_eq_true_eq]
   intro hm
   obtain ⟨t,ht,e⟩:=List.mem_map.1 hm
   obtain ⟨i,hi⟩:=List.getElem?_of_mem ht
   rw [List.getElem?_take] at hi
   split at hi
   .rename_i w
    exact As i t w hi e
   .cases hi
  subst this
  simp (disch:=omega) only [go_sem]
theorem R6 (t:Aw) (ht:DefOk t) (hl:t.members.length<=1000000000000) (s:qB) (hp:CH) (m:Nat):Af prog 134 hp m [Mc t,.s s] (.b (decide (s∈F7 t.members))):=by
 obtain ⟨R,hR⟩:=A5 (decide (s∈F7 t.members))
 rw [hR]
 have Kb:∀e∈t.members,e.length=2:=fun e he=>by obtain ⟨x,y,rfl⟩:=ht.mem e he;rfl
 have Kb:=eq_true Kb
 refine Aj func134 (tA cc134) (tB cc134) (tC cc134) rfl fun hf=>?_;unfold ck134
 simp only [go_sem]
 refine loop (fun p:Nat×Nat=>⟨[(1,.s s),(2,.bx m 0),(5,.i .i64 p.1)],(m,.bx [.i .i64 t.k,.s t.n,.ds t.impl,.ds t.dirs,.ds (Ab Bv t.fields),.ds t.members,.ds t.inputs])::hp,p.2⟩) (fun p=>p.1<=t.members.length∧m+1<=p.2∧R=decide (s∈F7 (t.members.drop p.1))) (fun p=>t.members.length - p.1) (0,m+1) ?_ ?_ (fun ⟨j,n⟩ hj=>?_)
 .exact ⟨by simp,by simp,hR.symm⟩
 .refine Gu hf ?_ ?_ ?_ (zna _)
  all_goals (simp (disch:=omega) only [go_sem])
 dsimp only at hj
 obtain ⟨Cg,Bc,As⟩:=hj
 simp (disch:=omega) only [go_sem]
 refine Ae (fun q=>?_) (fun q=>?_)
 .have q:j<t.members.length:=by simpa using q
  obtain ⟨e,ee⟩:∃e,t.members[j]?=some e:=⟨t.members[j],by simp [q]⟩
  obtain ⟨x,y,rfl⟩:=ht.mem e (zla ee)
  rw [A2 ee] at As
  have As:R=decide (s∈x::F7 (t.members.drop (j+1))):=As
  simp (disch:=omega) only [q,Kb,Ad ee,go_sem]
  refine Ae (fun c=>?_) (fun c=>?_)
  .have c:x=s:=by simpa using c
   have:R=true:=by rw [As];simp [c]
   subst this
   simp (disch:=omega) only [go_sem]
  .have c:¬x=s:=by simpa using c
   have c':¬s=x:=fun e=>c e.symm
   simp (disch:=omega) only [go_sem]
   refine ⟨(j+1,_),⟨by dsimp only;omega,by dsimp only;omega,by rw [As];simp [c']⟩,by dsimp only;omega,Gu hf ?_ ?_ ?_ (zna _)⟩
   all_goals
    simp (disch:=omega) only [Ap j (by omega),go_sem]
 .have q:j=t.members.length:=by simp at q;omega
  subst q
  rw [List.drop_length] at As
  have:R=false:=by rw [As];simp [F7]
  subst this
  simp (disch:=omega) only [go_sem]
inductive B6:List Pk->Prop
 | mk (l:List Pk):l.length<=1000000000->(∀p∈l,p.tw.length<=1000000000000)->(∀p∈l,B6 p.picks)->B6 l
theorem B6.len (h:B6 l):l.length<=1000000000:=by cases h;assumption
theorem B6.t (h:B6 l) (hp:p∈l):p.tw.length<=1000000000000:=by cases h with | mk _ _ h _=>exact h p hp
theorem B6.x (h:B6 l) (hp:p∈l):B6 p.picks:=by cases h with | mk _ _ _ h=>exact h p hp
def M4 (f:FuncId) (doc:List Aw) (pre:List AV) (post:List AV) (path:List Ag) (R2:List Dc) (r:AV):Prop :=
 ∀(hp:CH) (c km kp gp:Nat) (P:List Dc) (kq gq cap len n:Nat),RunH doc (GK doc) hp c km kp gp P->gc hp kq=.rc gq 5 cap (Ab Ar path)->len=path.length->P.length+R2.length<=1000000000000 ->
  AU prog f hp n (.bx c 0::pre++.rw kq gq len::post) (FH doc (GK doc) c km kp gp P R2++hp) n r
theorem M4.rw {f : FuncId} {pre post : List AV} {path : List Ag} {R2 : List Dc} {r : AV} (h : M4 f doc pre post path R2 r) (Ka : ∃ fn, prog.funcs[f]? = some fn ∧ (fn.name == "runtime.NumGoroutine") = false ∧ fn.body.isNone = false)
 (hp:CH) (c km kp gp:Nat) (P:List Dc) (kq gq len n:Nat) (hR:RunH doc (GK doc) hp c km kp gp P) (hq:gc hp kq=.rw gq 5 (Ab Ar path)) (hkq:kq≠kp) (hl:len=path.length) (hP:P.length+R2.length<=1000000000000) :
 AU prog f hp n (.bx c 0::pre++.rw kq gq len::post) (FH doc (GK doc) c km kp gp P R2++hp) n r:=by
 have q1:kq≠c:=fun e=>by have:=hR.hc;rw [<-e,hq] at this;cases this
 have q2:kq≠km:=fun e=>by have:=hR.hm;rw [<-e,hq] at this;cases this
 refine AO.open hq (fun x hx=>?_) Ka fun cap _=>h _ c km kp gp P kq gq cap len n (hR.of fun j hj=>Ai _ _ fun e=>?_) (Ax _ _ _) hl hP
 .simp only [FH,zlw,zf,or_false] at hx
  rcases hx with rfl | rfl | rfl
  .exact fun e=>hkq e.symm
  .exact fun e=>q1 e.symm
  .exact fun e=>q2 e.symm
 .rcases hj with rfl | rfl | rfl
  .exact q1 e
  .exact q2 e
  .exact hkq e
theorem GJ {n0:Nat} {R:List Dc} (h:RunH doc F hp c km kp gp P) (h1:c<n0) (h2:km<n0) (h3:kp<n0):JQ hp n0 (keys (FH doc F c km kp gp P R)) (FH doc F c km kp gp P R):=by
 refine ⟨h3,by rw [h.hk];trivial,trivial,h1,by rw [h.hc];trivial,⟨rfl,?_,?_,trivial⟩,h2,by rw [h.hm];trivial,trivial,trivial⟩
 .show km∈[kp,c,km];simp
 .show kp∈[kp,c,km];simp
def PM (doc:List Aw) (v:Ag):Prop:=∀(tn:qB) (tw:List Int) (picks:List Pk) (path:List Ag),tw.length<=1000000000000->B6 picks->path.length+AG v<=100000000000 ->
 M4 36 doc [D1 tn tw,.ds (Ab AJ picks)] [vx v] path (A7 doc v tn tw picks path).2 (.tp [vx (A7 doc v tn tw picks path).1,.b (Fu tw (A7 doc v tn tw picks path).1)])
def Akj (doc:List Aw) (v:Ag):Prop:=∀(tn:qB) (tw:List Int) (picks:List Pk) (path:List Ag),tw.length<=1000000000000->B6 picks->path.length+AG v<=100000000000 ->
 M4 72 doc [D1 tn tw,.ds (Ab AJ picks)] [vx v] path (A7 doc v tn tw picks path).2 (vx (A7 doc v tn tw picks path).1)
def Alh (doc:List Aw) (v:Ag):Prop:=∀(tn:qB) (tw:List Int) (picks:List Pk) (path:List Ag),tw.length<=1000000000000->B6 picks->path.length+AG v<=100000000000 ->
 M4 110 doc [D1 tn tw,.ds (Ab AJ picks)] [vx v] path (Gl (v.items.map (A7 doc)) tn tw picks path).2 (vx (Gl (v.items.map (A7 doc)) tn tw picks path).1)
def Ald (doc:List Aw) (v:Ag):Prop:=∀(on:qB) (picks:List Pk) (path:List Ag),v.k=6->2<=AG v->B6 picks->path.length+AG v<=100000000000 ->
 M4 116 doc [.s on,.ds (Ab AJ picks)] [vx v] path (H0 v.keys (v.items.map (A7 doc)) on picks path).2 (vx (H0 v.keys (v.items.map (A7 doc)) on picks path).1)
theorem J1 (doc:List Aw) (v:Ag) (h:Akj doc v):PM doc v:=by
 intro tn tw picks path DG Ht QT hp c km kp gp P kq gq cap len n hR hq hl hP
 subst hl
 have hN:=h tn tw picks path DG Ht QT
 obtain ⟨R,A9⟩:=A5 (A7 doc v tn tw picks path)
 rw [A9] at hN hP ⊢
 have VX:=L3 tn tw DG
 unfold Fu
 simp only [zlh,zli]
 have Dg:(∀k,n<=k->gc hp k=.no)->wsLt n (FH doc (GK doc) c km kp gp P R.2):=fun hf=>hR.wsLt hf
 have n1:=hR.n1
 have n2:=hR.n2
 have n3:=hR.n3
 refine BR func36 (tA cc36) (tB cc36) (tC cc36) rfl Dg fun hf=>?_;unfold ck36
 obtain ⟨l1,l2,l3⟩:=hR.lt hf
 have l4:kq<n:=Ca hf hq (fun e=>by cases e)
 simp (disch:=omega) only [FH,go_sem]
 refine Ac.x (hN _ c km kp gp P kq gq cap path.length _ (hR.of fun j hj=>?_) ?_ rfl hP) ?_
 .simp only [A8]
  repeat rw [iN (by omega)]
 .simp only [A8]
  repeat rw [iN (by omega)]
  exact hq
 simp only [FH,zlh,zli]
 simp (disch:=omega) only [go_sem]
 refine AC.f (fun _ Al e=>VX _ _) ?_
 simp (disch:=omega) only [go_sem]
 refine Dr hR ?_ ?_ ?_ fun j hj j1 j2 j3=>?_
 all_goals (simp (disch:=omega) only [go_sem])
def YY (fs:List GZ) (tn:qB) (tw:List Int) (picks:List Pk) (path:List Ag) (j:Nat):List Gt:=Gz (fs.take j) 0 tn tw picks path
def H9 (fs:List GZ) (tn:qB) (tw:List Int) (picks:List Pk) (path:List Ag) (j:Nat):List Dc:=(YY fs tn tw picks path j).flatMap (·.2)
def R8 (fs:List GZ) (tn:qB) (tw:List Int) (picks:List Pk) (path:List Ag) (j:Nat):List Ag:=(YY fs tn tw picks path j).map (·.1)
def Yr (fs:List GZ) (tn:qB) (tw:List Int) (picks:List Pk) (path:List Ag) (j:Nat):Bool:=(YY fs tn tw picks path j).any fun r=>Fu tw r.1
end
section
variable {fs:List GZ} {tn:qB} {tw:List Int} {picks:List Pk} {path:List Ag}
section
variable {j:Nat} {f:GZ}
theorem Lu (h:fs[j]?=some f):YY fs tn tw picks path (j+1)=YY fs tn tw picks path j++[f tn tw picks (path++[Fo (j:Nat)])]:=by
 unfold YY
 have hj:(fs.take j).length=j:=by have:=(zlb.1 h).1;simp;omega
 rw [<-AN h,PV,hj,Nat.zero_add]
theorem LP (h:fs[j]?=some f):H9 fs tn tw picks path (j+1)=H9 fs tn tw picks path j++(f tn tw picks (path++[Fo (j:Nat)])).2:=by
 unfold H9
 rw [Lu h,List.flatMap_append]
 simp
theorem Qr (h:fs[j]?=some f):R8 fs tn tw picks path (j+1)=R8 fs tn tw picks path j++[(f tn tw picks (path++[Fo (j:Nat)])).1]:=by
 unfold R8
 rw [Lu h,List.map_append]
 rfl
theorem QA (h:fs[j]?=some f):Yr fs tn tw picks path (j+1)=(Yr fs tn tw picks path j||Fu tw (f tn tw picks (path++[Fo (j:Nat)])).1):=by
 unfold Yr
 rw [Lu h,List.any_append]
 simp
theorem SN (h:j<=fs.length):(R8 fs tn tw picks path j).length=j:=by
 unfold R8 YY
 rw [List.length_map,Kk,List.length_take]
 omega
theorem RK:∀{k:Nat} {j:Nat},j+k=fs.length->(H9 fs tn tw picks path j).length<=(H9 fs tn tw picks path fs.length).length
 | 0,j,h=>by rw [show j=fs.length by omega];exact zna _
 |k+1,j,h=>by
  have e:fs[j]?=some (fs[j]'(by omega)):=by simp [show j<fs.length by omega]
  have:=RK (k:=k) (j:=j+1) (by omega)
  rw [LP e,zld] at this
  omega
theorem Qn:Gl fs tn tw picks path=(if Yr fs tn tw picks path fs.length=true then A6 else IM (R8 fs tn tw picks path fs.length),H9 fs tn tw picks path fs.length):=by
 unfold Gl Yr R8 H9 YY
 rw [List.take_length]
end
end
theorem LI (n:Int) (hp:CH) (m:Nat):Af prog 100 hp m [.i .i64 n] (vx (Fo n)):=by
 refine Aj func100 (tA cc100) (tB cc100) (tC cc100) rfl fun hf=>?_;unfold ck100
 simp only [go_sem]
 rfl
theorem Il (s:qB) (hp:CH) (m:Nat):Af prog 97 hp m [.s s] (vx (CW s)):=by
 refine Aj func97 (tA cc97) (tB cc97) (tC cc97) rfl fun hf=>?_;unfold ck97
 simp only [go_sem]
 rfl
theorem Hn (l:List Ag):(Ab Ar l).take l.length=Ab Ar l:=by rw [Js,List.take_length]
theorem Ks (n:Nat):(n<=n)=True:=eq_true (zna n)
theorem FG (l:List Ag) (x:Ag):(Ab Ar (l++[x])).take l.length=Ab Ar l:=by rw [Js,List.take_left' rfl]
theorem I7 (doc:List Aw) (v:Ag) (hv:v.Fit) (h:∀x∈v.items,PM doc x):Alh doc v:=by
 intro tn tw picks path DG Ht QT hp c km kp gp P kq gq cap len n hR hq hl hP
 subst hl
 rw [Qn] at hP ⊢
 have Bn:=hv.i
 have Fn:(v.items.map (A7 doc)).length=v.items.length:=by simp
 rw [Fn] at hP ⊢
 obtain ⟨fs,Ku⟩:=A5 (v.items.map (A7 doc))
 rw [Ku] at hP Fn ⊢
 dsimp only at hP ⊢
 have o8 : ∀ j, j <= v.items.length -> (H9 fs tn tw picks path j).length <= (H9 fs tn tw picks path v.items.length).length := fun j hj => by
  have:=RK (fs:=fs) (tn:=tn) (tw:=tw) (picks:=picks) (path:=path) (k:=v.items.length - j) (j:=j) (by omega)
  rwa [Fn] at this
 obtain ⟨RP,hRP⟩:=A5 (H9 fs tn tw picks path v.items.length)
 obtain ⟨RV,LY⟩:=A5 ((if Yr fs tn tw picks path v.items.length=true then A6 else IM (R8 fs tn tw picks path v.items.length)))
 rw [hRP] at hP o8 ⊢
 rw [LY]
 simp only [zlh,zli]
 have Dg : (∀ k, n <= k -> gc hp k = .no) -> wsLt n (FH doc (GK doc) c km kp gp P RP) := fun hf => hR.wsLt hf
 have n1:=hR.n1
 have n2:=hR.n2
 have n3:=hR.n3
 have q1 : kq ≠ c := fun e => by have := hR.hc; rw [<- e, hq] at this; cases this
 have q2 : kq ≠ km := fun e => by have := hR.hm; rw [<- e, hq] at this; cases this
 have q3 : kq ≠ kp := fun e => by have := hR.hk; rw [<- e, hq] at this; cases this
 have hc:=hR.hc
 have hm:=hR.hm
 have hk:=hR.hk
 refine BR func110 (tA cc110) (tB cc110) (tC cc110) rfl Dg fun hf=>?_;unfold ck110
 obtain ⟨l1,l2,l3⟩:=hR.lt hf
 have l4:kq<n:=Ca hf hq (fun e=>by cases e)
 simp (disch:=omega) only [go_sem]
 refine loop (fun p : Nat × Nat => ⟨[(0, .bx c 0), (2, .ds (Ab AJ picks)), (3, .rw kq gq path.length), (6, .bx n 0), (10, .bx (n + 2) 0), (11, .bx (n + 3) 0), (12, .b (Yr fs tn tw picks path p.1)), (19, .ds (Ab Ar v.items)), (20, .i .i64 v.items.length), (21, .i .i64 p.1)],
  (n+3,.bx [.i .i64 5,.i .i64 0,.s ⟨#[]⟩,.rw (n+4) p.1 p.1,.e0])::(n+4,.rw p.1 5 (Ab Ar (R8 fs tn tw picks path p.1)))::(n+2,.bx [.i .i64 0,.i .i64 0,.s ⟨#[]⟩,.e0,.e0])::(n,.bx [.s tn,.ds (Ab D0 tw)]) ::
  (kq,.rc gq 5 cap (Ab Ar path))::(kp,.rw (gp+(H9 fs tn tw picks path p.1).length) 2 (Ab BD (P++H9 fs tn tw picks path p.1)))::(c,.bx [.ds (Ab B8 doc),.mp km,.rw kp (gp+(H9 fs tn tw picks path p.1).length) (P.length+(H9 fs tn tw picks path p.1).length)])::(km,.mq (GK doc))::hp,p.2⟩)
  (fun p=>p.1<=v.items.length∧n+5<=p.2) (fun p=>v.items.length - p.1) (0,n+5) ?_ ?_ (fun ⟨j,k⟩ hj=>?_)
 .exact ⟨by simp,by simp⟩
 .refine (Co (c:=n+3) (i:=3) (m:=5) (cs:=[.i .i64 5,.i .i64 0,.s ⟨#[]⟩,.e0,.e0]) ?_ rfl).trans (AP ?_ (At.sub (At.cons ?_ (At.cons ?_ (At.cons ?_ (At.cons ?_ (At.cons ?_ (At.cons ?_ (At.cons ?_ (At.cons ?_ (At.base hf fun i hi hx=>?_)))))))))) (Nat.le_refl _))
  all_goals first
   | (simp only [zh,zf,or_false,not_or] at hx
      simp only [A8]
      repeat rw [iN (by omega)]
      done)
   | ((simp (disch:=omega) only [H9,R8,Yr,YY,Gz,List.take_zero,List.flatMap_nil,List.map_nil,List.append_nil,hq,hc,hk,hm,go_sem])
      first | done | rfl | (simp;done))
 dsimp only at hj
 obtain ⟨Cg,Bc⟩:=hj
 have oL:(R8 fs tn tw picks path j).length=j:=SN (by omega)
 simp (disch:=omega) only [oL,go_sem]
 refine Ae (fun q=>?_) (fun q=>?_)
 .have q:j<v.items.length:=by simpa using q
  obtain ⟨x,ex⟩:∃x,v.items[j]?=some x:=⟨v.items[j],by simp [q]⟩
  have hx:=h x (zla ex)
  have ef:fs[j]?=some (A7 doc x):=by rw [<-Ku,List.getElem?_map,ex];rfl
  have e1:=LP (tn:=tn) (tw:=tw) (picks:=picks) (path:=path) ef
  have e2:=Qr (tn:=tn) (tw:=tw) (picks:=picks) (path:=path) ef
  have e3:=QA (tn:=tn) (tw:=tw) (picks:=picks) (path:=path) ef
  have hle:=o8 (j+1) (by omega)
  have hwx:AG x<AG v:=by have:=B1 (List.mem_of_getElem? ex);rw [AE v];omega
  have hD:=hx tn tw picks (path++[Fo (j:Nat)]) DG Ht (by simp;omega)
  rw [e1,zld] at hle
  obtain ⟨X,hX⟩:=A5 (A7 doc x tn tw picks (path++[Fo (j:Nat)]))
  rw [hX] at hD e1 e2 e3 hle
  have hjm:(1:Int)<=1:=Int.le_refl 1
  by_cases q7:path.length+1<=cap
  .simp (disch:=omega) only [q,Ad (Aa Ar ex),go_sem]
   refine Aq.f (fun _ Al e=>LI j _ _) ?_
   simp (disch:=omega) only [q7,Hn,Ks,go_sem]
   refine ⟨⟨by omega,by omega⟩,by omega,by omega,Aq.w (ws:=FH doc (GK doc) c km kp (gp+(H9 fs tn tw picks path j).length) (P++H9 fs tn tw picks path j) X.2) (GJ ⟨?_,?_,?_⟩ (by omega) (by omega) (by omega)) rfl
    (fun Al e=>hD Al c km kp _ (P++H9 fs tn tw picks path j) kq gq cap (path.length+1) _ ⟨(e c (.inl (by omega))).trans ?_,(e km (.inl (by omega))).trans ?_,(e kp (.inl (by omega))).trans ?_⟩ ((e kq (.inl (by omega))).trans ?_) (by simp) (by rw [zu];omega)) ?_⟩
   case refine_8=>
    simp only [FH,zlh,zli]
    simp (disch:=omega) only [oL,go_sem]
    refine ⟨⟨⟨by omega,by omega,by omega⟩,⟨by omega,by omega⟩,by omega⟩,by omega,by omega,(j+1,_),⟨by dsimp only;omega,by dsimp only;omega⟩,by dsimp only;omega,(SB (k:=kq) (g:=gq) (m:=5) (cap:=cap) (l:=Ab Ar (path++[Fo (j:Nat)])) (len:=path.length) ?_ (by rw [Ao];simp)).trans
     (AP ?_ (At.sub (At.cons ?_ (At.cons ?_ (At.cons ?_ (At.cons ?_ (At.cons ?_ (At.cons ?_ (At.cons ?_ (At.cons ?_ (At.base hf fun i hi hx=>?_)))))))))) (zna _))⟩
    all_goals first
     | (simp only [zh,zf,or_false,not_or] at hx
        simp only [A8]
        repeat rw [iN (by omega)]
        done)
     | ((simp (disch:=omega) only [FG,e1,e2,e3,Ap j (by omega),zu,List.append_assoc,Nat.add_assoc,List.length_cons,List.length_nil,go_sem])
        first | done | rfl | (simp;done))
   all_goals (simp (disch:=omega) only [zld,go_sem])
  .simp (disch:=omega) only [q,Ad (Aa Ar ex),go_sem]
   refine Aq.f (fun _ Al e=>LI j _ _) ?_
   simp (disch:=omega) only [q7,Hn,Ks,go_sem]
   refine ⟨⟨by omega,by omega⟩,by omega,Aq.w (ws:=FH doc (GK doc) c km kp (gp+(H9 fs tn tw picks path j).length) (P++H9 fs tn tw picks path j) X.2) (GJ ⟨?_,?_,?_⟩ (by omega) (by omega) (by omega)) rfl
    (fun Al e=>hD.rw ⟨_,func36,by kernel_rfl,by kernel_rfl⟩ Al c km kp _ (P++H9 fs tn tw picks path j) (k+8) 0 (path.length+1) _ ⟨(e c (.inl (by omega))).trans ?_,(e km (.inl (by omega))).trans ?_,(e kp (.inl (by omega))).trans ?_⟩ ((e (k+8) (.inr ⟨7,by simp,by omega⟩)).trans ?_) (by omega) (by simp) (by rw [zu];omega)) ?_⟩
   case refine_8=>
    simp only [FH,zlh,zli]
    simp (disch:=omega) only [oL,go_sem]
    refine ⟨⟨⟨by omega,by omega,by omega⟩,by omega,by omega⟩,by omega,by omega,(j+1,_),⟨by dsimp only;omega,by dsimp only;omega⟩,by dsimp only;omega,
     AP ?_ (At.sub (At.cons ?_ (At.cons ?_ (At.cons ?_ (At.cons ?_ (At.cons ?_ (At.cons ?_ (At.cons ?_ (At.cons ?_ (At.base hf fun i hi hx=>?_)))))))))) (zna _)⟩
    all_goals first
     | (simp only [zh,zf,or_false,not_or] at hx
        simp only [A8]
        repeat rw [iN (by omega)]
        done)
     | ((simp (disch:=omega) only [FG,e1,e2,e3,Ap j (by omega),zu,List.append_assoc,Nat.add_assoc,List.length_cons,List.length_nil,go_sem])
        first | done | rfl | (simp;done))
   all_goals (simp (disch:=omega) only [zld,go_sem])
 .have q:j=v.items.length:=by simp at q;omega
  subst q
  simp (disch:=omega) only [hRP,go_sem]
  refine Ae (fun c1=>?_) (fun c1=>?_)
  .rw [iP c1] at LY
   subst LY
   simp (disch:=omega) only [go_sem]
   refine Dr hR ?_ ?_ ?_ fun j hj j1 j2 j3=>?_
   all_goals (simp (disch:=omega) only [go_sem])
   by_cases e:kq=j
   .subst e;rw [iP rfl,hq]
   .rw [iN e]
  .rw [iN (by simp [c1])] at LY
   subst LY
   simp (disch:=omega) only [oL,go_sem]
   refine ⟨Dr hR ?_ ?_ ?_ fun j hj j1 j2 j3=>?_,rfl,rfl,rfl,by rw [List.take_of_length_le (by omega)];rfl,rfl⟩
   all_goals (simp (disch:=omega) only [go_sem])
   by_cases e:kq=j
   .subst e;rw [iP rfl,hq]
   .rw [iN e]
