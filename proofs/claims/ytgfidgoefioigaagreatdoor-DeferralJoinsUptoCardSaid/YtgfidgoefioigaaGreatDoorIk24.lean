/- Proof. Conditions: none. -/
import Derived.Test.YtgfidgoefioigaaGreatDoorIk23
noncomputable section
open List renaming not_mem_nil->zm,mem_cons->zh,length_append->z16
open Go.Proofs.Tryz
open List renaming mem_of_getElem?->zla,getElem?_eq_some_iff->zlb,length_append->zld,cons_append->zlh,nil_append->zli,mem_cons->zlw
open Nat renaming le_refl->zna
namespace Go.Proofs.YtgfidgoefioigaaGreatDoor
open Go.Eng
set_option linter.all false
set_option maxRecDepth 20000
set_option maxHeartbeats 1000000
theorem Qq (l:List DI) (p:List Ag) (s:qB):Ab Dr l++[[AV.ds (Ab Aw p),AV.s s]]=Ab Dr (l++[.mk p s]):=Bd Dr l (.mk p s)
attribute [go_sem] Qq
structure RunH (doc:List Av) (F:qB->AV) (hp:CH) (c km kp gp:Nat) (P:List DI):Prop where
 hc:gc hp c=.bx [.ds (Ab BB doc),.mp km,.rw kp gp P.length]
 hm:gc hp km=.mq F
 hk:gc hp kp=.rw gp 2 (Ab Dr P)
def Fu (doc:List Av) (F:qB->AV) (c km kp gp:Nat) (P R:List DI):CH :=
 [(kp,.rw (gp+R.length) 2 (Ab Dr (P++R))),(c,.bx [.ds (Ab BB doc),.mp km,.rw kp (gp+R.length) (P.length+R.length)]),(km,.mq F)]
section
variable {doc:List Av} {F:qB->AV} {hp:CH} {c km kp gp:Nat} {P R:List DI}
section
variable {n:Nat} {Am:CH}
theorem RunH.n1 (h:RunH doc F hp c km kp gp P):¬c=km:=fun e=>by have:=h.hc;rw [e,h.hm] at this;cases this
theorem RunH.n2 (h:RunH doc F hp c km kp gp P):¬c=kp:=fun e=>by have:=h.hc;rw [e,h.hk] at this;cases this
theorem RunH.n3 (h:RunH doc F hp c km kp gp P):¬km=kp:=fun e=>by have:=h.hm;rw [e,h.hk] at this;cases this
theorem BT {hp:CH} {k:Nat} {X:Ai} (hf:∀k,n<=k->gc hp k=.no) (h:gc hp k=X) (hX:X≠.no):k<n:=by
 rcases Nat.lt_or_ge k n with q | q
 .exact q
 .exact absurd (h.symm.trans (hf k q)) hX
theorem RunH.lt (h:RunH doc F hp c km kp gp P) (hf:∀k,n<=k->gc hp k=.no):c<n∧km<n∧kp<n :=
 ⟨BT hf h.hc (fun e=>by cases e),BT hf h.hm (fun e=>by cases e),BT hf h.hk (fun e=>by cases e)⟩
theorem RunH.wsLt (h:RunH doc F hp c km kp gp P) (hf:∀k,n<=k->gc hp k=.no):wsLt n (Fu doc F c km kp gp P R):=by
 obtain ⟨h1,h2,h3⟩:=h.lt hf
 refine ⟨h3,trivial,h1,?_,h2,trivial,trivial⟩
 intro α hα
 simp only [zlw,zm,or_false] at hα
 rcases hα with rfl | rfl | rfl
 .rfl
 .exact h2
 .exact h3
theorem Dh (h:RunH doc F hp c km kp gp P) (h1:gc Am kp=.rw (gp+R.length) 2 (Ab Dr (P++R))) (h2:gc Am c=.bx [.ds (Ab BB doc),.mp km,.rw kp (gp+R.length) (P.length+R.length)]) (h3:gc Am km=.mq F)
 (h4:∀j,j<n->j≠c->j≠km->j≠kp->gc Am j=gc hp j):Up n (Fu doc F c km kp gp P R++hp) Am:=fun j hj=>by
 simp only [Fu,zlh,zli]
 by_cases e1:kp=j
 .subst e1;rw [Ar,h1]
 .rw [Ak _ _ e1]
  by_cases e2:c=j
  .subst e2;rw [Ar,h2]
  .rw [Ak _ _ e2]
   by_cases e3:km=j
   .subst e3;rw [Ar,h3]
   .rw [Ak _ _ e3]
    exact h4 j hj (fun e=>e2 e.symm) (fun e=>e3 e.symm) (fun e=>e1 e.symm)
theorem Aey (h:RunH doc F hp c km kp gp P) (DX:CH):gc (Fu doc F c km kp gp P R++DX) kp=.rw (gp+R.length) 2 (Ab Dr (P++R))∧gc (Fu doc F c km kp gp P R++DX) c=.bx [.ds (Ab BB doc),.mp km,.rw kp (gp+R.length) (P.length+R.length)] ∧
 gc (Fu doc F c km kp gp P R++DX) km=.mq F∧∀j,j≠c->j≠km->j≠kp->gc (Fu doc F c km kp gp P R++DX) j=gc DX j:=by
 simp only [Fu,zlh,zli]
 have n1:=h.n1
 have n2:=h.n2
 have n3:=h.n3
 refine ⟨Ar _ _ _,?_,?_,fun j j1 j2 j3=>?_⟩
 .rw [Ak _ _ (fun e=>n2 e.symm),Ar]
 .rw [Ak _ _ (fun e=>n3 e.symm),Ak _ _ n1,Ar]
 .rw [Ak _ _ (fun e=>j3 e.symm),Ak _ _ (fun e=>j1 e.symm),Ak _ _ (fun e=>j2 e.symm)]
theorem RunH.ws (h:RunH doc F hp c km kp gp P) (DX:CH):RunH doc F (Fu doc F c km kp gp P R++DX) c km kp (gp+R.length) (P++R):=by
 obtain ⟨h1,h2,h3,_⟩:=Aey (R:=R) h DX
 exact ⟨by rw [zld];exact h2,h3,h1⟩
theorem RunH.of (h:RunH doc F hp c km kp gp P) (e:∀j,(j=c∨j=km∨j=kp)->gc Am j=gc hp j):RunH doc F Am c km kp gp P :=
 ⟨(e c (.inl rfl)).trans h.hc,(e km (.inr (.inl rfl))).trans h.hm,(e kp (.inr (.inr rfl))).trans h.hk⟩
end
end
section
variable {doc:List Av} {F:qB->AV} {hp:CH} {c km kp gp:Nat} {P:List DI} {l:List Pk} {p:Pk}
theorem Yz (l:List Ag) (h:l.length<=1000000000000) (k g len:Nat) (hp:CH) (hk:gc hp k=.rw g 5 (Ab Aw l)) (he:len=l.length) (m:Nat):Ae prog 93 hp m [.rw k g len] (.ds (Ab Aw l)):=by
 subst he
 refine Al func93 (tA cc93) (tB cc93) (tC cc93) rfl fun hf=>?_;unfold ck93
 have BL:k<m:=BT hf hk (fun e=>by cases e)
 simp (disch:=omega) only [hk,go_sem]
 exact ⟨fun e=>by rw [List.eq_nil_of_length_eq_zero (e trivial)];rfl,by omega,by omega⟩
theorem ZY (h:RunH doc F hp c km kp gp P) (path:List Ag) (JH:path.length<=1000000000000) (hP:P.length<=1000000000000) (s:qB) (kq gq:Nat) (hq:gc hp kq=.rw gq 5 (Ab Aw path)) (n:Nat) :
 AO prog 107 hp n [.bx c 0,.rw kq gq path.length,.s s] (Fu doc F c km kp gp P [.mk path s]++hp) n (vx A8):=by
 have DV:(∀k,n<=k->gc hp k=.no)->wsLt n (Fu doc F c km kp gp P [.mk path s]):=fun hf=>h.wsLt hf
 have n1:=h.n1
 have n2:=h.n2
 have n3:=h.n3
 have m1:¬km=c:=fun e=>n1 e.symm
 have m2:¬kp=c:=fun e=>n2 e.symm
 have m3:¬kp=km:=fun e=>n3 e.symm
 have hc:=h.hc
 have hm:=h.hm
 have hk:=h.hk
 refine Cp func107 (tA cc107) (tB cc107) (tC cc107) rfl DV fun hf=>?_;unfold ck107
 obtain ⟨l1,l2,l3⟩:=h.lt hf
 have l4:kq<n:=BT hf hq (fun e=>by cases e)
 simp (disch:=omega) only [hc,hk,hm,n1,n2,n3,m1,m2,m3,go_sem]
 refine Au.f (fun _ Am e=>Yz path JH kq gq _ Am ((e kq (.inl (by omega))).trans (by rw [Ak _ _ (by omega)];exact hq)) rfl _) ?_
 simp (disch:=omega) only [hc,hk,hm,n1,n2,n3,m1,m2,m3,go_sem]
 refine ⟨⟨by omega,by omega⟩,Dh h ?_ ?_ ?_ fun j hj j1 j2 j3=>?_⟩
 .rw [Ak _ _ n2,Ar];rfl
 .rw [Ar];rfl
 .rw [Ak _ _ n1,Ak _ _ m3,Ak _ _ (by omega),hm]
 .rw [Ak _ _ (fun e=>j1 e.symm),Ak _ _ (fun e=>j3 e.symm),Ak _ _ (by omega)]
theorem HI (h:RunH doc F hp c km kp gp P) (path:List Ag) (JH:path.length<=1000000000000) (hP:P.length<=1000000000000) (s:qB) (kq gq cap:Nat) (hq:gc hp kq=.rc gq 5 cap (Ab Aw path)) (n:Nat) :
 AO prog 107 hp n [.bx c 0,.rw kq gq path.length,.s s] (Fu doc F c km kp gp P [.mk path s]++hp) n (vx A8):=by
 have q1:kq≠c:=fun e=>by have:=h.hc;rw [<-e,hq] at this;cases this
 have q2:kq≠km:=fun e=>by have:=h.hm;rw [<-e,hq] at this;cases this
 have q3:kq≠kp:=fun e=>by have:=h.hk;rw [<-e,hq] at this;cases this
 refine AK.rc hq (fun x hx=>?_) (ZY (h.of fun j hj=>Ak _ _ fun e=>?_) path JH hP s kq gq (Ar _ _ _) n)
 .simp only [Fu,zlw,zm,or_false] at hx
  rcases hx with rfl | rfl | rfl
  .exact fun e=>q3 e.symm
  .exact fun e=>q1 e.symm
  .exact fun e=>q2 e.symm
 .rcases hj with rfl | rfl | rfl
  .exact q1 e
  .exact q2 e
  .exact q3 e
def Gz (doc:List Av) (x:qB):AV:=.ds (Bq (Dj doc x))
theorem Aiq (hd:DocOk doc) {α:AV} (hc:gc hp c=.bx [.ds (Ab BB doc),.mp km,α]) (hm:gc hp km=.mq (Gz doc)) (on name:qB) (n:Nat) :
 Ae prog 115 hp n [.bx c 0,.s on,.s name] (.b (decide (on∈Dj doc name))):=by
 have n1:¬c=km:=fun e=>by rw [e,hm] at hc;cases hc
 have n2:¬km=c:=fun e=>n1 e.symm
 have AZ:=KP doc name
 have GB:=hd.len
 have hct:=IZ (Dj doc name) on (by omega)
 rw [Nn] at hct
 refine Ae.mq hm rfl (by exact ⟨_,func115,by kernel_rfl,by kernel_rfl⟩) fun l hl=>?_
 have hc2:gc ((km,Ai.mp l)::hp) c=.bx [.ds (Ab BB doc),.mp km,α]:=by rw [Ak _ _ n2];exact hc
 cases e:B5 name l with
 |some β=>
  have hβ:β=.ds (Bq (Dj doc name)):=hl _ (Iz e)
  subst hβ
  refine Wc func115 (tA cc115) (tB cc115) (tC cc115) rfl fun hf=>?_;unfold ck115
  have l1:km<n:=BT hf (Ar _ _ _) (fun e=>by cases e)
  have l2:c<n:=BT hf hc2 (fun e=>by cases e)
  simp (disch:=omega) only [hc,n1,n2,e,go_sem]
  refine Ac.f (hct _ _) ?_
  simp (disch:=omega) only [hc,n1,n2,e,go_sem]
  refine ⟨l,hl,fun j hj=>.inl (Ak _ _ fun q=>hj q.symm),rfl⟩
 |none=>
  refine Wc func115 (tA cc115) (tB cc115) (tC cc115) rfl fun hf=>?_;unfold ck115
  have l1:km<n:=BT hf (Ar _ _ _) (fun e=>by cases e)
  have l2:c<n:=BT hf hc2 (fun e=>by cases e)
  simp (disch:=omega) only [hc,n1,n2,e,go_sem]
  refine Ac.f (Aeg doc hd name _ _) ?_
  simp (disch:=omega) only [hc,n1,n2,e,go_sem]
  refine Ac.f (hct _ _) ?_
  simp (disch:=omega) only [hc,n1,n2,e,go_sem]
  refine ⟨_,fun p hp=>?_,fun j hj=>.inl (by rw [iN (fun q=>hj q.symm)]),rfl⟩
  rcases KD hp with rfl | hp
  .rfl
  .exact hl p hp
theorem Nx (l:List qB) (s:qB) (hl:l.length<=1000000000000) (hp:CH) (m:Nat):Ae prog 132 hp m [.ds (Bq l),.s s] (.b (decide (s∈l))):=by
 obtain ⟨R,hR⟩:=A7 (decide (s∈l))
 rw [hR]
 refine Al func132 (tA cc132) (tB cc132) (tC cc132) rfl fun hf=>?_;unfold ck132
 simp only [go_sem]
 refine loop (fun p:Nat×Nat=>⟨[(0,.ds (Bq l)),(1,.s s),(5,.i .i64 p.1)],hp,p.2⟩) (fun p=>p.1<=l.length∧R=decide (s∈l.drop p.1)) (fun p=>l.length - p.1) (0,m) ?_ ?_ (fun ⟨j,n⟩ hj=>?_)
 .exact ⟨by simp,hR.symm⟩
 .refine Dd ?_
  simp only [go_sem]
 dsimp only at hj
 obtain ⟨Cq,Be⟩:=hj
 simp only [go_sem]
 refine Af (fun q=>?_) (fun q=>?_)
 .have q:j<l.length:=by simpa using q
  obtain ⟨x,ex⟩:∃x,l[j]?=some x:=⟨l[j],by simp [q]⟩
  rw [A2 ex] at Be
  simp only [q,Ad (Aa C3 ex),go_sem]
  refine Af (fun c=>?_) (fun c=>?_)
  .have c:x=s:=by simpa using c
   have:R=true:=by rw [Be];simp [c]
   subst this
   simp only [go_sem]
  .have c:¬x=s:=by simpa using c
   have c':¬s=x:=fun e=>c e.symm
   simp only [go_sem]
   refine ⟨(j+1,_),⟨by dsimp only;omega,by rw [Be];simp [c']⟩,by dsimp only;omega,Dd ?_⟩
   simp only [Ao j (by omega),go_sem]
 .have q:j=l.length:=by simp at q;omega
  subst q
  rw [List.drop_length] at Be
  have:R=false:=by rw [Be];simp
  subst this
  simp only [go_sem]
theorem Ud (doc:List Av) (hl:doc.length<=1000000000000) (j7:Nat) (x:Av) (ex:doc[j7]?=some x) (hp:CH) (m:Nat):Ae prog 136 hp m [B9 doc,.i .i64 j7] (.b (decide (x.n ∉ (doc.take j7).map Av.n))):=by
 obtain ⟨R,hR⟩:=A7 (decide (x.n ∉ (doc.take j7).map Av.n))
 rw [hR]
 have hat:j7<doc.length:=(zlb.1 ex).1
 refine Al func136 (tA cc136) (tB cc136) (tC cc136) rfl fun hf=>?_;unfold ck136
 simp only [go_sem]
 refine loop (fun p:Nat×Nat=>⟨[(1,.i .i64 j7),(2,.bx m 0),(5,.i .i64 p.1)],(m,.bx [.ds (Ab BB doc)])::hp,p.2⟩) (fun p=>p.1<=j7∧m+1<=p.2∧∀i t,i<p.1->doc[i]?=some t->t.n≠x.n) (fun p=>j7 - p.1) (0,m+1) ?_ ?_ (fun ⟨j,n⟩ hj=>?_)
 .exact ⟨by simp,by simp,fun i t h=>by omega⟩
 .refine Fo hf ?_ ?_ ?_ (zna _)
  all_goals (simp (disch:=omega) only [go_sem])
 dsimp only at hj
 obtain ⟨Cq,Be,At⟩:=hj
 simp (disch:=omega) only [go_sem]
 refine Af (fun q=>?_) (fun q=>?_)
 .have q:j<j7:=by simpa using q
  obtain ⟨y,ey⟩:∃y,doc[j]?=some y:=⟨doc[j]'(by omega),by simp [show j<doc.length by omega]⟩
  have b1:((j:Int)<(doc.length:Int))=True:=eq_true (by omega)
  have b2:((j7:Int)<(doc.length:Int))=True:=eq_true (by omega)
  have b3:(j<doc.length)=True:=eq_true (by omega)
  have b4:(j7<doc.length)=True:=eq_true hat
  simp (disch:=omega) only [q,b1,b2,b3,b4,Ad (Aa BB ey),Ad (Aa BB ex),go_sem]
  refine Af (fun c=>?_) (fun c=>?_)
  .have c:y.n=x.n:=by simpa using c
   have:R=false:=by
    rw [<-hR,decide_eq_false_iff_not,Classical.not_not]
    exact List.mem_map.2 ⟨y,zla (i:=j) (by rw [List.getElem?_take,iP q];exact ey),c⟩
   subst this
   simp (disch:=omega) only [go_sem]
  .have c:¬y.n=x.n:=by simpa using c
   simp (disch:=omega) only [go_sem]
   refine ⟨(j+1,_),⟨by dsimp only;omega,by dsimp only;omega,fun i t hi ht=>?_⟩,by dsimp only;omega,Fo hf ?_ ?_ ?_ (zna _)⟩
   .rcases Nat.lt_or_ge i j with w | w
    .exact At i t w ht
    .have:i=j:=by dsimp only at hi;omega
     subst this
     rw [ey] at ht
     cases ht
     exact c
   all_goals
    simp (disch:=omega) only [Ao j (by omega),go_sem]
 .have q:j=j7:=by simp at q;omega
  subst q
  have:R=true:=by
   rw [<-hR,decide_eq_true_eq]
   intro hm
   obtain ⟨t,ht,e⟩:=List.mem_map.1 hm
   obtain ⟨i,hi⟩:=List.getElem?_of_mem ht
   rw [List.getElem?_take] at hi
   split at hi
   .rename_i w
    exact At i t w hi e
   .cases hi
  subst this
  simp (disch:=omega) only [go_sem]
theorem Rg (t:Av) (ht:DefOk t) (hl:t.members.length<=1000000000000) (s:qB) (hp:CH) (m:Nat):Ae prog 134 hp m [Lw t,.s s] (.b (decide (s∈Gc t.members))):=by
 obtain ⟨R,hR⟩:=A7 (decide (s∈Gc t.members))
 rw [hR]
 have LO:∀e∈t.members,e.length=2:=fun e he=>by obtain ⟨x,y,rfl⟩:=ht.mem e he;rfl
 have LO:=eq_true LO
 refine Al func134 (tA cc134) (tB cc134) (tC cc134) rfl fun hf=>?_;unfold ck134
 simp only [go_sem]
 refine loop (fun p:Nat×Nat=>⟨[(1,.s s),(2,.bx m 0),(5,.i .i64 p.1)],(m,.bx [.i .i64 t.k,.s t.n,.ds t.impl,.ds t.dirs,.ds (Ab Bu t.fields),.ds t.members,.ds t.inputs])::hp,p.2⟩) (fun p=>p.1<=t.members.length∧m+1<=p.2∧R=decide (s∈Gc (t.members.drop p.1))) (fun p=>t.members.length - p.1) (0,m+1) ?_ ?_ (fun ⟨j,n⟩ hj=>?_)
 .exact ⟨by simp,by simp,hR.symm⟩
 .refine Fo hf ?_ ?_ ?_ (zna _)
  all_goals (simp (disch:=omega) only [go_sem])
 dsimp only at hj
 obtain ⟨Cq,Be,At⟩:=hj
 simp (disch:=omega) only [go_sem]
 refine Af (fun q=>?_) (fun q=>?_)
 .have q:j<t.members.length:=by simpa using q
  obtain ⟨e,ee⟩:∃e,t.members[j]?=some e:=⟨t.members[j],by simp [q]⟩
  obtain ⟨x,y,rfl⟩:=ht.mem e (zla ee)
  rw [A2 ee] at At
  have At:R=decide (s∈x::Gc (t.members.drop (j+1))):=At
  simp (disch:=omega) only [q,LO,Ad ee,go_sem]
  refine Af (fun c=>?_) (fun c=>?_)
  .have c:x=s:=by simpa using c
   have:R=true:=by rw [At];simp [c]
   subst this
   simp (disch:=omega) only [go_sem]
  .have c:¬x=s:=by simpa using c
   have c':¬s=x:=fun e=>c e.symm
   simp (disch:=omega) only [go_sem]
   refine ⟨(j+1,_),⟨by dsimp only;omega,by dsimp only;omega,by rw [At];simp [c']⟩,by dsimp only;omega,Fo hf ?_ ?_ ?_ (zna _)⟩
   all_goals
    simp (disch:=omega) only [Ao j (by omega),go_sem]
 .have q:j=t.members.length:=by simp at q;omega
  subst q
  rw [List.drop_length] at At
  have:R=false:=by rw [At];simp [Gc]
  subst this
  simp (disch:=omega) only [go_sem]
inductive BQ:List Pk->Prop
 | mk (l:List Pk):l.length<=1000000000->(∀p∈l,p.tw.length<=1000000000000)->(∀p∈l,BQ p.picks)->BQ l
theorem BQ.len (h:BQ l):l.length<=1000000000:=by cases h;assumption
theorem BQ.t (h:BQ l) (hp:p∈l):p.tw.length<=1000000000000:=by cases h with | mk _ _ h _=>exact h p hp
theorem BQ.x (h:BQ l) (hp:p∈l):BQ p.picks:=by cases h with | mk _ _ _ h=>exact h p hp
def LW (f:FuncId) (doc:List Av) (pre:List AV) (post:List AV) (path:List Ag) (R2:List DI) (r:AV):Prop :=
 ∀(hp:CH) (c km kp gp:Nat) (P:List DI) (kq gq cap len n:Nat),RunH doc (Gz doc) hp c km kp gp P->gc hp kq=.rc gq 5 cap (Ab Aw path)->len=path.length->P.length+R2.length<=1000000000000 ->
  AO prog f hp n (.bx c 0::pre++.rw kq gq len::post) (Fu doc (Gz doc) c km kp gp P R2++hp) n r
theorem LW.rw {f : FuncId} {pre post : List AV} {path : List Ag} {R2 : List DI} {r : AV} (h : LW f doc pre post path R2 r) (J0 : ∃ fn, prog.funcs[f]? = some fn ∧ (fn.name == "runtime.NumGoroutine") = false ∧ fn.body.isNone = false)
 (hp:CH) (c km kp gp:Nat) (P:List DI) (kq gq len n:Nat) (hR:RunH doc (Gz doc) hp c km kp gp P) (hq:gc hp kq=.rw gq 5 (Ab Aw path)) (hkq:kq≠kp) (hl:len=path.length) (hP:P.length+R2.length<=1000000000000) :
 AO prog f hp n (.bx c 0::pre++.rw kq gq len::post) (Fu doc (Gz doc) c km kp gp P R2++hp) n r:=by
 have q1:kq≠c:=fun e=>by have:=hR.hc;rw [<-e,hq] at this;cases this
 have q2:kq≠km:=fun e=>by have:=hR.hm;rw [<-e,hq] at this;cases this
 refine AK.open hq (fun x hx=>?_) J0 fun cap _=>h _ c km kp gp P kq gq cap len n (hR.of fun j hj=>Ak _ _ fun e=>?_) (Ar _ _ _) hl hP
 .simp only [Fu,zlw,zm,or_false] at hx
  rcases hx with rfl | rfl | rfl
  .exact fun e=>hkq e.symm
  .exact fun e=>q1 e.symm
  .exact fun e=>q2 e.symm
 .rcases hj with rfl | rfl | rfl
  .exact q1 e
  .exact q2 e
  .exact hkq e
theorem Gy {n0:Nat} {R:List DI} (h:RunH doc F hp c km kp gp P) (h1:c<n0) (h2:km<n0) (h3:kp<n0):Kc hp n0 (keys (Fu doc F c km kp gp P R)) (Fu doc F c km kp gp P R):=by
 refine ⟨h3,by rw [h.hk];trivial,trivial,h1,by rw [h.hc];trivial,⟨rfl,?_,?_,trivial⟩,h2,by rw [h.hm];trivial,trivial,trivial⟩
 .show km∈[kp,c,km];simp
 .show kp∈[kp,c,km];simp
def Ps (doc:List Av) (v:Ag):Prop:=∀(tn:qB) (tw:List Int) (picks:List Pk) (path:List Ag),tw.length<=1000000000000->BQ picks->path.length+AE v<=100000000000 ->
 LW 36 doc [DW tn tw,.ds (Ab Bi picks)] [vx v] path (A6 doc v tn tw picks path).2 (.tp [vx (A6 doc v tn tw picks path).1,.b (Ex tw (A6 doc v tn tw picks path).1)])
def Akb (doc:List Av) (v:Ag):Prop:=∀(tn:qB) (tw:List Int) (picks:List Pk) (path:List Ag),tw.length<=1000000000000->BQ picks->path.length+AE v<=100000000000 ->
 LW 72 doc [DW tn tw,.ds (Ab Bi picks)] [vx v] path (A6 doc v tn tw picks path).2 (vx (A6 doc v tn tw picks path).1)
def Ak8 (doc:List Av) (v:Ag):Prop:=∀(tn:qB) (tw:List Int) (picks:List Pk) (path:List Ag),tw.length<=1000000000000->BQ picks->path.length+AE v<=100000000000 ->
 LW 110 doc [DW tn tw,.ds (Ab Bi picks)] [vx v] path (Gs (v.items.map (A6 doc)) tn tw picks path).2 (vx (Gs (v.items.map (A6 doc)) tn tw picks path).1)
def Ak4 (doc:List Av) (v:Ag):Prop:=∀(on:qB) (picks:List Pk) (path:List Ag),v.k=6->2<=AE v->BQ picks->path.length+AE v<=100000000000 ->
 LW 116 doc [.s on,.ds (Ab Bi picks)] [vx v] path (KH v.keys (v.items.map (A6 doc)) on picks path).2 (vx (KH v.keys (v.items.map (A6 doc)) on picks path).1)
theorem IY (doc:List Av) (v:Ag) (h:Akb doc v):Ps doc v:=by
 intro tn tw picks path FQ MF hwt hp c km kp gp P kq gq cap len n hR hq hl hP
 subst hl
 have hN:=h tn tw picks path FQ MF hwt
 obtain ⟨R,AC⟩:=A7 (A6 doc v tn tw picks path)
 rw [AC] at hN hP ⊢
 have hNN:=KG tn tw FQ
 unfold Ex
 simp only [zlh,zli]
 have DV:(∀k,n<=k->gc hp k=.no)->wsLt n (Fu doc (Gz doc) c km kp gp P R.2):=fun hf=>hR.wsLt hf
 have n1:=hR.n1
 have n2:=hR.n2
 have n3:=hR.n3
 refine Cp func36 (tA cc36) (tB cc36) (tC cc36) rfl DV fun hf=>?_;unfold ck36
 obtain ⟨l1,l2,l3⟩:=hR.lt hf
 have l4:kq<n:=BT hf hq (fun e=>by cases e)
 simp (disch:=omega) only [Fu,go_sem]
 refine Ac.x (hN _ c km kp gp P kq gq cap path.length _ (hR.of fun j hj=>?_) ?_ rfl hP) ?_
 .simp only [AA]
  repeat rw [iN (by omega)]
 .simp only [AA]
  repeat rw [iN (by omega)]
  exact hq
 simp only [Fu,zlh,zli]
 simp (disch:=omega) only [go_sem]
 refine AJ.f (fun _ Am e=>hNN _ _) ?_
 simp (disch:=omega) only [go_sem]
 refine Dh hR ?_ ?_ ?_ fun j hj j1 j2 j3=>?_
 all_goals (simp (disch:=omega) only [go_sem])
def lsD (fs:List GW) (tn:qB) (tw:List Int) (picks:List Pk) (path:List Ag) (j:Nat):List Ge:=FN (fs.take j) 0 tn tw picks path
def L8 (fs:List GW) (tn:qB) (tw:List Int) (picks:List Pk) (path:List Ag) (j:Nat):List DI:=(lsD fs tn tw picks path j).flatMap (·.2)
def WF (fs:List GW) (tn:qB) (tw:List Int) (picks:List Pk) (path:List Ag) (j:Nat):List Ag:=(lsD fs tn tw picks path j).map (·.1)
def lsL (fs:List GW) (tn:qB) (tw:List Int) (picks:List Pk) (path:List Ag) (j:Nat):Bool:=(lsD fs tn tw picks path j).any fun r=>Ex tw r.1
end
section
variable {fs:List GW} {tn:qB} {tw:List Int} {picks:List Pk} {path:List Ag}
section
variable {j:Nat} {f:GW}
theorem K9 (h:fs[j]?=some f):lsD fs tn tw picks path (j+1)=lsD fs tn tw picks path j++[f tn tw picks (path++[Ff (j:Nat)])]:=by
 unfold lsD
 have hj:(fs.take j).length=j:=by have:=(zlb.1 h).1;simp;omega
 rw [<-Bc h,P2,hj,Nat.zero_add]
theorem Qm (h:fs[j]?=some f):L8 fs tn tw picks path (j+1)=L8 fs tn tw picks path j++(f tn tw picks (path++[Ff (j:Nat)])).2:=by
 unfold L8
 rw [K9 h,List.flatMap_append]
 simp
theorem XB (h:fs[j]?=some f):WF fs tn tw picks path (j+1)=WF fs tn tw picks path j++[(f tn tw picks (path++[Ff (j:Nat)])).1]:=by
 unfold WF
 rw [K9 h,List.map_append]
 rfl
theorem Ym (h:fs[j]?=some f):lsL fs tn tw picks path (j+1)=(lsL fs tn tw picks path j||Ex tw (f tn tw picks (path++[Ff (j:Nat)])).1):=by
 unfold lsL
 rw [K9 h,List.any_append]
 simp
theorem YX (h:j<=fs.length):(WF fs tn tw picks path j).length=j:=by
 unfold WF lsD
 rw [List.length_map,J6,List.length_take]
 omega
theorem Xp:∀{k:Nat} {j:Nat},j+k=fs.length->(L8 fs tn tw picks path j).length<=(L8 fs tn tw picks path fs.length).length
 | 0,j,h=>by rw [show j=fs.length by omega];exact zna _
 |k+1,j,h=>by
  have e:fs[j]?=some (fs[j]'(by omega)):=by simp [show j<fs.length by omega]
  have:=Xp (k:=k) (j:=j+1) (by omega)
  rw [Qm e,zld] at this
  omega
theorem X4:Gs fs tn tw picks path=(if lsL fs tn tw picks path fs.length=true then A8 else EB (WF fs tn tw picks path fs.length),L8 fs tn tw picks path fs.length):=by
 unfold Gs lsL WF L8 lsD
 rw [List.take_length]
end
end
theorem KW (n:Int) (hp:CH) (m:Nat):Ae prog 100 hp m [.i .i64 n] (vx (Ff n)):=by
 refine Al func100 (tA cc100) (tB cc100) (tC cc100) rfl fun hf=>?_;unfold ck100
 simp only [go_sem]
 rfl
theorem HL (s:qB) (hp:CH) (m:Nat):Ae prog 97 hp m [.s s] (vx (CY s)):=by
 refine Al func97 (tA cc97) (tB cc97) (tC cc97) rfl fun hf=>?_;unfold ck97
 simp only [go_sem]
 rfl
theorem GQ (l:List Ag):(Ab Aw l).take l.length=Ab Aw l:=by rw [IP,List.take_length]
theorem JF (n:Nat):(n<=n)=True:=eq_true (zna n)
theorem Ft (l:List Ag) (x:Ag):(Ab Aw (l++[x])).take l.length=Ab Aw l:=by rw [IP,List.take_left' rfl]
theorem Ic (doc:List Av) (v:Ag) (hv:v.Fit) (h:∀x∈v.items,Ps doc x):Ak8 doc v:=by
 intro tn tw picks path FQ MF hwt hp c km kp gp P kq gq cap len n hR hq hl hP
 subst hl
 rw [X4] at hP ⊢
 have AZ:=hv.i
 have Hf:(v.items.map (A6 doc)).length=v.items.length:=by simp
 rw [Hf] at hP ⊢
 obtain ⟨fs,Qw⟩:=A7 (v.items.map (A6 doc))
 rw [Qw] at hP Hf ⊢
 dsimp only at hP ⊢
 have hPle : ∀ j, j <= v.items.length -> (L8 fs tn tw picks path j).length <= (L8 fs tn tw picks path v.items.length).length := fun j hj => by
  have:=Xp (fs:=fs) (tn:=tn) (tw:=tw) (picks:=picks) (path:=path) (k:=v.items.length - j) (j:=j) (by omega)
  rwa [Hf] at this
 obtain ⟨RP,hRP⟩:=A7 (L8 fs tn tw picks path v.items.length)
 obtain ⟨RV,x7⟩:=A7 ((if lsL fs tn tw picks path v.items.length=true then A8 else EB (WF fs tn tw picks path v.items.length)))
 rw [hRP] at hP hPle ⊢
 rw [x7]
 simp only [zlh,zli]
 have DV : (∀ k, n <= k -> gc hp k = .no) -> wsLt n (Fu doc (Gz doc) c km kp gp P RP) := fun hf => hR.wsLt hf
 have n1:=hR.n1
 have n2:=hR.n2
 have n3:=hR.n3
 have q1 : kq ≠ c := fun e => by have := hR.hc; rw [<- e, hq] at this; cases this
 have q2 : kq ≠ km := fun e => by have := hR.hm; rw [<- e, hq] at this; cases this
 have q3 : kq ≠ kp := fun e => by have := hR.hk; rw [<- e, hq] at this; cases this
 have hc:=hR.hc
 have hm:=hR.hm
 have hk:=hR.hk
 refine Cp func110 (tA cc110) (tB cc110) (tC cc110) rfl DV fun hf=>?_;unfold ck110
 obtain ⟨l1,l2,l3⟩:=hR.lt hf
 have l4:kq<n:=BT hf hq (fun e=>by cases e)
 simp (disch:=omega) only [go_sem]
 refine loop (fun p : Nat × Nat => ⟨[(0, .bx c 0), (2, .ds (Ab Bi picks)), (3, .rw kq gq path.length), (6, .bx n 0), (10, .bx (n + 2) 0), (11, .bx (n + 3) 0), (12, .b (lsL fs tn tw picks path p.1)), (19, .ds (Ab Aw v.items)), (20, .i .i64 v.items.length), (21, .i .i64 p.1)],
  (n+3,.bx [.i .i64 5,.i .i64 0,.s ⟨#[]⟩,.rw (n+4) p.1 p.1,.e0])::(n+4,.rw p.1 5 (Ab Aw (WF fs tn tw picks path p.1)))::(n+2,.bx [.i .i64 0,.i .i64 0,.s ⟨#[]⟩,.e0,.e0])::(n,.bx [.s tn,.ds (Ab D2 tw)]) ::
  (kq,.rc gq 5 cap (Ab Aw path))::(kp,.rw (gp+(L8 fs tn tw picks path p.1).length) 2 (Ab Dr (P++L8 fs tn tw picks path p.1)))::(c,.bx [.ds (Ab BB doc),.mp km,.rw kp (gp+(L8 fs tn tw picks path p.1).length) (P.length+(L8 fs tn tw picks path p.1).length)])::(km,.mq (Gz doc))::hp,p.2⟩)
  (fun p=>p.1<=v.items.length∧n+5<=p.2) (fun p=>v.items.length - p.1) (0,n+5) ?_ ?_ (fun ⟨j,k⟩ hj=>?_)
 .exact ⟨by simp,by simp⟩
 .refine (DL (c:=n+3) (i:=3) (m:=5) (cs:=[.i .i64 5,.i .i64 0,.s ⟨#[]⟩,.e0,.e0]) ?_ rfl).trans (AR ?_ (Az.sub (Az.cons ?_ (Az.cons ?_ (Az.cons ?_ (Az.cons ?_ (Az.cons ?_ (Az.cons ?_ (Az.cons ?_ (Az.cons ?_ (Az.base hf fun i hi hx=>?_)))))))))) (Nat.le_refl _))
  all_goals first
   | (simp only [zh,zm,or_false,not_or] at hx
      simp only [AA]
      repeat rw [iN (by omega)]
      done)
   | ((simp (disch:=omega) only [L8,WF,lsL,lsD,FN,List.take_zero,List.flatMap_nil,List.map_nil,List.append_nil,hq,hc,hk,hm,go_sem])
      first | done | rfl | (simp;done))
 dsimp only at hj
 obtain ⟨Cq,Be⟩:=hj
 have oL:(WF fs tn tw picks path j).length=j:=YX (by omega)
 simp (disch:=omega) only [oL,go_sem]
 refine Af (fun q=>?_) (fun q=>?_)
 .have q:j<v.items.length:=by simpa using q
  obtain ⟨x,ex⟩:∃x,v.items[j]?=some x:=⟨v.items[j],by simp [q]⟩
  have hx:=h x (zla ex)
  have ef:fs[j]?=some (A6 doc x):=by rw [<-Qw,List.getElem?_map,ex];rfl
  have e1:=Qm (tn:=tn) (tw:=tw) (picks:=picks) (path:=path) ef
  have e2:=XB (tn:=tn) (tw:=tw) (picks:=picks) (path:=path) ef
  have e3:=Ym (tn:=tn) (tw:=tw) (picks:=picks) (path:=path) ef
  have hle:=hPle (j+1) (by omega)
  have hwx:AE x<AE v:=by have:=BS (List.mem_of_getElem? ex);rw [A9 v];omega
  have hD:=hx tn tw picks (path++[Ff (j:Nat)]) FQ MF (by simp;omega)
  rw [e1,zld] at hle
  obtain ⟨X,hX⟩:=A7 (A6 doc x tn tw picks (path++[Ff (j:Nat)]))
  rw [hX] at hD e1 e2 e3 hle
  have hjm:(1:Int)<=1:=Int.le_refl 1
  by_cases p7:path.length+1<=cap
  .simp (disch:=omega) only [q,Ad (Aa Aw ex),go_sem]
   refine Au.f (fun _ Am e=>KW j _ _) ?_
   simp (disch:=omega) only [p7,GQ,JF,go_sem]
   refine ⟨⟨by omega,by omega⟩,by omega,by omega,Au.w (ws:=Fu doc (Gz doc) c km kp (gp+(L8 fs tn tw picks path j).length) (P++L8 fs tn tw picks path j) X.2) (Gy ⟨?_,?_,?_⟩ (by omega) (by omega) (by omega)) rfl
    (fun Am e=>hD Am c km kp _ (P++L8 fs tn tw picks path j) kq gq cap (path.length+1) _ ⟨(e c (.inl (by omega))).trans ?_,(e km (.inl (by omega))).trans ?_,(e kp (.inl (by omega))).trans ?_⟩ ((e kq (.inl (by omega))).trans ?_) (by simp) (by rw [z16];omega)) ?_⟩
   case refine_8=>
    simp only [Fu,zlh,zli]
    simp (disch:=omega) only [oL,go_sem]
    refine ⟨⟨⟨by omega,by omega,by omega⟩,⟨by omega,by omega⟩,by omega⟩,by omega,by omega,(j+1,_),⟨by dsimp only;omega,by dsimp only;omega⟩,by dsimp only;omega,(Sb (k:=kq) (g:=gq) (m:=5) (cap:=cap) (l:=Ab Aw (path++[Ff (j:Nat)])) (len:=path.length) ?_ (by rw [As];simp)).trans
     (AR ?_ (Az.sub (Az.cons ?_ (Az.cons ?_ (Az.cons ?_ (Az.cons ?_ (Az.cons ?_ (Az.cons ?_ (Az.cons ?_ (Az.cons ?_ (Az.base hf fun i hi hx=>?_)))))))))) (zna _))⟩
    all_goals first
     | (simp only [zh,zm,or_false,not_or] at hx
        simp only [AA]
        repeat rw [iN (by omega)]
        done)
     | ((simp (disch:=omega) only [Ft,e1,e2,e3,Ao j (by omega),z16,List.append_assoc,Nat.add_assoc,List.length_cons,List.length_nil,go_sem])
        first | done | rfl | (simp;done))
   all_goals (simp (disch:=omega) only [zld,go_sem])
  .simp (disch:=omega) only [q,Ad (Aa Aw ex),go_sem]
   refine Au.f (fun _ Am e=>KW j _ _) ?_
   simp (disch:=omega) only [p7,GQ,JF,go_sem]
   refine ⟨⟨by omega,by omega⟩,by omega,Au.w (ws:=Fu doc (Gz doc) c km kp (gp+(L8 fs tn tw picks path j).length) (P++L8 fs tn tw picks path j) X.2) (Gy ⟨?_,?_,?_⟩ (by omega) (by omega) (by omega)) rfl
    (fun Am e=>hD.rw ⟨_,func36,by kernel_rfl,by kernel_rfl⟩ Am c km kp _ (P++L8 fs tn tw picks path j) (k+8) 0 (path.length+1) _ ⟨(e c (.inl (by omega))).trans ?_,(e km (.inl (by omega))).trans ?_,(e kp (.inl (by omega))).trans ?_⟩ ((e (k+8) (.inr ⟨7,by simp,by omega⟩)).trans ?_) (by omega) (by simp) (by rw [z16];omega)) ?_⟩
   case refine_8=>
    simp only [Fu,zlh,zli]
    simp (disch:=omega) only [oL,go_sem]
    refine ⟨⟨⟨by omega,by omega,by omega⟩,by omega,by omega⟩,by omega,by omega,(j+1,_),⟨by dsimp only;omega,by dsimp only;omega⟩,by dsimp only;omega,
     AR ?_ (Az.sub (Az.cons ?_ (Az.cons ?_ (Az.cons ?_ (Az.cons ?_ (Az.cons ?_ (Az.cons ?_ (Az.cons ?_ (Az.cons ?_ (Az.base hf fun i hi hx=>?_)))))))))) (zna _)⟩
    all_goals first
     | (simp only [zh,zm,or_false,not_or] at hx
        simp only [AA]
        repeat rw [iN (by omega)]
        done)
     | ((simp (disch:=omega) only [Ft,e1,e2,e3,Ao j (by omega),z16,List.append_assoc,Nat.add_assoc,List.length_cons,List.length_nil,go_sem])
        first | done | rfl | (simp;done))
   all_goals (simp (disch:=omega) only [zld,go_sem])
 .have q:j=v.items.length:=by simp at q;omega
  subst q
  simp (disch:=omega) only [hRP,go_sem]
  refine Af (fun c1=>?_) (fun c1=>?_)
  .rw [iP c1] at x7
   subst x7
   simp (disch:=omega) only [go_sem]
   refine Dh hR ?_ ?_ ?_ fun j hj j1 j2 j3=>?_
   all_goals (simp (disch:=omega) only [go_sem])
   by_cases e:kq=j
   .subst e;rw [iP rfl,hq]
   .rw [iN e]
  .rw [iN (by simp [c1])] at x7
   subst x7
   simp (disch:=omega) only [oL,go_sem]
   refine ⟨Dh hR ?_ ?_ ?_ fun j hj j1 j2 j3=>?_,rfl,rfl,rfl,by rw [List.take_of_length_le (by omega)];rfl,rfl⟩
   all_goals (simp (disch:=omega) only [go_sem])
   by_cases e:kq=j
   .subst e;rw [iP rfl,hq]
   .rw [iN e]
