/- Proof. Conditions: none. -/
import Derived.Test.YtgfidgoefioigaaGreatDoorIk32
noncomputable section
open List renaming mem_singleton->z1s,all_cons->z2a
open Bool renaming true_and->zt,false_and->zy
open Go.Proofs.Tryz
open List renaming mem_of_getElem?->zla,length_cons->zlc,length_append->zld,length_nil->zle,drop_length->zll,length_map->zlv
open Nat renaming le_refl->zna
namespace Go.Proofs.YtgfidgoefioigaaGreatDoor
open Go.Eng
set_option linter.all false
set_option maxRecDepth 20000
set_option maxHeartbeats 1000000
def NQ (s:Bool) (t:Av) (name:qB) (doc:List Av) (j:Nat):List qB:=if s=true then E0 t name [] (doc.take j) else []
theorem Aaz (s:Bool) (t:Av) (name:qB) (doc:List Av) (j:Nat):(NQ s t name doc j).length<=j:=by
 unfold NQ
 split
 .have:=HY t name (doc.take j) []
  rw [List.length_take] at this
  omega
 .simp
theorem Yc {t x:Av} {name:qB} {doc:List Av} {j:Nat} (e:doc[j]?=some x):NQ true t name doc (j+1)=if x.n ∉ (doc.take j).map Av.n∧x.k=1∧Jy t name x=true then NQ true t name doc j++[x.n] else NQ true t name doc j:=by
 unfold NQ
 rw [iP rfl,iP rfl,<-Bc e,Mq,List.nil_append]
 split
 .rfl
 .rw [List.append_nil]
theorem Qo (doc:List Av) (hd:DocOk doc) (name:qB) (hp:CH) (m:Nat):Ae prog 90 hp m [B9 doc,.s name] (.ds (Bq (Dj doc name))):=by
 have h1:=BW doc hd.len name
 have hg:=hd.g name
 have AZ:=hd.len
 have hposL:Dj doc name=NQ (Ay doc name).isSome ((Ay doc name).getD DJ) name doc doc.length:=by
  unfold Dj NQ
  cases Ay doc name with
  |none=>rfl
  |some t=>rw [iP (show (some t).isSome=true from rfl),List.take_length];rfl
 rw [hposL]
 unfold Eh at h1
 obtain ⟨t,ht⟩:=A7 ((Ay doc name).getD DJ)
 obtain ⟨s,hs⟩:=A7 ((Ay doc name).isSome)
 rw [ht] at h1 hg ⊢
 rw [hs] at h1 ⊢
 obtain ⟨g1,g2,g3⟩:=hg
 obtain ⟨R,hR⟩:=A7 (NQ s t name doc doc.length)
 rw [hR]
 refine Al func90 (tA cc90) (tB cc90) (tC cc90) rfl fun hf=>?_;unfold ck90
 simp only [go_sem]
 refine Ac.f (h1 _ _) ?_
 simp (disch:=omega) only [go_sem]
 refine loop (fun p:Nat×Nat=>⟨[(1,.s name),(2,.bx m 0),(5,.rw (m+2) (NQ s t name doc p.1).length (NQ s t name doc p.1).length),(6,.bx (m+1) 0),(7,.b s),(8,.i .i64 p.1)],
  (m+2,.rw (NQ s t name doc p.1).length 1 (Bq (NQ s t name doc p.1)))::(m,.bx [.ds (Ab BB doc)])::(m+1,.bx [.i .i64 t.k,.s t.n,.ds t.impl,.ds t.dirs,.ds (Ab Bu t.fields),.ds t.members,.ds t.inputs])::hp,p.2⟩)
  (fun p=>p.1<=doc.length∧m+3<=p.2) (fun p=>doc.length - p.1) (0,m+3) ?_ ?_ (fun ⟨j,k⟩ hj=>?_)
 .exact ⟨by simp,by simp⟩
 .have p0:NQ s t name doc 0=[]:=by unfold NQ;split<;>rfl
  refine (By (t:=5) (m:=1) ?_).trans (LH hf ?_ ?_ ?_ ?_ ?_ (zna _))
  all_goals (simp (disch:=omega) only [p0,go_sem])
 dsimp only at hj
 obtain ⟨Cq,Be⟩:=hj
 have Q8:=Aaz s t name doc j
 simp (disch:=omega) only [go_sem]
 refine Af (fun q=>?_) (fun q=>?_)
 .have q:j<doc.length∧s=true:=by simpa using q
  obtain ⟨qj,qs⟩:=q
  subst qs
  obtain ⟨x,ex⟩:∃x,doc[j]?=some x:=⟨doc[j],by simp [qj]⟩
  have Q0:=zla ex
  have hx:=hd.ok x Q0
  have Jz:=Ud doc AZ j x ex
  have CR:=Yc (t:=t) (name:=name) ex
  have hha:=Nx (GX x.impl) name (by have:=hd.im x Q0;rw [hx.impl] at this;simpa [Ab] using this)
  rw [<-hx.impl] at hha
  have y9:=Rg t g1 g3 x.n
  simp (disch:=omega) only [qj,Ad (Aa BB ex),go_sem]
  refine AH.f (fun _=>Jz _ _) ?_
  simp (disch:=omega) only [go_sem]
  refine Af (fun c=>?_) (fun c=>?_)
  .rw [iN (fun h=>by rw [dT h.1,dT h.2.1] at c;cases c)] at CR
   simp (disch:=omega) only [go_sem]
   refine ⟨(j+1,_),⟨by dsimp only;omega,by dsimp only;omega⟩,by dsimp only;omega,LH hf ?_ ?_ ?_ ?_ ?_ (zna _)⟩
   all_goals
    simp (disch:=omega) only [CR,Ao j (by omega),go_sem]
  .simp (disch:=omega) only [go_sem]
   refine AH.f (fun _=>hha _ _) ?_
   simp (disch:=omega) only [go_sem]
   refine AH.f (fun _=>y9 _ _) ?_
   simp (disch:=omega) only [go_sem]
   refine Af (fun c2=>?_) (fun c2=>?_)
   .have Bx:Jy t name x=true:=by
     unfold Jy
     rw [<-Bool.or_assoc]
     exact c2
    have MB:x.n ∉ (doc.take j).map Av.n∧x.k=1:=by
     simp only [Bool.or_eq_false_iff,Bool.not_eq_false',decide_eq_true_eq] at c
     exact ⟨c.2,c.1⟩
    rw [iP ⟨MB.1,MB.2,Bx⟩] at CR
    have hg:Ab C3 (NQ true t name doc j)++[[AV.s x.n]]=Ab C3 (NQ true t name doc j++[x.n]):=Bd C3 _ x.n
    simp (disch:=omega) only [hg,go_sem]
    refine ⟨by omega,by omega,(j+1,_),⟨by dsimp only;omega,by dsimp only;omega⟩,by dsimp only;omega,LH hf ?_ ?_ ?_ ?_ ?_ (zna _)⟩
    all_goals
     simp (disch:=omega) only [CR,Ao j (by omega),zld,zlc,zle,go_sem]
   .have Bx:¬Jy t name x=true:=by
     unfold Jy
     rw [<-Bool.or_assoc]
     simp only [c2]
     decide
    rw [iN (fun h=>Bx h.2.2)] at CR
    simp (disch:=omega) only [go_sem]
    refine ⟨(j+1,_),⟨by dsimp only;omega,by dsimp only;omega⟩,by dsimp only;omega,LH hf ?_ ?_ ?_ ?_ ?_ (zna _)⟩
    all_goals
     simp (disch:=omega) only [CR,Ao j (by omega),go_sem]
 .have hRj:NQ s t name doc j=R:=by
   rw [<-hR]
   cases s with
   |false=>rfl
   |true=>
    have:j=doc.length:=by simp at q;omega
    rw [this]
  rw [hRj]
  simp (disch:=omega) only [go_sem]
theorem Afc (doc:List Av) (hd:DocOk doc) (on name:qB) (hp:CH) (m:Nat):Ae prog 146 hp m [B9 doc,.s on,.s name] (.b (decide (on∈Dj doc name))):=by
 have AZ:=KP doc name
 have GB:=hd.len
 have h1:=Nx (Dj doc name) on (by omega)
 refine Al func146 (tA cc146) (tB cc146) (tC cc146) rfl fun hf=>?_;unfold ck146
 simp only [go_sem]
 refine Ac.f (Qo doc hd name _ _) ?_
 simp only [go_sem]
 refine Ac.f (h1 _ _) ?_
 simp only [go_sem]
structure RunR (doc:List Av) (hp:CH) (c kp gp:Nat) (P:List DI):Prop where
 hc:gc hp c=.bx [.ds (Ab BB doc),.rw kp gp P.length]
 hk:gc hp kp=.rw gp 2 (Ab Dr P)
def wsR (doc:List Av) (c kp gp:Nat) (P R:List DI):CH :=
 [(kp,.rw (gp+R.length) 2 (Ab Dr (P++R))),(c,.bx [.ds (Ab BB doc),.rw kp (gp+R.length) (P.length+R.length)])]
section
variable {doc:List Av} {hp:CH} {c kp gp:Nat} {P R:List DI}
theorem RunR.n2 (h:RunR doc hp c kp gp P):¬c=kp:=fun e=>by have:=h.hc;rw [e,h.hk] at this;cases this
theorem RunR.lt {n:Nat} (h:RunR doc hp c kp gp P) (hf:∀k,n<=k->gc hp k=.no):c<n∧kp<n :=
 ⟨BT hf h.hc (fun e=>by cases e),BT hf h.hk (fun e=>by cases e)⟩
theorem RunR.wsLt {n:Nat} (h:RunR doc hp c kp gp P) (hf:∀k,n<=k->gc hp k=.no):wsLt n (wsR doc c kp gp P R):=by
 obtain ⟨h1,h3⟩:=h.lt hf
 refine ⟨h3,trivial,h1,?_,trivial⟩
 intro α hα
 simp only [List.mem_cons,List.not_mem_nil,or_false] at hα
 rcases hα with rfl | rfl
 .rfl
 .exact h3
theorem RunR.of {Am:CH} (h:RunR doc hp c kp gp P) (e:∀j,(j=c∨j=kp)->gc Am j=gc hp j):RunR doc Am c kp gp P :=
 ⟨(e c (.inl rfl)).trans h.hc,(e kp (.inr rfl)).trans h.hk⟩
end
end Go.Proofs.YtgfidgoefioigaaGreatDoor
namespace Go.Eng
set_option linter.unusedVariables false
theorem AK.e0d {P:Program} {f:FuncId} {hp:CH} {n:Nat} {args args':List AV} {i:Nat} {R:CH->Nat->AV->Prop} (hi:args[i]?=some .e0) (ha:args'=args.set i (.ds [])) (c:AK P f hp n args' R):AK P f hp n args R:=by
 subst ha
 refine ⟨c.1,fun h J w vs hs ra=>c.2 h J w vs hs ⟨by rw [List.length_set];exact ra.1,fun j α v h1 h2=>?_⟩⟩
 by_cases e:i=j
 .subst e
  rw [List.getElem?_set_self (List.getElem?_eq_some_iff.1 hi).1] at h1
  cases h1
  exact .pu _ _ (HJ hs (ra.2 i _ v hi h2) rfl)
 .rw [List.getElem?_set_ne e] at h1
  exact ra.2 j α v h1 h2
end Go.Eng
namespace Go.Proofs.YtgfidgoefioigaaGreatDoor
open Go.Eng
set_option linter.all false
set_option maxRecDepth 20000
set_option maxHeartbeats 1000000
def Y4 (n:Nat) (R:Ge):Prop:=R.1.Fit∧∀p∈R.2,p.p.length<=n∧∀x∈p.p,x.Fit
theorem Y4.mono {n m:Nat} {R:Ge} (h:Y4 n R) (hm:n<=m):Y4 m R:=⟨h.1,fun p hp=>⟨Nat.le_trans (h.2 p hp).1 hm,(h.2 p hp).2⟩⟩
theorem Lm {path:List Ag} (h:∀x∈path,x.Fit) {y:Ag} (hy:y.Fit):∀x∈path++[y],x.Fit:=fun x hx=>by
 rcases List.mem_append.1 hx with h1 | h1
 .exact h x h1
 .rw [z1s.1 h1];exact hy
theorem IS {v:Ag} (h1:v.items=[]) (h2:v.keys=[]):v.Fit:=.mk v (by simp [h1]) (by simp [h2]) (by simp [h1])
theorem Aa2 (n:Int):(Ff n).Fit:=IS rfl rfl
theorem Tu (s:qB):(CY s).Fit:=IS rfl rfl
theorem Sq (doc:List Av) (v:Ag):v.Fit->∀tn tw picks path,BQ picks->(∀x∈path,x.Fit)->Y4 (path.length+AE v) (A6 doc v tn tw picks path):=by
 refine Ag.ind (Q:=fun v=>v.Fit->∀tn tw picks path,BQ picks->(∀x∈path,x.Fit)->Y4 (path.length+AE v) (A6 doc v tn tw picks path)) (fun v ih hv tn tw picks path MF hpa=>?_) v
 have hz:∀tn tw picks path,(∀x∈path,x.Fit)->Y4 path.length (A6 doc A8 tn tw picks path):=fun tn tw picks path hpa=>by
  rw [I9,zFn,H4]
  split
  .exact ⟨DQ,fun p hp=>by rw [z1s.1 (show p∈[DI.mk path PM] from hp)];exact ⟨zna _,hpa⟩⟩
  .exact ⟨DQ,fun p hp=>by cases hp⟩
 have hfail:∀s,Y4 (path.length+AE v) (FV path s):=fun s=>⟨DQ,fun p hp=>by rw [z1s.1 (show p∈[DI.mk path s] from hp)];exact ⟨Nat.le_add_right _ _,hpa⟩⟩
 refine F0 (Q:=fun R=>Y4 (path.length+AE v) R) (fun s _=>hfail s) (fun h0=>?_) (fun _ _=>?_) (fun _ _ _ x hx=>?_) (fun h6 _ _ on _ _ _=>?_)
 .rw [H4]
  split
  .exact hfail _
  .exact ⟨DQ,fun p hp=>by cases hp⟩
 .have hr:∀r∈FN (v.items.map (A6 doc)) 0 tn (Cg (B0 tw)) picks path,Y4 (path.length+AE v) r:=fun r hr=>by
   obtain ⟨i,f,e1,e2,_⟩:=N5 _ _ _ _ _ _ _ hr
   rw [List.getElem?_map] at e1
   cases ex:v.items[i]? with
   |none=>rw [ex] at e1;cases e1
   |some x=>
    rw [ex] at e1
    cases e1
    have hm:=zla ex
    have hw:=BS hm
    subst e2
    refine (ih x hm (hv.x hm) _ _ _ _ MF (Lm hpa (Aa2 _))).mono ?_
    rw [zld,A9 v]
    simp only [zlc,zle]
    omega
  refine ⟨?_,fun p hp=>?_⟩
  .dsimp only [Gs]
   split
   .exact DQ
   .refine .mk _ ?_ (by show (0:Nat)*16<=_;omega) fun x hx=>?_
    .show ((FN _ 0 tn _ picks path).map (·.1)).length*80<=_
     rw [zlv,J6,zlv]
     exact hv.i
    .obtain ⟨r,hm,rfl⟩:=List.mem_map.1 (show x∈(FN _ 0 tn _ picks path).map (·.1) from hx)
     exact (hr r hm).1
  .obtain ⟨r,hm,hq⟩:=List.mem_flatMap.1 (show p∈(FN _ 0 tn _ picks path).flatMap (·.2) from hp)
   exact (hr r hm).2 p hq
 .obtain ⟨_,_,h3,h4⟩:=MQ hx
  exact ⟨IS h3 h4,fun p hp=>by cases hp⟩
 .have hr:∀r∈Gd v.keys (v.items.map (A6 doc)) on path picks,Y4 (path.length+AE v) r.2:=fun r hr=>by
   obtain ⟨hm,_,e⟩:=SX h6 hr
   rw [e]
   cases hg:AB v r.1.key with
   |none=>
    refine (hz _ _ _ _ (Lm hpa (Tu _))).mono ?_
    have:=C7 v
    rw [zld]
    simp only [zlc,zle]
    omega
   |some x=>
    have hx:=CG hg
    have hw:=BS hx
    refine (ih x hx (hv.x hx) _ _ _ _ (MF.x hm) (Lm hpa (Tu _))).mono ?_
    rw [zld,A9 v]
    simp only [zlc,zle]
    omega
  have AZ:(Gd v.keys (v.items.map (A6 doc)) on path picks).length<=1000000000:=by
   unfold Gd
   rw [zlv]
   have:=List.length_filter_le (fun p:Pk=>decide (p.on=on)) picks
   have:=MF.len
   omega
  refine ⟨?_,fun p hp=>?_⟩
  .dsimp only [KH]
   split
   .exact DQ
   .refine .mk _ ?_ ?_ fun x hx=>?_
    .show ((Gd v.keys (v.items.map (A6 doc)) on path picks).map (·.2.1)).length*80<=_
     rw [zlv];omega
    .show ((Gd v.keys (v.items.map (A6 doc)) on path picks).map (·.1.key)).length*16<=_
     rw [zlv];omega
    .obtain ⟨r,hm,rfl⟩:=List.mem_map.1 (show x∈(Gd v.keys (v.items.map (A6 doc)) on path picks).map (·.2.1) from hx)
     exact (hr r hm).1
  .obtain ⟨r,hm,hq⟩:=List.mem_flatMap.1 (show p∈(Gd v.keys (v.items.map (A6 doc)) on path picks).flatMap (·.2.2) from hp)
   exact (hr r hm).2 p hq
open Go.Eng Go.KL
set_option maxRecDepth 100000
def ck5:CC:=cK (a:=cF [] [] [(83,[12,9,11])] f5) (by delta f5;simp (config := { maxSteps := 9999999 }) only [go_sem];rfl)
theorem cc5:A4 f5=(false,some ck5.erase,some [(.t 6)]):=by kernel_rfl
def ck6:CC:=cK (a:=cF [] [] [] f6) (by delta f6;simp (config := { maxSteps := 9999999 }) only [go_sem];rfl)
theorem cc6:A4 f6=(false,some ck6.erase,some [(.t 6)]):=by kernel_rfl
def ck22:CC:=cK (a:=cF [] [] [] f22) (by delta f22;simp only [go_sem];rfl)
theorem cc22:A4 f22=(false,some ck22.erase,some [(.t 2)]):=by kernel_rfl
def ck23:CC:=cK (a:=cF [] [] [] f23) (by delta f23;simp only [go_sem];rfl)
theorem cc23:A4 f23=(false,some ck23.erase,some [(.t 2)]):=by kernel_rfl
def ck24:CC:=cK (a:=cF [] [] [] f24) (by delta f24;simp only [go_sem];rfl)
theorem cc24:A4 f24=(false,some ck24.erase,some [(.t 4)]):=by kernel_rfl
def ck27:CC:=cK (a:=cF [] [] [] f27) (by delta f27;simp only [go_sem];rfl)
theorem cc27:A4 f27=(false,some ck27.erase,some [(.t 2)]):=by kernel_rfl
def ck28:CC:=cK (a:=cF [] [] [] f28) (by delta f28;simp only [go_sem];rfl)
theorem cc28:A4 f28=(false,some ck28.erase,some [(.c 4 5 true)]):=by kernel_rfl
def ck42:CC:=cK (a:=cF [] [] [] f42) (by delta f42;simp (config := { maxSteps := 9999999 }) only [go_sem];rfl)
theorem cc42:A4 f42=(false,some ck42.erase,some [(.t 2)]):=by kernel_rfl
def ck43:CC:=cK (a:=cF [] [] [] f43) (by delta f43;simp (config := { maxSteps := 9999999 }) only [go_sem];rfl)
theorem cc43:A4 f43=(false,some ck43.erase,some [(.t 4)]):=by kernel_rfl
def ck44:CC:=cK (a:=cF [] [] [] f44) (by delta f44;simp only [go_sem];rfl)
theorem cc44:A4 f44=(false,some ck44.erase,some [(.t 2)]):=by kernel_rfl
def ck45:CC:=cK (a:=cF [] [] [] f45) (by delta f45;simp (config := { maxSteps := 9999999 }) only [go_sem];rfl)
theorem cc45:A4 f45=(false,some ck45.erase,some [(.t 2)]):=by kernel_rfl
def ck47:CC:=cK (a:=cF [] [] [] f47) (by delta f47;simp only [go_sem];rfl)
theorem cc47:A4 f47=(false,some ck47.erase,some [(.t 2)]):=by kernel_rfl
def ck48:CC:=cK (a:=cF [] [] [] f48) (by delta f48;simp (config := { maxSteps := 9999999 }) only [go_sem];rfl)
theorem cc48:A4 f48=(false,some ck48.erase,some [(.t 8)]):=by kernel_rfl
def ck50:CC:=cK (a:=cF [] [] [] f50) (by delta f50;simp (config := { maxSteps := 9999999 }) only [go_sem];rfl)
theorem cc50:A4 f50=(false,some ck50.erase,some [(.c 4 5 true)]):=by kernel_rfl
def ck51:CC:=cK (a:=cF [] [] [] f51) (by delta f51;simp only [go_sem];rfl)
theorem cc51:A4 f51=(false,some ck51.erase,some [(.t 2)]):=by kernel_rfl
def ck53:CC:=cK (a:=cF [] [] [(15,[4,2])] f53) (by delta f53;simp only [go_sem];rfl)
theorem cc53:A4 f53=(false,some ck53.erase,some [(.c 6 5 true),(.t 7)]):=by kernel_rfl
def ck54:CC:=cK (a:=cF [] [] [] f54) (by delta f54;simp only [go_sem];rfl)
theorem cc54:A4 f54=(false,some ck54.erase,some [(.t 4)]):=by kernel_rfl
def ck55:CC:=cK (a:=cF [] [] [] f55) (by delta f55;simp only [go_sem];rfl)
theorem cc55:A4 f55=(false,some ck55.erase,some [(.t 6)]):=by kernel_rfl
def ck79:CC:=cK (a:=cF [] [] [] f79) (by delta f79;simp (config := { maxSteps := 9999999 }) only [go_sem];rfl)
theorem cc79:A4 f79=(false,some ck79.erase,some [(.t 2)]):=by kernel_rfl
def ck80:CC:=cK (a:=cF [] [] [] f80) (by delta f80;simp only [go_sem];rfl)
theorem cc80:A4 f80=(false,some ck80.erase,some [(.t 2)]):=by kernel_rfl
def ck81:CC:=cK (a:=cF [] [] [] f81) (by delta f81;simp only [go_sem];rfl)
theorem cc81:A4 f81=(false,some ck81.erase,some [(.t 4)]):=by kernel_rfl
def ck82:CC:=cK (a:=cF [] [] [] f82) (by delta f82;simp only [go_sem];rfl)
theorem cc82:A4 f82=(false,some ck82.erase,some [(.t 2)]):=by kernel_rfl
def ck83:CC:=cK (a:=cF [] [] [] f83) (by delta f83;simp (config := { maxSteps := 9999999 }) only [go_sem];rfl)
theorem cc83:A4 f83=(false,some ck83.erase,some [(.t 4)]):=by kernel_rfl
def ck84:CC:=cK (a:=cF [] [] [] f84) (by delta f84;simp (config := { maxSteps := 9999999 }) only [go_sem];rfl)
theorem cc84:A4 f84=(false,some ck84.erase,some [(.t 4)]):=by kernel_rfl
def ck85:CC:=cK (a:=cF [] [] [] f85) (by delta f85;simp only [go_sem];rfl)
theorem cc85:A4 f85=(false,some ck85.erase,some [(.t 2)]):=by kernel_rfl
def ck86:CC:=cK (a:=cF [] [] [] f86) (by delta f86;simp (config := { maxSteps := 9999999 }) only [go_sem];rfl)
theorem cc86:A4 f86=(false,some ck86.erase,some [(.t 8)]):=by kernel_rfl
def ck87:CC:=cK (a:=cF [] [] [] f87) (by delta f87;simp (config := { maxSteps := 9999999 }) only [go_sem];rfl)
theorem cc87:A4 f87=(false,some ck87.erase,some [(.t 4)]):=by kernel_rfl
def ck88:CC:=cK (a:=cF [] [] [] f88) (by delta f88;simp only [go_sem];rfl)
theorem cc88:A4 f88=(false,some ck88.erase,some [(.t 4)]):=by kernel_rfl
def ck89:CC:=cK (a:=cF [] [] [] f89) (by delta f89;simp (config := { maxSteps := 9999999 }) only [go_sem];rfl)
theorem cc89:A4 f89=(false,some ck89.erase,some [(.t 10)]):=by kernel_rfl
def ck91:CC:=cK (a:=cF [] [] [] f91) (by delta f91;simp only [go_sem];rfl)
theorem cc91:A4 f91=(false,some ck91.erase,some [(.t 4)]):=by kernel_rfl
def ck92:CC:=cK (a:=cF [] [] [] f92) (by delta f92;simp (config := { maxSteps := 9999999 }) only [go_sem];rfl)
theorem cc92:A4 f92=(false,some ck92.erase,some [(.t 4)]):=by kernel_rfl
def ck95:CC:=cK (a:=cF [] [] [] f95) (by delta f95;simp only [go_sem];rfl)
theorem cc95:A4 f95=(false,some ck95.erase,some [(.t 4)]):=by kernel_rfl
def ck98:CC:=cK (a:=cF [] [] [(50,[15,14]),(51,[16,15,14])] f98) (by delta f98;simp (config := { maxSteps := 9999999 }) only [go_sem];rfl)
theorem cc98:A4 f98=(false,some ck98.erase,some []):=by kernel_rfl
def ck120:CC:=cK (a:=cF [] [] [] f120) (by delta f120;simp only [go_sem];rfl)
theorem cc120:A4 f120=(false,some ck120.erase,some [(.t 2)]):=by kernel_rfl
def ck121:CC:=cK (a:=cF [] [] [] f121) (by delta f121;simp only [go_sem];rfl)
theorem cc121:A4 f121=(false,some ck121.erase,some [(.t 2)]):=by kernel_rfl
def ck122:CC:=cK (a:=cF [] [] [] f122) (by delta f122;simp only [go_sem];rfl)
theorem cc122:A4 f122=(false,some ck122.erase,some [(.t 2)]):=by kernel_rfl
def ck124:CC:=cK (a:=cF [] [] [] f124) (by delta f124;simp only [go_sem];rfl)
theorem cc124:A4 f124=(false,some ck124.erase,some [(.t 8)]):=by kernel_rfl
def ck125:CC:=cK (a:=cF [] [] [] f125) (by delta f125;simp only [go_sem];rfl)
theorem cc125:A4 f125=(false,some ck125.erase,some [(.t 2)]):=by kernel_rfl
def ck126:CC:=cK (a:=cF [] [] [] f126) (by delta f126;simp only [go_sem];rfl)
theorem cc126:A4 f126=(false,some ck126.erase,some [(.t 4)]):=by kernel_rfl
def ck127:CC:=cK (a:=cF [] [] [] f127) (by delta f127;simp only [go_sem];rfl)
theorem cc127:A4 f127=(false,some ck127.erase,some [(.c 4 5 true),(.t 5)]):=by kernel_rfl
def ck128:CC:=cK (a:=cF [] [] [] f128) (by delta f128;simp only [go_sem];rfl)
theorem cc128:A4 f128=(false,some ck128.erase,some [(.t 4)]):=by kernel_rfl
def ck129:CC:=cK (a:=cF [] [] [] f129) (by delta f129;simp only [go_sem];rfl)
theorem cc129:A4 f129=(false,some ck129.erase,some [(.c 4 10 true),(.t 5)]):=by kernel_rfl
def ck130:CC:=cK (a:=cF [] [] [] f130) (by delta f130;simp only [go_sem];rfl)
theorem cc130:A4 f130=(false,some ck130.erase,some [(.t 4)]):=by kernel_rfl
def ck131:CC:=cK (a:=cF [] [] [] f131) (by delta f131;simp only [go_sem];rfl)
theorem cc131:A4 f131=(false,some ck131.erase,some [(.t 6)]):=by kernel_rfl
def ck133:CC:=cK (a:=cF [] [34] [] f133) (by delta f133;simp (config := { maxSteps := 9999999 }) only [go_sem];rfl)
theorem cc133:A4 f133=(false,some ck133.erase,some [(.t 6)]):=by kernel_rfl
def ck135:CC:=cK (a:=cF [] [] [] f135) (by delta f135;simp only [go_sem];rfl)
theorem cc135:A4 f135=(false,some ck135.erase,some [(.c 8 5 true),(.t 9)]):=by kernel_rfl
def ck138:CC:=cK (a:=cF [] [] [] f138) (by delta f138;simp only [go_sem];rfl)
theorem cc138:A4 f138=(false,some ck138.erase,some [(.t 2)]):=by kernel_rfl
def ck140:CC:=cK (a:=cF [] [1] [] f140) (by delta f140;simp only [go_sem];rfl)
theorem cc140:A4 f140=(false,some ck140.erase,some [(.c 0 2 true)]):=by kernel_rfl
def ck141:CC:=cK (a:=cF [] [] [] f141) (by delta f141;simp (config := { maxSteps := 9999999 }) only [go_sem];rfl)
theorem cc141:A4 f141=(false,some ck141.erase,some [(.t 6)]):=by kernel_rfl
def ck160:CC:=cK (a:=cF [] [] [] f160) (by delta f160;simp only [go_sem];rfl)
theorem cc160:A4 f160=(false,some ck160.erase,some [(.t 2)]):=by kernel_rfl
def ck161:CC:=cK (a:=cF [] [] [] f161) (by delta f161;simp only [go_sem];rfl)
theorem cc161:A4 f161=(false,some ck161.erase,some [(.t 8)]):=by kernel_rfl
def ck162:CC:=cK (a:=cF [] [] [] f162) (by delta f162;simp only [go_sem];rfl)
theorem cc162:A4 f162=(false,some ck162.erase,some [(.t 4)]):=by kernel_rfl
def ck163:CC:=cK (a:=cF [] [] [] f163) (by delta f163;simp (config := { maxSteps := 9999999 }) only [go_sem];rfl)
theorem cc163:A4 f163=(false,some ck163.erase,some [(.t 6)]):=by kernel_rfl
def ck164:CC:=cK (a:=cF [] [] [] f164) (by delta f164;simp only [go_sem];rfl)
theorem cc164:A4 f164=(false,some ck164.erase,some [(.t 4)]):=by kernel_rfl
def ck165:CC:=cK (a:=cF [] [] [] f165) (by delta f165;simp only [go_sem];rfl)
theorem cc165:A4 f165=(false,some ck165.erase,some [(.c 6 5 true),(.t 7)]):=by kernel_rfl
def ck167:CC:=cK (a:=cF [] [] [] f167) (by delta f167;simp only [go_sem];rfl)
theorem cc167:A4 f167=(false,some ck167.erase,some [(.c 6 5 true),(.t 7)]):=by kernel_rfl
def ck175:CC:=cK (a:=cF [] [] [] f175) (by delta f175;simp only [go_sem];rfl)
theorem cc175:A4 f175=(false,some ck175.erase,some [(.t 2)]):=by kernel_rfl
def ck176:CC:=cK (a:=cF [] [] [] f176) (by delta f176;simp (config := { maxSteps := 9999999 }) only [go_sem];rfl)
theorem cc176:A4 f176=(false,some ck176.erase,some [(.c 8 5 true)]):=by kernel_rfl
def ck180:CC:=cK (a:=cF [] [] [] f180) (by delta f180;simp only [go_sem];rfl)
theorem cc180:A4 f180=(false,some ck180.erase,some []):=by kernel_rfl
def ck182:CC:=cK (a:=cF [] [] [] f182) (by delta f182;simp only [go_sem];rfl)
theorem cc182:A4 f182=(false,some ck182.erase,some []):=by kernel_rfl
def ck183:CC:=cK (a:=cF [] [14] [] f183) (by delta f183;simp only [go_sem];rfl)
theorem cc183:A4 f183=(false,some ck183.erase,some [(.c 8 5 true)]):=by kernel_rfl
def ck184:CC:=cK (a:=cF [] [] [] f184) (by delta f184;simp (config := { maxSteps := 9999999 }) only [go_sem];rfl)
theorem cc184:A4 f184=(false,some ck184.erase,some [(.c 6 5 true)]):=by kernel_rfl
def ck185:CC:=cK (a:=cF [] [] [] f185) (by delta f185;simp only [go_sem];rfl)
theorem cc185:A4 f185=(false,some ck185.erase,some [(.c 6 5 true)]):=by kernel_rfl
def ck186:CC:=cK (a:=cF [] [] [] f186) (by delta f186;simp (config := { maxSteps := 9999999 }) only [go_sem];rfl)
theorem cc186:A4 f186=(false,some ck186.erase,some [(.c 8 5 true)]):=by kernel_rfl
def ck188:CC:=cK (a:=cF [] [] [] f188) (by delta f188;simp only [go_sem];rfl)
theorem cc188:A4 f188=(false,some ck188.erase,some [(.t 4)]):=by kernel_rfl
def ck189:CC:=cK (a:=cF [] [] [] f189) (by delta f189;simp only [go_sem];rfl)
theorem cc189:A4 f189=(false,some ck189.erase,some [(.c 8 5 true)]):=by kernel_rfl
set_option maxRecDepth 20000
def Y2 (w:List Int) (j:Nat):Bool:=match w[j]? with
 |none=>true
 |some a=>(decide (a=1)||decide (a=2))&&!(decide (0<j)&&decide (a=1)&&decide (w[j - 1]?=some 1))
def N0 (n:qB) (w:List Int):Bool:=FI n&&decide (w.length<=24)&&decide (∀j,j<w.length->Y2 w j=true)
theorem Le (n:qB) (w:List Int) (hw:w.length<=1000000000000) (hp:CH) (m:Nat):Ae prog 121 hp m [DW n w] (.b (N0 n w)):=by
 obtain ⟨R,hR⟩:=A7 (N0 n w)
 rw [hR]
 unfold N0 at hR
 obtain ⟨b,hb⟩:=A7 (FI n)
 have hN:=BN n
 rw [hb] at hN hR
 refine Al func121 (tA cc121) (tB cc121) (tC cc121) rfl fun hf=>?_;unfold ck121
 simp only [go_sem]
 refine Ac.f (hN _ _) ?_
 simp (disch:=omega) only [go_sem]
 refine Af (fun c=>?_) (fun c=>?_)
 .have:R=false:=by
   rw [<-hR]
   cases b with
   |false=>rfl
   |true=>simp at c;simp;omega
  subst this
  simp (disch:=omega) only [go_sem]
 have cb:b=true:=by cases b with | true=>rfl | false=>simp at c
 have c24:w.length<=24:=by
  subst cb
  simp at c
  omega
 subst cb
 rw [dT c24,zt,zt] at hR
 simp (disch:=omega) only [go_sem]
 refine loop (fun p:Nat×Nat=>⟨[(1,.bx m 0),(3,.i .i64 p.1)],(m,.bx [.s n,.ds (Ab D2 w)])::hp,p.2⟩) (fun p=>p.1<=w.length∧m+1<=p.2∧∀i,i<p.1->Y2 w i=true) (fun p=>w.length - p.1) (0,m+1) ?_ ?_ (fun ⟨j,k⟩ hj=>?_)
 .exact ⟨by simp,by simp,fun i h=>by omega⟩
 .refine Fo hf ?_ ?_ ?_ (zna _)
  all_goals (simp (disch:=omega) only [go_sem])
 dsimp only at hj
 obtain ⟨Cq,Be,At⟩:=hj
 simp (disch:=omega) only [go_sem]
 refine Af (fun q=>?_) (fun q=>?_)
 .have q:j<w.length:=by simpa using q
  obtain ⟨a,ea⟩:∃a,w[j]?=some a:=⟨w[j],by simp [q]⟩
  have stop:∀R',Y2 w j=false->R=R'->R'=false:=fun R' h e=>by
   rw [<-e,<-hR,decide_eq_false_iff_not]
   exact fun hh=>by have:=hh j q;rw [h] at this;cases this
  have jr:Y2 w j=((decide (a=1)||decide (a=2))&&!(decide (0<j)&&decide (a=1)&&decide (w[j - 1]?=some 1))):=by rw [Y2,ea]
  have next:∀(x:Bool),Y2 w j=true->∀i,i<j+1->Y2 w i=true:=fun _ h i hi=>by
   rcases Nat.lt_or_ge i j with w' | w'
   .exact At i w'
   .have:i=j:=by omega
    subst this;exact h
  by_cases a1:a=1
  .subst a1
   rcases Nat.eq_zero_or_pos j with j0 | j0
   .subst j0
    have jr:Y2 w 0=true:=by rw [jr];rfl
    simp (disch:=omega) only [q,Ad (Aa D2 ea),go_sem]
    refine ⟨(0+1,_),⟨by dsimp only;omega,by dsimp only;omega,next true jr⟩,by dsimp only;omega,Fo hf ?_ ?_ ?_ (zna _)⟩
    all_goals
     simp (disch:=omega) only [Ao 0 (by omega),go_sem]
     try rfl
   .obtain ⟨i,rfl⟩:∃i,j=i+1:=⟨j - 1,by omega⟩
    obtain ⟨b,eb⟩:∃b,w[i]?=some b:=⟨w[i]'(by omega),by simp [show i<w.length by omega]⟩
    rw [Nat.add_sub_cancel,eb] at jr
    have qi:i<w.length:=by omega
    have hm1:IntKind.wrap .i64 (((i+1:Nat):Int) - 1)=(i:Int):=by rw [show (((i+1:Nat):Int) - 1)=(i:Int) by omega];exact TA (by omega)
    simp (disch:=omega) only [q,qi,hm1,Ad (Aa D2 ea),Ad (Aa D2 eb),go_sem]
    refine Af (fun c=>?_) (fun c=>?_)
    .have c:b=1:=by simpa using c
     have:=stop R (by rw [jr,c];simp) rfl
     subst this
     simp (disch:=omega) only [go_sem]
    .have c:¬b=1:=by simpa using c
     have jr:Y2 w (i+1)=true:=by rw [jr];simp [c]
     simp (disch:=omega) only [go_sem]
     refine ⟨(i+1+1,_),⟨by dsimp only;omega,by dsimp only;omega,next true jr⟩,by dsimp only;omega,Fo hf ?_ ?_ ?_ (zna _)⟩
     all_goals
      simp (disch:=omega) only [Ao (i+1) (by omega),go_sem]
  .have a1d:decide (a=1)=false:=dF a1
   by_cases a2:a=2
   .subst a2
    have jr:Y2 w j=true:=by rw [jr];simp
    rcases Nat.eq_zero_or_pos j with j0 | j0
    .subst j0
     simp (disch:=omega) only [q,a1d,Ad (Aa D2 ea),go_sem]
     refine ⟨(0+1,_),⟨by dsimp only;omega,by dsimp only;omega,next true jr⟩,by dsimp only;omega,Fo hf ?_ ?_ ?_ (zna _)⟩
     all_goals
      simp (disch:=omega) only [Ao 0 (by omega),go_sem]
      try rfl
    .obtain ⟨i,rfl⟩:∃i,j=i+1:=⟨j - 1,by omega⟩
     simp (disch:=omega) only [q,a1d,Ad (Aa D2 ea),go_sem]
     refine ⟨(i+1+1,_),⟨by dsimp only;omega,by dsimp only;omega,next true jr⟩,by dsimp only;omega,Fo hf ?_ ?_ ?_ (zna _)⟩
     all_goals
      simp (disch:=omega) only [Ao (i+1) (by omega),go_sem]
   .have a2d:decide (a=2)=false:=dF a2
    have:=stop R (by rw [jr,a1d,a2d];rfl) rfl
    subst this
    simp (disch:=omega) only [q,a1d,a2d,Ad (Aa D2 ea),go_sem]
 .have q:j=w.length:=by simp at q;omega
  subst q
  rw [dT At] at hR
  subst hR
  simp (disch:=omega) only [go_sem]
theorem Jc (v:Ag) (hv:v.Fit) (hp:CH) (m:Nat):Ae prog 119 hp m [vx v] (.b (D9 true v)):=by
 rw [D9]
 refine Al func119 (tA cc119) (tB cc119) (tC cc119) rfl fun hf=>?_;unfold ck119
 simp only [go_sem]
 refine Ac.f (Nt v hv _ _) ?_
 simp only [go_sem]
 refine AH.f (fun _=>Mm v hv _ _) ?_
 simp only [go_sem]
 refine AH.f (fun _=>Pm v true hv _ _) ?_
 simp only [go_sem]
mutual
def Na:Ag->Bool
 | .mk k n s i ks=>clL i&&!decide (k=7)
def clL:List Ag->Bool
 | []=>true
 |v::r=>Na v&&clL r
end
theorem Zx (l:List Ag):clL l=l.all Na:=by
 induction l with
 |nil=>rw [clL];rfl
 |cons v l ih=>rw [clL,ih,z2a]
theorem Adh (v:Ag):Na v=(v.items.all Na&&!decide (v.k=7)):=by
 cases v
 rw [Na,Zx]
 rfl
theorem US (v:Ag) (hv:v.Fit) (ih:∀x∈v.items,∀hp m,Ae prog 120 hp m [vx x] (.b (Na x))) (hp:CH) (m:Nat):Ae prog 120 hp m [vx v] (.b (Na v)):=by
 have h3:=hv.i
 rw [Adh]
 obtain ⟨R,hR⟩:=A7 (v.items.all Na)
 rw [hR]
 refine Al func120 (tA cc120) (tB cc120) (tC cc120) rfl fun hf=>?_;unfold ck120
 simp only [go_sem]
 refine loop (fun p:Nat×Nat=>⟨[(1,.bx m 0),(3,.i .i64 p.1)],(m,.bx [.i .i64 v.k,.i .i64 v.n,.s v.s,.ds (Ab Aw v.items),.ds (Bq v.keys)])::hp,p.2⟩) (fun p=>p.1<=v.items.length∧m+1<=p.2∧R=(v.items.drop p.1).all Na) (fun p=>v.items.length - p.1) (0,m+1) ?_ ?_ (fun ⟨j,n⟩ hj=>?_)
 .exact ⟨by simp,by simp,hR.symm⟩
 .refine Fo hf ?_ ?_ ?_ (zna _)
  all_goals (simp (disch:=omega) only [go_sem])
 dsimp only at hj
 obtain ⟨Cq,Be,At⟩:=hj
 have BD:m<=n:=by omega
 simp (disch:=omega) only [go_sem]
 refine Af (fun q=>?_) (fun q=>?_)
 .have q:j<v.items.length:=by simpa using q
  obtain ⟨x,ex⟩:∃x,v.items[j]?=some x:=⟨v.items[j],by simp [q]⟩
  rw [A2 ex,z2a] at At
  have hx:=ih x (zla ex)
  simp (disch:=omega) only [q,Ad (Aa Aw ex),go_sem]
  refine Ac.f (hx _ _) ?_
  simp (disch:=omega) only [go_sem]
  refine Af (fun c=>?_) (fun c=>?_)
  .have c:Na x=false:=by simpa using c
   rw [c,zy] at At
   subst At
   simp (disch:=omega) only [BD,go_sem]
  .have c:Na x=true:=by simpa using c
   rw [c,zt] at At
   simp (disch:=omega) only [go_sem]
   refine ⟨(j+1,n),⟨by dsimp only;omega,by dsimp only;omega,At⟩,by dsimp only;omega,Dd ?_⟩
   simp (disch:=omega) only [Ao j (by omega),go_sem]
 .have q:j=v.items.length:=by simp at q;omega
  subst q
  rw [zll] at At
  have At:R=true:=At
  subst At
  simp (disch:=omega) only [BD,go_sem]
  try simp
theorem Ma (v:Ag):v.Fit->∀hp m,Ae prog 120 hp m [vx v] (.b (Na v)):=by
 refine Ag.ind (Q:=fun v=>v.Fit->∀hp m,Ae prog 120 hp m [vx v] (.b (Na v))) (fun v ih hv=>?_) v
 exact US v hv fun x hx=>ih x hx (hv.x hx)
def nlV (v:Ag):Bool:=decide (v.k=0)&&(decide (v.n=0)&&(decide (v.s=⟨#[]⟩)&&(decide (v.items.length=0)&&decide (v.keys.length=0))))
theorem ZQ (v:Ag) (hp:CH) (m:Nat):Ae prog 122 hp m [vx v] (.b (nlV v)):=by
 refine Al func122 (tA cc122) (tB cc122) (tC cc122) rfl fun hf=>?_;unfold ck122
 simp only [go_sem]
 unfold nlV
 simp [Bool.and_assoc]
def agR (a:GS):Bool:=FI a.n&&(D9 true a.v&&Na a.v)
def drR (d:G3):Bool:=FI d.n&&(decide (d.args.length<=16)&&d.args.all agR)
def dsR (l:List G3):Bool:=decide (l.length<=16)&&l.all drR
theorem PR (l:List G3) (hl:l.length<=1000000000) (hd:∀d∈l,M8 d) (hp:CH) (m:Nat):Ae prog 79 hp m [.ds (Ab F9 l)] (.b (dsR l)):=by
 unfold dsR
 obtain ⟨R,hR⟩:=A7 (l.all drR)
 rw [hR]
 refine Al func79 (tA cc79) (tB cc79) (tC cc79) rfl fun hf=>?_;unfold ck79
 simp only [go_sem]
 refine Af (fun q=>?_) (fun q=>?_)
 .have q:¬l.length<=16:=by simp at q;omega
  simp (disch:=omega) only [dF q,go_sem]
  try simp
 have q16:l.length<=16:=by simp at q;omega
 simp only [go_sem]
 refine loop (fun p:Nat×Nat=>⟨[(0,.ds (Ab F9 l)),(3,.i .i64 p.1)],hp,p.2⟩) (fun p=>p.1<=l.length∧m<=p.2∧R=(l.drop p.1).all drR) (fun p=>l.length - p.1) (0,m) ?_ ?_ (fun ⟨j,n⟩ hj=>?_)
 .exact ⟨by simp,by simp,hR.symm⟩
 .refine Dd ?_
  simp only [go_sem]
 dsimp only at hj
 obtain ⟨Cq,Be,At⟩:=hj
 simp (disch:=omega) only [go_sem]
 refine Af (fun q=>?_) (fun q=>?_)
 case' refine_2=>
  have q:j=l.length:=by simp at q;omega
  subst q
  rw [zll] at At
  have At:R=true:=At
  subst At
  simp (disch:=omega) only [Be,dT q16,go_sem]
  try simp
 have q:j<l.length:=by simpa using q
 obtain ⟨x,ex⟩:∃x,l[j]?=some x:=⟨l[j],by simp [q]⟩
 have hx:=hd x (zla ex)
 rw [A2 ex,z2a] at At
 obtain ⟨D,hD⟩:=A7 (x.args.all agR)
 have hxr:drR x=(FI x.n&&(decide (x.args.length<=16)&&D)):=by rw [<-hD];rfl
 rw [hxr] at At
 simp (disch:=omega) only [q,Ad (Aa F9 ex),go_sem]
 have hN:=BN x.n
 cases hn:FI x.n with
 |false=>
  rw [hn] at hN At
  have At:R=false:=At
  subst At
  refine Ac.f (hN _ _) ?_
  simp (disch:=omega) only [Be,go_sem]
  try simp
 |true=>
 rw [hn] at hN At
 refine Ac.f (hN _ _) ?_
 simp (disch:=omega) only [q,Ad (Aa F9 ex),go_sem]
 refine Af (fun c=>?_) (fun c=>?_)
 .have c:¬x.args.length<=16:=by simp at c;omega
  have At:R=false:=by rw [At,dF c];rfl
  subst At
  simp (disch:=omega) only [Be,go_sem]
  try simp
 have c2:x.args.length<=16:=by simp at c;omega
 rw [dT c2,zt,zt] at At
 have hDl:x.args.length<=1000000000:=hx.1
 simp (disch:=omega) only [go_sem]
 refine loop (fun p:Nat×Nat=>⟨[(0,.ds (Ab F9 l)),(3,.i .i64 j),(4,.i .i64 p.1)],hp,p.2⟩) (fun p=>p.1<=x.args.length∧n<=p.2∧D=(x.args.drop p.1).all agR) (fun p=>x.args.length - p.1) (0,n) ?_ ?_ (fun ⟨i,o⟩ hi=>?_)
 .exact ⟨by simp,by simp,hD.symm⟩
 .refine Dd ?_
  simp only [go_sem]
 dsimp only at hi
 obtain ⟨NN,Is,Ed⟩:=hi
 have hmo:m<=o:=by omega
 simp (disch:=omega) only [q,Ad (Aa F9 ex),go_sem]
 refine Af (fun q2=>?_) (fun q2=>?_)
 .have q2:i<x.args.length:=by simpa using q2
  obtain ⟨y,ey⟩:∃y,x.args[i]?=some y:=⟨x.args[i],by simp [q2]⟩
  have hy:=hx.2 y (zla ey)
  rw [A2 ey,z2a] at Ed
  simp (disch:=omega) only [q,q2,Ad (Aa F9 ex),Ad (Aa B7 ey),go_sem]
  refine Ac.f (BN _ _ _) ?_
  simp (disch:=omega) only [go_sem]
  refine AH.f (fun _=>Jc _ hy _ _) ?_
  simp (disch:=omega) only [go_sem]
  refine AH.f (fun _=>Ma _ hy _ _) ?_
  simp (disch:=omega) only [go_sem]
  refine Af (fun c=>?_) (fun c=>?_)
  .have c:agR y=false:=by unfold agR;revert c;cases FI y.n<;>cases D9 true y.v<;>cases Na y.v<;>simp
   rw [c,zy] at Ed
   rw [Ed,zy] at At
   subst At
   simp (disch:=omega) only [hmo,go_sem]
   try simp
  .have c:agR y=true:=by unfold agR;revert c;cases FI y.n<;>cases D9 true y.v<;>cases Na y.v<;>simp
   rw [c,zt] at Ed
   simp (disch:=omega) only [go_sem]
   refine ⟨(i+1,_),⟨by dsimp only;omega,by dsimp only;omega,Ed⟩,by dsimp only;omega,wS0 hf ?_ ?_ (zna _)⟩
   .simp (disch:=omega) only [Ao i (by omega),go_sem]
   .intro k hk
    repeat rw [Ak _ _ (by omega)]
 .have q2:i=x.args.length:=by simp at q2;omega
  subst q2
  rw [zll] at Ed
  have Ed:D=true:=Ed
  rw [Ed,zt] at At
  simp (disch:=omega) only [go_sem]
  refine ⟨(j+1,o),⟨by dsimp only;omega,by dsimp only;omega,At⟩,by dsimp only;omega,Dd ?_⟩
  simp (disch:=omega) only [Ao j (by omega),go_sem]
open Classical in
def L6 (l:List (List AV)):Bool:=if h:E2 l then dsR (Classical.choose h) else false
theorem IF (l:List (List AV)) (h:E2 l) (hp:CH) (m:Nat):Ae prog 79 hp m [.ds l] (.b (L6 l)):=by
 obtain ⟨h1,h2,h3⟩:=Classical.choose_spec h
 have e:L6 l=dsR (Classical.choose h):=by unfold L6;rw [dif_pos h]
 have:=PR (Classical.choose h) h2 h3 hp m
 rw [<-h1,<-e] at this
 exact this
def inA (x:BG):Bool:=FI x.n&&(N0 x.tn x.tw&&dsR x.dirs)
def inB (x:BG):Bool:=(x.has&&(D9 true x.d&&Na x.d))||(!x.has&&nlV x.d)
def isR (l:List BG):Bool:=decide (l.length<=16)&&l.all fun x=>inA x&&inB x
theorem QN (l:List BG) (hl:l.length<=1000000000) (hd:∀d∈l,Hi d) (hp:CH) (m:Nat):Ae prog 82 hp m [.ds (Ab AD l)] (.b (isR l)):=by
 unfold isR
 obtain ⟨R,hR⟩:∃R,(l.all fun x=>inA x&&inB x)=R:=⟨_,rfl⟩
 rw [hR]
 refine Al func82 (tA cc82) (tB cc82) (tC cc82) rfl fun hf=>?_;unfold ck82
 simp only [go_sem]
 refine Af (fun q=>?_) (fun q=>?_)
 .have q:¬l.length<=16:=by simp at q;omega
  simp (disch:=omega) only [dF q,go_sem]
  try simp
 have q16:l.length<=16:=by simp at q;omega
 simp only [go_sem]
 refine loop (fun p:Nat×Nat=>⟨[(0,.ds (Ab AD l)),(3,.i .i64 p.1)],hp,p.2⟩) (fun p=>p.1<=l.length∧m<=p.2∧R=(l.drop p.1).all fun x=>inA x&&inB x) (fun p=>l.length - p.1) (0,m) ?_ ?_ (fun ⟨j,n⟩ hj=>?_)
 .exact ⟨by simp,by simp,hR.symm⟩
 .refine Dd ?_
  simp only [go_sem]
 dsimp only at hj
 obtain ⟨Cq,Be,At⟩:=hj
 simp (disch:=omega) only [go_sem]
 refine Af (fun q=>?_) (fun q=>?_)
 case' refine_2=>
  have q:j=l.length:=by simp at q;omega
  subst q
  rw [zll] at At
  have At:R=true:=At
  subst At
  simp (disch:=omega) only [Be,dT q16,go_sem]
  try simp
 have q:j<l.length:=by simpa using q
 obtain ⟨x,ex⟩:∃x,l[j]?=some x:=⟨l[j],by simp [q]⟩
 obtain ⟨x1,⟨x2,_⟩,x3,x4⟩:=hd x (zla ex)
 rw [A2 ex,z2a] at At
 have hX:=Le x.tn x.tw (by omega)
 have hDs:=PR x.dirs x3 x4
 simp (disch:=omega) only [q,Ad (Aa AD ex),go_sem]
 refine Ac.f (BN _ _ _) ?_
 simp (disch:=omega) only [go_sem]
 refine AH.f (fun _=>hX _ _) ?_
 simp (disch:=omega) only [go_sem]
 refine AH.f (fun _=>hDs _ _) ?_
 simp (disch:=omega) only [go_sem]
 refine Af (fun c=>?_) (fun c=>?_)
 .have c:inA x=false:=by unfold inA;revert c;cases FI x.n<;>cases N0 x.tn x.tw<;>cases dsR x.dirs<;>simp
  rw [c,zy,zy] at At
  subst At
  simp (disch:=omega) only [Be,go_sem]
  try simp
 have c:inA x=true:=by unfold inA;revert c;cases FI x.n<;>cases N0 x.tn x.tw<;>cases dsR x.dirs<;>simp
 rw [c,zt] at At
 have BD:m<=n:=Be
 simp (disch:=omega) only [go_sem]
 refine AH.f (fun _=>Jc _ x2 _ _) ?_
 simp (disch:=omega) only [go_sem]
 refine AH.f (fun _=>Ma _ x2 _ _) ?_
 simp (disch:=omega) only [go_sem]
 refine AH.f (fun _=>ZQ _ _ _) ?_
 simp (disch:=omega) only [go_sem]
 refine Af (fun c2=>?_) (fun c2=>?_)
 .have c2:inB x=false:=by unfold inB;revert c2;cases x.has<;>cases D9 true x.d<;>cases Na x.d<;>cases nlV x.d<;>simp
  rw [c2,zy] at At
  subst At
  simp (disch:=omega) only [Be,go_sem]
  try simp
 have c2:inB x=true:=by unfold inB;revert c2;cases x.has<;>cases D9 true x.d<;>cases Na x.d<;>cases nlV x.d<;>simp
 rw [c2,zt] at At
 simp (disch:=omega) only [go_sem]
 refine ⟨(j+1,_),⟨by dsimp only;omega,by dsimp only;omega,At⟩,by dsimp only;omega,wS0 hf ?_ ?_ (zna _)⟩
 .simp (disch:=omega) only [Ao j (by omega),go_sem]
 .intro k hk
  repeat rw [Ak _ _ (by omega)]
open Classical in
def MS (l:List (List AV)):Bool:=if h:Eb l then isR (Classical.choose h) else false
theorem Jl (l:List (List AV)) (h:Eb l) (hp:CH) (m:Nat):Ae prog 82 hp m [.ds l] (.b (MS l)):=by
 obtain ⟨h1,h2,h3⟩:=Classical.choose_spec h
 have e:MS l=isR (Classical.choose h):=by unfold MS;rw [dif_pos h]
 have:=QN (Classical.choose h) h2 h3 hp m
 rw [<-h1,<-e] at this
 exact this
