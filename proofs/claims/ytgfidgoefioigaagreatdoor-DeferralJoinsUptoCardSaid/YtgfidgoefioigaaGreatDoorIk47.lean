/- Proof. Conditions: none. -/
import Derived.Test.YtgfidgoefioigaaGreatDoorIk46
open List renaming mem_cons->zh,not_mem_nil->zm
open Go.Proofs.Tryz
open List renaming length_append->zld,length_nil->zle,append_assoc->zlf,cons_append->zlh,nil_append->zli
open Nat renaming le_refl->zna
namespace Go.Eng
set_option linter.unusedVariables false
theorem AK.cvA {P:Program} {f:FuncId} {hp:CH} {n:Nat} {args args':List AV} {i:Nat} {α β:AV} {R:CH->Nat->AV->Prop} (hi:args[i]?=some α) (he:YO hp α=some β) (ha:args'=args.set i β) (c:AK P f hp n args' R):AK P f hp n args R:=by
 subst ha
 refine ⟨c.1,fun h J w vs hs ra=>c.2 h J w vs hs ⟨by rw [List.length_set];exact ra.1,fun j γ v h1 h2=>?_⟩⟩
 by_cases e:i=j
 .subst e
  rw [List.getElem?_set_self (List.getElem?_eq_some_iff.1 hi).1] at h1
  cases h1
  exact .pu _ _ (HJ hs (ra.2 i _ v hi h2) he)
 .rw [List.getElem?_set_ne e] at h1
  exact ra.2 j γ v h1 h2
end Go.Eng
namespace Go.Proofs.YtgfidgoefioigaaGreatDoor
open Go.Eng
set_option linter.all false
set_option maxRecDepth 20000
set_option maxHeartbeats 4000000
section
variable {doc:List Av} {q:Pk} {v x c:Ag}
theorem Aff (k:qB) (on:qB) (c:Ag):AE (Cw [sT,k] [CY on,c])=AE c+AE (Cw [sT,k] [CY on]):=by
 rw [A9,A9 (Cw [sT,k] [CY on])]
 simp only [Cw,Ag.items_mk,Ag.keys_mk,BF]
 omega
theorem Zm (k:qB) (on:qB):AE (Cw [sT,k] [CY on])<=10:=by
 rw [A9]
 simp only [Cw,Ag.items_mk,Ag.keys_mk,BF,List.length_cons,zle]
 rw [A9]
 simp [CY,Ag.items_mk,Ag.keys_mk,BF]
structure LatF (doc:List Av) (q:Pk) (v x c:Ag):Prop where
 s:Sz q.picks v
 r:x.Rng
 w:AE x<=AE v
 cr:c.Rng
 cw:AE c<=AE x
theorem LatF.cnt (h:LatF doc q v x c) (on:qB) (ini:Int):AE (Cw [sT,q.key] [CY on,c])<=1000000000∧AE (Cw [sT,q.key] [CY on,c])*(1+A5 [Cx q ini])<=1000000000000:=by
 have h1:=Aff q.key on c
 have h2:=Zm q.key on
 have h3:=h.cw
 have h4:=h.w
 have h5:=h.s.w
 have h6:=h.s.c
 have h7:=C7 v
 have hk:A5 [Cx q ini]<=1+A5 q.picks:=by
  rw [A5,A5,Ci]
  have:=Om q.picks
  have e:(Cx q ini).picks=AP q.picks:=rfl
  rw [e]
  omega
 refine ⟨by omega,?_⟩
 have e1:AE (Cw [sT,q.key] [CY on,c])<=11*AE v:=by omega
 have e2:1+A5 [Cx q ini]<=2*(1+A5 q.picks):=by omega
 refine Nat.le_trans (Nat.mul_le_mul e1 e2) ?_
 have:11*AE v*(2*(1+A5 q.picks))=22*(AE v*(1+A5 q.picks)):=by rw [Nat.mul_mul_mul_comm]
 rw [this]
 omega
theorem LatF.fits (h:LatF doc q v x c) (FQ:q.tw.length<=1000000000000) (on:qB) (ini:Int):BQ [Cx q ini]∧(Cw [sT,q.key] [CY on,c]).Fit∧(Cw [sT,q.key] [CY on,c]).Rng:=by
 obtain ⟨h1,h2⟩:=h.cnt on ini
 refine ⟨.mk _ (by simp) (fun p hp=>?_) fun p hp=>?_,CN _ (by omega),KZ rfl fun y hy=>?_⟩
 .rw [List.mem_singleton.1 hp]
  show (if Ca q.tw=true then Cg q.tw else []).length<=_
  split
  .have:=P5 q.tw;omega
  .simp
 .rw [List.mem_singleton.1 hp]
  exact Pf h.s.p
 .simp only [Cw,Ag.items_mk,zh,zm,or_false] at hy
  rcases hy with rfl | rfl
  .exact KZ rfl (by simp [CY,Ag.items_mk])
  .exact h.cr
theorem LatF.out (h:LatF doc q v x c) (FQ:q.tw.length<=1000000000000) (on:qB) (ini:Int):(Nv doc on q ini c).2.length<=1000000000000∧(Nv doc on q ini c).1.Fit∧∀p∈(Nv doc on q ini c).2,p.p.length<=100000000000:=by
 obtain ⟨h1,h2⟩:=h.cnt on ini
 obtain ⟨f1,f2,f3⟩:=h.fits FQ on ini
 have e1:=Iy doc (Cw [sT,q.key] [CY on,c]) on [] [Cx q ini] []
 have e2:=Sq doc (Cw [sT,q.key] [CY on,c]) f2 on [] [Cx q ini] [] f1 (by simp)
 refine ⟨Nat.le_trans e1 h2,e2.1,fun p hp=>?_⟩
 have:=(e2.2 p hp).1
 simp at this
 omega
theorem LatF.run (hd:DocOk doc) (h:LatF doc q v x c) (FQ:q.tw.length<=1000000000000) (on:qB) (ini:Int) (hp:CH) (m:Nat) :
 Ae prog 15 hp m [B9 doc,.s on,.ds (Ab Bi [Cx q ini]),vx (Cw [sT,q.key] [CY on,c])] (.tp [vx (Nv doc on q ini c).1,.ds (Ab Dr (Nv doc on q ini c).2)]):=by
 obtain ⟨h1,h2⟩:=h.cnt on ini
 obtain ⟨f1,f2,f3⟩:=h.fits FQ on ini
 exact Sh doc hd on [Cx q ini] f1 _ f2 f3 (by omega) h2 hp m
def Agg (doc:List Av) (q:Pk):Prop:=∀(v data:Ag) (path:List Ag) (hp:CH) (c kp gp:Nat) (P:List DM) (n:Nat),Sz q.picks v->v.k=6->data.Fit->path.length+AE v<=1000000000->RunS doc hp c kp gp P ->
 P.length+(C4 doc q v data path).length<=100000000000->AO prog 56 hp n [.bx c 0,vx v,pkx q,vx data,.ds (Ab Aw path)] (Jv doc c kp gp P (C4 doc q v data path)++hp) n (.tp [])
theorem VQ (h:v.Rng) (q:Pk):(Ba v q).Rng:=by
 unfold Ba
 cases e:AB v q.key with
 |none=>exact Ako
 |some x=>exact h.x (CG e)
theorem S6 (v:Ag) (q:Pk):AE (Ba v q)<=AE v:=by
 unfold Ba
 cases e:AB v q.key with
 |none=>exact C7 v
 |some x=>
  have h1:=BS (CG e)
  have h2:=A9 v
  show AE x<=AE v
  omega
theorem YH (v:Ag) (q:Pk) (h:(Ba v q).k=5∨(Ba v q).k=6):AE (Ba v q)+1<=AE v:=by
 unfold Ba at h ⊢
 cases e:AB v q.key with
 |none=>rw [e] at h;exact absurd h (by decide)
 |some x=>
  have h1:=BS (CG e)
  have h2:=A9 v
  show AE x+1<=AE v
  omega
theorem Oi (doc:List Av) (EA:DocOk doc) (q:Pk) (FQ:q.tw.length<=1000000000000) (H:Nz doc q.picks):Agg doc q:=by
 intro v data path hp c kp gp P n sz v6 hd JH hR Fw
 have hWk:=Abe doc q H
 have hvf:=sz.fit
 have MF:=sz.p
 have hvw:=sz.w
 have hGr:=I4 v hvf q.key
 have hGd:=I4 data hd q.key
 unfold Nc at hGr hGd
 have hTx:=HL q.key
 have hJ:=Ib path [CY q.key] (by simp;omega)
 have raw_r:=VQ sz.r q
 have raw_l:=S6 v q
 have raw_t:=YH v q
 have don_f:(Ba data q).Fit:=Qj hd q.key
 have Hf:=GP doc q
 rw [Hf] at Fw ⊢
 have n2:=hR.n2
 have m2:¬kp=c:=fun e=>n2 e.symm
 have DV:∀R,(∀k,n<=k->gc hp k=.no)->wsLt n (Jv doc c kp gp P R):=fun R hf=>hR.wsLt hf
 obtain ⟨d8,hraw⟩:=A7 (Ba v q)
 obtain ⟨don,hdon⟩:=A7 (Ba data q)
 have hGr:∀hp m,Ae prog 96 hp m [vx v,.s q.key] (.tp [vx (Ba v q),.b (AB v q.key).isSome]):=hGr
 have hGd:∀hp m,Ae prog 96 hp m [vx data,.s q.key] (.tp [vx (Ba data q),.b (AB data q.key).isSome]):=hGd
 unfold NW at Fw ⊢
 rw [hraw] at hGr Fw raw_r raw_l raw_t ⊢
 rw [hdon] at hGd Fw don_f ⊢
 obtain ⟨b1,x9⟩:=A7 ((AB v q.key).isSome)
 obtain ⟨b2,ED⟩:=A7 ((AB data q.key).isSome)
 rw [x9] at hGr
 rw [ED] at hGd
 obtain ⟨CP,hhere⟩:=A7 (path++[CY q.key])
 rw [hhere] at hJ Fw ⊢
 have hhl:CP.length=path.length+1:=by rw [<-hhere];simp
 have szr:Sz q.picks d8:=sz.le sz.p raw_r raw_l (zna _)
 have hc:=hR.hc
 have hk:=hR.hk
 by_cases cA:q.initial=-1∨¬don.k=5∨¬d8.k=5
 .rw [iP cA] at Fw ⊢
  have hW:=fun Am n' (e1:RunS doc Am c kp gp P)=>hWk d8 don CP Am c kp gp P n' szr don_f (by omega) (fun h=>by have:=raw_t h;omega) e1 Fw
  obtain ⟨R,AC⟩:=A7 (CZ (C0 doc q.picks) d8 don CP)
  rw [AC] at Fw hW ⊢
  have DV:=DV R
  refine Cp func56 (tA cc956) (tB cc956) (tC cc956) rfl DV fun hf=>?_;unfold ck956
  obtain ⟨l1,l3⟩:=hR.lt hf
  simp (disch:=omega) only [go_sem]
  refine Ac.f (hGr _ _) ?_
  simp (disch:=omega) only [go_sem]
  refine Ac.f (hGd _ _) ?_
  simp (disch:=omega) only [go_sem]
  refine Ac.f (hTx _ _) ?_
  simp (disch:=omega) only [go_sem]
  refine Ac.f (hJ _ _) ?_
  simp (disch:=omega) only [go_sem]
  refine Af (fun g=>?_) (fun g=>?_)
  case' refine_2=>exact absurd cA (by simpa [not_or,and_assoc] using g)
  simp (disch:=omega) only [go_sem]
  refine Ac.x (hW _ _ (hR.of fun j hj=>by repeat rw [Ak _ _ (by omega)])) ?_
  simp only [Jv,zlh,zli]
  simp (disch:=omega) only [go_sem]
  refine IB ?_ ?_ fun j' MD j1 j3=>?_
  .simp (disch:=omega) only [n2,m2,go_sem]
  .simp (disch:=omega) only [n2,m2,go_sem]
  .simp only [AA]
   repeat rw [iN (by omega)]
 .rw [iN cA] at Fw ⊢
  have q1:¬q.initial=-1:=fun h=>cA (.inl h)
  have hri:=szr.fit.i
  have q2:don.k=5:=by omega
  have q3:d8.k=5:=by omega
  have hrt:=raw_t (.inl q3)
  obtain ⟨w,hw⟩:=A7 (NT q.initial d8.items.length)
  have hwl:w<=d8.items.length:=by rw [<-hw];exact Xk _ _
  have hE:=JQ d8 szr.fit q
  rw [hw] at hE Fw ⊢
  have hrw:=A9 d8
  have htd:=V6 d8.items w
  have szt:Sz q.picks (EB (d8.items.take w)):=szr.le sz.p (KZ rfl fun y hy=>raw_r.x (List.mem_of_mem_take hy)) (by rw [A9];simp only [EB,Ag.items_mk,Ag.keys_mk,zle];omega) (zna _)
  have hwt:AE (EB (d8.items.take w))<=AE d8:=by rw [A9];simp only [EB,Ag.items_mk,Ag.keys_mk,zle];omega
  obtain ⟨on,NK⟩:=A7 (typF v)
  have hT:=EK v hvf
  rw [NK] at hT Fw ⊢
  obtain ⟨L0,hL0⟩:=A7 (CZ (C0 doc q.picks) (EB (d8.items.take w)) don CP)
  obtain ⟨R,AC⟩:=A7 (L0++H5 doc (FH q) (C0 doc q.picks) on q.key (Cx q q.initial) CP (d8.items.drop w) w)
  rw [hL0,AC] at Fw ⊢
  have hL0R:L0.length<=R.length:=by rw [<-AC,zld];omega
  have hW0:=fun Am n' (e1:RunS doc Am c kp gp P)=>hWk (EB (d8.items.take w)) don CP Am c kp gp P n' szt don_f (by omega) (fun h=>by omega) e1 (by rw [hL0];omega)
  rw [hL0] at hW0
  have hIn:∀hp m,Ae prog 99 hp m [DW q.tn q.tw] (.tp [DW (Cx q q.initial).tn (Cx q q.initial).tw,.b (Ca q.tw)]):=fun hp m=>by
   have h:=Mj q.tn q.tw (by omega) hp m
   by_cases cl:Ca q.tw=true
   .rw [iP cl] at h
    have e1:(Cx q q.initial).tn=q.tn:=iP cl
    have e2:(Cx q q.initial).tw=Cg q.tw:=iP cl
    rw [e1,e2,cl]
    exact h
   .rw [iN cl] at h
    have e1:(Cx q q.initial).tn=⟨#[]⟩:=iN cl
    have e2:(Cx q q.initial).tw=[]:=iN cl
    rw [e1,e2,show Ca q.tw=false by simpa using cl]
    exact h
  have GE:Bi (Cx q q.initial)=[.s q.key,.s q.on,.s q.name,.ds (Ab B7 q.args),.s (Cx q q.initial).tn,.ds (Ab D2 (Cx q q.initial).tw),.s ⟨#[]⟩,.i .i64 q.initial,.ds (Ab Bi (AP q.picks))]:=by rw [Ch];rfl
  obtain ⟨otn,hotn⟩:=A7 ((Cx q q.initial).tn)
  obtain ⟨otw,hotw⟩:=A7 ((Cx q q.initial).tw)
  obtain ⟨lw,hlw⟩:=A7 (Ca q.tw)
  rw [hotn,hotw,hlw] at hIn
  rw [hotn,hotw] at GE
  have hPr:=Hx q.picks (by have:=sz.k;omega)
  have DV:=DV R
  have e3:0<=(w:Int)∧(w:Int)<=(d8.items.length:Int):=by omega
  refine Cp func56 (tA cc956) (tB cc956) (tC cc956) rfl DV fun hf=>?_;unfold ck956
  obtain ⟨l1,l3⟩:=hR.lt hf
  simp (disch:=omega) only [go_sem]
  refine Ac.f (hGr _ _) ?_
  simp (disch:=omega) only [go_sem]
  refine Ac.f (hGd _ _) ?_
  simp (disch:=omega) only [go_sem]
  refine Ac.f (hTx _ _) ?_
  simp (disch:=omega) only [go_sem]
  refine Ac.f (hJ _ _) ?_
  simp (disch:=omega) only [dF q1,dT q2,dT q3,go_sem]
  refine Ac.f (hE _ _) ?_
  simp (disch:=omega) only [e3.1,e3.2,true_and,go_sem]
  refine Au.w (ws:=Jv doc c kp gp P L0) (JL (hR.of fun j hj=>?_) (by omega) (by omega)) rfl (fun Am e=>AK.cvA (i:=1) (β:=vx (EB (d8.items.take w))) rfl rfl rfl (hW0 Am _ ⟨(e c (.inl (by omega))).trans ?_,(e kp (.inl (by omega))).trans ?_⟩)) ?_
  case refine_4=>
   simp only [Jv,zlh,zli]
   simp (disch:=omega) only [n2,m2,go_sem]
   refine Ac.f (hIn _ _) ?_
   simp (disch:=omega) only [n2,m2,go_sem]
   refine Au.f (fun _ _ _=>hPr _ _) ?_
   simp (disch:=omega) only [n2,m2,go_sem]
   refine loop (fun p:WkS=>match p with
    | .mk i L n'=>⟨[(0,.bx c 0),(6,.bx n 0),(7,.bx (n+1) 0),(10,.bx (n+3) 0),(14,.ds (Ab Aw CP)),(18,.bx (n+16) 0),(19,.i .i64 i)],(kp,.rw (gp+L.length) 8 (Ab DU (P++L)))::(c,.bx [.ds (Ab BB doc),.rw kp (gp+L.length) (P.length+L.length)]) ::
     (n+16,.bx [.s q.key,.s q.on,.s q.name,.ds (Ab B7 q.args),.s otn,.ds (Ab D2 otw),.s ⟨#[]⟩,.i .i64 q.initial,.ds (Ab Bi (AP q.picks))])::(n+3,.bx [.i .i64 d8.k,.i .i64 d8.n,.s d8.s,.ds (Ab Aw d8.items),.ds (Bq d8.keys)]) ::
     (n+1,.bx [.s q.key,.s q.on,.s q.name,.ds (Ab B7 q.args),.s q.tn,.ds (Ab D2 q.tw),.s q.label,.i .i64 q.initial,.ds (Ab Bi q.picks)])::(n,.bx [.i .i64 v.k,.i .i64 v.n,.s v.s,.ds (Ab Aw v.items),.ds (Bq v.keys)])::hp,n'⟩)
    (fun p=>match p with | .mk i L n'=>i<=d8.items.length∧n+17<=n'∧R=L++H5 doc (FH q) (C0 doc q.picks) on q.key (Cx q q.initial) CP (d8.items.drop i) i) (fun p=>match p with | .mk i L n'=>d8.items.length - i) (.mk w L0 (n+60)) ?_ ?_ (fun p hj=>?_)
   .exact ⟨hwl,show n+17<=n+60 by omega,AC.symm⟩
   .dsimp only
    refine wX6 hf ?_ ?_ ?_ ?_ ?_ ?_ ?_ (fun a ha d5=>?_) (by omega)
    .simp (disch:=omega) only [go_sem]
    .simp (disch:=omega) only [n2,m2,go_sem]
    .simp (disch:=omega) only [n2,m2,go_sem]
    .simp (disch:=omega) only [go_sem]
    .simp (disch:=omega) only [go_sem]
    .simp (disch:=omega) only [go_sem]
    .simp (disch:=omega) only [go_sem]
    .simp only [zh,zm,or_false,not_or] at d5
     repeat rw [Ak _ _ (by omega)]
   obtain ⟨i,L,n'⟩:=p
   obtain ⟨Cq,Be,At⟩:=hj
   have hLR:L.length<=R.length:=by rw [At,zld];omega
   dsimp only
   simp (disch:=omega) only [n2,m2,go_sem]
   refine Af (fun g=>?_) (fun g=>?_)
   case' refine_2=>
    have g:i=d8.items.length:=by simp at g;omega
    subst g
    rw [List.drop_length,H5,List.append_nil] at At
    subst At
    simp (disch:=omega) only [go_sem]
    refine IB ?_ ?_ fun j' MD j1 j3=>?_
    .simp (disch:=omega) only [n2,m2,go_sem]
    .simp (disch:=omega) only [n2,m2,go_sem]
    .simp only [AA]
     repeat rw [iN (by omega)]
   have g:i<d8.items.length:=by simpa using g
   obtain ⟨x,ex⟩:∃x,d8.items[i]?=some x:=⟨d8.items[i],by simp [g]⟩
   have Q0:=List.mem_of_getElem? ex
   have hxw:=BS Q0
   have hxr:=raw_r.x Q0
   have hlf:LatF doc q v x (FH q x):=⟨sz,hxr,by omega,Pu q x hxr,Ss q x⟩
   have hRun:=hlf.run EA FQ on q.initial
   obtain ⟨o1,o2,o3⟩:=hlf.out FQ on q.initial
   have hCu:=Aga q.picks sz.p x (by omega)
   rw [<-Eg] at hCu
   rw [A2 ex,Uk] at At
   have hI:=KW (i:Nat)
   have hJ2:=Ib CP [Ff (i:Nat)] (by simp;omega)
   have hTo:=HL on
   obtain ⟨cx,hcx⟩:=A7 (FH q x)
   rw [hcx] at hRun o1 o2 o3 hCu At
   obtain ⟨Q,hQ⟩:=A7 (Nv doc on q q.initial cx)
   rw [hQ] at hRun o1 o2 o3 At
   obtain ⟨j7,hat⟩:=A7 (CP++[Ff (i:Nat)])
   have hatl:j7.length=CP.length+1:=by rw [<-hat];simp
   rw [hat] at hJ2 At
   simp (disch:=omega) only [g,n2,m2,go_sem]
   refine Ac.f (hI _ _) ?_
   simp (disch:=omega) only [g,n2,m2,go_sem]
   refine Ac.f (hJ2 _ _) ?_
   simp (disch:=omega) only [g,n2,m2,go_sem]
   have u1:¬n'+2=n:=by omega
   refine ⟨u1,Au.f (fun _ _ _=>hT _ _) ?_⟩
   simp (disch:=omega) only [g,n2,m2,go_sem]
   refine Au.f (fun _ _ _=>hTo _ _) ?_
   have u2:¬n'+2=n+3:=by omega
   have u3:¬n'+2=n+1:=by omega
   simp (disch:=omega) only [g,n2,m2,u1,u2,u3,Ad (Aa Aw ex),go_sem]
   refine Au.f (fun _ _ _=>hCu _ _) ?_
   simp (disch:=omega) only [g,n2,m2,u1,u2,u3,go_sem]
   refine ⟨by omega,⟨by omega,by omega,by omega,by omega⟩,?_⟩
   refine Qd ((O2 (c:=n'+16) (i:=3) (k:=n'+14) (g:=0) (len:=2) (m:=5) (cs:=[.i .i64 6,.i .i64 0,.s ⟨#[]⟩,.rw (n'+14) 0 2,.rw (n'+2) 0 2]) (l:=Ab Aw [CY on,cx]) ?_ rfl ?_ (by rw [As];exact zna 2)).trans
    (O2 (c:=n'+16) (i:=4) (k:=n'+2) (g:=0) (len:=2) (m:=1) (cs:=[.i .i64 6,.i .i64 0,.s ⟨#[]⟩,.ds (Ab Aw [CY on,cx]),.rw (n'+2) 0 2]) (l:=Bq [sT,q.key]) ?_ rfl ?_ (by rw [Bq,As];exact zna 2))) ?_
   .simp (disch:=omega) only [go_sem]
   .simp (disch:=omega) only [go_sem]
   .simp (disch:=omega) only [go_sem]
    rfl
   .simp (disch:=omega) only [go_sem]
    rfl
   simp only [List.set_cons_succ,List.set_cons_zero]
   have tk:(Bq [sT,q.key]).take 2=Bq [sT,q.key]:=rfl
   rw [tk]
   simp only [vx,Cw,Ag.k_mk,Ag.n_mk,Ag.s_mk,Ag.items_mk,Ag.keys_mk,BX,Kx,GE,B3,Bq,C3] at hRun
   simp (disch:=omega) only [g,n2,m2,go_sem]
   refine Au.f (fun _ _ _=>hT _ _) ?_
   simp (disch:=omega) only [g,n2,m2,go_sem]
   refine Au.f (fun _ _ _=>hRun _ _) ?_
   simp (disch:=omega) only [g,n2,m2,go_sem]
   refine ⟨⟨by omega,by omega,by omega⟩,?_⟩
   have hGe:=I4 Q.1 o2 q.key
   unfold Nc at hGe
   have el_f:((AB Q.1 q.key).getD A8).Fit:=Qj o2 q.key
   have hMv:=OR Q.2 o1 o3 j7 (by omega) 1 (by decide)
   obtain ⟨el,JJ⟩:=A7 ((AB Q.1 q.key).getD A8)
   obtain ⟨b3,hb3⟩:=A7 ((AB Q.1 q.key).isSome)
   obtain ⟨MV,hMV⟩:=A7 (Gb Q.2 j7 1)
   rw [JJ,hb3] at hGe
   rw [JJ] at el_f At
   rw [hMV] at hMv At
   obtain ⟨W,hW⟩:=A7 (CZ (C0 doc q.picks) x el j7)
   rw [hW] at At
   have hLW:L.length+1+W.length<=R.length:=by rw [At,zld,List.length_cons,zld];omega
   refine Ac.f (hGe _ _) ?_
   have v1:¬n'+31=n:=by omega
   have v2:¬n'+31=c:=by omega
   have v3:¬n'+31=kp:=by omega
   have hPl:(Ab DU (P++L)).length=P.length+L.length:=by rw [As,zld]
   have k1:(P.length+(L.length+1))*144<=140737488355328:=by omega
   have k2:P.length+(L.length+1)<=9223372036854775807:=by omega
   have snp:Ab DU (P++L)++[[AV.s ⟨#[]⟩,.ds (Ab Aw j7),.i .i64 el.k,.i .i64 el.n,.s el.s,.ds (Ab Aw el.items),.ds (Bq el.keys),.ds (Ab Dr MV)]]=Ab DU (P++(L++[.mk ⟨#[]⟩ j7 el MV])):=by rw [<-zlf];exact Bd DU (P++L) (.mk ⟨#[]⟩ j7 el MV)
   simp (disch:=omega) only [g,n2,m2,v1,v2,v3,go_sem]
   refine Au.f (fun _ _ _=>hMv _ _) ?_
   simp (disch:=omega) only [g,n2,m2,v1,v2,v3,hPl,k1,k2,snp,true_and,Ad (Aa Aw ex),go_sem]
   have szx:Sz q.picks x:=szr.le sz.p hxr (by omega) (zna _)
   obtain ⟨L2,hL2⟩:=A7 (L++[DM.mk ⟨#[]⟩ j7 el MV])
   have hL2l:L2.length=L.length+1:=by rw [<-hL2];simp
   rw [hL2,<-hL2l]
   have hX:=fun Am n' (e1:RunS doc Am c kp (gp+L2.length) (P++L2))=>hWk x el j7 Am c kp (gp+L2.length) (P++L2) n' szx el_f (by omega) (fun _=>by omega) e1 (by rw [hW,zld];omega)
   rw [hW] at hX
   have At:R=L2++W++H5 doc (FH q) (C0 doc q.picks) on q.key (Cx q q.initial) CP (d8.items.drop (i+1)) (i+1):=by rw [At,<-hL2];simp
   refine Au.w (ws:=Jv doc c kp (gp+L2.length) (P++L2) W) (JL ⟨?_,?_⟩ (by omega) (by omega)) rfl (fun Am e=>hX Am _ ⟨(e c (.inl (by omega))).trans ?_,(e kp (.inl (by omega))).trans ?_⟩) ?_
   case refine_5=>
    simp only [Jv,zlh,zli]
    simp (disch:=omega) only [n2,m2,go_sem]
    refine ⟨.mk (i+1) (L2++W) (n'+100),⟨show i+1<=d8.items.length by omega,show n+17<=n'+100 by omega,At⟩,by show d8.items.length - (i+1)<d8.items.length - i;omega,?_⟩
    dsimp only
    refine wX6 hf ?_ ?_ ?_ ?_ ?_ ?_ ?_ (fun a ha d5=>?_) (by omega)
    .simp (disch:=omega) only [Ao i (by omega),go_sem]
    .simp (disch:=omega) only [zld,zlf,Nat.add_assoc,go_sem]
    .simp (disch:=omega) only [n2,m2,zld,zlf,Nat.add_assoc,go_sem]
    .simp (disch:=omega) only [go_sem]
    .simp (disch:=omega) only [go_sem]
    .simp (disch:=omega) only [go_sem]
    .simp (disch:=omega) only [go_sem]
    .simp only [zh,zm,or_false,not_or] at d5
     repeat rw [Ak _ _ (by omega)]
   all_goals (simp (disch:=omega) only [n2,m2,zld,go_sem])
  .repeat rw [Ak _ _ (by omega)]
  . (repeat rw [Ak _ _ (by omega)])
    exact hc
  . (repeat rw [Ak _ _ (by omega)])
    exact hk
end
