/- Proof. Conditions: none. -/
import Derived.Test.YtgfidgoefioigaaGreatDoorIj45
open List renaming mem_cons->zh,not_mem_nil->zf
open Go.Proofs.Tryz
open List renaming length_append->zld,length_nil->zle,append_assoc->zlf,cons_append->zlh,nil_append->zli
open Nat renaming le_refl->zna
namespace Go.Eng
set_option linter.unusedVariables false
theorem AO.cvA {P:Program} {f:FuncId} {hp:CH} {n:Nat} {args args':List AV} {i:Nat} {U β:AV} {R:CH->Nat->AV->Prop} (hi:args[i]?=some U) (he:Zz hp U=some β) (ha:args'=args.set i β) (c:AO P f hp n args' R):AO P f hp n args R:=by
 subst ha
 refine ⟨c.1,fun h J w vs hs ra=>c.2 h J w vs hs ⟨by rw [List.length_set];exact ra.1,fun j γ v h1 h2=>?_⟩⟩
 by_cases e:i=j
 .subst e
  rw [List.getElem?_set_self (List.getElem?_eq_some_iff.1 hi).1] at h1
  cases h1
  exact .pu _ _ (Ig hs (ra.2 i _ v hi h2) he)
 .rw [List.getElem?_set_ne e] at h1
  exact ra.2 j γ v h1 h2
end Go.Eng
namespace Go.Proofs.YtgfidgoefioigaaGreatDoor
open Go.Eng
set_option linter.all false
set_option maxRecDepth 20000
set_option maxHeartbeats 4000000
section
variable {doc:List Aw} {q:Pk} {v x c:Ag}
theorem Afu (k:qB) (on:qB) (c:Ag):AG (EV [sT,k] [CW on,c])=AG c+AG (EV [sT,k] [CW on]):=by
 rw [AE,AE (EV [sT,k] [CW on])]
 simp only [EV,Ag.items_mk,Ag.keys_mk,Ci]
 omega
theorem ZA (k:qB) (on:qB):AG (EV [sT,k] [CW on])<=10:=by
 rw [AE]
 simp only [EV,Ag.items_mk,Ag.keys_mk,Ci,List.length_cons,zle]
 rw [AE]
 simp [CW,Ag.items_mk,Ag.keys_mk,Ci]
structure LatF (doc:List Aw) (q:Pk) (v x c:Ag):Prop where
 s:Sz q.picks v
 r:x.Rng
 w:AG x<=AG v
 cr:c.Rng
 cw:AG c<=AG x
theorem LatF.cnt (h:LatF doc q v x c) (on:qB) (ini:Int):AG (EV [sT,q.key] [CW on,c])<=1000000000∧AG (EV [sT,q.key] [CW on,c])*(1+AF [B5 q ini])<=1000000000000:=by
 have h1:=Afu q.key on c
 have h2:=ZA q.key on
 have h3:=h.cw
 have h4:=h.w
 have h5:=h.s.w
 have h6:=h.s.c
 have h7:=CT v
 have hk:AF [B5 q ini]<=1+AF q.picks:=by
  rw [AF,AF,Cs]
  have:=K6 q.picks
  have e:(B5 q ini).picks=AM q.picks:=rfl
  rw [e]
  omega
 refine ⟨by omega,?_⟩
 have e1:AG (EV [sT,q.key] [CW on,c])<=11*AG v:=by omega
 have e2:1+AF [B5 q ini]<=2*(1+AF q.picks):=by omega
 refine Nat.le_trans (Nat.mul_le_mul e1 e2) ?_
 have:11*AG v*(2*(1+AF q.picks))=22*(AG v*(1+AF q.picks)):=by rw [Nat.mul_mul_mul_comm]
 rw [this]
 omega
theorem LatF.fits (h:LatF doc q v x c) (DG:q.tw.length<=1000000000000) (on:qB) (ini:Int):B6 [B5 q ini]∧(EV [sT,q.key] [CW on,c]).Fit∧(EV [sT,q.key] [CW on,c]).Rng:=by
 obtain ⟨h1,h2⟩:=h.cnt on ini
 refine ⟨.mk _ (by simp) (fun p hp=>?_) fun p hp=>?_,CZ _ (by omega),Gf rfl fun y hy=>?_⟩
 .rw [List.mem_singleton.1 hp]
  show (if Cu q.tw=true then DM q.tw else []).length<=_
  split
  .have:=Lw q.tw;omega
  .simp
 .rw [List.mem_singleton.1 hp]
  exact Lh h.s.p
 .simp only [EV,Ag.items_mk,zh,zf,or_false] at hy
  rcases hy with rfl | rfl
  .exact Gf rfl (by simp [CW,Ag.items_mk])
  .exact h.cr
theorem LatF.out (h:LatF doc q v x c) (DG:q.tw.length<=1000000000000) (on:qB) (ini:Int):(EW doc on q ini c).2.length<=1000000000000∧(EW doc on q ini c).1.Fit∧∀p∈(EW doc on q ini c).2,p.p.length<=100000000000:=by
 obtain ⟨h1,h2⟩:=h.cnt on ini
 obtain ⟨f1,f2,f3⟩:=h.fits DG on ini
 have e1:=E6 doc (EV [sT,q.key] [CW on,c]) on [] [B5 q ini] []
 have e2:=Im doc (EV [sT,q.key] [CW on,c]) f2 on [] [B5 q ini] [] f1 (by simp)
 refine ⟨Nat.le_trans e1 h2,e2.1,fun p hp=>?_⟩
 have:=(e2.2 p hp).1
 simp at this
 omega
theorem LatF.run (hd:DocOk doc) (h:LatF doc q v x c) (DG:q.tw.length<=1000000000000) (on:qB) (ini:Int) (hp:CH) (m:Nat) :
 Af prog 15 hp m [B0 doc,.s on,.ds (Ab AJ [B5 q ini]),vx (EV [sT,q.key] [CW on,c])] (.tp [vx (EW doc on q ini c).1,.ds (Ab BD (EW doc on q ini c).2)]):=by
 obtain ⟨h1,h2⟩:=h.cnt on ini
 obtain ⟨f1,f2,f3⟩:=h.fits DG on ini
 exact SJ doc hd on [B5 q ini] f1 _ f2 f3 (by omega) h2 hp m
theorem LatF.rrun (hd:DocOk doc) (h:LatF doc q v x c) (DG:q.tw.length<=1000000000000) (on:qB) (ini:Int) (hp:CH) (m:Nat) :
 Af prog 30 hp m [B0 doc,.s on,.ds (Ab AJ [B5 q ini]),vx (EV [sT,q.key] [CW on,c])] (.tp [vx (EW doc on q ini c).1,.ds (Ab BD (EW doc on q ini c).2)]):=by
 obtain ⟨h1,h2⟩:=h.cnt on ini
 obtain ⟨f1,f2,f3⟩:=h.fits DG on ini
 exact S5 doc hd on [B5 q ini] f1 _ f2 f3 (by omega) h2 hp m
def Agt (doc:List Aw) (q:Pk):Prop:=∀(v data:Ag) (path:List Ag) (hp:CH) (c kp gp:Nat) (P:List DB) (n:Nat),Sz q.picks v->v.k=6->data.Fit->path.length+AG v<=1000000000->RunS doc hp c kp gp P ->
 P.length+(C3 doc q v data path).length<=100000000000->AU prog 56 hp n [.bx c 0,vx v,pkx q,vx data,.ds (Ab Ar path)] (JS doc c kp gp P (C3 doc q v data path)++hp) n (.tp [])
theorem KH (h:v.Rng) (q:Pk):(AW v q).Rng:=by
 unfold AW
 cases e:AA v q.key with
 |none=>exact Akx
 |some x=>exact h.x (CB e)
theorem NM (v:Ag) (q:Pk):AG (AW v q)<=AG v:=by
 unfold AW
 cases e:AA v q.key with
 |none=>exact CT v
 |some x=>
  have h1:=B1 (CB e)
  have h2:=AE v
  show AG x<=AG v
  omega
theorem N2 (v:Ag) (q:Pk) (h:(AW v q).k=5∨(AW v q).k=6):AG (AW v q)+1<=AG v:=by
 unfold AW at h ⊢
 cases e:AA v q.key with
 |none=>rw [e] at h;exact absurd h (by decide)
 |some x=>
  have h1:=B1 (CB e)
  have h2:=AE v
  show AG x+1<=AG v
  omega
theorem OO (doc:List Aw) (CI:DocOk doc) (q:Pk) (DG:q.tw.length<=1000000000000) (H:Og doc q.picks):Agt doc q:=by
 intro v data path hp c kp gp P n sz v6 hd FM hR Da
 have hWk:=Abq doc q H
 have hvf:=sz.fit
 have Ht:=sz.p
 have hvw:=sz.w
 have TT:=IY v hvf q.key
 have TR:=IY data hd q.key
 unfold KQ at TT TR
 have hTx:=Il q.key
 have hJ:=I6 path [CW q.key] (by simp;omega)
 have m6:=KH sz.r q
 have p8:=NM v q
 have m9:=N2 v q
 have q8:(AW data q).Fit:=GU hd q.key
 have Fn:=Hl doc q
 rw [Fn] at Da ⊢
 have n2:=hR.n2
 have m2:¬kp=c:=fun e=>n2 e.symm
 have Dg:∀R,(∀k,n<=k->gc hp k=.no)->wsLt n (JS doc c kp gp P R):=fun R hf=>hR.wsLt hf
 obtain ⟨raw,hraw⟩:=A5 (AW v q)
 obtain ⟨y7,hdon⟩:=A5 (AW data q)
 have TT:∀hp m,Af prog 96 hp m [vx v,.s q.key] (.tp [vx (AW v q),.b (AA v q.key).isSome]):=TT
 have TR:∀hp m,Af prog 96 hp m [vx data,.s q.key] (.tp [vx (AW data q),.b (AA data q.key).isSome]):=TR
 unfold OE at Da ⊢
 rw [hraw] at TT Da m6 p8 m9 ⊢
 rw [hdon] at TR Da q8 ⊢
 obtain ⟨b1,VB⟩:=A5 ((AA v q.key).isSome)
 obtain ⟨b2,ER⟩:=A5 ((AA data q.key).isSome)
 rw [VB] at TT
 rw [ER] at TR
 obtain ⟨BM,hhere⟩:=A5 (path++[CW q.key])
 rw [hhere] at hJ Da ⊢
 have hhl:BM.length=path.length+1:=by rw [<-hhere];simp
 have y8:Sz q.picks raw:=sz.le sz.p m6 p8 (zna _)
 have hc:=hR.hc
 have hk:=hR.hk
 by_cases cA:q.initial=-1∨¬y7.k=5∨¬raw.k=5
 .rw [iP cA] at Da ⊢
  have hW:=fun Al n' (e1:RunS doc Al c kp gp P)=>hWk raw y7 BM Al c kp gp P n' y8 q8 (by omega) (fun h=>by have:=m9 h;omega) e1 Da
  obtain ⟨R,A9⟩:=A5 (Cb (Cx doc q.picks) raw y7 BM)
  rw [A9] at Da hW ⊢
  have Dg:=Dg R
  refine BR func56 (tA cc956) (tB cc956) (tC cc956) rfl Dg fun hf=>?_;unfold ck956
  obtain ⟨l1,l3⟩:=hR.lt hf
  simp (disch:=omega) only [go_sem]
  refine Ac.f (TT _ _) ?_
  simp (disch:=omega) only [go_sem]
  refine Ac.f (TR _ _) ?_
  simp (disch:=omega) only [go_sem]
  refine Ac.f (hTx _ _) ?_
  simp (disch:=omega) only [go_sem]
  refine Ac.f (hJ _ _) ?_
  simp (disch:=omega) only [go_sem]
  refine Ae (fun g=>?_) (fun g=>?_)
  case' refine_2=>exact absurd cA (by simpa [not_or,and_assoc] using g)
  simp (disch:=omega) only [go_sem]
  refine Ac.x (hW _ _ (hR.of fun j hj=>by repeat rw [Ai _ _ (by omega)])) ?_
  simp only [JS,zlh,zli]
  simp (disch:=omega) only [go_sem]
  refine Jh ?_ ?_ fun j' Nv j1 j3=>?_
  .simp (disch:=omega) only [n2,m2,go_sem]
  .simp (disch:=omega) only [n2,m2,go_sem]
  .simp only [A8]
   repeat rw [iN (by omega)]
 .rw [iN cA] at Da ⊢
  have q1:¬q.initial=-1:=fun h=>cA (.inl h)
  have hri:=y8.fit.i
  have q2:y7.k=5:=by omega
  have q3:raw.k=5:=by omega
  have hrt:=m9 (.inl q3)
  obtain ⟨w,hw⟩:=A5 (I5 q.initial raw.items.length)
  have hwl:w<=raw.items.length:=by rw [<-hw];exact XC _ _
  have hE:=K8 raw y8.fit q
  rw [hw] at hE Da ⊢
  have hrw:=AE raw
  have htd:=QZ raw.items w
  have szt:Sz q.picks (IM (raw.items.take w)):=y8.le sz.p (Gf rfl fun y hy=>m6.x (List.mem_of_mem_take hy)) (by rw [AE];simp only [IM,Ag.items_mk,Ag.keys_mk,zle];omega) (zna _)
  have QT:AG (IM (raw.items.take w))<=AG raw:=by rw [AE];simp only [IM,Ag.items_mk,Ag.keys_mk,zle];omega
  obtain ⟨on,IH⟩:=A5 (typF v)
  have hT:=Fc v hvf
  rw [IH] at hT Da ⊢
  obtain ⟨L0,hL0⟩:=A5 (Cb (Cx doc q.picks) (IM (raw.items.take w)) y7 BM)
  obtain ⟨R,A9⟩:=A5 (L0++DN doc (Eu q) (Cx doc q.picks) on q.key (B5 q q.initial) BM (raw.items.drop w) w)
  rw [hL0,A9] at Da ⊢
  have hL0R:L0.length<=R.length:=by rw [<-A9,zld];omega
  have hW0:=fun Al n' (e1:RunS doc Al c kp gp P)=>hWk (IM (raw.items.take w)) y7 BM Al c kp gp P n' szt q8 (by omega) (fun h=>by omega) e1 (by rw [hL0];omega)
  rw [hL0] at hW0
  have V9:∀hp m,Af prog 99 hp m [D1 q.tn q.tw] (.tp [D1 (B5 q q.initial).tn (B5 q q.initial).tw,.b (Cu q.tw)]):=fun hp m=>by
   have h:=MJ q.tn q.tw (by omega) hp m
   by_cases cl:Cu q.tw=true
   .rw [iP cl] at h
    have e1:(B5 q q.initial).tn=q.tn:=iP cl
    have e2:(B5 q q.initial).tw=DM q.tw:=iP cl
    rw [e1,e2,cl]
    exact h
   .rw [iN cl] at h
    have e1:(B5 q q.initial).tn=⟨#[]⟩:=iN cl
    have e2:(B5 q q.initial).tw=[]:=iN cl
    rw [e1,e2,show Cu q.tw=false by simpa using cl]
    exact h
  have FK:AJ (B5 q q.initial)=[.s q.key,.s q.on,.s q.name,.ds (Ab BB q.args),.s (B5 q q.initial).tn,.ds (Ab D0 (B5 q q.initial).tw),.s ⟨#[]⟩,.i .i64 q.initial,.ds (Ab AJ (AM q.picks))]:=by rw [BH];rfl
  obtain ⟨otn,hotn⟩:=A5 ((B5 q q.initial).tn)
  obtain ⟨otw,hotw⟩:=A5 ((B5 q q.initial).tw)
  obtain ⟨lw,hlw⟩:=A5 (Cu q.tw)
  rw [hotn,hotw,hlw] at V9
  rw [hotn,hotw] at FK
  have VW:=HM q.picks (by have:=sz.k;omega)
  have Dg:=Dg R
  have e3:0<=(w:Int)∧(w:Int)<=(raw.items.length:Int):=by omega
  refine BR func56 (tA cc956) (tB cc956) (tC cc956) rfl Dg fun hf=>?_;unfold ck956
  obtain ⟨l1,l3⟩:=hR.lt hf
  simp (disch:=omega) only [go_sem]
  refine Ac.f (TT _ _) ?_
  simp (disch:=omega) only [go_sem]
  refine Ac.f (TR _ _) ?_
  simp (disch:=omega) only [go_sem]
  refine Ac.f (hTx _ _) ?_
  simp (disch:=omega) only [go_sem]
  refine Ac.f (hJ _ _) ?_
  simp (disch:=omega) only [dF q1,dT q2,dT q3,go_sem]
  refine Ac.f (hE _ _) ?_
  simp (disch:=omega) only [e3.1,e3.2,true_and,go_sem]
  refine Aq.w (ws:=JS doc c kp gp P L0) (K1 (hR.of fun j hj=>?_) (by omega) (by omega)) rfl (fun Al e=>AO.cvA (i:=1) (β:=vx (IM (raw.items.take w))) rfl rfl rfl (hW0 Al _ ⟨(e c (.inl (by omega))).trans ?_,(e kp (.inl (by omega))).trans ?_⟩)) ?_
  case refine_4=>
   simp only [JS,zlh,zli]
   simp (disch:=omega) only [n2,m2,go_sem]
   refine Ac.f (V9 _ _) ?_
   simp (disch:=omega) only [n2,m2,go_sem]
   refine Aq.f (fun _ _ _=>VW _ _) ?_
   simp (disch:=omega) only [n2,m2,go_sem]
   refine loop (fun p:WkS=>match p with
    | .mk i L n'=>⟨[(0,.bx c 0),(6,.bx n 0),(7,.bx (n+1) 0),(10,.bx (n+3) 0),(14,.ds (Ab Ar BM)),(18,.bx (n+16) 0),(19,.i .i64 i)],(kp,.rw (gp+L.length) 8 (Ab Bi (P++L)))::(c,.bx [.ds (Ab B8 doc),.rw kp (gp+L.length) (P.length+L.length)]) ::
     (n+16,.bx [.s q.key,.s q.on,.s q.name,.ds (Ab BB q.args),.s otn,.ds (Ab D0 otw),.s ⟨#[]⟩,.i .i64 q.initial,.ds (Ab AJ (AM q.picks))])::(n+3,.bx [.i .i64 raw.k,.i .i64 raw.n,.s raw.s,.ds (Ab Ar raw.items),.ds (Bd raw.keys)]) ::
     (n+1,.bx [.s q.key,.s q.on,.s q.name,.ds (Ab BB q.args),.s q.tn,.ds (Ab D0 q.tw),.s q.label,.i .i64 q.initial,.ds (Ab AJ q.picks)])::(n,.bx [.i .i64 v.k,.i .i64 v.n,.s v.s,.ds (Ab Ar v.items),.ds (Bd v.keys)])::hp,n'⟩)
    (fun p=>match p with | .mk i L n'=>i<=raw.items.length∧n+17<=n'∧R=L++DN doc (Eu q) (Cx doc q.picks) on q.key (B5 q q.initial) BM (raw.items.drop i) i) (fun p=>match p with | .mk i L n'=>raw.items.length - i) (.mk w L0 (n+60)) ?_ ?_ (fun p hj=>?_)
   .exact ⟨hwl,show n+17<=n+60 by omega,A9.symm⟩
   .dsimp only
    refine wX6 hf ?_ ?_ ?_ ?_ ?_ ?_ ?_ (fun a ha c7=>?_) (by omega)
    .simp (disch:=omega) only [go_sem]
    .simp (disch:=omega) only [n2,m2,go_sem]
    .simp (disch:=omega) only [n2,m2,go_sem]
    .simp (disch:=omega) only [go_sem]
    .simp (disch:=omega) only [go_sem]
    .simp (disch:=omega) only [go_sem]
    .simp (disch:=omega) only [go_sem]
    .simp only [zh,zf,or_false,not_or] at c7
     repeat rw [Ai _ _ (by omega)]
   obtain ⟨i,L,n'⟩:=p
   obtain ⟨Cg,Bc,As⟩:=hj
   have hLR:L.length<=R.length:=by rw [As,zld];omega
   dsimp only
   simp (disch:=omega) only [n2,m2,go_sem]
   refine Ae (fun g=>?_) (fun g=>?_)
   case' refine_2=>
    have g:i=raw.items.length:=by simp at g;omega
    subst g
    rw [List.drop_length,DN,List.append_nil] at As
    subst As
    simp (disch:=omega) only [go_sem]
    refine Jh ?_ ?_ fun j' Nv j1 j3=>?_
    .simp (disch:=omega) only [n2,m2,go_sem]
    .simp (disch:=omega) only [n2,m2,go_sem]
    .simp only [A8]
     repeat rw [iN (by omega)]
   have g:i<raw.items.length:=by simpa using g
   obtain ⟨x,ex⟩:∃x,raw.items[i]?=some x:=⟨raw.items[i],by simp [g]⟩
   have Jy:=List.mem_of_getElem? ex
   have hxw:=B1 Jy
   have hxr:=m6.x Jy
   have TU:LatF doc q v x (Eu q x):=⟨sz,hxr,by omega,Lr q x hxr,NI q x⟩
   have s5:=TU.run CI DG on q.initial
   obtain ⟨o1,o2,o3⟩:=TU.out DG on q.initial
   have hCu:=Agn q.picks sz.p x (by omega)
   rw [<-D5] at hCu
   rw [A2 ex,Fy] at As
   have hI:=LI (i:Nat)
   have hJ2:=I6 BM [Fo (i:Nat)] (by simp;omega)
   have hTo:=Il on
   obtain ⟨cx,hcx⟩:=A5 (Eu q x)
   rw [hcx] at s5 o1 o2 o3 hCu As
   obtain ⟨Q,hQ⟩:=A5 (EW doc on q q.initial cx)
   rw [hQ] at s5 o1 o2 o3 As
   obtain ⟨d8,hat⟩:=A5 (BM++[Fo (i:Nat)])
   have hatl:d8.length=BM.length+1:=by rw [<-hat];simp
   rw [hat] at hJ2 As
   simp (disch:=omega) only [g,n2,m2,go_sem]
   refine Ac.f (hI _ _) ?_
   simp (disch:=omega) only [g,n2,m2,go_sem]
   refine Ac.f (hJ2 _ _) ?_
   simp (disch:=omega) only [g,n2,m2,go_sem]
   have u1:¬n'+2=n:=by omega
   refine ⟨u1,Aq.f (fun _ _ _=>hT _ _) ?_⟩
   simp (disch:=omega) only [g,n2,m2,go_sem]
   refine Aq.f (fun _ _ _=>hTo _ _) ?_
   have u2:¬n'+2=n+3:=by omega
   have u3:¬n'+2=n+1:=by omega
   simp (disch:=omega) only [g,n2,m2,u1,u2,u3,Ad (Aa Ar ex),go_sem]
   refine Aq.f (fun _ _ _=>hCu _ _) ?_
   simp (disch:=omega) only [g,n2,m2,u1,u2,u3,go_sem]
   refine ⟨by omega,⟨by omega,by omega,by omega,by omega⟩,?_⟩
   refine LF ((Ii (c:=n'+16) (i:=3) (k:=n'+14) (g:=0) (len:=2) (m:=5) (cs:=[.i .i64 6,.i .i64 0,.s ⟨#[]⟩,.rw (n'+14) 0 2,.rw (n'+2) 0 2]) (l:=Ab Ar [CW on,cx]) ?_ rfl ?_ (by rw [Ao];exact zna 2)).trans
    (Ii (c:=n'+16) (i:=4) (k:=n'+2) (g:=0) (len:=2) (m:=1) (cs:=[.i .i64 6,.i .i64 0,.s ⟨#[]⟩,.ds (Ab Ar [CW on,cx]),.rw (n'+2) 0 2]) (l:=Bd [sT,q.key]) ?_ rfl ?_ (by rw [Bd,Ao];exact zna 2))) ?_
   .simp (disch:=omega) only [go_sem]
   .simp (disch:=omega) only [go_sem]
   .simp (disch:=omega) only [go_sem]
    rfl
   .simp (disch:=omega) only [go_sem]
    rfl
   simp only [List.set_cons_succ,List.set_cons_zero]
   have tk:(Bd [sT,q.key]).take 2=Bd [sT,q.key]:=rfl
   rw [tk]
   simp only [vx,EV,Ag.k_mk,Ag.n_mk,Ag.s_mk,Ag.items_mk,Ag.keys_mk,Cl,Iv,FK,B4,Bd,Cz] at s5
   simp (disch:=omega) only [g,n2,m2,go_sem]
   refine Aq.f (fun _ _ _=>hT _ _) ?_
   simp (disch:=omega) only [g,n2,m2,go_sem]
   refine Aq.f (fun _ _ _=>s5 _ _) ?_
   simp (disch:=omega) only [g,n2,m2,go_sem]
   refine ⟨⟨by omega,by omega,by omega⟩,?_⟩
   have hGe:=IY Q.1 o2 q.key
   unfold KQ at hGe
   have el_f:((AA Q.1 q.key).getD A6).Fit:=GU o2 q.key
   have hMv:=Pw Q.2 o1 o3 d8 (by omega) 1 (by decide)
   obtain ⟨el,Kw⟩:=A5 ((AA Q.1 q.key).getD A6)
   obtain ⟨b3,hb3⟩:=A5 ((AA Q.1 q.key).isSome)
   obtain ⟨MV,hMV⟩:=A5 (Ef Q.2 d8 1)
   rw [Kw,hb3] at hGe
   rw [Kw] at el_f As
   rw [hMV] at hMv As
   obtain ⟨W,hW⟩:=A5 (Cb (Cx doc q.picks) x el d8)
   rw [hW] at As
   have hLW:L.length+1+W.length<=R.length:=by rw [As,zld,List.length_cons,zld];omega
   refine Ac.f (hGe _ _) ?_
   have v1:¬n'+31=n:=by omega
   have v2:¬n'+31=c:=by omega
   have v3:¬n'+31=kp:=by omega
   have hPl:(Ab Bi (P++L)).length=P.length+L.length:=by rw [Ao,zld]
   have k1:(P.length+(L.length+1))*144<=140737488355328:=by omega
   have k2:P.length+(L.length+1)<=9223372036854775807:=by omega
   have snp:Ab Bi (P++L)++[[AV.s ⟨#[]⟩,.ds (Ab Ar d8),.i .i64 el.k,.i .i64 el.n,.s el.s,.ds (Ab Ar el.items),.ds (Bd el.keys),.ds (Ab BD MV)]]=Ab Bi (P++(L++[.mk ⟨#[]⟩ d8 el MV])):=by rw [<-zlf];exact AX Bi (P++L) (.mk ⟨#[]⟩ d8 el MV)
   simp (disch:=omega) only [g,n2,m2,v1,v2,v3,go_sem]
   refine Aq.f (fun _ _ _=>hMv _ _) ?_
   simp (disch:=omega) only [g,n2,m2,v1,v2,v3,hPl,k1,k2,snp,true_and,Ad (Aa Ar ex),go_sem]
   have szx:Sz q.picks x:=y8.le sz.p hxr (by omega) (zna _)
   obtain ⟨L2,VD⟩:=A5 (L++[DB.mk ⟨#[]⟩ d8 el MV])
   have hL2l:L2.length=L.length+1:=by rw [<-VD];simp
   rw [VD,<-hL2l]
   have hX:=fun Al n' (e1:RunS doc Al c kp (gp+L2.length) (P++L2))=>hWk x el d8 Al c kp (gp+L2.length) (P++L2) n' szx el_f (by omega) (fun _=>by omega) e1 (by rw [hW,zld];omega)
   rw [hW] at hX
   have As:R=L2++W++DN doc (Eu q) (Cx doc q.picks) on q.key (B5 q q.initial) BM (raw.items.drop (i+1)) (i+1):=by rw [As,<-VD];simp
   refine Aq.w (ws:=JS doc c kp (gp+L2.length) (P++L2) W) (K1 ⟨?_,?_⟩ (by omega) (by omega)) rfl (fun Al e=>hX Al _ ⟨(e c (.inl (by omega))).trans ?_,(e kp (.inl (by omega))).trans ?_⟩) ?_
   case refine_5=>
    simp only [JS,zlh,zli]
    simp (disch:=omega) only [n2,m2,go_sem]
    refine ⟨.mk (i+1) (L2++W) (n'+100),⟨show i+1<=raw.items.length by omega,show n+17<=n'+100 by omega,As⟩,by show raw.items.length - (i+1)<raw.items.length - i;omega,?_⟩
    dsimp only
    refine wX6 hf ?_ ?_ ?_ ?_ ?_ ?_ ?_ (fun a ha c7=>?_) (by omega)
    .simp (disch:=omega) only [Ap i (by omega),go_sem]
    .simp (disch:=omega) only [zld,zlf,Nat.add_assoc,go_sem]
    .simp (disch:=omega) only [n2,m2,zld,zlf,Nat.add_assoc,go_sem]
    .simp (disch:=omega) only [go_sem]
    .simp (disch:=omega) only [go_sem]
    .simp (disch:=omega) only [go_sem]
    .simp (disch:=omega) only [go_sem]
    .simp only [zh,zf,or_false,not_or] at c7
     repeat rw [Ai _ _ (by omega)]
   all_goals (simp (disch:=omega) only [n2,m2,zld,go_sem])
  .repeat rw [Ai _ _ (by omega)]
  . (repeat rw [Ai _ _ (by omega)])
    exact hc
  . (repeat rw [Ai _ _ (by omega)])
    exact hk
end
