/- Proof. Conditions: none. -/
import Derived.Test.YtgfidgoefioigaaGreatDoorIk39
noncomputable section
open List renaming mem_of_getElem?->zg
open Go.Proofs.Tryz
open List renaming cons_append->zlh,nil_append->zli,drop_length->zll
open Nat renaming le_refl->zna
namespace Go.Proofs.YtgfidgoefioigaaGreatDoor
open Go.Eng
set_option linter.all false
set_option maxRecDepth 20000
set_option maxHeartbeats 1000000
theorem QS {doc:List Av} (hd:DocB doc) (n:qB):FY ((Ay doc n).getD DJ).inputs:=by
 cases h:Ay doc n with
 |none=>exact Mz
 |some t=>exact (hd.d t (List.mem_of_find?_eq_some h)).i
abbrev Ado (f:FuncId) (hp:CH) (m:Nat) (args:List AV) (B:Bool):Prop:=AK prog f hp m args (Uq (fun b:Bool=>b=B) fun b Am n' r'=>Am=[]++hp∧n'=m∧r'=.b b)
def Ro (doc:List Av) (own:qB):Nat->Nat->List qB->List qB
 | 0,_,l=>l
 |f+1,j,l=>match l[j]? with
  |some x=>Ro doc own f (j+1) (Nm doc own (Bl ((Ay doc x).getD DJ).inputs) l)
  |none=>l
theorem Xs (doc:List Av) (own:qB) (f:Nat) (l:List qB):Ro doc own f l.length l=l:=by
 cases f with
 |zero=>rfl
 |succ f=>rw [Ro,List.getElem?_eq_none (zna _)]
def ZU (doc:List Av) (t:Av):Bool:=if t.k=5 then decide (t.n∈Ro doc t.n 66 0 (Nm doc t.n (Bl t.inputs) [])) else false
inductive CiS
 | mk (j g:Nat) (l:List qB) (n:Nat)
theorem EQ (doc:List Av) (hd:DocB doc) (t:Av) (ht:FY t.inputs) (hp:CH) (m:Nat):Ado 126 hp m [B9 doc,Lw t] (ZU doc t):=by
 obtain ⟨B,hB⟩:=A7 (ZU doc t)
 rw [hB]
 unfold ZU at hB
 have GB:=hd.l
 refine F4 (fun b:Bool=>b=B) (fun _=>[]) (fun b=>.b b) func126 (tA cc126) (tB cc126) (tC cc126) rfl (fun hf i hi=>trivial) fun hf=>?_
 unfold ck126
 simp only [go_sem]
 refine Af (fun c=>?_) (fun c=>?_)
 .rw [iN (by simpa using c)] at hB
  simp only [go_sem]
  refine Co false hB ?_
  simp only [go_sem]
  try rfl
 rw [iP (by simpa using c)] at hB
 obtain ⟨T,hT⟩:=A7 (Ro doc t.n 66 0 (Nm doc t.n (Bl t.inputs) []))
 rw [hT] at hB
 have hN:=fun Am m'=>AK.e0w (hp:=Am) (n:=m') (args:=[B9 doc,Lw t,.s t.n,.e0]) (m:=1) (i:=3) rfl rfl (S9 doc GB t ht t.n m' 0 [] ⟨by simp,by simp⟩ ((m',.rw 0 1 [])::Am) (Ar _ _ _) (m'+1))
 simp only [go_sem]
 refine Ac.r (hN _ _) ?_
 rintro Am n' r ⟨i,hi,e1,e2,e3⟩
 subst e1
 subst e2
 subst e3
 obtain ⟨g,l⟩:=i
 obtain ⟨NN,Is,hi0⟩:=hi
 simp only [nxW,nxR,zlh,zli]
 simp (disch:=omega) only [go_sem]
 refine loop (fun p:CiS=>match p with
  | .mk j g' l' n=>⟨[(2,.bx m 0),(3,.bx (m+1) 0),(5,.rw (m+2) g' l'.length),(6,.i .i64 j)],(m+2,.rw g' 1 (Bq l'))::(m,.bx [.ds (Ab BB doc)])::(m+1,.bx [.i .i64 t.k,.s t.n,.ds t.impl,.ds t.dirs,.ds (Ab Bu t.fields),.ds t.members,.ds t.inputs])::hp,n⟩)
  (fun p=>match p with | .mk j g' l' n=>j<=l'.length∧m+3<=n∧ChI doc t.n l'∧T=Ro doc t.n (66 - j) j l') (fun p=>match p with | .mk j g' l' n=>66 - j) (.mk 0 g l (m+3)) ?_ ?_ (fun p hj=>?_)
 .exact ⟨Nat.zero_le _,zna _,NN,by rw [hi0];exact hT.symm⟩
 .dsimp only
  refine EU hf ?_ ?_ ?_ ?_ (fun a ha d5=>?_) (zna _)
  .simp (disch:=omega) only [go_sem]
  .simp (disch:=omega) only [go_sem]
  .simp (disch:=omega) only [go_sem]
  .simp (disch:=omega) only [go_sem]
  .repeat rw [Ak _ _ (by omega)]
 obtain ⟨j,g',l',n⟩:=p
 obtain ⟨Cq,Be,At,Cl⟩:=hj
 have hll:=At.len
 have x8:(Bq l').length=l'.length:=As _ _
 have Lq:(Bq l').take l'.length=Bq l':=List.take_of_length_le (by omega)
 dsimp only
 simp (disch:=omega) only [x8,zna,Lq,go_sem]
 refine Af (fun q=>?_) (fun q=>?_)
 .have q:j<l'.length:=by simpa using q
  obtain ⟨x,ex⟩:∃x,l'[j]?=some x:=⟨l'[j],by simp [q]⟩
  have hfu:66 - j=66 - (j+1)+1:=by omega
  rw [hfu,Ro,ex] at Cl
  dsimp only at Cl
  have hF:=BW doc (by omega) x
  have hBi:=QS hd x
  obtain ⟨R,hR⟩:=A7 (Ay doc x)
  rw [hR] at hF hBi Cl
  unfold Eh at hF
  obtain ⟨D,hD⟩:=A7 (R.getD DJ)
  rw [hD] at hF hBi Cl
  have hX:=fun Am e m'=>S9 doc GB D hBi t.n (m+2) g' l' At Am e m'
  simp (disch:=omega) only [q,x8,zna,Lq,Ad (Aa C3 ex),go_sem]
  refine Au.f (fun _ _ _=>hF _ _) ?_
  simp (disch:=omega) only [go_sem]
  refine ⟨⟨by omega,by omega,by omega⟩,?_⟩
  refine Ac.r (hX _ (by (simp (disch:=omega) only [go_sem])) _) ?_
  rintro Am n' r ⟨i,hi,e1,e2,e3⟩
  subst e1
  subst e2
  subst e3
  obtain ⟨g2,l2⟩:=i
  obtain ⟨Ed,J1,Hh⟩:=hi
  rw [<-Hh] at Cl
  simp only [nxW,nxR,zlh,zli]
  simp (disch:=omega) only [go_sem]
  refine ⟨.mk (j+1) g2 l2 (n+50),⟨show j+1<=l2.length by omega,show m+3<=n+50 by omega,Ed,Cl⟩,by show 66 - (j+1)<66 - j;omega,?_⟩
  dsimp only
  refine EU hf ?_ ?_ ?_ ?_ (fun a ha d5=>?_) (by omega)
  .simp (disch:=omega) only [Ao j (by omega),go_sem]
  .simp (disch:=omega) only [go_sem]
  .simp (disch:=omega) only [go_sem]
  .simp (disch:=omega) only [go_sem]
  .repeat rw [Ak _ _ (by omega)]
 .have q:j=l'.length:=by simp at q;omega
  subst q
  rw [Xs] at Cl
  rw [Cl] at hB
  simp (disch:=omega) only [x8,zna,Lq,go_sem]
  have hH:=fun Am (e:gc Am (m+2)=.rw g' 1 (Bq l')) m'=>MA l' t.n (by omega) e m'
  refine Ac.f (hH _ (by (simp (disch:=omega) only [go_sem])) _) ?_
  simp (disch:=omega) only [go_sem]
  refine Co (decide (t.n∈l')) hB ?_
  have BD:m<=n:=by omega
  simp (disch:=omega) only [BD,go_sem]
theorem Pi (doc:List Av) (GB:doc.length<=64) (n:qB) (hp:CH) (m:Nat):Ae prog 128 hp m [B9 doc,.s n] (.b (BV n||(Ay doc n).isSome)):=by
 have hF:=BW doc (by omega) n
 obtain ⟨R,hR⟩:=A7 (Ay doc n)
 rw [hR] at hF ⊢
 unfold Eh at hF
 refine Al func128 (tA cc128) (tB cc128) (tC cc128) rfl fun hf=>?_;unfold ck128
 simp only [go_sem]
 refine Ac.f (hF _ _) ?_
 simp (disch:=omega) only [go_sem]
 refine Ac.f (DE _ _ _) ?_
 simp (disch:=omega) only [go_sem]
def Jj (doc:List Av) (n:qB):Bool:=CX doc n||((Ay doc n).isSome&&decide (((Ay doc n).getD DJ).k=5))
theorem H8 (doc:List Av) (GB:doc.length<=64) (n:qB) (hp:CH) (m:Nat):Ae prog 130 hp m [B9 doc,.s n] (.b (Jj doc n)):=by
 have hF:=BW doc (by omega) n
 have hL:=ON doc (by omega) n
 unfold Jj
 obtain ⟨R,hR⟩:=A7 (Ay doc n)
 rw [hR] at hF ⊢
 unfold Eh at hF
 obtain ⟨b,hb⟩:=A7 (CX doc n)
 rw [hb] at hL ⊢
 refine Al func130 (tA cc130) (tB cc130) (tC cc130) rfl fun hf=>?_;unfold ck130
 simp only [go_sem]
 refine Ac.f (hF _ _) ?_
 simp (disch:=omega) only [go_sem]
 refine Ac.f (hL _ _) ?_
 simp (disch:=omega) only [go_sem]
def QB (t:Av):Bool:=if t.k=1∨t.k=2 then decide (t.fields.length=0) else if t.k=3∨t.k=4 then decide (t.members.length=0) else if t.k=5 then decide (t.inputs.length=0) else false
theorem X0 (t:Av) (hp:CH) (m:Nat):Ae prog 125 hp m [Lw t] (.b (QB t)):=by
 have c1:∀n:Nat,decide ((n:Int)=0)=decide (n=0):=fun n=>by simp
 refine Al func125 (tA cc125) (tB cc125) (tC cc125) rfl fun hf=>?_;unfold ck125
 by_cases k1:t.k=1
 .have:QB t=decide (t.fields.length=0):=by simp [QB,k1]
  rw [this]
  simp (disch:=omega) only [dT k1,c1,go_sem]
 by_cases k2:t.k=2
 .have:QB t=decide (t.fields.length=0):=by simp [QB,k2]
  rw [this]
  simp (disch:=omega) only [dF k1,dT k2,c1,go_sem]
 by_cases k3:t.k=3
 .have:QB t=decide (t.members.length=0):=by simp [QB,k3]
  rw [this]
  simp (disch:=omega) only [dF k1,dF k2,dT k3,c1,go_sem]
 by_cases k4:t.k=4
 .have:QB t=decide (t.members.length=0):=by simp [QB,k4]
  rw [this]
  simp (disch:=omega) only [dF k1,dF k2,dF k3,dT k4,c1,go_sem]
 by_cases k5:t.k=5
 .have:QB t=decide (t.inputs.length=0):=by simp [QB,k5]
  rw [this]
  simp (disch:=omega) only [dF k1,dF k2,dF k3,dF k4,dT k5,c1,go_sem]
 have:QB t=false:=by simp [QB,k1,k2,k3,k4,k5]
 rw [this]
 simp (disch:=omega) only [dF k1,dF k2,dF k3,dF k4,dF k5,c1,go_sem]
def UH:BG:=.mk ⟨#[]⟩ ⟨#[]⟩ [] false A8 []
def BY (l:List BG) (n:qB):Option BG:=l.find? fun x=>decide (x.n=n)
def PK (o:Option BG):AV:=.tp [.ag (AD (o.getD UH)),.b o.isSome]
theorem Rj (t:BG) (l:List BG) (n:qB):BY (t::l) n=if t.n=n then some t else BY l n:=by
 unfold BY
 rw [List.find?_cons]
 by_cases c:t.n=n
 .simp [c]
 .simp [c]
theorem D7 (l:List BG) (hl:l.length<=1000000000000) (n:qB) (hp:CH) (m:Nat):Ae prog 129 hp m [.ds (Ab AD l),.s n] (PK (BY l n)):=by
 obtain ⟨R,hR⟩:=A7 (BY l n)
 rw [hR,PK]
 refine Al func129 (tA cc129) (tB cc129) (tC cc129) rfl fun hf=>?_;unfold ck129
 simp only [go_sem]
 refine loop (fun p:Nat×Nat=>⟨[(0,.ds (Ab AD l)),(1,.s n),(4,.bx m 0),(6,.i .i64 p.1)],(m,.bx [.s ⟨#[]⟩,.s ⟨#[]⟩,.e0,.b false,.i .i64 0,.i .i64 0,.s ⟨#[]⟩,.e0,.e0,.e0])::hp,p.2⟩)
  (fun p=>p.1<=l.length∧m+1<=p.2∧R=BY (l.drop p.1) n) (fun p=>l.length - p.1) (0,m+1) ?_ ?_ (fun ⟨j,k⟩ hj=>?_)
 .exact ⟨by simp,by simp,hR.symm⟩
 .refine Fo hf ?_ ?_ ?_ (zna _)
  all_goals (simp (disch:=omega) only [go_sem])
 dsimp only at hj
 obtain ⟨Cq,Be,At⟩:=hj
 have NL:m<=k:=by omega
 simp (disch:=omega) only [go_sem]
 refine Af (fun q=>?_) (fun q=>?_)
 .have q:j<l.length:=by simpa using q
  obtain ⟨y,et⟩:∃y,l[j]?=some y:=⟨l[j],by simp [q]⟩
  rw [A2 et,Rj] at At
  simp (disch:=omega) only [q,Ad (Aa AD et),go_sem]
  refine Af (fun c=>?_) (fun c=>?_)
  .have c:y.n=n:=by simpa using c
   rw [iP c] at At
   subst At
   simp (disch:=omega) only [NL,q,Ad (Aa AD et),Option.getD_some,Option.isSome_some,go_sem]
  .have c:¬y.n=n:=by simpa using c
   rw [iN c] at At
   simp (disch:=omega) only [go_sem]
   refine ⟨(j+1,_),⟨by dsimp only;omega,by dsimp only;omega,At⟩,by dsimp only;omega,Fo hf ?_ ?_ ?_ (zna _)⟩
   all_goals
    simp (disch:=omega) only [Ao j (by omega),NL,go_sem]
 .have q:j=l.length:=by simp at q;omega
  subst q
  rw [zll] at At
  have At:R=none:=At
  subst At
  simp (disch:=omega) only [NL,go_sem]
  try rfl
set_option maxHeartbeats 2000000
abbrev Bb:=Nat × Int
def BR (doc:List Av) (lit:Bool) (s:Bb):Ai:=.bx [.ds (Ab BB doc),.i .i64 0,.i .i64 0,.s ⟨#[]⟩,.e0,.e0,.b lit,.i .i64 s.1,.i .i64 s.2]
theorem F8 {n:Nat} {c:Nat} {doc:List Av} {lit:Bool} {s:Bb} (h:c<n):wsLt n [(c,BR doc lit s)]:=by
 refine ⟨h,?_,trivial⟩
 intro α hα
 simp only [List.mem_cons,List.not_mem_nil,or_false] at hα
 rcases hα with rfl | rfl | rfl | rfl | rfl | rfl | rfl | rfl | rfl<;>rfl
theorem BE {n c:Nat} {X:Ai} {hp Am:CH} (h1:gc Am c=X) (h2:∀j,j<n->j≠c->gc Am j=gc hp j):Up n ([(c,X)]++hp) Am:=fun j hj=>by
 simp only [zlh,zli]
 by_cases e:c=j
 .subst e;rw [Ar,h1]
 .rw [Ak _ _ e];exact h2 j hj fun e'=>e e'.symm
def Ce (e:Int) (s:Bb):Bb:=(s.1,if s.2=0 then e else s.2)
def Hm (lv:Nat) (s:Bb):Bb :=
 let s1:=if 24<lv then Ce 5 s else s
 if 4096<s1.1+1 then Ce 4 (s1.1+1,s1.2) else (s1.1+1,s1.2)
section
variable {doc:List Av} {lit:Bool} {s:Bb} {c:Nat} {hp:CH}
theorem Dw {n:Nat} (h:gc hp c=BR doc lit s) (hf:∀k,n<=k->gc hp k=.no):c<n:=BT hf h (fun e=>by cases e)
theorem CK (h:gc hp c=BR doc lit s) (e:Int) (n:Nat):AO prog 180 hp n [.bx c 0,.i .i64 e] ([(c,BR doc lit (Ce e s))]++hp) n (.tp []):=by
 have DV:(∀k,n<=k->gc hp k=.no)->wsLt n [(c,BR doc lit (Ce e s))]:=fun hf=>F8 (Dw h hf)
 have hc:gc hp c=.bx [.ds (Ab BB doc),.i .i64 0,.i .i64 0,.s ⟨#[]⟩,.e0,.e0,.b lit,.i .i64 s.1,.i .i64 s.2]:=h
 refine Cp func180 (tA cc180) (tB cc180) (tC cc180) rfl DV fun hf=>?_;unfold ck180
 have l1:=Dw h hf
 unfold Ce
 simp (disch:=omega) only [hc,go_sem]
 by_cases q:s.2=0
 .simp (disch:=omega) only [hc,dT q,go_sem]
  refine BE ?_ fun j hj j1=>?_
  .simp only [q,if_true,BR]
   simp (disch:=omega) only [go_sem]
  .have j2:¬c=j:=fun e=>j1 e.symm
   simp (disch:=omega) only [j2,go_sem]
 .simp (disch:=omega) only [hc,dF q,go_sem]
  refine BE ?_ fun j hj j1=>rfl
  simp only [q,if_false,BR]
  exact hc
theorem Uj (h:gc hp c=BR doc lit s) (lv:Nat) (hl:lv<=1000) (hs:s.1<=1000000) (n:Nat):AO prog 182 hp n [.bx c 0,.i .i64 lv] ([(c,BR doc lit (Hm lv s))]++hp) n (.tp []):=by
 have DV:(∀k,n<=k->gc hp k=.no)->wsLt n [(c,BR doc lit (Hm lv s))]:=fun hf=>F8 (Dw h hf)
 have hc:gc hp c=.bx [.ds (Ab BB doc),.i .i64 0,.i .i64 0,.s ⟨#[]⟩,.e0,.e0,.b lit,.i .i64 s.1,.i .i64 s.2]:=h
 refine Cp func182 (tA cc182) (tB cc182) (tC cc182) rfl DV fun hf=>?_;unfold ck182
 have l1:=Dw h hf
 unfold Hm
 have w1:IntKind.i64.wrap ((s.1:Int)+1)=((s.1+1:Nat):Int):=Ao s.1 (by omega)
 have j2:∀j,j≠c->¬c=j:=fun j h e=>h e.symm
 simp (disch:=omega) only [go_sem]
 refine Af (fun q=>?_) (fun q=>?_)
 .have q:24<lv:=by simp at q;omega
  rw [iP q]
  simp (disch:=omega) only [go_sem]
  refine Ac.x (CK h 5 _) ?_
  have h':gc ([(c,BR doc lit (Ce 5 s))]++hp) c=BR doc lit (Ce 5 s):=Ar _ _ _
  have w2:(Ce 5 s).1=s.1:=rfl
  obtain ⟨s',hs'⟩:=A7 (Ce 5 s)
  rw [hs'] at h' w2 ⊢
  rw [<-w2] at w1
  have Qx:=h'
  unfold BR at Qx
  simp (disch:=omega) only [BR,Qx,w1,go_sem]
  refine Af (fun q2=>?_) (fun q2=>?_)
  .have q2:4096<s'.1+1:=by simp at q2;omega
   rw [iP q2]
   simp (disch:=omega) only [go_sem]
   refine Ac.x (CK (doc:=doc) (lit:=lit) (s:=(s'.1+1,s'.2)) (Ar _ _ _) 4 _) ?_
   simp (disch:=omega) only [go_sem]
   all_goals
    refine BE (Ar _ _ _) fun j hj j1=>?_
    have j3:=j2 j j1
    simp (disch:=omega) only [j3,go_sem]
  .have q2:¬4096<s'.1+1:=by simp at q2;omega
   rw [iN q2]
   simp (disch:=omega) only [go_sem]
   all_goals
    refine BE (Ar _ _ _) fun j hj j1=>?_
    have j3:=j2 j j1
    simp (disch:=omega) only [j3,go_sem]
 .have q:¬24<lv:=by simp at q;omega
  rw [iN q]
  have h':=h
  obtain ⟨s',hs'⟩:∃s':Bb,s'=s:=⟨_,rfl⟩
  have w2:s'.1=s.1:=by rw [hs']
  rw [<-hs'] at h'
  rw [<-w2] at w1
  rw [<-hs']
  simp (disch:=omega) only [go_sem]
  have Qx:=h'
  unfold BR at Qx
  simp (disch:=omega) only [BR,Qx,w1,go_sem]
  refine Af (fun q2=>?_) (fun q2=>?_)
  .have q2:4096<s'.1+1:=by simp at q2;omega
   rw [iP q2]
   simp (disch:=omega) only [go_sem]
   refine Ac.x (CK (doc:=doc) (lit:=lit) (s:=(s'.1+1,s'.2)) (Ar _ _ _) 4 _) ?_
   simp (disch:=omega) only [go_sem]
   all_goals
    refine BE (Ar _ _ _) fun j hj j1=>?_
    have j3:=j2 j j1
    simp (disch:=omega) only [j3,go_sem]
  .have q2:¬4096<s'.1+1:=by simp at q2;omega
   rw [iN q2]
   simp (disch:=omega) only [go_sem]
   all_goals
    refine BE (Ar _ _ _) fun j hj j1=>?_
    have j3:=j2 j j1
    simp (disch:=omega) only [j3,go_sem]
theorem HO (h:gc hp c=BR doc lit s) (v:Ag) (n:Nat):Ae prog 164 hp n [.bx c 0,vx v] (.b (lit&&decide (v.k=7))):=by
 have hc:gc hp c=.bx [.ds (Ab BB doc),.i .i64 0,.i .i64 0,.s ⟨#[]⟩,.e0,.e0,.b lit,.i .i64 s.1,.i .i64 s.2]:=h
 have hG:∀hp m,Ae prog 18 hp m [.ag [.i .i64 0,.i .i64 0,.s ⟨#[]⟩,.e0,.e0],.s v.s] (.tp [vx A8,.b false]):=fun hp m=>(J8 A8 (.mk _ (by show 0*80<=_;decide) (by show 0*16<=_;decide) (fun x (hx:x∈([]:List Ag))=>(by cases hx))) v.s hp m).cv rfl
 refine Al func164 (tA cc164) (tB cc164) (tC cc164) rfl fun hf=>?_;unfold ck164
 have l1:=Dw h hf
 cases lit with
 |false=>
  simp (disch:=omega) only [hc,go_sem]
 |true=>
  simp (disch:=omega) only [hc,go_sem]
  refine Af (fun q=>?_) (fun q=>?_)
  .have q:decide (v.k=7)=false:=by simpa using q
   rw [q]
   first | done | (simp (disch:=omega) only [go_sem])
  .have q:decide (v.k=7)=true:=by simpa using q
   rw [q]
   have k1:¬n=c:=by omega
   have k2:¬n+11=c:=by omega
   simp (disch:=omega) only [hc,k1,go_sem]
   refine Au.f (fun _ _ _=>hG _ _) ?_
   simp (disch:=omega) only [k2,go_sem]
end
def Qf (name:qB) (v:Ag) (s:Bb):Ag×Bb :=
 if name=LI∧v.k=2∧-2147483648<=v.n∧v.n<2147483648 then (v,s)
 else if name=Cv∧v.k=3∨name=Cz∧v.k=1∨name=Lv∧v.k=3 then (v,s)
 else if name=Lv∧v.k=2 then (.mk 3 0 (TU (Lib.itoa v.n)) [] [],s) else (A8,Ce 23 s)
section
variable {doc:List Av} {lit:Bool} {s:Bb} {c:Nat} {hp:CH}
theorem O0 (h:gc hp c=BR doc lit s) (name:qB) (v:Ag) (hr:v.Rng) (n:Nat):AO prog 184 hp n [.bx c 0,.s name,vx v] ([(c,BR doc lit (Qf name v s).2)]++hp) n (vx (Qf name v s).1):=by
 have DV:(∀k,n<=k->gc hp k=.no)->wsLt n [(c,BR doc lit (Qf name v s).2)]:=fun hf=>F8 (Dw h hf)
 have hc:=h
 unfold BR at hc
 have hD:=OL v.n hr.l hr.u
 have hF:=fun (Am:CH) (e:gc Am c=gc hp c) (n':Nat)=>CK (hp:=Am) (e.trans h) 23 n'
 refine Cp func184 (tA cc184) (tB cc184) (tC cc184) rfl DV fun hf=>?_;unfold ck184
 have l1:=Dw h hf
 obtain ⟨R,hR⟩:=A7 (Qf name v s)
 rw [hR]
 unfold Qf at hR
 simp (disch:=omega) only [go_sem]
 refine Af (fun q=>?_) (fun q=>?_)
 .have p:name=LI∧v.k=2∧-2147483648<=v.n∧v.n<2147483648:=by simpa [LI,and_assoc] using q
  rw [iP p] at hR
  subst hR
  simp (disch:=omega) only [go_sem]
  exact BE h fun j hj j1=>rfl
 have p1:¬(name=LI∧v.k=2∧-2147483648<=v.n∧v.n<2147483648):=by intro w;simp [w.1,w.2.1,w.2.2.1,w.2.2.2,LI] at q
 rw [iN p1] at hR
 simp (disch:=omega) only [go_sem]
 refine Af (fun q2=>?_) (fun q2=>?_)
 .have p:name=Cv∧v.k=3∨name=Cz∧v.k=1∨name=Lv∧v.k=3:=.inl (by simpa [Cv] using q2)
  rw [iP p] at hR
  subst hR
  simp (disch:=omega) only [q2,go_sem]
  exact BE h fun j hj j1=>rfl
 simp (disch:=omega) only [go_sem]
 refine Af (fun q3=>?_) (fun q3=>?_)
 .have p:name=Cv∧v.k=3∨name=Cz∧v.k=1∨name=Lv∧v.k=3:=.inr (.inl (by simpa [Cz] using q3))
  rw [iP p] at hR
  subst hR
  simp (disch:=omega) only [q3,go_sem]
  exact BE h fun j hj j1=>rfl
 simp (disch:=omega) only [go_sem]
 refine Af (fun q4=>?_) (fun q4=>?_)
 .have p:name=Cv∧v.k=3∨name=Cz∧v.k=1∨name=Lv∧v.k=3:=.inr (.inr (by simpa [Lv] using q4))
  rw [iP p] at hR
  subst hR
  simp (disch:=omega) only [q4,go_sem]
  exact BE h fun j hj j1=>rfl
 have p2:¬(name=Cv∧v.k=3∨name=Cz∧v.k=1∨name=Lv∧v.k=3):=by
  rintro (w | w | w)
  .simp [w.1,w.2,Cv] at q2
  .simp [w.1,w.2,Cz] at q3
  .simp [w.1,w.2,Lv] at q4
 rw [iN p2] at hR
 simp (disch:=omega) only [go_sem]
 refine Af (fun q5=>?_) (fun q5=>?_)
 .have p:name=Lv∧v.k=2:=by simpa [Lv] using q5
  rw [iP p] at hR
  subst hR
  simp (disch:=omega) only [go_sem]
  refine Ac.f (hD _ _) ?_
  simp (disch:=omega) only [go_sem]
  try exact BE h fun j hj j1=>rfl
 have p3:¬(name=Lv∧v.k=2):=by intro w;simp [w.1,w.2,Lv] at q5
 rw [iN p3] at hR
 subst hR
 simp (disch:=omega) only [go_sem]
 refine Ac.x (hF _ (by repeat rw [Ak _ _ (by omega)]) _) ?_
 simp (disch:=omega) only [go_sem]
 all_goals
  refine BE (Ar _ _ _) fun j hj j1=>?_
  try simp only [zlh,zli]
  repeat rw [Ak _ _ (by omega)]
  try rfl
def enE (lit:Bool) (t:Av) (v:Ag) (s:Bb):Ag×Bb :=
 if (v.k=4∨v.k=3∧lit=false)∧v.s∈Gc t.members then (.mk 4 0 v.s [] [],s) else (A8,Ce 23 s)
theorem Ub (h:gc hp c=BR doc lit s) (t:Av) (hm:∀e∈t.members,∃x y,e=[AV.s x,.ds y]) (hl:t.members.length<=1000000000000) (v:Ag) (n:Nat):AO prog 185 hp n [.bx c 0,Lw t,vx v] ([(c,BR doc lit (enE lit t v s).2)]++hp) n (vx (enE lit t v s).1):=by
 have DV:(∀k,n<=k->gc hp k=.no)->wsLt n [(c,BR doc lit (enE lit t v s).2)]:=fun hf=>F8 (Dw h hf)
 have hc:=h
 unfold BR at hc
 obtain ⟨ms,hms⟩:=A7 (t.members)
 have LO:∀e∈ms,e.length=2:=fun e he=>by obtain ⟨x,y,rfl⟩:=hm e (by rw [hms];exact he);rfl
 have LO:=eq_true LO
 obtain ⟨R,hR⟩:=A7 (enE lit t v s)
 rw [hR] at DV ⊢
 unfold enE at hR
 rw [hms] at hR hm hl
 refine Cp func185 (tA cc185) (tB cc185) (tC cc185) rfl DV fun hf=>?_;unfold ck185
 have l1:=Dw h hf
 have hF:=fun (Am:CH) (e:gc Am c=gc hp c) (n':Nat)=>CK (hp:=Am) (e.trans h) 23 n'
 have k1:¬n=c:=by omega
 have k2:¬n+1=c:=by omega
 by_cases q:v.k=4∨v.k=3∧lit=false
 .have hR2:(if v.s∈Gc ms then (Ag.mk 4 0 v.s [] [],s) else (A8,Ce 23 s))=R:=by
   rw [<-hR]
   by_cases w:v.s∈Gc ms
   .rw [iP w,iP ⟨q,w⟩]
   .rw [iN w,iN fun e=>w e.2]
  obtain ⟨B,hB⟩:=A7 (decide (v.s∈Gc ms))
  have hRB:(if B=true then (Ag.mk 4 0 v.s [] [],s) else (A8,Ce 23 s))=R:=by
   rw [<-hR2,<-hB]
   by_cases w:v.s∈Gc ms
   .simp [w]
   .simp [w]
  clear hR hR2
  by_cases q1:v.k=4
  .simp (disch:=omega) only [hc,dT q1,hms,k1,k2,go_sem]
   refine loop (fun p:Nat×Nat=>⟨[(0,.bx c 0),(4,.bx n 0),(5,.bx (n+1) 0),(6,.bx (n+2) 0),(7,.i .i64 p.1)],(n+2,.bx [.i .i64 0,.i .i64 0,.s ⟨#[]⟩,.e0,.e0])::(n+1,.bx [.i .i64 v.k,.i .i64 v.n,.s v.s,.ds (Ab Aw v.items),.ds (Bq v.keys)])::(n,.bx [.i .i64 t.k,.s t.n,.ds t.impl,.ds t.dirs,.ds (Ab Bu t.fields),.ds ms,.ds t.inputs])::hp,p.2⟩) (fun p=>p.1<=ms.length∧n+3<=p.2∧B=decide (v.s∈Gc (ms.drop p.1))) (fun p=>ms.length - p.1) (0,n+3) ?_ ?_ (fun ⟨j,m⟩ hj=>?_)
   .exact ⟨by simp,by simp,hB.symm⟩
   .refine EU hf ?_ ?_ ?_ ?_ (fun a ha d5=>?_) (zna _)
    .simp (disch:=omega) only [go_sem]
    .simp (disch:=omega) only [go_sem]
    .simp (disch:=omega) only [go_sem]
    .simp (disch:=omega) only [go_sem]
    .repeat rw [Ak _ _ (by omega)]
   dsimp only at hj
   obtain ⟨Cq,Be,At⟩:=hj
   simp (disch:=omega) only [go_sem]
   refine Af (fun q=>?_) (fun q=>?_)
   .have q:j<ms.length:=by simpa using q
    obtain ⟨e,ee⟩:∃e,ms[j]?=some e:=⟨ms[j],by simp [q]⟩
    obtain ⟨x,y,rfl⟩:=hm e (zg ee)
    rw [A2 ee] at At
    have At:B=decide (v.s∈x::Gc (ms.drop (j+1))):=At
    simp (disch:=omega) only [q,LO,Ad ee,go_sem]
    refine Af (fun w=>?_) (fun w=>?_)
    .have w:x=v.s:=by simpa using w
     have:B=true:=by rw [At];simp [w]
     rw [iP this] at hRB
     subst hRB
     simp (disch:=omega) only [go_sem]
     all_goals
      refine BE (by (repeat rw [Ak _ _ (by omega)]);exact h) fun j hj j1=>?_
      repeat rw [Ak _ _ (by omega)]
      try rfl
    .have w:¬x=v.s:=by simpa using w
     have c':¬v.s=x:=fun e=>w e.symm
     simp (disch:=omega) only [go_sem]
     refine ⟨(j+1,m+20),⟨show j+1<=ms.length by omega,show n+3<=m+20 by omega,by rw [At];simp [c']⟩,by dsimp only;omega,EU hf ?_ ?_ ?_ ?_ (fun a ha d5=>?_) (by omega)⟩
     .simp (disch:=omega) only [Ao j (by omega),go_sem]
     .simp (disch:=omega) only [go_sem]
     .simp (disch:=omega) only [go_sem]
     .simp (disch:=omega) only [go_sem]
     .repeat rw [Ak _ _ (by omega)]
   .have q:j=ms.length:=by simp at q;omega
    subst q
    rw [zll] at At
    have:¬B=true:=by rw [At];simp [Gc]
    rw [iN this] at hRB
    subst hRB
    simp (disch:=omega) only [go_sem]
    refine Ac.x (hF _ (by repeat rw [Ak _ _ (by omega)]) _) ?_
    simp (disch:=omega) only [go_sem]
    all_goals
     refine BE (Ar _ _ _) fun j hj j1=>?_
     try simp only [zlh,zli]
     repeat rw [Ak _ _ (by omega)]
     try rfl
  .obtain ⟨q2,rfl⟩:v.k=3∧lit=false:=by rcases q with w | w;exact absurd w q1;exact w
   simp (disch:=omega) only [hc,dF q1,dT q2,hms,k1,k2,go_sem]
   refine loop (fun p:Nat×Nat=>⟨[(0,.bx c 0),(4,.bx n 0),(5,.bx (n+1) 0),(6,.bx (n+2) 0),(7,.i .i64 p.1)],(n+2,.bx [.i .i64 0,.i .i64 0,.s ⟨#[]⟩,.e0,.e0])::(n+1,.bx [.i .i64 v.k,.i .i64 v.n,.s v.s,.ds (Ab Aw v.items),.ds (Bq v.keys)])::(n,.bx [.i .i64 t.k,.s t.n,.ds t.impl,.ds t.dirs,.ds (Ab Bu t.fields),.ds ms,.ds t.inputs])::hp,p.2⟩) (fun p=>p.1<=ms.length∧n+3<=p.2∧B=decide (v.s∈Gc (ms.drop p.1))) (fun p=>ms.length - p.1) (0,n+3) ?_ ?_ (fun ⟨j,m⟩ hj=>?_)
   .exact ⟨by simp,by simp,hB.symm⟩
   .refine EU hf ?_ ?_ ?_ ?_ (fun a ha d5=>?_) (zna _)
    .simp (disch:=omega) only [go_sem]
    .simp (disch:=omega) only [go_sem]
    .simp (disch:=omega) only [go_sem]
    .simp (disch:=omega) only [go_sem]
    .repeat rw [Ak _ _ (by omega)]
   dsimp only at hj
   obtain ⟨Cq,Be,At⟩:=hj
   simp (disch:=omega) only [go_sem]
   refine Af (fun q=>?_) (fun q=>?_)
   .have q:j<ms.length:=by simpa using q
    obtain ⟨e,ee⟩:∃e,ms[j]?=some e:=⟨ms[j],by simp [q]⟩
    obtain ⟨x,y,rfl⟩:=hm e (zg ee)
    rw [A2 ee] at At
    have At:B=decide (v.s∈x::Gc (ms.drop (j+1))):=At
    simp (disch:=omega) only [q,LO,Ad ee,go_sem]
    refine Af (fun w=>?_) (fun w=>?_)
    .have w:x=v.s:=by simpa using w
     have:B=true:=by rw [At];simp [w]
     rw [iP this] at hRB
     subst hRB
     simp (disch:=omega) only [go_sem]
     all_goals
      refine BE (by (repeat rw [Ak _ _ (by omega)]);exact h) fun j hj j1=>?_
      repeat rw [Ak _ _ (by omega)]
      try rfl
    .have w:¬x=v.s:=by simpa using w
     have c':¬v.s=x:=fun e=>w e.symm
     simp (disch:=omega) only [go_sem]
     refine ⟨(j+1,m+20),⟨show j+1<=ms.length by omega,show n+3<=m+20 by omega,by rw [At];simp [c']⟩,by dsimp only;omega,EU hf ?_ ?_ ?_ ?_ (fun a ha d5=>?_) (by omega)⟩
     .simp (disch:=omega) only [Ao j (by omega),go_sem]
     .simp (disch:=omega) only [go_sem]
     .simp (disch:=omega) only [go_sem]
     .simp (disch:=omega) only [go_sem]
     .repeat rw [Ak _ _ (by omega)]
   .have q:j=ms.length:=by simp at q;omega
    subst q
    rw [zll] at At
    have:¬B=true:=by rw [At];simp [Gc]
    rw [iN this] at hRB
    subst hRB
    simp (disch:=omega) only [go_sem]
    refine Ac.x (hF _ (by repeat rw [Ak _ _ (by omega)]) _) ?_
    simp (disch:=omega) only [go_sem]
    all_goals
     refine BE (Ar _ _ _) fun j hj j1=>?_
     try simp only [zlh,zli]
     repeat rw [Ak _ _ (by omega)]
     try rfl
 .rw [iN fun e=>q e.1] at hR
  subst hR
  have q1:¬v.k=4:=fun e=>q (.inl e)
  by_cases q2:v.k=3
  .have:lit=true:=by cases lit;exact absurd (.inr ⟨q2,rfl⟩) q;rfl
   subst this
   simp (disch:=omega) only [hc,dF q1,dT q2,hms,k1,k2,go_sem]
   refine Ac.x (hF _ (by repeat rw [Ak _ _ (by omega)]) _) ?_
   simp (disch:=omega) only [go_sem]
   all_goals
    refine BE (Ar _ _ _) fun j hj j1=>?_
    try simp only [zlh,zli]
    repeat rw [Ak _ _ (by omega)]
    try rfl
  .simp (disch:=omega) only [hc,dF q1,dF q2,hms,k1,k2,go_sem]
   refine Ac.x (hF _ (by repeat rw [Ak _ _ (by omega)]) _) ?_
   simp (disch:=omega) only [go_sem]
   all_goals
    refine BE (Ar _ _ _) fun j hj j1=>?_
    try simp only [zlh,zli]
    repeat rw [Ak _ _ (by omega)]
    try rfl
end
