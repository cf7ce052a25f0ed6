/- Proof. Conditions: none. -/
import Derived.Test.YtgfidgoefioigaaGreatDoorIj37
noncomputable section
open List renaming mem_of_getElem?->zq
open Go.Proofs.Tryz
open List renaming cons_append->zlh,nil_append->zli,drop_length->zll
open Nat renaming le_refl->zna
namespace Go.Proofs.YtgfidgoefioigaaGreatDoor
open Go.Eng
set_option linter.all false
set_option maxRecDepth 20000
set_option maxHeartbeats 1000000
theorem Rq {doc:List Aw} (hd:DocB doc) (n:qB):Gp ((Az doc n).getD Dz).inputs:=by
 cases h:Az doc n with
 |none=>exact Ng
 |some t=>exact (hd.d t (List.mem_of_find?_eq_some h)).i
abbrev Ad3 (f:FuncId) (hp:CH) (m:Nat) (args:List AV) (B:Bool):Prop:=AO prog f hp m args (UI (fun b:Bool=>b=B) fun b Al n' r'=>Al=[]++hp∧n'=m∧r'=.b b)
def RF (doc:List Aw) (own:qB):Nat->Nat->List qB->List qB
 | 0,_,l=>l
 |f+1,j,l=>match l[j]? with
  |some x=>RF doc own f (j+1) (NS doc own (Bm ((Az doc x).getD Dz).inputs) l)
  |none=>l
theorem XK (doc:List Aw) (own:qB) (f:Nat) (l:List qB):RF doc own f l.length l=l:=by
 cases f with
 |zero=>rfl
 |succ f=>rw [RF,List.getElem?_eq_none (zna _)]
def Aam (doc:List Aw) (t:Aw):Bool:=if t.k=5 then decide (t.n∈RF doc t.n 66 0 (NS doc t.n (Bm t.inputs) [])) else false
inductive CiS
 | mk (j g:Nat) (l:List qB) (n:Nat)
theorem Fg (doc:List Aw) (hd:DocB doc) (t:Aw) (ht:Gp t.inputs) (hp:CH) (m:Nat):Ad3 126 hp m [B0 doc,Mc t] (Aam doc t):=by
 obtain ⟨B,hB⟩:=A5 (Aam doc t)
 rw [hB]
 unfold Aam at hB
 have G0:=hd.l
 refine FP (fun b:Bool=>b=B) (fun _=>[]) (fun b=>.b b) func126 (tA cc126) (tB cc126) (tC cc126) rfl (fun hf i hi=>trivial) fun hf=>?_
 unfold ck126
 simp only [go_sem]
 refine Ae (fun c=>?_) (fun c=>?_)
 .rw [iN (by simpa using c)] at hB
  simp only [go_sem]
  refine Cw false hB ?_
  simp only [go_sem]
  try rfl
 rw [iP (by simpa using c)] at hB
 obtain ⟨T,hT⟩:=A5 (RF doc t.n 66 0 (NS doc t.n (Bm t.inputs) []))
 rw [hT] at hB
 have hN:=fun Al m'=>AO.e0w (hp:=Al) (n:=m') (args:=[B0 doc,Mc t,.s t.n,.e0]) (m:=1) (i:=3) rfl rfl (Tc doc G0 t ht t.n m' 0 [] ⟨by simp,by simp⟩ ((m',.rw 0 1 [])::Al) (Ax _ _ _) (m'+1))
 simp only [go_sem]
 refine Ac.r (hN _ _) ?_
 rintro Al n' r ⟨i,hi,e1,e2,e3⟩
 subst e1
 subst e2
 subst e3
 obtain ⟨g,l⟩:=i
 obtain ⟨LX,HG,hi0⟩:=hi
 simp only [nxW,nxR,zlh,zli]
 simp (disch:=omega) only [go_sem]
 refine loop (fun p:CiS=>match p with
  | .mk j g' l' n=>⟨[(2,.bx m 0),(3,.bx (m+1) 0),(5,.rw (m+2) g' l'.length),(6,.i .i64 j)],(m+2,.rw g' 1 (Bd l'))::(m,.bx [.ds (Ab B8 doc)])::(m+1,.bx [.i .i64 t.k,.s t.n,.ds t.impl,.ds t.dirs,.ds (Ab Bv t.fields),.ds t.members,.ds t.inputs])::hp,n⟩)
  (fun p=>match p with | .mk j g' l' n=>j<=l'.length∧m+3<=n∧ChI doc t.n l'∧T=RF doc t.n (66 - j) j l') (fun p=>match p with | .mk j g' l' n=>66 - j) (.mk 0 g l (m+3)) ?_ ?_ (fun p hj=>?_)
 .exact ⟨Nat.zero_le _,zna _,LX,by rw [hi0];exact hT.symm⟩
 .dsimp only
  refine Fm hf ?_ ?_ ?_ ?_ (fun a ha c7=>?_) (zna _)
  .simp (disch:=omega) only [go_sem]
  .simp (disch:=omega) only [go_sem]
  .simp (disch:=omega) only [go_sem]
  .simp (disch:=omega) only [go_sem]
  .repeat rw [Ai _ _ (by omega)]
 obtain ⟨j,g',l',n⟩:=p
 obtain ⟨Cg,Bc,As,Ct⟩:=hj
 have hll:=As.len
 have hSl:(Bd l').length=l'.length:=Ao _ _
 have LV:(Bd l').take l'.length=Bd l':=List.take_of_length_le (by omega)
 dsimp only
 simp (disch:=omega) only [hSl,zna,LV,go_sem]
 refine Ae (fun q=>?_) (fun q=>?_)
 .have q:j<l'.length:=by simpa using q
  obtain ⟨x,ex⟩:∃x,l'[j]?=some x:=⟨l'[j],by simp [q]⟩
  have hfu:66 - j=66 - (j+1)+1:=by omega
  rw [hfu,RF,ex] at Ct
  dsimp only at Ct
  have hF:=BI doc (by omega) x
  have hBi:=Rq hd x
  obtain ⟨R,hR⟩:=A5 (Az doc x)
  rw [hR] at hF hBi Ct
  unfold Eh at hF
  obtain ⟨D,hD⟩:=A5 (R.getD Dz)
  rw [hD] at hF hBi Ct
  have hX:=fun Al e m'=>Tc doc G0 D hBi t.n (m+2) g' l' As Al e m'
  simp (disch:=omega) only [q,hSl,zna,LV,Ad (Aa Cz ex),go_sem]
  refine Aq.f (fun _ _ _=>hF _ _) ?_
  simp (disch:=omega) only [go_sem]
  refine ⟨⟨by omega,by omega,by omega⟩,?_⟩
  refine Ac.r (hX _ (by (simp (disch:=omega) only [go_sem])) _) ?_
  rintro Al n' r ⟨i,hi,e1,e2,e3⟩
  subst e1
  subst e2
  subst e3
  obtain ⟨g2,l2⟩:=i
  obtain ⟨Dw,Gq,H5⟩:=hi
  rw [<-H5] at Ct
  simp only [nxW,nxR,zlh,zli]
  simp (disch:=omega) only [go_sem]
  refine ⟨.mk (j+1) g2 l2 (n+50),⟨show j+1<=l2.length by omega,show m+3<=n+50 by omega,Dw,Ct⟩,by show 66 - (j+1)<66 - j;omega,?_⟩
  dsimp only
  refine Fm hf ?_ ?_ ?_ ?_ (fun a ha c7=>?_) (by omega)
  .simp (disch:=omega) only [Ap j (by omega),go_sem]
  .simp (disch:=omega) only [go_sem]
  .simp (disch:=omega) only [go_sem]
  .simp (disch:=omega) only [go_sem]
  .repeat rw [Ai _ _ (by omega)]
 .have q:j=l'.length:=by simp at q;omega
  subst q
  rw [XK] at Ct
  rw [Ct] at hB
  simp (disch:=omega) only [hSl,zna,LV,go_sem]
  have hH:=fun Al (e:gc Al (m+2)=.rw g' 1 (Bd l')) m'=>Ns l' t.n (by omega) e m'
  refine Ac.f (hH _ (by (simp (disch:=omega) only [go_sem])) _) ?_
  simp (disch:=omega) only [go_sem]
  refine Cw (decide (t.n∈l')) hB ?_
  have BC:m<=n:=by omega
  simp (disch:=omega) only [BC,go_sem]
theorem P9 (doc:List Aw) (G0:doc.length<=64) (n:qB) (hp:CH) (m:Nat):Af prog 128 hp m [B0 doc,.s n] (.b (BU n||(Az doc n).isSome)):=by
 have hF:=BI doc (by omega) n
 obtain ⟨R,hR⟩:=A5 (Az doc n)
 rw [hR] at hF ⊢
 unfold Eh at hF
 refine Aj func128 (tA cc128) (tB cc128) (tC cc128) rfl fun hf=>?_;unfold ck128
 simp only [go_sem]
 refine Ac.f (hF _ _) ?_
 simp (disch:=omega) only [go_sem]
 refine Ac.f (CP _ _ _) ?_
 simp (disch:=omega) only [go_sem]
def JF (doc:List Aw) (n:qB):Bool:=Ex doc n||((Az doc n).isSome&&decide (((Az doc n).getD Dz).k=5))
theorem HT (doc:List Aw) (G0:doc.length<=64) (n:qB) (hp:CH) (m:Nat):Af prog 130 hp m [B0 doc,.s n] (.b (JF doc n)):=by
 have hF:=BI doc (by omega) n
 have hL:=Io doc (by omega) n
 unfold JF
 obtain ⟨R,hR⟩:=A5 (Az doc n)
 rw [hR] at hF ⊢
 unfold Eh at hF
 obtain ⟨b,hb⟩:=A5 (Ex doc n)
 rw [hb] at hL ⊢
 refine Aj func130 (tA cc130) (tB cc130) (tC cc130) rfl fun hf=>?_;unfold ck130
 simp only [go_sem]
 refine Ac.f (hF _ _) ?_
 simp (disch:=omega) only [go_sem]
 refine Ac.f (hL _ _) ?_
 simp (disch:=omega) only [go_sem]
def QV (t:Aw):Bool:=if t.k=1∨t.k=2 then decide (t.fields.length=0) else if t.k=3∨t.k=4 then decide (t.members.length=0) else if t.k=5 then decide (t.inputs.length=0) else false
theorem XT (t:Aw) (hp:CH) (m:Nat):Af prog 125 hp m [Mc t] (.b (QV t)):=by
 have c1:∀n:Nat,decide ((n:Int)=0)=decide (n=0):=fun n=>by simp
 refine Aj func125 (tA cc125) (tB cc125) (tC cc125) rfl fun hf=>?_;unfold ck125
 by_cases k1:t.k=1
 .have:QV t=decide (t.fields.length=0):=by simp [QV,k1]
  rw [this]
  simp (disch:=omega) only [dT k1,c1,go_sem]
 by_cases k2:t.k=2
 .have:QV t=decide (t.fields.length=0):=by simp [QV,k2]
  rw [this]
  simp (disch:=omega) only [dF k1,dT k2,c1,go_sem]
 by_cases k3:t.k=3
 .have:QV t=decide (t.members.length=0):=by simp [QV,k3]
  rw [this]
  simp (disch:=omega) only [dF k1,dF k2,dT k3,c1,go_sem]
 by_cases k4:t.k=4
 .have:QV t=decide (t.members.length=0):=by simp [QV,k4]
  rw [this]
  simp (disch:=omega) only [dF k1,dF k2,dF k3,dT k4,c1,go_sem]
 by_cases k5:t.k=5
 .have:QV t=decide (t.inputs.length=0):=by simp [QV,k5]
  rw [this]
  simp (disch:=omega) only [dF k1,dF k2,dF k3,dF k4,dT k5,c1,go_sem]
 have:QV t=false:=by simp [QV,k1,k2,k3,k4,k5]
 rw [this]
 simp (disch:=omega) only [dF k1,dF k2,dF k3,dF k4,dF k5,c1,go_sem]
def Vk:BN:=.mk ⟨#[]⟩ ⟨#[]⟩ [] false A6 []
def Cd (l:List BN) (n:qB):Option BN:=l.find? fun x=>decide (x.n=n)
def Qi (o:Option BN):AV:=.tp [.ag (AD (o.getD Vk)),.b o.isSome]
theorem RA (t:BN) (l:List BN) (n:qB):Cd (t::l) n=if t.n=n then some t else Cd l n:=by
 unfold Cd
 rw [List.find?_cons]
 by_cases c:t.n=n
 .simp [c]
 .simp [c]
theorem DR (l:List BN) (hl:l.length<=1000000000000) (n:qB) (hp:CH) (m:Nat):Af prog 129 hp m [.ds (Ab AD l),.s n] (Qi (Cd l n)):=by
 obtain ⟨R,hR⟩:=A5 (Cd l n)
 rw [hR,Qi]
 refine Aj func129 (tA cc129) (tB cc129) (tC cc129) rfl fun hf=>?_;unfold ck129
 simp only [go_sem]
 refine loop (fun p:Nat×Nat=>⟨[(0,.ds (Ab AD l)),(1,.s n),(4,.bx m 0),(6,.i .i64 p.1)],(m,.bx [.s ⟨#[]⟩,.s ⟨#[]⟩,.e0,.b false,.i .i64 0,.i .i64 0,.s ⟨#[]⟩,.e0,.e0,.e0])::hp,p.2⟩)
  (fun p=>p.1<=l.length∧m+1<=p.2∧R=Cd (l.drop p.1) n) (fun p=>l.length - p.1) (0,m+1) ?_ ?_ (fun ⟨j,k⟩ hj=>?_)
 .exact ⟨by simp,by simp,hR.symm⟩
 .refine Gu hf ?_ ?_ ?_ (zna _)
  all_goals (simp (disch:=omega) only [go_sem])
 dsimp only at hj
 obtain ⟨Cg,Bc,As⟩:=hj
 have O4:m<=k:=by omega
 simp (disch:=omega) only [go_sem]
 refine Ae (fun q=>?_) (fun q=>?_)
 .have q:j<l.length:=by simpa using q
  obtain ⟨y,et⟩:∃y,l[j]?=some y:=⟨l[j],by simp [q]⟩
  rw [A2 et,RA] at As
  simp (disch:=omega) only [q,Ad (Aa AD et),go_sem]
  refine Ae (fun c=>?_) (fun c=>?_)
  .have c:y.n=n:=by simpa using c
   rw [iP c] at As
   subst As
   simp (disch:=omega) only [O4,q,Ad (Aa AD et),Option.getD_some,Option.isSome_some,go_sem]
  .have c:¬y.n=n:=by simpa using c
   rw [iN c] at As
   simp (disch:=omega) only [go_sem]
   refine ⟨(j+1,_),⟨by dsimp only;omega,by dsimp only;omega,As⟩,by dsimp only;omega,Gu hf ?_ ?_ ?_ (zna _)⟩
   all_goals
    simp (disch:=omega) only [Ap j (by omega),O4,go_sem]
 .have q:j=l.length:=by simp at q;omega
  subst q
  rw [zll] at As
  have As:R=none:=As
  subst As
  simp (disch:=omega) only [O4,go_sem]
  try rfl
set_option maxHeartbeats 2000000
abbrev Be:=Nat × Int
def BZ (doc:List Aw) (lit:Bool) (s:Be):Ak:=.bx [.ds (Ab B8 doc),.i .i64 0,.i .i64 0,.s ⟨#[]⟩,.e0,.e0,.b lit,.i .i64 s.1,.i .i64 s.2]
theorem FSw {n:Nat} {c:Nat} {doc:List Aw} {lit:Bool} {s:Be} (h:c<n):wsLt n [(c,BZ doc lit s)]:=by
 refine ⟨h,?_,trivial⟩
 intro U hα
 simp only [List.mem_cons,List.not_mem_nil,or_false] at hα
 rcases hα with rfl | rfl | rfl | rfl | rfl | rfl | rfl | rfl | rfl<;>rfl
theorem BK {n c:Nat} {X:Ak} {hp Al:CH} (h1:gc Al c=X) (h2:∀j,j<n->j≠c->gc Al j=gc hp j):Up n ([(c,X)]++hp) Al:=fun j hj=>by
 simp only [zlh,zli]
 by_cases e:c=j
 .subst e;rw [Ax,h1]
 .rw [Ai _ _ e];exact h2 j hj fun e'=>e e'.symm
def Cn (e:Int) (s:Be):Be:=(s.1,if s.2=0 then e else s.2)
def HC (lv:Nat) (s:Be):Be :=
 let s1:=if 24<lv then Cn 5 s else s
 if 4096<s1.1+1 then Cn 4 (s1.1+1,s1.2) else (s1.1+1,s1.2)
section
variable {doc:List Aw} {lit:Bool} {s:Be} {c:Nat} {hp:CH}
theorem DD {n:Nat} (h:gc hp c=BZ doc lit s) (hf:∀k,n<=k->gc hp k=.no):c<n:=Ca hf h (fun e=>by cases e)
theorem CU (h:gc hp c=BZ doc lit s) (e:Int) (n:Nat):AU prog 180 hp n [.bx c 0,.i .i64 e] ([(c,BZ doc lit (Cn e s))]++hp) n (.tp []):=by
 have Dg:(∀k,n<=k->gc hp k=.no)->wsLt n [(c,BZ doc lit (Cn e s))]:=fun hf=>FSw (DD h hf)
 have hc:gc hp c=.bx [.ds (Ab B8 doc),.i .i64 0,.i .i64 0,.s ⟨#[]⟩,.e0,.e0,.b lit,.i .i64 s.1,.i .i64 s.2]:=h
 refine BR func180 (tA cc180) (tB cc180) (tC cc180) rfl Dg fun hf=>?_;unfold ck180
 have l1:=DD h hf
 unfold Cn
 simp (disch:=omega) only [hc,go_sem]
 by_cases q:s.2=0
 .simp (disch:=omega) only [hc,dT q,go_sem]
  refine BK ?_ fun j hj j1=>?_
  .simp only [q,if_true,BZ]
   simp (disch:=omega) only [go_sem]
  .have j2:¬c=j:=fun e=>j1 e.symm
   simp (disch:=omega) only [j2,go_sem]
 .simp (disch:=omega) only [hc,dF q,go_sem]
  refine BK ?_ fun j hj j1=>rfl
  simp only [q,if_false,BZ]
  exact hc
theorem UB (h:gc hp c=BZ doc lit s) (lv:Nat) (hl:lv<=1000) (hs:s.1<=1000000) (n:Nat):AU prog 182 hp n [.bx c 0,.i .i64 lv] ([(c,BZ doc lit (HC lv s))]++hp) n (.tp []):=by
 have Dg:(∀k,n<=k->gc hp k=.no)->wsLt n [(c,BZ doc lit (HC lv s))]:=fun hf=>FSw (DD h hf)
 have hc:gc hp c=.bx [.ds (Ab B8 doc),.i .i64 0,.i .i64 0,.s ⟨#[]⟩,.e0,.e0,.b lit,.i .i64 s.1,.i .i64 s.2]:=h
 refine BR func182 (tA cc182) (tB cc182) (tC cc182) rfl Dg fun hf=>?_;unfold ck182
 have l1:=DD h hf
 unfold HC
 have w1:IntKind.i64.wrap ((s.1:Int)+1)=((s.1+1:Nat):Int):=Ap s.1 (by omega)
 have j2:∀j,j≠c->¬c=j:=fun j h e=>h e.symm
 simp (disch:=omega) only [go_sem]
 refine Ae (fun q=>?_) (fun q=>?_)
 .have q:24<lv:=by simp at q;omega
  rw [iP q]
  simp (disch:=omega) only [go_sem]
  refine Ac.x (CU h 5 _) ?_
  have h':gc ([(c,BZ doc lit (Cn 5 s))]++hp) c=BZ doc lit (Cn 5 s):=Ax _ _ _
  have w2:(Cn 5 s).1=s.1:=rfl
  obtain ⟨s',hs'⟩:=A5 (Cn 5 s)
  rw [hs'] at h' w2 ⊢
  rw [<-w2] at w1
  have Mt:=h'
  unfold BZ at Mt
  simp (disch:=omega) only [BZ,Mt,w1,go_sem]
  refine Ae (fun q2=>?_) (fun q2=>?_)
  .have q2:4096<s'.1+1:=by simp at q2;omega
   rw [iP q2]
   simp (disch:=omega) only [go_sem]
   refine Ac.x (CU (doc:=doc) (lit:=lit) (s:=(s'.1+1,s'.2)) (Ax _ _ _) 4 _) ?_
   simp (disch:=omega) only [go_sem]
   all_goals
    refine BK (Ax _ _ _) fun j hj j1=>?_
    have j3:=j2 j j1
    simp (disch:=omega) only [j3,go_sem]
  .have q2:¬4096<s'.1+1:=by simp at q2;omega
   rw [iN q2]
   simp (disch:=omega) only [go_sem]
   all_goals
    refine BK (Ax _ _ _) fun j hj j1=>?_
    have j3:=j2 j j1
    simp (disch:=omega) only [j3,go_sem]
 .have q:¬24<lv:=by simp at q;omega
  rw [iN q]
  have h':=h
  obtain ⟨s',hs'⟩:∃s':Be,s'=s:=⟨_,rfl⟩
  have w2:s'.1=s.1:=by rw [hs']
  rw [<-hs'] at h'
  rw [<-w2] at w1
  rw [<-hs']
  simp (disch:=omega) only [go_sem]
  have Mt:=h'
  unfold BZ at Mt
  simp (disch:=omega) only [BZ,Mt,w1,go_sem]
  refine Ae (fun q2=>?_) (fun q2=>?_)
  .have q2:4096<s'.1+1:=by simp at q2;omega
   rw [iP q2]
   simp (disch:=omega) only [go_sem]
   refine Ac.x (CU (doc:=doc) (lit:=lit) (s:=(s'.1+1,s'.2)) (Ax _ _ _) 4 _) ?_
   simp (disch:=omega) only [go_sem]
   all_goals
    refine BK (Ax _ _ _) fun j hj j1=>?_
    have j3:=j2 j j1
    simp (disch:=omega) only [j3,go_sem]
  .have q2:¬4096<s'.1+1:=by simp at q2;omega
   rw [iN q2]
   simp (disch:=omega) only [go_sem]
   all_goals
    refine BK (Ax _ _ _) fun j hj j1=>?_
    have j3:=j2 j j1
    simp (disch:=omega) only [j3,go_sem]
theorem Iq (h:gc hp c=BZ doc lit s) (v:Ag) (n:Nat):Af prog 164 hp n [.bx c 0,vx v] (.b (lit&&decide (v.k=7))):=by
 have hc:gc hp c=.bx [.ds (Ab B8 doc),.i .i64 0,.i .i64 0,.s ⟨#[]⟩,.e0,.e0,.b lit,.i .i64 s.1,.i .i64 s.2]:=h
 have hG:∀hp m,Af prog 18 hp m [.ag [.i .i64 0,.i .i64 0,.s ⟨#[]⟩,.e0,.e0],.s v.s] (.tp [vx A6,.b false]):=fun hp m=>(DA A6 (.mk _ (by show 0*80<=_;decide) (by show 0*16<=_;decide) (fun x (hx:x∈([]:List Ag))=>(by cases hx))) v.s hp m).cv rfl
 refine Aj func164 (tA cc164) (tB cc164) (tC cc164) rfl fun hf=>?_;unfold ck164
 have l1:=DD h hf
 cases lit with
 |false=>
  simp (disch:=omega) only [hc,go_sem]
 |true=>
  simp (disch:=omega) only [hc,go_sem]
  refine Ae (fun q=>?_) (fun q=>?_)
  .have q:decide (v.k=7)=false:=by simpa using q
   rw [q]
   first | done | (simp (disch:=omega) only [go_sem])
  .have q:decide (v.k=7)=true:=by simpa using q
   rw [q]
   have k1:¬n=c:=by omega
   have k2:¬n+11=c:=by omega
   simp (disch:=omega) only [hc,k1,go_sem]
   refine Aq.f (fun _ _ _=>hG _ _) ?_
   simp (disch:=omega) only [k2,go_sem]
end
def Q2 (name:qB) (v:Ag) (s:Be):Ag×Be :=
 if name=H1∧v.k=2∧-2147483648<=v.n∧v.n<2147483648 then (v,s)
 else if name=BF∧v.k=3∨name=B2∧v.k=1∨name=Gy∧v.k=3 then (v,s)
 else if name=Gy∧v.k=2 then (.mk 3 0 (Uv (Lib.itoa v.n)) [] [],s) else (A6,Cn 23 s)
section
variable {doc:List Aw} {lit:Bool} {s:Be} {c:Nat} {hp:CH}
theorem OZ (h:gc hp c=BZ doc lit s) (name:qB) (v:Ag) (hr:v.Rng) (n:Nat):AU prog 184 hp n [.bx c 0,.s name,vx v] ([(c,BZ doc lit (Q2 name v s).2)]++hp) n (vx (Q2 name v s).1):=by
 have Dg:(∀k,n<=k->gc hp k=.no)->wsLt n [(c,BZ doc lit (Q2 name v s).2)]:=fun hf=>FSw (DD h hf)
 have hc:=h
 unfold BZ at hc
 have hD:=J6 v.n hr.l hr.u
 have hF:=fun (Al:CH) (e:gc Al c=gc hp c) (n':Nat)=>CU (hp:=Al) (e.trans h) 23 n'
 refine BR func184 (tA cc184) (tB cc184) (tC cc184) rfl Dg fun hf=>?_;unfold ck184
 have l1:=DD h hf
 obtain ⟨R,hR⟩:=A5 (Q2 name v s)
 rw [hR]
 unfold Q2 at hR
 simp (disch:=omega) only [go_sem]
 refine Ae (fun q=>?_) (fun q=>?_)
 .have p:name=H1∧v.k=2∧-2147483648<=v.n∧v.n<2147483648:=by simpa [H1,and_assoc] using q
  rw [iP p] at hR
  subst hR
  simp (disch:=omega) only [go_sem]
  exact BK h fun j hj j1=>rfl
 have p1:¬(name=H1∧v.k=2∧-2147483648<=v.n∧v.n<2147483648):=by intro w;simp [w.1,w.2.1,w.2.2.1,w.2.2.2,H1] at q
 rw [iN p1] at hR
 simp (disch:=omega) only [go_sem]
 refine Ae (fun q2=>?_) (fun q2=>?_)
 .have p:name=BF∧v.k=3∨name=B2∧v.k=1∨name=Gy∧v.k=3:=.inl (by simpa [BF] using q2)
  rw [iP p] at hR
  subst hR
  simp (disch:=omega) only [q2,go_sem]
  exact BK h fun j hj j1=>rfl
 simp (disch:=omega) only [go_sem]
 refine Ae (fun q3=>?_) (fun q3=>?_)
 .have p:name=BF∧v.k=3∨name=B2∧v.k=1∨name=Gy∧v.k=3:=.inr (.inl (by simpa [B2] using q3))
  rw [iP p] at hR
  subst hR
  simp (disch:=omega) only [q3,go_sem]
  exact BK h fun j hj j1=>rfl
 simp (disch:=omega) only [go_sem]
 refine Ae (fun q4=>?_) (fun q4=>?_)
 .have p:name=BF∧v.k=3∨name=B2∧v.k=1∨name=Gy∧v.k=3:=.inr (.inr (by simpa [Gy] using q4))
  rw [iP p] at hR
  subst hR
  simp (disch:=omega) only [q4,go_sem]
  exact BK h fun j hj j1=>rfl
 have p2:¬(name=BF∧v.k=3∨name=B2∧v.k=1∨name=Gy∧v.k=3):=by
  rintro (w | w | w)
  .simp [w.1,w.2,BF] at q2
  .simp [w.1,w.2,B2] at q3
  .simp [w.1,w.2,Gy] at q4
 rw [iN p2] at hR
 simp (disch:=omega) only [go_sem]
 refine Ae (fun q5=>?_) (fun q5=>?_)
 .have p:name=Gy∧v.k=2:=by simpa [Gy] using q5
  rw [iP p] at hR
  subst hR
  simp (disch:=omega) only [go_sem]
  refine Ac.f (hD _ _) ?_
  simp (disch:=omega) only [go_sem]
  try exact BK h fun j hj j1=>rfl
 have p3:¬(name=Gy∧v.k=2):=by intro w;simp [w.1,w.2,Gy] at q5
 rw [iN p3] at hR
 subst hR
 simp (disch:=omega) only [go_sem]
 refine Ac.x (hF _ (by repeat rw [Ai _ _ (by omega)]) _) ?_
 simp (disch:=omega) only [go_sem]
 all_goals
  refine BK (Ax _ _ _) fun j hj j1=>?_
  try simp only [zlh,zli]
  repeat rw [Ai _ _ (by omega)]
  try rfl
def enE (lit:Bool) (t:Aw) (v:Ag) (s:Be):Ag×Be :=
 if (v.k=4∨v.k=3∧lit=false)∧v.s∈F7 t.members then (.mk 4 0 v.s [] [],s) else (A6,Cn 23 s)
theorem U3 (h:gc hp c=BZ doc lit s) (t:Aw) (hm:∀e∈t.members,∃x y,e=[AV.s x,.ds y]) (hl:t.members.length<=1000000000000) (v:Ag) (n:Nat):AU prog 185 hp n [.bx c 0,Mc t,vx v] ([(c,BZ doc lit (enE lit t v s).2)]++hp) n (vx (enE lit t v s).1):=by
 have Dg:(∀k,n<=k->gc hp k=.no)->wsLt n [(c,BZ doc lit (enE lit t v s).2)]:=fun hf=>FSw (DD h hf)
 have hc:=h
 unfold BZ at hc
 obtain ⟨ms,hms⟩:=A5 (t.members)
 have Kb:∀e∈ms,e.length=2:=fun e he=>by obtain ⟨x,y,rfl⟩:=hm e (by rw [hms];exact he);rfl
 have Kb:=eq_true Kb
 obtain ⟨R,hR⟩:=A5 (enE lit t v s)
 rw [hR] at Dg ⊢
 unfold enE at hR
 rw [hms] at hR hm hl
 refine BR func185 (tA cc185) (tB cc185) (tC cc185) rfl Dg fun hf=>?_;unfold ck185
 have l1:=DD h hf
 have hF:=fun (Al:CH) (e:gc Al c=gc hp c) (n':Nat)=>CU (hp:=Al) (e.trans h) 23 n'
 have k1:¬n=c:=by omega
 have k2:¬n+1=c:=by omega
 by_cases q:v.k=4∨v.k=3∧lit=false
 .have hR2:(if v.s∈F7 ms then (Ag.mk 4 0 v.s [] [],s) else (A6,Cn 23 s))=R:=by
   rw [<-hR]
   by_cases w:v.s∈F7 ms
   .rw [iP w,iP ⟨q,w⟩]
   .rw [iN w,iN fun e=>w e.2]
  obtain ⟨B,hB⟩:=A5 (decide (v.s∈F7 ms))
  have hRB:(if B=true then (Ag.mk 4 0 v.s [] [],s) else (A6,Cn 23 s))=R:=by
   rw [<-hR2,<-hB]
   by_cases w:v.s∈F7 ms
   .simp [w]
   .simp [w]
  clear hR hR2
  by_cases q1:v.k=4
  .simp (disch:=omega) only [hc,dT q1,hms,k1,k2,go_sem]
   refine loop (fun p:Nat×Nat=>⟨[(0,.bx c 0),(4,.bx n 0),(5,.bx (n+1) 0),(6,.bx (n+2) 0),(7,.i .i64 p.1)],(n+2,.bx [.i .i64 0,.i .i64 0,.s ⟨#[]⟩,.e0,.e0])::(n+1,.bx [.i .i64 v.k,.i .i64 v.n,.s v.s,.ds (Ab Ar v.items),.ds (Bd v.keys)])::(n,.bx [.i .i64 t.k,.s t.n,.ds t.impl,.ds t.dirs,.ds (Ab Bv t.fields),.ds ms,.ds t.inputs])::hp,p.2⟩) (fun p=>p.1<=ms.length∧n+3<=p.2∧B=decide (v.s∈F7 (ms.drop p.1))) (fun p=>ms.length - p.1) (0,n+3) ?_ ?_ (fun ⟨j,m⟩ hj=>?_)
   .exact ⟨by simp,by simp,hB.symm⟩
   .refine Fm hf ?_ ?_ ?_ ?_ (fun a ha c7=>?_) (zna _)
    .simp (disch:=omega) only [go_sem]
    .simp (disch:=omega) only [go_sem]
    .simp (disch:=omega) only [go_sem]
    .simp (disch:=omega) only [go_sem]
    .repeat rw [Ai _ _ (by omega)]
   dsimp only at hj
   obtain ⟨Cg,Bc,As⟩:=hj
   simp (disch:=omega) only [go_sem]
   refine Ae (fun q=>?_) (fun q=>?_)
   .have q:j<ms.length:=by simpa using q
    obtain ⟨e,ee⟩:∃e,ms[j]?=some e:=⟨ms[j],by simp [q]⟩
    obtain ⟨x,y,rfl⟩:=hm e (zq ee)
    rw [A2 ee] at As
    have As:B=decide (v.s∈x::F7 (ms.drop (j+1))):=As
    simp (disch:=omega) only [q,Kb,Ad ee,go_sem]
    refine Ae (fun w=>?_) (fun w=>?_)
    .have w:x=v.s:=by simpa using w
     have:B=true:=by rw [As];simp [w]
     rw [iP this] at hRB
     subst hRB
     simp (disch:=omega) only [go_sem]
     all_goals
      refine BK (by (repeat rw [Ai _ _ (by omega)]);exact h) fun j hj j1=>?_
      repeat rw [Ai _ _ (by omega)]
      try rfl
    .have w:¬x=v.s:=by simpa using w
     have c':¬v.s=x:=fun e=>w e.symm
     simp (disch:=omega) only [go_sem]
     refine ⟨(j+1,m+20),⟨show j+1<=ms.length by omega,show n+3<=m+20 by omega,by rw [As];simp [c']⟩,by dsimp only;omega,Fm hf ?_ ?_ ?_ ?_ (fun a ha c7=>?_) (by omega)⟩
     .simp (disch:=omega) only [Ap j (by omega),go_sem]
     .simp (disch:=omega) only [go_sem]
     .simp (disch:=omega) only [go_sem]
     .simp (disch:=omega) only [go_sem]
     .repeat rw [Ai _ _ (by omega)]
   .have q:j=ms.length:=by simp at q;omega
    subst q
    rw [zll] at As
    have:¬B=true:=by rw [As];simp [F7]
    rw [iN this] at hRB
    subst hRB
    simp (disch:=omega) only [go_sem]
    refine Ac.x (hF _ (by repeat rw [Ai _ _ (by omega)]) _) ?_
    simp (disch:=omega) only [go_sem]
    all_goals
     refine BK (Ax _ _ _) fun j hj j1=>?_
     try simp only [zlh,zli]
     repeat rw [Ai _ _ (by omega)]
     try rfl
  .obtain ⟨q2,rfl⟩:v.k=3∧lit=false:=by rcases q with w | w;exact absurd w q1;exact w
   simp (disch:=omega) only [hc,dF q1,dT q2,hms,k1,k2,go_sem]
   refine loop (fun p:Nat×Nat=>⟨[(0,.bx c 0),(4,.bx n 0),(5,.bx (n+1) 0),(6,.bx (n+2) 0),(7,.i .i64 p.1)],(n+2,.bx [.i .i64 0,.i .i64 0,.s ⟨#[]⟩,.e0,.e0])::(n+1,.bx [.i .i64 v.k,.i .i64 v.n,.s v.s,.ds (Ab Ar v.items),.ds (Bd v.keys)])::(n,.bx [.i .i64 t.k,.s t.n,.ds t.impl,.ds t.dirs,.ds (Ab Bv t.fields),.ds ms,.ds t.inputs])::hp,p.2⟩) (fun p=>p.1<=ms.length∧n+3<=p.2∧B=decide (v.s∈F7 (ms.drop p.1))) (fun p=>ms.length - p.1) (0,n+3) ?_ ?_ (fun ⟨j,m⟩ hj=>?_)
   .exact ⟨by simp,by simp,hB.symm⟩
   .refine Fm hf ?_ ?_ ?_ ?_ (fun a ha c7=>?_) (zna _)
    .simp (disch:=omega) only [go_sem]
    .simp (disch:=omega) only [go_sem]
    .simp (disch:=omega) only [go_sem]
    .simp (disch:=omega) only [go_sem]
    .repeat rw [Ai _ _ (by omega)]
   dsimp only at hj
   obtain ⟨Cg,Bc,As⟩:=hj
   simp (disch:=omega) only [go_sem]
   refine Ae (fun q=>?_) (fun q=>?_)
   .have q:j<ms.length:=by simpa using q
    obtain ⟨e,ee⟩:∃e,ms[j]?=some e:=⟨ms[j],by simp [q]⟩
    obtain ⟨x,y,rfl⟩:=hm e (zq ee)
    rw [A2 ee] at As
    have As:B=decide (v.s∈x::F7 (ms.drop (j+1))):=As
    simp (disch:=omega) only [q,Kb,Ad ee,go_sem]
    refine Ae (fun w=>?_) (fun w=>?_)
    .have w:x=v.s:=by simpa using w
     have:B=true:=by rw [As];simp [w]
     rw [iP this] at hRB
     subst hRB
     simp (disch:=omega) only [go_sem]
     all_goals
      refine BK (by (repeat rw [Ai _ _ (by omega)]);exact h) fun j hj j1=>?_
      repeat rw [Ai _ _ (by omega)]
      try rfl
    .have w:¬x=v.s:=by simpa using w
     have c':¬v.s=x:=fun e=>w e.symm
     simp (disch:=omega) only [go_sem]
     refine ⟨(j+1,m+20),⟨show j+1<=ms.length by omega,show n+3<=m+20 by omega,by rw [As];simp [c']⟩,by dsimp only;omega,Fm hf ?_ ?_ ?_ ?_ (fun a ha c7=>?_) (by omega)⟩
     .simp (disch:=omega) only [Ap j (by omega),go_sem]
     .simp (disch:=omega) only [go_sem]
     .simp (disch:=omega) only [go_sem]
     .simp (disch:=omega) only [go_sem]
     .repeat rw [Ai _ _ (by omega)]
   .have q:j=ms.length:=by simp at q;omega
    subst q
    rw [zll] at As
    have:¬B=true:=by rw [As];simp [F7]
    rw [iN this] at hRB
    subst hRB
    simp (disch:=omega) only [go_sem]
    refine Ac.x (hF _ (by repeat rw [Ai _ _ (by omega)]) _) ?_
    simp (disch:=omega) only [go_sem]
    all_goals
     refine BK (Ax _ _ _) fun j hj j1=>?_
     try simp only [zlh,zli]
     repeat rw [Ai _ _ (by omega)]
     try rfl
 .rw [iN fun e=>q e.1] at hR
  subst hR
  have q1:¬v.k=4:=fun e=>q (.inl e)
  by_cases q2:v.k=3
  .have:lit=true:=by cases lit;exact absurd (.inr ⟨q2,rfl⟩) q;rfl
   subst this
   simp (disch:=omega) only [hc,dF q1,dT q2,hms,k1,k2,go_sem]
   refine Ac.x (hF _ (by repeat rw [Ai _ _ (by omega)]) _) ?_
   simp (disch:=omega) only [go_sem]
   all_goals
    refine BK (Ax _ _ _) fun j hj j1=>?_
    try simp only [zlh,zli]
    repeat rw [Ai _ _ (by omega)]
    try rfl
  .simp (disch:=omega) only [hc,dF q1,dF q2,hms,k1,k2,go_sem]
   refine Ac.x (hF _ (by repeat rw [Ai _ _ (by omega)]) _) ?_
   simp (disch:=omega) only [go_sem]
   all_goals
    refine BK (Ax _ _ _) fun j hj j1=>?_
    try simp only [zlh,zli]
    repeat rw [Ai _ _ (by omega)]
    try rfl
end
