/- Proof. Conditions: none. -/
import Derived.Test.YtgfidgoefioigaaGreatDoorIj5
open List renaming mem_of_getElem?->zq,replicate->z2i,range->z2u
open Option renaming map_some->z8
namespace Go.Eng
set_option linter.all false
section
variable {h h':HP} {J ρ':RO} {v:Value} {U:AV} {w w':World} {hp:CH} {n:Nat} {P:Program} {args:List AV} {K:AV->Prop} {b:Bool} {p:Prop} {env:EN} {op:Au} {s':St}
def AO (P:Program) (f:FuncId) (hp:CH) (n:Nat) (args:List AV) (R:CH->Nat->AV->Prop):Prop :=
 (∃ fn, P.funcs[f]? = some fn ∧ (fn.name == "runtime.NumGoroutine") = false ∧ fn.body.isNone = false) ∧
 ∀h J w (vs:List Value),SatH h J hp n w->Bx h J args vs->Calls P f vs.toArray w fun e w'=>∃v,e=.returned v∧∃h' ρ' Al n' r,R Al n' r∧BQ h h'∧Ck J ρ' ∧
  SatH h' ρ' Al n' w'∧Ba h' ρ' r v∧Keeps (AI J hp) w w'∧∀b,AI ρ' Al b->AI J hp b∨w.heap.size<=b
def Af (P:Program) (f:FuncId) (hp:CH) (n:Nat) (args:List AV) (r:AV):Prop :=
 (∃ fn, P.funcs[f]? = some fn ∧ (fn.name == "runtime.NumGoroutine") = false ∧ fn.body.isNone = false) ∧
 ∀h J w (vs:List Value),SatH h J hp n w->Bx h J args vs->Calls P f vs.toArray w fun e w'=>∃v,e=.returned v∧∃h',BQ h h'∧SatH h' J hp n w'∧Bq h' r v∧Keeps (AI J hp) w w'
def AV.purR:AV->Bool
 | .ag l=>l.all AV.pur
 | .tp l=>l.all fun U=>match U with
  | .ag l=>l.all AV.pur
  | U=>U.pur
 | U=>U.pur
theorem Qg {l:List AV} (r:Ba h J (.ag l) v) (o:l.all AV.pur=true):Bq h (.ag l) v:=by
 obtain ⟨vs,rfl,rs⟩:=r.agg
 exact .ag _ _ rs.1 fun j U v h1 h2=>AV.pur_rel (rs.2 j U v h1 h2) (List.all_eq_true.1 o _ (zq h1))
theorem AV.purR_rel (r:Ba h J U v) (o:U.purR=true):Bq h U v:=by
 unfold AV.purR at o
 split at o
 .exact Qg r o
 .obtain ⟨vs,rfl,rs⟩:=r.tup
  refine .tp _ _ rs.1 fun j U v h1 h2=>?_
  have:=List.all_eq_true.1 o _ (zq h1)
  have r1:=rs.2 j U v h1 h2
  split at this
  .exact Qg r1 this
  .exact AV.pur_rel r1 this
 .exact AV.pur_rel r o
theorem Ak.back {k:Nat} {c:Ak} (hr:Ck J ρ') (s0:c.sat h J w k) (s:c.sat h' ρ' w' k):c.sat h' J w' k:=by
 cases c with
 |no=>trivial
 |bx cs=>
  obtain ⟨b,c,vs,e,h1,h2,h3,h4⟩:=s0
  obtain ⟨b',c',p9,e',Gi,EY,h3',h4'⟩:=s
  rw [hr _ _ _ h1] at Gi
  cases Gi
  refine ⟨b,c,p9,e',h1,EY,h3',fun j U v a1 a2=>?_⟩
  have hj:j<vs.size:=by have:=(List.getElem?_eq_some_iff.1 a1).1;omega
  exact Ba.back hr (h4 j U vs[j] a1 (by simp [hj])) (h4' j U v a1 a2)
 |rw g n l=>
  obtain ⟨ob,cap,h1,_⟩:=s0
  obtain ⟨o7,i6,Gi,hx⟩:=s
  rw [hr _ _ _ h1] at Gi
  cases Gi
  exact ⟨ob,cap,h1,hx⟩
 |rc g n cap l=>
  obtain ⟨ob,h1,_⟩:=s0
  obtain ⟨o7,Gi,hx⟩:=s
  rw [hr _ _ _ h1] at Gi
  cases Gi
  exact ⟨ob,h1,hx⟩
 |sh g n l=>
  obtain ⟨ob,cap,h1,_⟩:=s0
  obtain ⟨o7,i6,Gi,hx⟩:=s
  rw [hr _ _ _ h1] at Gi
  cases Gi
  exact ⟨ob,cap,h1,hx⟩
 |mp l=>
  obtain ⟨b,c,es,cl,h1,_⟩:=s0
  obtain ⟨b',c',l8,cl',Gi,hx⟩:=s
  rw [hr _ _ _ h1] at Gi
  cases Gi
  exact ⟨b,c,l8,cl',h1,hx⟩
 |mq F=>
  obtain ⟨b,c,es,cl,h1,_⟩:=s0
  obtain ⟨b',c',l8,cl',Gi,hx⟩:=s
  rw [hr _ _ _ h1] at Gi
  cases Gi
  exact ⟨b,c,l8,cl',h1,hx⟩
 |mr l sn=>
  obtain ⟨b,c,es,cl,h1,_,_,_,_,b2,c2,x7,g1,_⟩:=s0
  obtain ⟨b',c',l8,cl',Gi,x1,x2,x3,x4,b2',c2',sn2',g1',x5⟩:=s
  rw [hr _ _ _ h1] at Gi
  cases Gi
  rw [hr _ _ _ g1] at g1'
  cases g1'
  exact ⟨b,c,l8,cl',h1,x1,x2,x3,x4,b2,c2,sn2',g1,x5⟩
 |ro cs=>
  obtain ⟨b,c,vs,e,fr,h1,_⟩:=s0
  obtain ⟨b',c',p9,e',fr',Gi,hx⟩:=s
  rw [hr _ _ _ h1] at Gi
  cases Gi
  exact ⟨b,c,p9,e',fr',h1,hx⟩
 |rn g n l=>
  obtain ⟨ob,cap,h1,_,_,_,_,q⟩:=s0
  obtain ⟨o7,i6,Gi,a1,a2,a3,a4,q'⟩:=s
  rw [hr _ _ _ h1] at Gi
  cases Gi
  refine ⟨ob,cap,h1,a1,a2,a3,a4,fun b hb=>?_⟩
  obtain ⟨vs,e,z1,z2,z3⟩:=q b hb
  obtain ⟨p9,e',y1,y2,y3⟩:=q' b hb
  refine ⟨p9,e',y1,y2,fun j x q U g1 g2=>?_⟩
  obtain ⟨u,u1,u2⟩:=z3 j x q U g1 g2
  obtain ⟨u',u1',u2'⟩:=y3 j x q U g1 g2
  exact ⟨u',u1',Ba.back hr u2 u2'⟩
 |sb T e g bs=>
  obtain ⟨b,c,p,v,h1,h2,h3,h4,h5,⟨y,hy⟩,h6⟩:=s0
  obtain ⟨b',c',p',v',Gi,EY,h3',h4',h5',h7',h6'⟩:=s
  rw [hr _ _ _ h1] at Gi
  cases Gi
  refine ⟨b,c,p',v',h1,EY,h3',h4',h5',⟨y,hy⟩,fun b2 e2=>?_⟩
  obtain ⟨q1,c2,q2⟩:=h6' b2 e2
  rw [hr _ _ _ hy] at q2
  cases q2
  exact ⟨q1,c2,hy⟩
theorem SatH.back {n':Nat} (hr:Ck J ρ') (m0:SatH h J hp n w) (m:SatH h' ρ' hp n' w'):SatH h' J hp n w':=by
 have hl:∀b,AI J hp b->AI ρ' hp b:=fun b ⟨k,g,c,e,r⟩=>⟨k,g,c,e,hr _ _ _ r⟩
 exact ⟨m.hh,fun k=>Ak.back hr (m0.ch k) (m.ch k),m0.inj,fun b hb=>m.hid b (hl b hb),fun b hb=>m.lt b (hl b hb),m0.fr,m0.gens,m.gl⟩
theorem AO.fn {f:FuncId} {r:AV} (m:AO P f hp n args fun Al _ r'=>Al=hp∧r'=r) (Hr:r.purR=true):Af P f hp n args r:=by
 refine ⟨m.1,fun h J w vs hs ha=>(m.2 h J w vs hs ha).mono fun e w' ⟨v,he,h',ρ',Al,n',r',⟨e1,e2⟩,hh,hr,hm,Cr,hk,hl⟩=>?_⟩
 subst e1
 subst e2
 exact ⟨v,he,h',hh,SatH.back hr hs hm,AV.purR_rel Cr Hr,hk⟩
theorem Af.to {f:FuncId} {r:AV} (m:Af P f hp n args r):AO P f hp n args fun Al n' r'=>Al=hp∧n'=n∧r'=r :=
 ⟨m.1,fun h J w vs hs ha=>(m.2 h J w vs hs ha).mono fun e w' ⟨v,he,h',hh,hm,Cr,hk⟩=>⟨v,he,h',J,hp,n,r,⟨rfl,rfl,rfl⟩,hh,Ck.refl _,hm,.pu _ _ Cr,hk,fun b hb=>.inl hb⟩⟩
def Ac (P:Program) (f:FuncId) (hp:CH) (n:Nat) (args:List AV) (K:CH->Nat->AV->Prop):Prop :=
 ∃R,AO P f hp n args R∧∀Al n' r,R Al n' r->K Al n' r
theorem Ac.f {f:FuncId} {K:CH->Nat->AV->Prop} {r:AV} (m:Af P f hp n args r) (k:K hp n r):Ac P f hp n args K :=
 ⟨_,m.to,fun Al n' r' ⟨e1,e2,e3⟩=>by subst e1;subst e2;subst e3;exact k⟩
theorem Ac.r {f:FuncId} {K:CH->Nat->AV->Prop} {R:CH->Nat->AV->Prop} (m:AO P f hp n args R) (k:∀Al n' r,R Al n' r->K Al n' r):Ac P f hp n args K :=
 ⟨_,m,k⟩
def imp (b:Bool) (q:Prop):Prop:=b=true->q
def EU (p:Bool):AV->Prop
 | .gd c _=>imp p (c=true)
 |_=>True
def Gc (env:EN) (p:Bool):List Bj->Prop
 | []=>True
 |s::r=>EU p (s.ev env)∧Gc env p r
def U7 (env:EN) (p:Bool):Option Bj->Prop
 |none=>True
 |some s=>EU p (s.ev env)
def Au.obsB (env:EN) (p:Bool):Au->Prop
 | .pk c a b=>EU p (c.ev env)∧match Bf (c.ev env) with
  | .b x=>EU (p&&x) (a.ev env)∧EU (p&&!x) (b.ev env)
  |_=>p=false
 | .mv x | .ld x _ _ | .un _ x | .ci _ x | .cs x | .cb x | .mi _ x | .fa x _ | .fl x _ _ _ | .ta x _ _ | .ex x _ | .ln _ x | .bo x | .s0 x | .nc x | .nl _ x=>EU p (x.ev env)
 | .bd _ ps=>Gc env p (ps.map (·.2.2))
 | .bin _ _ x y | .ia x y _ | .eqs _ _ x y | .ix x y | .ai x y _ _ _ | .pa x y _ _ | .mm _ x y | .lk x y _ _ | .st x y _ | .ap x y _ _ | .aps x y | .ms x y _ _ _=>EU p (x.ev env)∧EU p (y.ev env)
 | .mf _ xs | .bs _ _ xs | .cl _ xs=>Gc env p xs
 | .sc x lo hi _ | .ss x lo hi=>EU p (x.ev env)∧U7 env p lo∧U7 env p hi
 | .al _ | .alb _ _ | .mk=>True
 | .mu x s y=>EU p (x.ev env)∧EU p (s.ev env)∧EU p (y.ev env)
 | .mpg x | .mpn x | .mpe x=>EU p (x.ev env)
 | .mpd x s=>EU p (x.ev env)∧EU p (s.ev env)
 | .clr x _ _=>EU p (x.ev env)
 | .cc x xs=>EU p (x.ev env)∧Gc env p xs
theorem Df (hp:p->b=true) (h:EU b U):ob p U:=by
 cases U<;>first | trivial | exact fun x=>h (hp x)
theorem Fs (hp:p->b=true):∀{l:List Bj},Gc env b l->VN env p l
 | [],_=>trivial
 |s::r,h=>⟨Df hp h.1,Fs hp h.2⟩
theorem In (hp:p->b=true):∀{l:Option Bj},U7 env b l->obo env p l
 |none,_=>trivial
 |some s,h=>Df hp h
theorem Au.obsB_obs {o:Au} (hp:p->b=true) (h:o.obsB env b):o.obs env p:=by
 cases o
 case pk c x y=>
  obtain ⟨h1,h2⟩:=h
  refine ⟨Df hp h1,?_⟩
  split at h2
  .rename_i z hz
   rw [hz]
   exact ⟨Df (fun q=>by rw [hp q.1,q.2];rfl) h2.1,Df (fun q=>by rw [hp q.1,q.2];rfl) h2.2⟩
  .rename_i hz
   split
   .rename_i z hz2
    exact absurd hz2 (hz z)
   .intro q
    rw [hp q] at h2
    cases h2
 case bd z ps=>exact Fs hp h
 case mf g xs=>exact Fs hp h
 case bs f n xs=>exact Fs hp h
 case cl f xs=>exact Fs hp h
 case cc f xs=>exact ⟨Df hp h.1,Fs hp h.2⟩
 case sc x lo hi n=>exact ⟨Df hp h.1,In hp h.2.1,In hp h.2.2⟩
 case ss x lo hi=>exact ⟨Df hp h.1,In hp h.2.1,In hp h.2.2⟩
 case al z=>trivial
 case mk=>trivial
 case alb=>trivial
 case mu x s y=>exact ⟨Df hp h.1,Df hp h.2.1,Df hp h.2.2⟩
 all_goals first
  | exact Df hp h
  | exact ⟨Df hp h.1,Df hp h.2⟩
def GQ (L:List (List AV)) (i:Nat) (K:List AV->Prop):Prop:=∃e,L[i]?=some e∧K e
def Vr (ag:Bool) (cs:List AV):AV:=match ag with
 |true=>.ag cs
 |false=>cs.getD 0 .un
def IV (hp:CH) (f:Bj->AV) (op:Au) (K:AV->Prop):Prop :=
 match op with
 | .ld x m ag=>match f x with
  | .ep U n i off=>match sl hp U with
   |some l=>GQ l i fun e=>(e.length=n∧off+m<=e.length)∧K (Vr ag ((e.drop off).take m))
   |none=>False
  | .bx k off=>match gc hp k with
   | .bx cs=>off+m<=cs.length∧K (Vr ag ((cs.drop off).take m))
   | .ro cs=>off+m<=cs.length∧K (Vr ag ((cs.drop off).take m))
   |_=>False
  |_=>False
 |op=>op.pre hp f∧match op.val hp f with
  |some U=>K U
  |none=>False
theorem KR {f:Bj->AV} (h:IV hp f op K):op.pre hp f∧match op.val hp f with
 |some U=>K U
 |none=>False:=by
 unfold IV at h
 split at h
 .rename_i x m ag
  refine ⟨trivial,?_⟩
  simp only [Au.val]
  split at h
  .rename_i U n i off hx
   rw [hx]
   split at h
   .rename_i l hl
    obtain ⟨e,he,hc,hk⟩:=h
    simp only [J9,hl,he,if_pos hc,z8]
    cases ag<;>exact hk
   .exact h.elim
  .rename_i k off hx
   rw [hx]
   split at h
   .rename_i cs hk
    simp only [J9,hk,if_pos h.1,z8]
    have:=h.2
    cases ag<;>exact this
   .rename_i cs hk
    simp only [J9,hk,if_pos h.1,z8]
    have:=h.2
    cases ag<;>exact this
   .exact h.elim
  .exact h.elim
 .exact h
theorem OQ {f:Bj->AV} (h1:op.pre hp f) (h2:op.val hp f=some U) (h3:K U):IV hp f op K:=by
 unfold IV
 split
 .rename_i x m ag
  simp only [Au.val] at h2
  have key:∃cs,J9 hp m (f x)=some cs∧Vr ag cs=U:=by
   cases hl:J9 hp m (f x) with
   |none=>rw [hl] at h2;cases h2
   |some cs=>
    rw [hl] at h2
    simp only [z8,Option.some.injEq] at h2
    exact ⟨cs,rfl,by cases ag<;>exact h2⟩
  obtain ⟨cs,hl,rfl⟩:=key
  clear h2 h1
  generalize f x=β at hl ⊢
  unfold J9 at hl
  split at hl
  .rename_i k off
   split at hl
   .rename_i cs' hk
    split at hl
    .rename_i hle
     cases hl
     simp only [hk]
     exact ⟨hle,h3⟩
    .cases hl
   .rename_i cs' hk
    split at hl
    .rename_i hle
     cases hl
     simp only [hk]
     exact ⟨hle,h3⟩
    .cases hl
   .cases hl
  .rename_i γ n i off
   split at hl
   .rename_i l hs
    split at hl
    .rename_i e he
     split at hl
     .rename_i hc
      cases hl
      simp only [hs]
      exact ⟨e,he,hc,h3⟩
     .cases hl
    .cases hl
   .cases hl
  .cases hl
 .rw [h2]
  exact ⟨h1,h3⟩
theorem Nj {f:Bj->AV} {K':AV->Prop} (hk:∀U,K U->K' U) (h:IV hp f op K):IV hp f op K':=by
 obtain ⟨h1,h2⟩:=KR h
 split at h2
 .rename_i U he
  exact OQ h1 he (hk _ h2)
 .exact h2.elim
structure CO where
 dst:Option Nat
 op:Au
 g:Option (Nat×Bool)
 dp:List Nat:=[]
 fz:Bool:=false
def CO.er (o:CO):CO:={ o with dp:=[],fz:=false }
def EN.drop (dp:List Nat) (env:EN):EN :=
 match dp with
 | []=>env
 |dp=>env.filter fun p=>!dp.contains p.1
def stK (hp:CH) (p:AV) (cs:List AV) (K:CH->Prop):Prop :=
 match p with
 | .bx k off=>match gc hp k with
  | .bx old=>off+cs.length<=old.length∧K ((k,.bx (old.take off++cs++old.drop (off+cs.length)))::hp)
  |_=>False
 | .ep (.rw k g _) n i off=>match gc hp k with
  | .rw g' n' l=>(g=g'∧n=n'∧off+cs.length<=n∧FW cs=true)∧∃e,l[i]?=some e∧K ((k,.rw g' n' (l.set i (e.take off++cs++e.drop (off+cs.length))))::hp)
  | .rn g' n' l=>(g=g'∧n=n'∧off+cs.length<=n∧ones cs=true)∧∃e,l[i]?=some e∧K ((k,.rn g' n' (l.set i (e.take off++cs++e.drop (off+cs.length))))::hp)
  |_=>False
 |_=>False
def Ec (b:qB):List (List AV):=b.data.toList.map fun x=>[AV.i .u8 x.toNat]
def muK (hp:CH) (x s y:AV) (K:CH->Prop):Prop :=
 match x,s with
 | .mp k,.s b=>match gc hp k with
  | .mp l=>y.purR=true∧K ((k,.mp (DP b y l))::hp)
  |_=>False
 |_,_=>False
def mgK (hp:CH) (x:AV) (K:AV->CH->Prop):Prop :=
 match x with
 | .mp k=>match gc hp k with
  | .mp l=>K (.mi k) ((k,.mr l [])::hp)
  |_=>False
 |_=>False
def mxK (hp:CH) (x:AV) (K:AV->CH->Prop):Prop :=
 match x with
 | .mi k=>match gc hp k with
  | .mr l sn=>((∀p∈l,p.1∈sn)->K (.tp [.b false]) hp)∧∀(j:Nat) b U,l[j]?=some (b,U)->b ∉ sn->K (.tp [.b true,.s b,U]) ((k,.mr l (sn++[b]))::hp)
  |_=>False
 |_=>False
def meK (hp:CH) (x:AV) (K:AV->Prop):Prop :=
 match x with
 | .mi k=>match gc hp k with
  | .mr l sn=>∃b,sn.getLast?=some b∧∃U,B9 b l=some U∧K (.tp [.s b,U])
  |_=>False
 |_=>False
def mdK (hp:CH) (x s:AV) (K:CH->Prop):Prop :=
 match x,s with
 | .mp k,.s b=>match gc hp k with
  | .mp l=>K ((k,.mp (De b l))::hp)
  | .mr l sn=>K ((k,.mr (De b l) sn)::hp)
  |_=>False
 |_,_=>False
def clK (hp:CH) (x:AV) (n:Nat) (z:List AV) (K:CH->Prop):Prop :=
 match x with
 | .rw k g len=>match gc hp k with
  | .rw g' m l=>(g=g'∧m=n∧len=l.length)∧K ((k,.rw g m (z2i len z))::hp)
  |_=>False
 | .rf k g n' off len=>match gc hp k with
  | .rw g' m l=>(g=g'∧m=n∧n'=n∧off+len=l.length)∧K ((k,.rw g m (l.take off++z2i len z))::hp)
  |_=>False
 |_=>False
def nlZ (hp:CH) (k g len:Nat):Prop :=
 match gc hp k with
 | .rw g' _ _=>g=g'->len=0
 | .sh g' _ _=>g=g'->len=0
 |_=>True
def nlK (hp:CH) (U:AV) (neg:Bool) (K:Bool->Prop):Prop :=
 match U with
 | .ds l=>(l=[]->K (!neg))∧K neg
 | .rw k g len=>(nlZ hp k g len->K (!neg))∧K neg
 | .e0=>K (!neg)∧K neg
 |_=>False
def Ew (m:Nat) (l:List (List AV)):Prop:=∀e∈l,e.length=m∧FW e=true
def Jk (n:Nat):List AV->Option (List (List AV))
 | []=>some []
 | U::r=>match U.cl,Jk n r with
  |some cs,some l=>if cs.length=n∧ones cs=true then some (cs::l) else none
  |_,_=>none
def nst (hp:CH):AV->Option (List (List AV))
 | .rw k g len=>match gc hp k with
  | .rn g' _ l=>if g=g'∧len<=l.length then some (l.take len) else none
  |_=>none
 |_=>none
def Y0 (fz:Bool) (hp:CH) (U:AV):Option (List (List AV)) :=
 match fz with
 |true=>nst hp U
 |false=>none
def D9 (P:Program) (k0:Nat) (o:CO) (st:St) (K:St->Prop):Prop :=
 o.op.obsB st.env true∧match o.op with
 | .al z=>K ⟨EN.set st.env o.dst (.bx k0 0),(k0,.bx z)::st.hp,max st.n (k0+1)⟩
 | .alb T e=>K ⟨EN.set st.env o.dst (.bx k0 0),(k0,.sb T e 0 ⟨#[]⟩)::st.hp,max st.n (k0+1)⟩
 | .mk=>K ⟨EN.set st.env o.dst (.mp k0),(k0,.mp [])::st.hp,max st.n (k0+1)⟩
 | .mu x s y=>muK st.hp (Bf (x.ev st.env)) (Bf (s.ev st.env)) (Bf (y.ev st.env)) fun Al=>K ⟨EN.set st.env o.dst .un,Al,st.n⟩
 | .mpg x=>mgK st.hp (Bf (x.ev st.env)) fun U Al=>K ⟨EN.set st.env o.dst U,Al,st.n⟩
 | .mpn x=>mxK st.hp (Bf (x.ev st.env)) fun U Al=>K ⟨EN.set st.env o.dst U,Al,st.n⟩
 | .mpe x=>meK st.hp (Bf (x.ev st.env)) fun U=>K ⟨EN.set st.env o.dst U,st.hp,st.n⟩
 | .mpd x s=>mdK st.hp (Bf (x.ev st.env)) (Bf (s.ev st.env)) fun Al=>K ⟨EN.set st.env o.dst .un,Al,st.n⟩
 | .clr x n z=>clK st.hp (Bf (x.ev st.env)) n z fun Al=>K ⟨EN.set st.env o.dst .un,Al,st.n⟩
 | .bo x=>match (Bf (x.ev st.env)).cl with
  |some cs=>K ⟨EN.set st.env o.dst (.bx k0 0),(k0,.bx cs)::st.hp,max st.n (k0+1)⟩
  |none=>False
 | .st x y m=>match (Bf (y.ev st.env)).cl with
  |some cs=>cs.length=m∧ones cs=true∧stK st.hp (Bf (x.ev st.env)) cs fun Al=>K ⟨EN.set st.env o.dst .un,Al,st.n⟩
  |none=>False
 | .bs fz n ps=>match o.fz with
  |true=>match Jk n (ps.map fun s=>Bf (s.ev st.env)) with
   |some l=>K ⟨EN.set st.env o.dst (.rw k0 0 l.length),(k0,.rn 0 n l)::st.hp,max st.n (k0+1)⟩
   |none=>False
  |false=>match CG (shutP st.hp (ps.map fun s=>Bf (s.ev st.env))) n (ps.map fun s=>Bf (s.ev st.env)) with
   |some l=>if fz then K ⟨EN.set st.env o.dst (.ds l),shutP st.hp (ps.map fun s=>Bf (s.ev st.env)),st.n⟩
    else K ⟨EN.set st.env o.dst (.rw k0 0 l.length),(k0,.rw 0 n l)::shutP st.hp (ps.map fun s=>Bf (s.ev st.env)),max st.n (k0+1)⟩
   |none=>False
 | .ap x y n bytes=>match Y0 o.fz st.hp (Bf (y.ev st.env)) with
  |some l2=>(∀e∈l2,e.length=n∧ones e=true)∧(C1 (Bf (x.ev st.env))+l2.length)*bytes<=140737488355328∧C1 (Bf (x.ev st.env))+l2.length<=9223372036854775807 ∧
   match Qp true st.hp st.n k0 n (Bf (x.ev st.env)) l2 with
   |some (U,kc,nx)=>K ⟨EN.set st.env o.dst U,kc::st.hp,nx⟩
   |none=>False
  |none=>match sl st.hp (Bf (y.ev st.env)) with
   |some l2=>(∀e∈l2,e.length=n∧FW e=true)∧(C1 (Bf (x.ev st.env))+l2.length)*bytes<=140737488355328∧C1 (Bf (x.ev st.env))+l2.length<=9223372036854775807 ∧
    match HQ st.hp st.n k0 n (Bf (x.ev st.env)) l2 with
    |some (U,kc,nx)=>K ⟨EN.set st.env o.dst U,kc::st.hp,nx⟩
    |none=>False
   |none=>False
 | .aps x y=>match Bf (y.ev st.env) with
  | .s b=>C1 (Bf (x.ev st.env))+b.size<=140737488355328∧match HQ st.hp st.n k0 1 (Bf (x.ev st.env)) (Ec b) with
   |some (U,kc,nx)=>K ⟨EN.set st.env o.dst U,kc::st.hp,nx⟩
   |none=>False
  |_=>False
 | .ms l c n bytes z=>match Bf (l.ev st.env),Bf (c.ev st.env) with
  | .i _ x,.i _ y=>0<=x∧x<=y∧y*bytes<=140737488355328∧y<=9223372036854775807∧z.length=n∧FW z=true ∧
   K ⟨EN.set st.env o.dst (.rw k0 0 x.toNat),(k0,.rw 0 n (z2i x.toNat z))::st.hp,max st.n (k0+1)⟩
  |_,_=>False
 | .cl f xs=>Ac P f st.hp st.n (xs.map fun s=>Bf (s.ev st.env)) fun Al n' r=>K ⟨EN.set st.env o.dst r,Al,n'⟩
 | .cc f xs=>match Bf (f.ev st.env) with
  | .fn g i8=>Ac P g st.hp st.n (xs.map (fun s=>Bf (s.ev st.env))++i8) fun Al n' r=>K ⟨EN.set st.env o.dst r,Al,n'⟩
  |_=>False
 | .nl neg x=>nlK st.hp (Bf (x.ev st.env)) neg fun b=>K ⟨EN.set st.env o.dst (.b b),st.hp,st.n⟩
 |op=>IV st.hp (fun s=>Bf (s.ev st.env)) op fun U=>K ⟨EN.set st.env o.dst U,st.hp,st.n⟩
def Mm (o:Au) (env:EN):Bool :=
 match o with
 | .ld x _ _=>match Bf (x.ev env) with
  | .ep _ _ _ _=>false
  |_=>true
 |o=>o.isV
def HR (x:Bool) (A B:Prop):Prop:=(x=true->A)∧(x=false->B)
def AH (P:Program) (f:FuncId) (hp:CH) (n:Nat) (args:List AV) (G:Bool) (K:CH->Nat->AV->Prop):Prop :=
 (∃r,(G=true->Af P f hp n args r)∧K hp n (.gd G r))∨HR G (Ac P f hp n args K) (K hp n (.gd false .un))
def Ro (P:Program) (o:CO) (st:St) (G:Bool) (K:St->Prop):Prop :=
 if Mm o.op st.env then
  o.op.obsB st.env G∧imp G (o.op.pre st.hp fun s=>Bf (s.ev st.env))∧imp G ((o.op.val st.hp fun s=>Bf (s.ev st.env)).isSome=true) ∧
   K ⟨EN.set st.env o.dst (.gd G ((o.op.val st.hp fun s=>Bf (s.ev st.env)).getD .un)),st.hp,st.n⟩
 else match o.op with
  | .cl f xs=>Gc st.env G xs∧AH P f st.hp st.n (xs.map fun s=>Bf (s.ev st.env)) G fun Al n' r=>K ⟨EN.set st.env o.dst r,Al,n'⟩
  |_=>HR G (D9 P st.n o st K) (K ⟨EN.set st.env o.dst (.gd false .un),st.hp,st.n⟩)
def J8 (P:Program) (o:CO) (st:St) (K:St->Prop):Prop :=
 match o.g with
 |none=>D9 P st.n o st K
 |some (t,i7)=>match ge st.env t with
  | .b x=>Ro P o st (x == i7) K
  | .gd c (.b x)=>Ro P o st (c&&(x == i7)) K
  | .gd false .un=>Ro P o st false K
  |_=>False
def Aau (k g:Nat) (l l':List (List AV)):AV->AV
 | .rw k' g' len=>if k'=k then (if g'=g∧len<=l.length then .ds (l.take len) else if g'=g+1∧len=l'.length then .ds l' else .rw k' g' len) else .rw k' g' len
 | U=>U
def frz (k g:Nat) (l l':List (List AV)) (env:EN):EN:=env.map fun p=>(p.1,Aau k g l l' p.2)
def pum:List Nat->Bool
 | []=>false
 |a::_=>a == 77777
def Ud (P:Program) (o:CO) (st:St) (K:St->Prop):Prop :=
 match o.op,o.g with
 | .ap x y n bytes, none => match nst st.hp (Bf (y.ev st.env)) with
  | some _ => D9 P st.n o st K
  | none => (Au.ap x y n bytes).obsB st.env true ∧ match sl st.hp (Bf (y.ev st.env)) with
   | some l2 => (∀ e ∈ l2, e.length = n ∧ FW e = true) ∧ (C1 (Bf (x.ev st.env)) + l2.length) * bytes <= 140737488355328 ∧ C1 (Bf (x.ev st.env)) + l2.length <= 9223372036854775807 ∧ match Bf (x.ev st.env) with
    | .rw k g len => match gc st.hp k with
     | .rw g' n' l => match pum o.dp with
      | false => (g = g' ∧ n = n' ∧ len = l.length) ∧ K ⟨frz k g l (l ++ l2) (EN.set st.env o.dst (.rw k (g + 1) (len + l2.length))), (k, .sh (g + 1) n (l ++ l2)) :: (k, .rw (g + 1) n (l ++ l2)) :: st.hp, st.n⟩
      | true => (g = g' ∧ n = n' ∧ len <= l.length ∧ sl ((k, .rw g n (l.take len)) :: st.hp) (Bf (y.ev st.env)) = some l2) ∧ K ⟨EN.set st.env o.dst (.rw k g (len + l2.length)), (k, .rw g n (l.take len ++ l2)) :: st.hp, st.n⟩ ∧
       K ⟨EN.set st.env o.dst (.rw st.n 0 (len+l2.length)),(st.n,.rw 0 n (l.take len++l2))::(k,.rw g n (l.take len))::st.hp,st.n+1⟩
     |_=>False
    | .e0 => pum o.dp = true ∧ K ⟨EN.set st.env o.dst (.rw st.n 0 l2.length), (st.n, .rw 0 n l2) :: st.hp, max st.n (st.n + 1)⟩
    |_=>False
   |none=>False
 | .bs _ _ _, none => D9 P st.n o st K
 |_,_=>False
def YL (P:Program) (o:CO) (st:St) (K:St->Prop):Prop :=
 match o.fz with
 |false=>J8 P o st K
 |true=>Ud P o st K
def Bg (P:Program):List CO->St->(St->Prop)->Prop
 | [],st,K=>K st
 |o::r,st,K=>YL P o st fun c8=>Bg P r ⟨EN.drop o.dp c8.env,c8.hp,c8.n⟩ K
/-! ### Regions that draw an order -/
def AV.ids:AV->List Nat
 | .bx k _=>[k]
 | .rw k _ _=>[k]
 | .rf k _ _ _ _=>[k]
 | .mp k=>[k]
 | .mi k=>[k]
 | .ep U _ _ _=>U.ids
 |_=>[]
def Au.srcs:Au->List Bj
 | .pk c a b=>[c,a,b]
 | .mv x | .ld x _ _ | .un _ x | .ci _ x | .cs x | .cb x | .mi _ x | .fa x _ | .fl x _ _ _ | .ta x _ _ | .ex x _ | .ln _ x | .bo x | .s0 x | .nc x | .nl _ x=>[x]
 | .bd _ ps=>ps.map (·.2.2)
 | .bin _ _ x y | .ia x y _ | .eqs _ _ x y | .ix x y | .ai x y _ _ _ | .pa x y _ _ | .mm _ x y | .lk x y _ _ | .st x y _ | .ap x y _ _ | .aps x y | .ms x y _ _ _=>[x,y]
 | .mf _ xs | .bs _ _ xs | .cl _ xs=>xs
 | .sc x lo hi _ | .ss x lo hi=>x::(lo.toList++hi.toList)
 | .al _ | .alb _ _ | .mk=>[]
 | .mu x s y=>[x,s,y]
 | .mpg x | .mpn x | .mpe x=>[x]
 | .mpd x s=>[x,s]
 | .clr x _ _=>[x]
 | .cc x xs=>x::xs
def Bj.slot:Bj->List Nat
 | .t n=>[n]
 | .c _=>[]
def Au.rd (f:Bj->AV):Au->List Nat
 | .ld x _ _=>(f x).ids
 | .cb x=>(f x).ids
 | .ln _ x=>(f x).ids
 | .sc x _ _ _=>(f x).ids
 | .ia x _ _=>(f x).ids
 | .lk x _ _ _=>(f x).ids
 |_=>[]
def Au.eff (hp:CH) (f:Bj->AV) (id:Nat):Au->Option (AV×CH×List Nat)
 | .al z=>some (.bx id 0,[(id,.bx z)],[])
 | .alb T e=>some (.bx id 0,[(id,.sb T e 0 ⟨#[]⟩)],[])
 | .mk=>some (.mp id,[(id,.mp [])],[])
 | .mu x s y=>match f x,f s with
  | .mp k,.s b=>match gc hp k with
   | .mp l=>some (.un,[(k,.mp (DP b (f y) l))],[k])
   |_=>none
  |_,_=>none
 | .bo x=>match (f x).cl with
  |some c0=>some (.bx id 0,[(id,.bx c0)],[])
  |none=>none
 | .st x y m=>match (f y).cl,f x with
  |some c0,.bx k off=>match gc hp k with
   | .bx old=>some (.un,[(k,.bx (old.take off++c0++old.drop (off+c0.length)))],[k])
   |_=>none
  |some c0,.ep (.rw k g _) n i off=>match gc hp k with
   | .rw g' n' l=>match l[i]? with
    |some e=>some (.un,[(k,.rw g' n' (l.set i (e.take off++c0++e.drop (off+c0.length))))],[k])
    |none=>none
   | .rn g' n' l=>match l[i]? with
    |some e=>some (.un,[(k,.rn g' n' (l.set i (e.take off++c0++e.drop (off+c0.length))))],[k])
    |none=>none
   |_=>none
  |_,_=>none
 | .bs fz n ps=>match CG [] n (ps.map f) with
  |some l=>if fz then some (.ds l,[],[]) else some (.rw id 0 l.length,[(id,.rw 0 n l)],[])
  |none=>none
 | .ap x y n bytes=>match sl hp (f y) with
  |some l2=>match HQ hp 0 id n (f x) l2 with
   |some (U,kc,_)=>some (U,[kc],(f x).ids++(f y).ids)
   |none=>none
  |none=>none
 | .aps x y=>match f y with
  | .s b=>match HQ hp 0 id 1 (f x) (Ec b) with
   |some (U,kc,_)=>some (U,[kc],(f x).ids)
   |none=>none
  |_=>none
 | .ms l c n bytes z=>match f l with
  | .i _ x=>some (.rw id 0 x.toNat,[(id,.rw 0 n (z2i x.toNat z))],[])
  |_=>none
 |op=>match op.val hp f with
  |some U=>some (U,[],op.rd f)
  |none=>none
def Pf:AV->Bool
 | .ag l=>l.all AV.pur
 | U=>U.pur
def Au.effP (hp:CH) (f:Bj->AV):Au->Prop
 | .al _=>True
 | .alb _ _=>True
 | .mk=>True
 | .mu _ _ y=>(f y).purR=true
 | .bo _=>True
 | .st x y m=>match (f y).cl,f x with
  |some c0,.bx k off=>c0.length=m∧ones c0=true∧match gc hp k with
   | .bx old=>off+c0.length<=old.length
   |_=>False
  |some c0,.ep (.rw k g _) n i off=>c0.length=m∧ones c0=true∧match gc hp k with
   | .rw g' n' _=>g=g'∧n=n'∧off+c0.length<=n∧FW c0=true
   | .rn g' n' _=>g=g'∧n=n'∧off+c0.length<=n∧ones c0=true
   |_=>False
  |_,_=>False
 | .bs fz n ps=>(ps.map f).all Pf=true
 | .ap x y n bytes=>match sl hp (f y) with
  |some l2=>Ew n l2∧(C1 (f x)+l2.length)*bytes<=140737488355328∧C1 (f x)+l2.length<=9223372036854775807
  |none=>False
 | .aps x y=>match f y with
  | .s b=>C1 (f x)+b.size<=140737488355328
  |_=>False
 | .ms l c n bytes z=>match f l,f c with
  | .i _ x,.i _ y=>0<=x∧x<=y∧y*bytes<=140737488355328∧y<=9223372036854775807∧z.length=n∧FW z=true
  |_,_=>False
 |op=>op.pre hp f
structure DO where
 o:CO
 un:List Nat
 lg:Bool
 bf:List Nat
structure LE where
 j:Nat
 R:List Nat
 W:List Nat
 c:Bool
def keys (u:CH):List Nat:=u.map (·.1)
def SV (a b:List Nat):Prop:=∀x∈a,∀y∈b,x≠y
def cf (n0 i:Nat) (R W:List Nat) (c:Bool) (e:LE):Prop :=
 SV e.W R∧SV e.W W∧SV W e.R∧(c=true->∀x∈e.W,x=n0+e.j)∧(e.c=true->∀x∈W,x=n0+i)
def cfs (n0 i:Nat) (un:List Nat) (R W:List Nat) (c:Bool):List LE->Prop
 | []=>True
 |e::r=>imp (un.contains e.j) (cf n0 i R W c e)∧cfs n0 i un R W c r
def AC (P:Program) (f:FuncId) (n0:Nat) (bf:List Nat) (hp:CH) (n:Nat) (args:List AV) (G:Bool) (K:AV->Prop):Prop :=
 ∃r,(G=true->∀Al,(∀k,(k<n0∨∃j∈bf,k=n0+j)->gc Al k=gc hp k)->Af P f Al n args r)∧K r
def aOk (ks:List Nat):AV->Prop
 | .rw k _ _=>k∈ks
 | .rf k _ _ _ _=>k∈ks
 | .mp k=>k∈ks
 | U=>U.pur=true
def ZO (ks:List Nat):List AV->Prop
 | []=>True
 | U::r=>aOk ks U∧ZO ks r
def cOk (ks:List Nat):Ak->Prop
 | .bx cs=>ZO ks cs
 | .rn _ _ _=>False
 |_=>True
def nOk:Ak->Prop
 | .no=>False
 |_=>True
def JQ (hp:CH) (n0:Nat) (ks:List Nat):CH->Prop
 | []=>True
 | (k,c)::r=>k<n0∧nOk (gc hp k)∧cOk ks c∧JQ hp n0 ks r
def Ai9 (ks:List Nat) (r:AV):Prop:=r.purR=true∨aOk ks r
def Aq (P:Program) (f:FuncId) (n0:Nat) (bf:List Nat) (hp:CH) (n:Nat) (args:List AV) (id:Nat) (K:AV->CH->Prop):Prop :=
 (∃r,(∀Al,(∀k,(k<n0∨∃j∈bf,k=n0+j)->gc Al k=gc hp k)->Af P f Al n args r)∧K r []) ∨
 (∃m l,(∀Al,(∀k,(k<n0∨∃j∈bf,k=n0+j)->gc Al k=gc hp k)->AO P f Al n args fun En n2 r2=>En=(n,.rw 0 m l)::Al∧n2=n+1∧r2=.rw n 0 l.length)∧K (.rw id 0 l.length) [(id,.rw 0 m l)]) ∨
 ∃r ws,JQ hp n0 (keys ws) ws∧Ai9 (keys ws) r∧(∀Al,(∀k,(k<n0∨∃j∈bf,k=n0+j)->gc Al k=gc hp k)->AO P f Al n args fun En n2 r2=>En=ws++Al∧n2=n∧r2=r)∧K r ws
def EX (P:Program) (n0 N1 i:Nat) (o:DO) (env:EN) (hp:CH) (K:AV->CH->List Nat->Bool->Prop):Prop :=
 match o.o.op with
 | .cl f xs=>Aq P f n0 o.bf hp N1 (xs.map fun s=>Bf (s.ev env)) (n0+i) fun r ws=>K r ws [] true
 | .cc f xs=>match Bf (f.ev env) with
  | .fn g i8=>AC P g n0 o.bf hp N1 (xs.map (fun s=>Bf (s.ev env))++i8) true fun r=>K r [] [] true
  |_=>False
 |op=>op.effP hp (fun s=>Bf (s.ev env))∧match op.eff hp (fun s=>Bf (s.ev env)) (n0+i) with
  |some (U,ws,R)=>K U ws R false
  |none=>False
def dG (P:Program) (n0 N1 i:Nat) (o:DO) (env:EN) (hp:CH) (G:Bool) (K:AV->CH->List Nat->Bool->Prop):Prop :=
 o.o.op.obsB env G∧match o.o.op with
 | .cl f xs=>AC P f n0 o.bf hp N1 (xs.map fun s=>Bf (s.ev env)) G fun r=>K (.gd G r) [] [] true
 | .cc f xs=>match Bf (f.ev env) with
  | .fn g i8=>AC P g n0 o.bf hp N1 (xs.map (fun s=>Bf (s.ev env))++i8) G fun r=>K (.gd G r) [] [] true
  |_=>False
 |op=>if op.isV then imp G (op.pre hp fun s=>Bf (s.ev env))∧imp G ((op.val hp fun s=>Bf (s.ev env)).isSome=true)∧K (.gd G ((op.val hp fun s=>Bf (s.ev env)).getD .un)) [] (op.rd fun s=>Bf (s.ev env)) false
  else (G=true∧EX P n0 N1 i o env hp K)∨(G=false∧K (.gd false .un) [] [] false)
def Mg (P:Program) (n0 N1 i:Nat) (o:DO) (env:EN) (hp:CH) (K:AV->CH->List Nat->Bool->Prop):Prop :=
 match o.o.g with
 |none=>o.o.op.obsB env true∧EX P n0 N1 i o env hp K
 |some (t,i7)=>match ge env t with
  | .b x=>dG P n0 N1 i o env hp (x == i7) K
  | .gd c (.b x)=>dG P n0 N1 i o env hp (c&&(x == i7)) K
  | .gd false .un=>dG P n0 N1 i o env hp false K
  |_=>False
def JA (P:Program) (n0 N1 i:Nat) (o:DO) (env:EN) (hp:CH) (K:AV->CH->List Nat->Bool->Prop):Prop :=
 match o.o.op.isV with
 |true=>IV hp (fun s=>Bf (s.ev env)) o.o.op fun U=>K U [] (o.o.op.rd fun s=>Bf (s.ev env)) false
 |false=>EX P n0 N1 i o env hp K
def Ds (P:Program) (n0 N1 i:Nat) (o:DO) (env:EN) (hp:CH) (K:AV->CH->List Nat->Bool->Prop):Prop :=
 match o.o.g with
 |none=>o.o.op.obsB env true∧JA P n0 N1 i o env hp K
 |some _=>Mg P n0 N1 i o env hp K
def Mq (P:Program) (n0 N1:Nat):Nat->List DO->EN->CH->List LE->(EN->CH->Prop)->Prop
 |_,[],env,hp,_,K=>K env hp
 |i,o::r,env,hp,lg,K=>Ds P n0 N1 i o env hp fun U ws R c=>cfs n0 i o.un R (keys ws) c lg ∧
  Mq P n0 N1 (i+1) r (EN.set env o.o.dst U) (ws++hp) (match o.lg with | true=>⟨i,R,keys ws,c⟩::lg | false=>lg) K
def vcD (P:Program) (n0 N1:Nat):Nat->List DO->EN->CH->List LE->(EN->CH->Prop)->Prop
 |_,[],env,hp,_,K=>K env hp
 |i,o::r,env,hp,lg,K=>Mg P n0 N1 i o env hp fun U ws R c=>cfs n0 i o.un R (keys ws) c lg ∧
  vcD P n0 N1 (i+1) r (EN.set env o.o.dst U) (ws++hp) (if o.lg then ⟨i,R,keys ws,c⟩::lg else lg) K
inductive CC where
 | skip
 | rg (l:List CO)
 | dr (l:List DO) (dp:List Nat)
 | sq (a b:CC)
 | sqw (a b:CC)
 | cd (c:Bj) (a b:CC)
 | bl (id:Nat) (c:CC)
 | lp (c:CC)
 | ex (id:Nat)
 | rt
def CC.erase:CC->CC
 | .skip=>.skip
 | .rg l=>.rg (l.map CO.er)
 | .dr l _=>.dr l []
 | .sq a b=>.sq a.erase b.erase
 | .sqw a b=>.sq a.erase b.erase
 | .cd c a b=>.cd c a.erase b.erase
 | .bl id c=>.bl id c.erase
 | .lp c=>.lp c.erase
 | .ex id=>.ex id
 | .rt=>.rt
def CM (s s':St):Prop:=∀C a w,S C s a w->S C s' a w
def WR (s:St) (I:St->Prop):Prop:=∀C a w,S C s a w->∃s',I s'∧S C s' a w
theorem CM.s {s:St} (h:CM s s'):WR s (·=s'):=fun C a w x=>⟨s',rfl,h C a w x⟩
def Acw (hd s s':St):Prop:=∀C a w,SatH C.h0 C.ρ0 hd.hp hd.n C.w0->S C s a w->S C s' a w
theorem CM.g {hd s:St} (h:CM s s'):Acw hd s s':=fun C a w _=>h C a w
def NR (F:St->(Exit->St->Prop)->Prop) (st:St) (Q:Exit->St->Prop):Prop :=
 ∃I:Nat->St->Prop,(∃m s,I m s∧CM st s)∧∀m s,I m s->F s fun e s'=>match e with
  | .normal=>∃m' s'',m' < m∧I m' s''∧Acw s s' s''
  |e=>Q e s'
def vc (P:Program):CC->St->(Exit->St->Prop)->Prop
 | .skip,st,Q=>Q .normal st
 | .rg l,st,Q=>Bg P l st (Q .normal)
 | .dr l dp,st,Q=>Mq P st.n (st.n+l.length) 0 l st.env st.hp [] fun env hp=>Q .normal ⟨EN.drop dp env,hp,st.n+l.length⟩
 | .sq a b,st,Q=>vc P a st fun e s=>match e with
  | .normal=>vc P b s Q
  |e=>Q e s
 | .sqw a b,st,Q=>vc P a st fun e s=>match e with
  | .normal=>∃I:St->Prop,WR s I∧∀s',I s'->vc P b s' Q
  |e=>Q e s
 | .cd c a b,st,Q=>EU true (c.ev st.env)∧match Bf (c.ev st.env) with
  | .b x=>HR x (vc P a st Q) (vc P b st Q)
  |_=>False
 | .bl id c,st,Q=>vc P c st fun e s=>match e with
  | .exit i=>if i=id then Q .normal s else Q (.exit i) s
  |e=>Q e s
 | .lp c,st,Q=>NR (vc P c) st Q
 | .ex id,st,Q=>Q (.exit id) st
 | .rt,st,Q=>Q .ret st
/-! ### From the model's code to the compact one -/
def Ep (N:Nat) (d4:List Oper):Option (Nat×Bool)->Option (Option (Nat×Bool))
 |none=>some none
 |some (j,i7)=>match (d4[j]?).bind (·.dst) with
  |some t=>if t<N then some (some (t,i7)) else none
  |none=>none
def Mj (P:Program) (N:Nat) (d4:List Oper):List Oper->Option (List CO)
 | []=>some []
 |o::r=>match PT P N d4 o,Ep N d4 o.guard,Mj P N d4 r with
  |some c,some g,some l=>some (⟨o.dst,c,g,[],false⟩::l)
  |_,_,_=>none
def ZB (d4:List Oper):List (List Nat) :=
 d4.foldl (fun j5 o=>j5++[(o.after.toList.flatMap fun e=>if Region.binds .any e then e.on::j5.getD e.on [] else []).eraseDups]) []
def Au.mw:Au->Bool
 | .al _ | .alb _ _ | .bo _ | .st _ _ _ | .bs _ _ _ | .ap _ _ _ _ | .aps _ _ | .ms _ _ _ _ _ | .cl _ _ | .mk | .mu _ _ _ | .mpg _ | .mpn _ | .mpe _ | .mpd _ _ | .clr _ _ _=>true
 |_=>false
def Au.mr:Au->Bool
 | .lk _ _ _ _ | .mu _ _ _ | .ld _ _ _ | .cb _ | .ln _ _ | .sc _ _ _ _ | .ia _ _ _ | .st _ _ _ | .ap _ _ _ _ | .aps _ _ | .cl _ _ | .cc _ _ | .mpg _ | .mpn _ | .mpe _ | .mpd _ _ | .clr _ _ _=>true
 |_=>false
def Tr (x y:Au):Bool:=(x.mw&&(y.mw||y.mr))||(y.mw&&x.mr)
def CO.slots (o:CO):List Nat:=(o.op.srcs.flatMap Bj.slot)++(match o.g with | some (t,_)=>[t] | none=>[])
def CO.dsts (o:CO):List Nat:=o.dst.toList
def CO.apart (x y:CO):Bool:=x.dsts.all (fun d=>!(y.slots++y.dsts).contains d)&&y.dsts.all (fun d=>!x.slots.contains d)
def US (bs:List (List Nat)) (cl:List CO):List DO :=
 cl.zipIdx.map fun (o,i)=>
  ⟨o,(z2u i).filter (fun j=>!(bs.getD i []).contains j&&match cl[j]? with | some x=>Tr x.op o.op | none=>false),
   (z2u cl.length).any (fun k=>i<k&&!(bs.getD k []).contains i&&match cl[k]? with | some x=>Tr o.op x.op | none=>false),if o.op.isC then (bs.getD i []).filter (fun j=>match cl[j]? with | some x=>x.op.mw | none=>false) else []⟩
def bOk (d4:List Oper) (bs:List (List Nat)):Bool :=
 (z2u d4.length).all fun i=>match d4[i]? with
  |some o=>o.after.all (fun e=>!Region.binds .any e||decide (e.on<i))&&(bs.getD i []).all fun j=>decide (j<i)&&o.after.any fun e=>Region.binds .any e&&(e.on == j||(bs.getD e.on []).contains j)
  |none=>false
def pOk (bs:List (List Nat)) (dl:List DO):Bool :=
 (z2u dl.length).all fun i=>match dl[i]? with
  |some y=>y.bf.all ((bs.getD i []).contains ·)&&(z2u i).all fun j=>match dl[j]? with
   |some x=>(bs.getD i []).contains j||(x.o.apart y.o&&(!Tr x.o.op y.o.op||(y.un.contains j&&x.lg)))
   |none=>false
  |none=>false
def dCk (P:Program) (d4:List Oper) (bs:List (List Nat)) (cl:List CO) (dl:List DO):Bool :=
 P.follows .mixedOrders&&dl.length == d4.length&&bOk d4 bs&&pOk bs dl
def Po (P:Program) (N:Nat) (d4:List Oper):Option CC :=
 match Mj P N d4 d4 with
 |some cl=>if dCk P d4 (ZB d4) cl (US (ZB d4) cl) then some (.dr (US (ZB d4) cl) []) else none
 |none=>none
def BX (P:Program) (N:Nat):Code->Option CC
 | .skip=>some .skip
 | .region _ d4 draw=>if draw then Po P N d4.toList else (Mj P N d4.toList d4.toList).map .rg
 | .seq a b=>match BX P N a,BX P N b with
  |some a,some b=>some (.sq a b)
  |_,_=>none
 | .cond c a b=>match Bt N c,BX P N a,BX P N b with
  |some c,some a,some b=>some (.cd c a b)
  |_,_,_=>none
 | .block id c=>(BX P N c).map (.bl id)
 | .loop c=>(BX P N c).map .lp
 | .exit id=>some (.ex id)
 | .ret=>some .rt
 | .label _=>some .skip
 | .scope c=>BX P N c
 |_=>none
end
