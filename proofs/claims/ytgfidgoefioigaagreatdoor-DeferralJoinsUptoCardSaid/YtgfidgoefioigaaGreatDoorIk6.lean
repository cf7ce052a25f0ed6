/- Proof. Conditions: none. -/
import Derived.Test.YtgfidgoefioigaaGreatDoorIk5
open List renaming mem_of_getElem?->zg,replicate->z2i,range->z1y
open Option renaming map_some->z7
namespace Go.Eng
set_option linter.all false
section
variable {h h':HP} {J ρ':RO} {v:Value} {α:AV} {w w':World} {hp:CH} {n:Nat} {P:Program} {args:List AV} {K:AV->Prop} {b:Bool} {p:Prop} {env:EN} {op:Ap} {s':St}
def AK (P:Program) (f:FuncId) (hp:CH) (n:Nat) (args:List AV) (R:CH->Nat->AV->Prop):Prop :=
 (∃ fn, P.funcs[f]? = some fn ∧ (fn.name == "runtime.NumGoroutine") = false ∧ fn.body.isNone = false) ∧
 ∀h J w (vs:List Value),SatH h J hp n w->Bv h J args vs->Calls P f vs.toArray w fun e w'=>∃v,e=.returned v∧∃h' ρ' Am n' r,R Am n' r∧BJ h h'∧Cd J ρ' ∧
  SatH h' ρ' Am n' w'∧AW h' ρ' r v∧Keeps (AF J hp) w w'∧∀b,AF ρ' Am b->AF J hp b∨w.heap.size<=b
def Ae (P:Program) (f:FuncId) (hp:CH) (n:Nat) (args:List AV) (r:AV):Prop :=
 (∃ fn, P.funcs[f]? = some fn ∧ (fn.name == "runtime.NumGoroutine") = false ∧ fn.body.isNone = false) ∧
 ∀h J w (vs:List Value),SatH h J hp n w->Bv h J args vs->Calls P f vs.toArray w fun e w'=>∃v,e=.returned v∧∃h',BJ h h'∧SatH h' J hp n w'∧Bm h' r v∧Keeps (AF J hp) w w'
def AV.purR:AV->Bool
 | .ag l=>l.all AV.pur
 | .tp l=>l.all fun α=>match α with
  | .ag l=>l.all AV.pur
  | α=>α.pur
 | α=>α.pur
theorem PG {l:List AV} (r:AW h J (.ag l) v) (o:l.all AV.pur=true):Bm h (.ag l) v:=by
 obtain ⟨vs,rfl,rs⟩:=r.agg
 exact .ag _ _ rs.1 fun j α v h1 h2=>AV.pur_rel (rs.2 j α v h1 h2) (List.all_eq_true.1 o _ (zg h1))
theorem AV.purR_rel (r:AW h J α v) (o:α.purR=true):Bm h α v:=by
 unfold AV.purR at o
 split at o
 .exact PG r o
 .obtain ⟨vs,rfl,rs⟩:=r.tup
  refine .tp _ _ rs.1 fun j α v h1 h2=>?_
  have:=List.all_eq_true.1 o _ (zg h1)
  have r1:=rs.2 j α v h1 h2
  split at this
  .exact PG r1 this
  .exact AV.pur_rel r1 this
 .exact AV.pur_rel r o
theorem Ai.back {k:Nat} {c:Ai} (hr:Cd J ρ') (s0:c.sat h J w k) (s:c.sat h' ρ' w' k):c.sat h' J w' k:=by
 cases c with
 |no=>trivial
 |bx cs=>
  obtain ⟨b,c,vs,e,h1,h2,h3,h4⟩:=s0
  obtain ⟨b',c',p6,e',Gg,EH,w9,h4'⟩:=s
  rw [hr _ _ _ h1] at Gg
  cases Gg
  refine ⟨b,c,p6,e',h1,EH,w9,fun j α v a1 a2=>?_⟩
  have hj:j<vs.size:=by have:=(List.getElem?_eq_some_iff.1 a1).1;omega
  exact AW.back hr (h4 j α vs[j] a1 (by simp [hj])) (h4' j α v a1 a2)
 |rw g n l=>
  obtain ⟨ob,cap,h1,_⟩:=s0
  obtain ⟨o7,i6,Gg,hx⟩:=s
  rw [hr _ _ _ h1] at Gg
  cases Gg
  exact ⟨ob,cap,h1,hx⟩
 |rc g n cap l=>
  obtain ⟨ob,h1,_⟩:=s0
  obtain ⟨o7,Gg,hx⟩:=s
  rw [hr _ _ _ h1] at Gg
  cases Gg
  exact ⟨ob,h1,hx⟩
 |sh g n l=>
  obtain ⟨ob,cap,h1,_⟩:=s0
  obtain ⟨o7,i6,Gg,hx⟩:=s
  rw [hr _ _ _ h1] at Gg
  cases Gg
  exact ⟨ob,cap,h1,hx⟩
 |mp l=>
  obtain ⟨b,c,es,cl,h1,_⟩:=s0
  obtain ⟨b',c',l9,cl',Gg,hx⟩:=s
  rw [hr _ _ _ h1] at Gg
  cases Gg
  exact ⟨b,c,l9,cl',h1,hx⟩
 |mq F=>
  obtain ⟨b,c,es,cl,h1,_⟩:=s0
  obtain ⟨b',c',l9,cl',Gg,hx⟩:=s
  rw [hr _ _ _ h1] at Gg
  cases Gg
  exact ⟨b,c,l9,cl',h1,hx⟩
 |mr l sn=>
  obtain ⟨b,c,es,cl,h1,_,_,_,_,b2,c2,w7,g1,_⟩:=s0
  obtain ⟨b',c',l9,cl',Gg,x1,x2,x3,x4,b2',c2',sn2',g1',x5⟩:=s
  rw [hr _ _ _ h1] at Gg
  cases Gg
  rw [hr _ _ _ g1] at g1'
  cases g1'
  exact ⟨b,c,l9,cl',h1,x1,x2,x3,x4,b2,c2,sn2',g1,x5⟩
 |ro cs=>
  obtain ⟨b,c,vs,e,fr,h1,_⟩:=s0
  obtain ⟨b',c',p6,e',fr',Gg,hx⟩:=s
  rw [hr _ _ _ h1] at Gg
  cases Gg
  exact ⟨b,c,p6,e',fr',h1,hx⟩
 |rn g n l=>
  obtain ⟨ob,cap,h1,_,_,_,_,q⟩:=s0
  obtain ⟨o7,i6,Gg,a1,a2,a3,a4,q'⟩:=s
  rw [hr _ _ _ h1] at Gg
  cases Gg
  refine ⟨ob,cap,h1,a1,a2,a3,a4,fun b hb=>?_⟩
  obtain ⟨vs,e,z1,z2,z3⟩:=q b hb
  obtain ⟨p6,e',y1,y2,y3⟩:=q' b hb
  refine ⟨p6,e',y1,y2,fun j x q α g1 g2=>?_⟩
  obtain ⟨u,u1,u2⟩:=z3 j x q α g1 g2
  obtain ⟨u',u1',u2'⟩:=y3 j x q α g1 g2
  exact ⟨u',u1',AW.back hr u2 u2'⟩
 |sb T e g bs=>
  obtain ⟨b,c,p,v,h1,h2,h3,h4,h5,⟨y,hy⟩,h6⟩:=s0
  obtain ⟨b',c',p',v',Gg,EH,w9,h4',h5',h7',h6'⟩:=s
  rw [hr _ _ _ h1] at Gg
  cases Gg
  refine ⟨b,c,p',v',h1,EH,w9,h4',h5',⟨y,hy⟩,fun b2 e2=>?_⟩
  obtain ⟨q1,c2,q2⟩:=h6' b2 e2
  rw [hr _ _ _ hy] at q2
  cases q2
  exact ⟨q1,c2,hy⟩
theorem SatH.back {n':Nat} (hr:Cd J ρ') (m0:SatH h J hp n w) (m:SatH h' ρ' hp n' w'):SatH h' J hp n w':=by
 have hl:∀b,AF J hp b->AF ρ' hp b:=fun b ⟨k,g,c,e,r⟩=>⟨k,g,c,e,hr _ _ _ r⟩
 exact ⟨m.hh,fun k=>Ai.back hr (m0.ch k) (m.ch k),m0.inj,fun b hb=>m.hid b (hl b hb),fun b hb=>m.lt b (hl b hb),m0.fr,m0.gens,m.gl⟩
theorem AK.fn {f:FuncId} {r:AV} (m:AK P f hp n args fun Am _ r'=>Am=hp∧r'=r) (GU:r.purR=true):Ae P f hp n args r:=by
 refine ⟨m.1,fun h J w vs hs ha=>(m.2 h J w vs hs ha).mono fun e w' ⟨v,he,h',ρ',Am,n',r',⟨e1,e2⟩,hh,hr,hm,Cf,hk,hl⟩=>?_⟩
 subst e1
 subst e2
 exact ⟨v,he,h',hh,SatH.back hr hs hm,AV.purR_rel Cf GU,hk⟩
theorem Ae.to {f:FuncId} {r:AV} (m:Ae P f hp n args r):AK P f hp n args fun Am n' r'=>Am=hp∧n'=n∧r'=r :=
 ⟨m.1,fun h J w vs hs ha=>(m.2 h J w vs hs ha).mono fun e w' ⟨v,he,h',hh,hm,Cf,hk⟩=>⟨v,he,h',J,hp,n,r,⟨rfl,rfl,rfl⟩,hh,Cd.refl _,hm,.pu _ _ Cf,hk,fun b hb=>.inl hb⟩⟩
def Ac (P:Program) (f:FuncId) (hp:CH) (n:Nat) (args:List AV) (K:CH->Nat->AV->Prop):Prop :=
 ∃R,AK P f hp n args R∧∀Am n' r,R Am n' r->K Am n' r
theorem Ac.f {f:FuncId} {K:CH->Nat->AV->Prop} {r:AV} (m:Ae P f hp n args r) (k:K hp n r):Ac P f hp n args K :=
 ⟨_,m.to,fun Am n' r' ⟨e1,e2,e3⟩=>by subst e1;subst e2;subst e3;exact k⟩
theorem Ac.r {f:FuncId} {K:CH->Nat->AV->Prop} {R:CH->Nat->AV->Prop} (m:AK P f hp n args R) (k:∀Am n' r,R Am n' r->K Am n' r):Ac P f hp n args K :=
 ⟨_,m,k⟩
def imp (b:Bool) (q:Prop):Prop:=b=true->q
def EF (p:Bool):AV->Prop
 | .gd c _=>imp p (c=true)
 |_=>True
def FK (env:EN) (p:Bool):List Bj->Prop
 | []=>True
 |s::r=>EF p (s.ev env)∧FK env p r
def Uf (env:EN) (p:Bool):Option Bj->Prop
 |none=>True
 |some s=>EF p (s.ev env)
def Ap.obsB (env:EN) (p:Bool):Ap->Prop
 | .pk c a b=>EF p (c.ev env)∧match Bf (c.ev env) with
  | .b x=>EF (p&&x) (a.ev env)∧EF (p&&!x) (b.ev env)
  |_=>p=false
 | .mv x | .ld x _ _ | .un _ x | .ci _ x | .cs x | .cb x | .mi _ x | .fa x _ | .fl x _ _ _ | .ta x _ _ | .ex x _ | .ln _ x | .bo x | .s0 x | .nc x | .nl _ x=>EF p (x.ev env)
 | .bd _ ps=>FK env p (ps.map (·.2.2))
 | .bin _ _ x y | .ia x y _ | .eqs _ _ x y | .ix x y | .ai x y _ _ _ | .pa x y _ _ | .mm _ x y | .lk x y _ _ | .st x y _ | .ap x y _ _ | .aps x y | .ms x y _ _ _=>EF p (x.ev env)∧EF p (y.ev env)
 | .mf _ xs | .bs _ _ xs | .cl _ xs=>FK env p xs
 | .sc x lo hi _ | .ss x lo hi=>EF p (x.ev env)∧Uf env p lo∧Uf env p hi
 | .al _ | .alb _ _ | .mk=>True
 | .mu x s y=>EF p (x.ev env)∧EF p (s.ev env)∧EF p (y.ev env)
 | .mpg x | .mpn x | .mpe x=>EF p (x.ev env)
 | .mpd x s=>EF p (x.ev env)∧EF p (s.ev env)
 | .clr x _ _=>EF p (x.ev env)
 | .cc x xs=>EF p (x.ev env)∧FK env p xs
theorem CT (hp:p->b=true) (h:EF b α):ob p α:=by
 cases α<;>first | trivial | exact fun x=>h (hp x)
theorem EY (hp:p->b=true):∀{l:List Bj},FK env b l->Vn env p l
 | [],_=>trivial
 |s::r,h=>⟨CT hp h.1,EY hp h.2⟩
theorem HM (hp:p->b=true):∀{l:Option Bj},Uf env b l->obo env p l
 |none,_=>trivial
 |some s,h=>CT hp h
theorem Ap.obsB_obs {o:Ap} (hp:p->b=true) (h:o.obsB env b):o.obs env p:=by
 cases o
 case pk c x y=>
  obtain ⟨h1,h2⟩:=h
  refine ⟨CT hp h1,?_⟩
  split at h2
  .rename_i z hz
   rw [hz]
   exact ⟨CT (fun q=>by rw [hp q.1,q.2];rfl) h2.1,CT (fun q=>by rw [hp q.1,q.2];rfl) h2.2⟩
  .rename_i hz
   split
   .rename_i z hz2
    exact absurd hz2 (hz z)
   .intro q
    rw [hp q] at h2
    cases h2
 case bd z ps=>exact EY hp h
 case mf g xs=>exact EY hp h
 case bs f n xs=>exact EY hp h
 case cl f xs=>exact EY hp h
 case cc f xs=>exact ⟨CT hp h.1,EY hp h.2⟩
 case sc x lo hi n=>exact ⟨CT hp h.1,HM hp h.2.1,HM hp h.2.2⟩
 case ss x lo hi=>exact ⟨CT hp h.1,HM hp h.2.1,HM hp h.2.2⟩
 case al z=>trivial
 case mk=>trivial
 case alb=>trivial
 case mu x s y=>exact ⟨CT hp h.1,CT hp h.2.1,CT hp h.2.2⟩
 all_goals first
  | exact CT hp h
  | exact ⟨CT hp h.1,CT hp h.2⟩
def G2 (L:List (List AV)) (i:Nat) (K:List AV->Prop):Prop:=∃e,L[i]?=some e∧K e
def UN (ag:Bool) (cs:List AV):AV:=match ag with
 |true=>.ag cs
 |false=>cs.getD 0 .un
def I1 (hp:CH) (f:Bj->AV) (op:Ap) (K:AV->Prop):Prop :=
 match op with
 | .ld x m ag=>match f x with
  | .ep α n i off=>match sl hp α with
   |some l=>G2 l i fun e=>(e.length=n∧off+m<=e.length)∧K (UN ag ((e.drop off).take m))
   |none=>False
  | .bx k off=>match gc hp k with
   | .bx cs=>off+m<=cs.length∧K (UN ag ((cs.drop off).take m))
   | .ro cs=>off+m<=cs.length∧K (UN ag ((cs.drop off).take m))
   |_=>False
  |_=>False
 |op=>op.pre hp f∧match op.val hp f with
  |some α=>K α
  |none=>False
theorem Ki {f:Bj->AV} (h:I1 hp f op K):op.pre hp f∧match op.val hp f with
 |some α=>K α
 |none=>False:=by
 unfold I1 at h
 split at h
 .rename_i x m ag
  refine ⟨trivial,?_⟩
  simp only [Ap.val]
  split at h
  .rename_i α n i off hx
   rw [hx]
   split at h
   .rename_i l hl
    obtain ⟨e,he,hc,hk⟩:=h
    simp only [Je,hl,he,if_pos hc,z7]
    cases ag<;>exact hk
   .exact h.elim
  .rename_i k off hx
   rw [hx]
   split at h
   .rename_i cs hk
    simp only [Je,hk,if_pos h.1,z7]
    have:=h.2
    cases ag<;>exact this
   .rename_i cs hk
    simp only [Je,hk,if_pos h.1,z7]
    have:=h.2
    cases ag<;>exact this
   .exact h.elim
  .exact h.elim
 .exact h
theorem On {f:Bj->AV} (h1:op.pre hp f) (h2:op.val hp f=some α) (h3:K α):I1 hp f op K:=by
 unfold I1
 split
 .rename_i x m ag
  simp only [Ap.val] at h2
  have key:∃cs,Je hp m (f x)=some cs∧UN ag cs=α:=by
   cases hl:Je hp m (f x) with
   |none=>rw [hl] at h2;cases h2
   |some cs=>
    rw [hl] at h2
    simp only [z7,Option.some.injEq] at h2
    exact ⟨cs,rfl,by cases ag<;>exact h2⟩
  obtain ⟨cs,hl,rfl⟩:=key
  clear h2 h1
  generalize f x=β at hl ⊢
  unfold Je at hl
  split at hl
  .rename_i k off
   split at hl
   .rename_i cs' hk
    split at hl
    .rename_i hle
     cases hl
     simp only [hk]
     exact ⟨hle,h3⟩
    .cases hl
   .rename_i cs' hk
    split at hl
    .rename_i hle
     cases hl
     simp only [hk]
     exact ⟨hle,h3⟩
    .cases hl
   .cases hl
  .rename_i γ n i off
   split at hl
   .rename_i l hs
    split at hl
    .rename_i e he
     split at hl
     .rename_i hc
      cases hl
      simp only [hs]
      exact ⟨e,he,hc,h3⟩
     .cases hl
    .cases hl
   .cases hl
  .cases hl
 .rw [h2]
  exact ⟨h1,h3⟩
theorem M2 {f:Bj->AV} {K':AV->Prop} (hk:∀α,K α->K' α) (h:I1 hp f op K):I1 hp f op K':=by
 obtain ⟨h1,h2⟩:=Ki h
 split at h2
 .rename_i α he
  exact On h1 he (hk _ h2)
 .exact h2.elim
structure CO where
 dst:Option Nat
 op:Ap
 g:Option (Nat×Bool)
 dp:List Nat:=[]
 fz:Bool:=false
def CO.er (o:CO):CO:={ o with dp:=[],fz:=false }
def EN.drop (dp:List Nat) (env:EN):EN :=
 match dp with
 | []=>env
 |dp=>env.filter fun p=>!dp.contains p.1
def stK (hp:CH) (p:AV) (cs:List AV) (K:CH->Prop):Prop :=
 match p with
 | .bx k off=>match gc hp k with
  | .bx old=>off+cs.length<=old.length∧K ((k,.bx (old.take off++cs++old.drop (off+cs.length)))::hp)
  |_=>False
 | .ep (.rw k g _) n i off=>match gc hp k with
  | .rw g' n' l=>(g=g'∧n=n'∧off+cs.length<=n∧FE cs=true)∧∃e,l[i]?=some e∧K ((k,.rw g' n' (l.set i (e.take off++cs++e.drop (off+cs.length))))::hp)
  | .rn g' n' l=>(g=g'∧n=n'∧off+cs.length<=n∧ones cs=true)∧∃e,l[i]?=some e∧K ((k,.rn g' n' (l.set i (e.take off++cs++e.drop (off+cs.length))))::hp)
  |_=>False
 |_=>False
def DK (b:qB):List (List AV):=b.data.toList.map fun x=>[AV.i .u8 x.toNat]
def muK (hp:CH) (x s y:AV) (K:CH->Prop):Prop :=
 match x,s with
 | .mp k,.s b=>match gc hp k with
  | .mp l=>y.purR=true∧K ((k,.mp (D4 b y l))::hp)
  |_=>False
 |_,_=>False
def mgK (hp:CH) (x:AV) (K:AV->CH->Prop):Prop :=
 match x with
 | .mp k=>match gc hp k with
  | .mp l=>K (.mi k) ((k,.mr l [])::hp)
  |_=>False
 |_=>False
def mxK (hp:CH) (x:AV) (K:AV->CH->Prop):Prop :=
 match x with
 | .mi k=>match gc hp k with
  | .mr l sn=>((∀p∈l,p.1∈sn)->K (.tp [.b false]) hp)∧∀(j:Nat) b α,l[j]?=some (b,α)->b ∉ sn->K (.tp [.b true,.s b,α]) ((k,.mr l (sn++[b]))::hp)
  |_=>False
 |_=>False
def meK (hp:CH) (x:AV) (K:AV->Prop):Prop :=
 match x with
 | .mi k=>match gc hp k with
  | .mr l sn=>∃b,sn.getLast?=some b∧∃α,B5 b l=some α∧K (.tp [.s b,α])
  |_=>False
 |_=>False
def mdK (hp:CH) (x s:AV) (K:CH->Prop):Prop :=
 match x,s with
 | .mp k,.s b=>match gc hp k with
  | .mp l=>K ((k,.mp (CS b l))::hp)
  | .mr l sn=>K ((k,.mr (CS b l) sn)::hp)
  |_=>False
 |_,_=>False
def clK (hp:CH) (x:AV) (n:Nat) (z:List AV) (K:CH->Prop):Prop :=
 match x with
 | .rw k g len=>match gc hp k with
  | .rw g' m l=>(g=g'∧m=n∧len=l.length)∧K ((k,.rw g m (z2i len z))::hp)
  |_=>False
 | .rf k g n' off len=>match gc hp k with
  | .rw g' m l=>(g=g'∧m=n∧n'=n∧off+len=l.length)∧K ((k,.rw g m (l.take off++z2i len z))::hp)
  |_=>False
 |_=>False
def nlZ (hp:CH) (k g len:Nat):Prop :=
 match gc hp k with
 | .rw g' _ _=>g=g'->len=0
 | .sh g' _ _=>g=g'->len=0
 |_=>True
def nlK (hp:CH) (α:AV) (neg:Bool) (K:Bool->Prop):Prop :=
 match α with
 | .ds l=>(l=[]->K (!neg))∧K neg
 | .rw k g len=>(nlZ hp k g len->K (!neg))∧K neg
 | .e0=>K (!neg)∧K neg
 |_=>False
def Eu (m:Nat) (l:List (List AV)):Prop:=∀e∈l,e.length=m∧FE e=true
def IG (n:Nat):List AV->Option (List (List AV))
 | []=>some []
 | α::r=>match α.cl,IG n r with
  |some cs,some l=>if cs.length=n∧ones cs=true then some (cs::l) else none
  |_,_=>none
def nst (hp:CH):AV->Option (List (List AV))
 | .rw k g len=>match gc hp k with
  | .rn g' _ l=>if g=g'∧len<=l.length then some (l.take len) else none
  |_=>none
 |_=>none
def XY (fz:Bool) (hp:CH) (α:AV):Option (List (List AV)) :=
 match fz with
 |true=>nst hp α
 |false=>none
def Dv (P:Program) (k0:Nat) (o:CO) (st:St) (K:St->Prop):Prop :=
 o.op.obsB st.env true∧match o.op with
 | .al z=>K ⟨EN.set st.env o.dst (.bx k0 0),(k0,.bx z)::st.hp,max st.n (k0+1)⟩
 | .alb T e=>K ⟨EN.set st.env o.dst (.bx k0 0),(k0,.sb T e 0 ⟨#[]⟩)::st.hp,max st.n (k0+1)⟩
 | .mk=>K ⟨EN.set st.env o.dst (.mp k0),(k0,.mp [])::st.hp,max st.n (k0+1)⟩
 | .mu x s y=>muK st.hp (Bf (x.ev st.env)) (Bf (s.ev st.env)) (Bf (y.ev st.env)) fun Am=>K ⟨EN.set st.env o.dst .un,Am,st.n⟩
 | .mpg x=>mgK st.hp (Bf (x.ev st.env)) fun α Am=>K ⟨EN.set st.env o.dst α,Am,st.n⟩
 | .mpn x=>mxK st.hp (Bf (x.ev st.env)) fun α Am=>K ⟨EN.set st.env o.dst α,Am,st.n⟩
 | .mpe x=>meK st.hp (Bf (x.ev st.env)) fun α=>K ⟨EN.set st.env o.dst α,st.hp,st.n⟩
 | .mpd x s=>mdK st.hp (Bf (x.ev st.env)) (Bf (s.ev st.env)) fun Am=>K ⟨EN.set st.env o.dst .un,Am,st.n⟩
 | .clr x n z=>clK st.hp (Bf (x.ev st.env)) n z fun Am=>K ⟨EN.set st.env o.dst .un,Am,st.n⟩
 | .bo x=>match (Bf (x.ev st.env)).cl with
  |some cs=>K ⟨EN.set st.env o.dst (.bx k0 0),(k0,.bx cs)::st.hp,max st.n (k0+1)⟩
  |none=>False
 | .st x y m=>match (Bf (y.ev st.env)).cl with
  |some cs=>cs.length=m∧ones cs=true∧stK st.hp (Bf (x.ev st.env)) cs fun Am=>K ⟨EN.set st.env o.dst .un,Am,st.n⟩
  |none=>False
 | .bs fz n ps=>match o.fz with
  |true=>match IG n (ps.map fun s=>Bf (s.ev st.env)) with
   |some l=>K ⟨EN.set st.env o.dst (.rw k0 0 l.length),(k0,.rn 0 n l)::st.hp,max st.n (k0+1)⟩
   |none=>False
  |false=>match C5 (shutP st.hp (ps.map fun s=>Bf (s.ev st.env))) n (ps.map fun s=>Bf (s.ev st.env)) with
   |some l=>if fz then K ⟨EN.set st.env o.dst (.ds l),shutP st.hp (ps.map fun s=>Bf (s.ev st.env)),st.n⟩
    else K ⟨EN.set st.env o.dst (.rw k0 0 l.length),(k0,.rw 0 n l)::shutP st.hp (ps.map fun s=>Bf (s.ev st.env)),max st.n (k0+1)⟩
   |none=>False
 | .ap x y n bytes=>match XY o.fz st.hp (Bf (y.ev st.env)) with
  |some l2=>(∀e∈l2,e.length=n∧ones e=true)∧(Cs (Bf (x.ev st.env))+l2.length)*bytes<=140737488355328∧Cs (Bf (x.ev st.env))+l2.length<=9223372036854775807 ∧
   match PS true st.hp st.n k0 n (Bf (x.ev st.env)) l2 with
   |some (α,kc,nx)=>K ⟨EN.set st.env o.dst α,kc::st.hp,nx⟩
   |none=>False
  |none=>match sl st.hp (Bf (y.ev st.env)) with
   |some l2=>(∀e∈l2,e.length=n∧FE e=true)∧(Cs (Bf (x.ev st.env))+l2.length)*bytes<=140737488355328∧Cs (Bf (x.ev st.env))+l2.length<=9223372036854775807 ∧
    match H0 st.hp st.n k0 n (Bf (x.ev st.env)) l2 with
    |some (α,kc,nx)=>K ⟨EN.set st.env o.dst α,kc::st.hp,nx⟩
    |none=>False
   |none=>False
 | .aps x y=>match Bf (y.ev st.env) with
  | .s b=>Cs (Bf (x.ev st.env))+b.size<=140737488355328∧match H0 st.hp st.n k0 1 (Bf (x.ev st.env)) (DK b) with
   |some (α,kc,nx)=>K ⟨EN.set st.env o.dst α,kc::st.hp,nx⟩
   |none=>False
  |_=>False
 | .ms l c n bytes z=>match Bf (l.ev st.env),Bf (c.ev st.env) with
  | .i _ x,.i _ y=>0<=x∧x<=y∧y*bytes<=140737488355328∧y<=9223372036854775807∧z.length=n∧FE z=true ∧
   K ⟨EN.set st.env o.dst (.rw k0 0 x.toNat),(k0,.rw 0 n (z2i x.toNat z))::st.hp,max st.n (k0+1)⟩
  |_,_=>False
 | .cl f xs=>Ac P f st.hp st.n (xs.map fun s=>Bf (s.ev st.env)) fun Am n' r=>K ⟨EN.set st.env o.dst r,Am,n'⟩
 | .cc f xs=>match Bf (f.ev st.env) with
  | .fn g i8=>Ac P g st.hp st.n (xs.map (fun s=>Bf (s.ev st.env))++i8) fun Am n' r=>K ⟨EN.set st.env o.dst r,Am,n'⟩
  |_=>False
 | .nl neg x=>nlK st.hp (Bf (x.ev st.env)) neg fun b=>K ⟨EN.set st.env o.dst (.b b),st.hp,st.n⟩
 |op=>I1 st.hp (fun s=>Bf (s.ev st.env)) op fun α=>K ⟨EN.set st.env o.dst α,st.hp,st.n⟩
def LD (o:Ap) (env:EN):Bool :=
 match o with
 | .ld x _ _=>match Bf (x.ev env) with
  | .ep _ _ _ _=>false
  |_=>true
 |o=>o.isV
def H3 (x:Bool) (A B:Prop):Prop:=(x=true->A)∧(x=false->B)
def AH (P:Program) (f:FuncId) (hp:CH) (n:Nat) (args:List AV) (G:Bool) (K:CH->Nat->AV->Prop):Prop :=
 (∃r,(G=true->Ae P f hp n args r)∧K hp n (.gd G r))∨H3 G (Ac P f hp n args K) (K hp n (.gd false .un))
def QQ (P:Program) (o:CO) (st:St) (G:Bool) (K:St->Prop):Prop :=
 if LD o.op st.env then
  o.op.obsB st.env G∧imp G (o.op.pre st.hp fun s=>Bf (s.ev st.env))∧imp G ((o.op.val st.hp fun s=>Bf (s.ev st.env)).isSome=true) ∧
   K ⟨EN.set st.env o.dst (.gd G ((o.op.val st.hp fun s=>Bf (s.ev st.env)).getD .un)),st.hp,st.n⟩
 else match o.op with
  | .cl f xs=>FK st.env G xs∧AH P f st.hp st.n (xs.map fun s=>Bf (s.ev st.env)) G fun Am n' r=>K ⟨EN.set st.env o.dst r,Am,n'⟩
  |_=>H3 G (Dv P st.n o st K) (K ⟨EN.set st.env o.dst (.gd false .un),st.hp,st.n⟩)
def Jd (P:Program) (o:CO) (st:St) (K:St->Prop):Prop :=
 match o.g with
 |none=>Dv P st.n o st K
 |some (t,i7)=>match ge st.env t with
  | .b x=>QQ P o st (x == i7) K
  | .gd c (.b x)=>QQ P o st (c&&(x == i7)) K
  | .gd false .un=>QQ P o st false K
  |_=>False
def Aac (k g:Nat) (l l':List (List AV)):AV->AV
 | .rw k' g' len=>if k'=k then (if g'=g∧len<=l.length then .ds (l.take len) else if g'=g+1∧len=l'.length then .ds l' else .rw k' g' len) else .rw k' g' len
 | α=>α
def frz (k g:Nat) (l l':List (List AV)) (env:EN):EN:=env.map fun p=>(p.1,Aac k g l l' p.2)
def pum:List Nat->Bool
 | []=>false
 |a::_=>a == 77777
def TB (P:Program) (o:CO) (st:St) (K:St->Prop):Prop :=
 match o.op,o.g with
 | .ap x y n bytes, none => match nst st.hp (Bf (y.ev st.env)) with
  | some _ => Dv P st.n o st K
  | none => (Ap.ap x y n bytes).obsB st.env true ∧ match sl st.hp (Bf (y.ev st.env)) with
   | some l2 => (∀ e ∈ l2, e.length = n ∧ FE e = true) ∧ (Cs (Bf (x.ev st.env)) + l2.length) * bytes <= 140737488355328 ∧ Cs (Bf (x.ev st.env)) + l2.length <= 9223372036854775807 ∧ match Bf (x.ev st.env) with
    | .rw k g len => match gc st.hp k with
     | .rw g' n' l => match pum o.dp with
      | false => (g = g' ∧ n = n' ∧ len = l.length) ∧ K ⟨frz k g l (l ++ l2) (EN.set st.env o.dst (.rw k (g + 1) (len + l2.length))), (k, .sh (g + 1) n (l ++ l2)) :: (k, .rw (g + 1) n (l ++ l2)) :: st.hp, st.n⟩
      | true => (g = g' ∧ n = n' ∧ len <= l.length ∧ sl ((k, .rw g n (l.take len)) :: st.hp) (Bf (y.ev st.env)) = some l2) ∧ K ⟨EN.set st.env o.dst (.rw k g (len + l2.length)), (k, .rw g n (l.take len ++ l2)) :: st.hp, st.n⟩ ∧
       K ⟨EN.set st.env o.dst (.rw st.n 0 (len+l2.length)),(st.n,.rw 0 n (l.take len++l2))::(k,.rw g n (l.take len))::st.hp,st.n+1⟩
     |_=>False
    | .e0 => pum o.dp = true ∧ K ⟨EN.set st.env o.dst (.rw st.n 0 l2.length), (st.n, .rw 0 n l2) :: st.hp, max st.n (st.n + 1)⟩
    |_=>False
   |none=>False
 | .bs _ _ _, none => Dv P st.n o st K
 |_,_=>False
def Yt (P:Program) (o:CO) (st:St) (K:St->Prop):Prop :=
 match o.fz with
 |false=>Jd P o st K
 |true=>TB P o st K
def Bg (P:Program):List CO->St->(St->Prop)->Prop
 | [],st,K=>K st
 |o::r,st,K=>Yt P o st fun c8=>Bg P r ⟨EN.drop o.dp c8.env,c8.hp,c8.n⟩ K
/-! ### Regions that draw an order -/
def AV.ids:AV->List Nat
 | .bx k _=>[k]
 | .rw k _ _=>[k]
 | .rf k _ _ _ _=>[k]
 | .mp k=>[k]
 | .mi k=>[k]
 | .ep α _ _ _=>α.ids
 |_=>[]
def Ap.srcs:Ap->List Bj
 | .pk c a b=>[c,a,b]
 | .mv x | .ld x _ _ | .un _ x | .ci _ x | .cs x | .cb x | .mi _ x | .fa x _ | .fl x _ _ _ | .ta x _ _ | .ex x _ | .ln _ x | .bo x | .s0 x | .nc x | .nl _ x=>[x]
 | .bd _ ps=>ps.map (·.2.2)
 | .bin _ _ x y | .ia x y _ | .eqs _ _ x y | .ix x y | .ai x y _ _ _ | .pa x y _ _ | .mm _ x y | .lk x y _ _ | .st x y _ | .ap x y _ _ | .aps x y | .ms x y _ _ _=>[x,y]
 | .mf _ xs | .bs _ _ xs | .cl _ xs=>xs
 | .sc x lo hi _ | .ss x lo hi=>x::(lo.toList++hi.toList)
 | .al _ | .alb _ _ | .mk=>[]
 | .mu x s y=>[x,s,y]
 | .mpg x | .mpn x | .mpe x=>[x]
 | .mpd x s=>[x,s]
 | .clr x _ _=>[x]
 | .cc x xs=>x::xs
def Bj.slot:Bj->List Nat
 | .t n=>[n]
 | .c _=>[]
def Ap.rd (f:Bj->AV):Ap->List Nat
 | .ld x _ _=>(f x).ids
 | .cb x=>(f x).ids
 | .ln _ x=>(f x).ids
 | .sc x _ _ _=>(f x).ids
 | .ia x _ _=>(f x).ids
 | .lk x _ _ _=>(f x).ids
 |_=>[]
def Ap.eff (hp:CH) (f:Bj->AV) (id:Nat):Ap->Option (AV×CH×List Nat)
 | .al z=>some (.bx id 0,[(id,.bx z)],[])
 | .alb T e=>some (.bx id 0,[(id,.sb T e 0 ⟨#[]⟩)],[])
 | .mk=>some (.mp id,[(id,.mp [])],[])
 | .mu x s y=>match f x,f s with
  | .mp k,.s b=>match gc hp k with
   | .mp l=>some (.un,[(k,.mp (D4 b (f y) l))],[k])
   |_=>none
  |_,_=>none
 | .bo x=>match (f x).cl with
  |some c0=>some (.bx id 0,[(id,.bx c0)],[])
  |none=>none
 | .st x y m=>match (f y).cl,f x with
  |some c0,.bx k off=>match gc hp k with
   | .bx old=>some (.un,[(k,.bx (old.take off++c0++old.drop (off+c0.length)))],[k])
   |_=>none
  |some c0,.ep (.rw k g _) n i off=>match gc hp k with
   | .rw g' n' l=>match l[i]? with
    |some e=>some (.un,[(k,.rw g' n' (l.set i (e.take off++c0++e.drop (off+c0.length))))],[k])
    |none=>none
   | .rn g' n' l=>match l[i]? with
    |some e=>some (.un,[(k,.rn g' n' (l.set i (e.take off++c0++e.drop (off+c0.length))))],[k])
    |none=>none
   |_=>none
  |_,_=>none
 | .bs fz n ps=>match C5 [] n (ps.map f) with
  |some l=>if fz then some (.ds l,[],[]) else some (.rw id 0 l.length,[(id,.rw 0 n l)],[])
  |none=>none
 | .ap x y n bytes=>match sl hp (f y) with
  |some l2=>match H0 hp 0 id n (f x) l2 with
   |some (α,kc,_)=>some (α,[kc],(f x).ids++(f y).ids)
   |none=>none
  |none=>none
 | .aps x y=>match f y with
  | .s b=>match H0 hp 0 id 1 (f x) (DK b) with
   |some (α,kc,_)=>some (α,[kc],(f x).ids)
   |none=>none
  |_=>none
 | .ms l c n bytes z=>match f l with
  | .i _ x=>some (.rw id 0 x.toNat,[(id,.rw 0 n (z2i x.toNat z))],[])
  |_=>none
 |op=>match op.val hp f with
  |some α=>some (α,[],op.rd f)
  |none=>none
def O9:AV->Bool
 | .ag l=>l.all AV.pur
 | α=>α.pur
def Ap.effP (hp:CH) (f:Bj->AV):Ap->Prop
 | .al _=>True
 | .alb _ _=>True
 | .mk=>True
 | .mu _ _ y=>(f y).purR=true
 | .bo _=>True
 | .st x y m=>match (f y).cl,f x with
  |some c0,.bx k off=>c0.length=m∧ones c0=true∧match gc hp k with
   | .bx old=>off+c0.length<=old.length
   |_=>False
  |some c0,.ep (.rw k g _) n i off=>c0.length=m∧ones c0=true∧match gc hp k with
   | .rw g' n' _=>g=g'∧n=n'∧off+c0.length<=n∧FE c0=true
   | .rn g' n' _=>g=g'∧n=n'∧off+c0.length<=n∧ones c0=true
   |_=>False
  |_,_=>False
 | .bs fz n ps=>(ps.map f).all O9=true
 | .ap x y n bytes=>match sl hp (f y) with
  |some l2=>Eu n l2∧(Cs (f x)+l2.length)*bytes<=140737488355328∧Cs (f x)+l2.length<=9223372036854775807
  |none=>False
 | .aps x y=>match f y with
  | .s b=>Cs (f x)+b.size<=140737488355328
  |_=>False
 | .ms l c n bytes z=>match f l,f c with
  | .i _ x,.i _ y=>0<=x∧x<=y∧y*bytes<=140737488355328∧y<=9223372036854775807∧z.length=n∧FE z=true
  |_,_=>False
 |op=>op.pre hp f
structure DO where
 o:CO
 un:List Nat
 lg:Bool
 bf:List Nat
structure LE where
 j:Nat
 R:List Nat
 W:List Nat
 c:Bool
def keys (u:CH):List Nat:=u.map (·.1)
def Sx (a b:List Nat):Prop:=∀x∈a,∀y∈b,x≠y
def cf (n0 i:Nat) (R W:List Nat) (c:Bool) (e:LE):Prop :=
 Sx e.W R∧Sx e.W W∧Sx W e.R∧(c=true->∀x∈e.W,x=n0+e.j)∧(e.c=true->∀x∈W,x=n0+i)
def cfs (n0 i:Nat) (un:List Nat) (R W:List Nat) (c:Bool):List LE->Prop
 | []=>True
 |e::r=>imp (un.contains e.j) (cf n0 i R W c e)∧cfs n0 i un R W c r
def AJ (P:Program) (f:FuncId) (n0:Nat) (bf:List Nat) (hp:CH) (n:Nat) (args:List AV) (G:Bool) (K:AV->Prop):Prop :=
 ∃r,(G=true->∀Am,(∀k,(k<n0∨∃j∈bf,k=n0+j)->gc Am k=gc hp k)->Ae P f Am n args r)∧K r
def aOk (ks:List Nat):AV->Prop
 | .rw k _ _=>k∈ks
 | .rf k _ _ _ _=>k∈ks
 | .mp k=>k∈ks
 | α=>α.pur=true
def Z5 (ks:List Nat):List AV->Prop
 | []=>True
 | α::r=>aOk ks α∧Z5 ks r
def cOk (ks:List Nat):Ai->Prop
 | .bx cs=>Z5 ks cs
 | .rn _ _ _=>False
 |_=>True
def nOk:Ai->Prop
 | .no=>False
 |_=>True
def Kc (hp:CH) (n0:Nat) (ks:List Nat):CH->Prop
 | []=>True
 | (k,c)::r=>k<n0∧nOk (gc hp k)∧cOk ks c∧Kc hp n0 ks r
def Aiw (ks:List Nat) (r:AV):Prop:=r.purR=true∨aOk ks r
def Au (P:Program) (f:FuncId) (n0:Nat) (bf:List Nat) (hp:CH) (n:Nat) (args:List AV) (id:Nat) (K:AV->CH->Prop):Prop :=
 (∃r,(∀Am,(∀k,(k<n0∨∃j∈bf,k=n0+j)->gc Am k=gc hp k)->Ae P f Am n args r)∧K r []) ∨
 (∃m l,(∀Am,(∀k,(k<n0∨∃j∈bf,k=n0+j)->gc Am k=gc hp k)->AK P f Am n args fun DX n2 r2=>DX=(n,.rw 0 m l)::Am∧n2=n+1∧r2=.rw n 0 l.length)∧K (.rw id 0 l.length) [(id,.rw 0 m l)]) ∨
 ∃r ws,Kc hp n0 (keys ws) ws∧Aiw (keys ws) r∧(∀Am,(∀k,(k<n0∨∃j∈bf,k=n0+j)->gc Am k=gc hp k)->AK P f Am n args fun DX n2 r2=>DX=ws++Am∧n2=n∧r2=r)∧K r ws
def EG (P:Program) (n0 N1 i:Nat) (o:DO) (env:EN) (hp:CH) (K:AV->CH->List Nat->Bool->Prop):Prop :=
 match o.o.op with
 | .cl f xs=>Au P f n0 o.bf hp N1 (xs.map fun s=>Bf (s.ev env)) (n0+i) fun r ws=>K r ws [] true
 | .cc f xs=>match Bf (f.ev env) with
  | .fn g i8=>AJ P g n0 o.bf hp N1 (xs.map (fun s=>Bf (s.ev env))++i8) true fun r=>K r [] [] true
  |_=>False
 |op=>op.effP hp (fun s=>Bf (s.ev env))∧match op.eff hp (fun s=>Bf (s.ev env)) (n0+i) with
  |some (α,ws,R)=>K α ws R false
  |none=>False
def dG (P:Program) (n0 N1 i:Nat) (o:DO) (env:EN) (hp:CH) (G:Bool) (K:AV->CH->List Nat->Bool->Prop):Prop :=
 o.o.op.obsB env G∧match o.o.op with
 | .cl f xs=>AJ P f n0 o.bf hp N1 (xs.map fun s=>Bf (s.ev env)) G fun r=>K (.gd G r) [] [] true
 | .cc f xs=>match Bf (f.ev env) with
  | .fn g i8=>AJ P g n0 o.bf hp N1 (xs.map (fun s=>Bf (s.ev env))++i8) G fun r=>K (.gd G r) [] [] true
  |_=>False
 |op=>if op.isV then imp G (op.pre hp fun s=>Bf (s.ev env))∧imp G ((op.val hp fun s=>Bf (s.ev env)).isSome=true)∧K (.gd G ((op.val hp fun s=>Bf (s.ev env)).getD .un)) [] (op.rd fun s=>Bf (s.ev env)) false
  else (G=true∧EG P n0 N1 i o env hp K)∨(G=false∧K (.gd false .un) [] [] false)
def L3 (P:Program) (n0 N1 i:Nat) (o:DO) (env:EN) (hp:CH) (K:AV->CH->List Nat->Bool->Prop):Prop :=
 match o.o.g with
 |none=>o.o.op.obsB env true∧EG P n0 N1 i o env hp K
 |some (t,i7)=>match ge env t with
  | .b x=>dG P n0 N1 i o env hp (x == i7) K
  | .gd c (.b x)=>dG P n0 N1 i o env hp (c&&(x == i7)) K
  | .gd false .un=>dG P n0 N1 i o env hp false K
  |_=>False
def Jf (P:Program) (n0 N1 i:Nat) (o:DO) (env:EN) (hp:CH) (K:AV->CH->List Nat->Bool->Prop):Prop :=
 match o.o.op.isV with
 |true=>I1 hp (fun s=>Bf (s.ev env)) o.o.op fun α=>K α [] (o.o.op.rd fun s=>Bf (s.ev env)) false
 |false=>EG P n0 N1 i o env hp K
def Di (P:Program) (n0 N1 i:Nat) (o:DO) (env:EN) (hp:CH) (K:AV->CH->List Nat->Bool->Prop):Prop :=
 match o.o.g with
 |none=>o.o.op.obsB env true∧Jf P n0 N1 i o env hp K
 |some _=>L3 P n0 N1 i o env hp K
def LJ (P:Program) (n0 N1:Nat):Nat->List DO->EN->CH->List LE->(EN->CH->Prop)->Prop
 |_,[],env,hp,_,K=>K env hp
 |i,o::r,env,hp,lg,K=>Di P n0 N1 i o env hp fun α ws R c=>cfs n0 i o.un R (keys ws) c lg ∧
  LJ P n0 N1 (i+1) r (EN.set env o.o.dst α) (ws++hp) (match o.lg with | true=>⟨i,R,keys ws,c⟩::lg | false=>lg) K
def vcD (P:Program) (n0 N1:Nat):Nat->List DO->EN->CH->List LE->(EN->CH->Prop)->Prop
 |_,[],env,hp,_,K=>K env hp
 |i,o::r,env,hp,lg,K=>L3 P n0 N1 i o env hp fun α ws R c=>cfs n0 i o.un R (keys ws) c lg ∧
  vcD P n0 N1 (i+1) r (EN.set env o.o.dst α) (ws++hp) (if o.lg then ⟨i,R,keys ws,c⟩::lg else lg) K
inductive CC where
 | skip
 | rg (l:List CO)
 | dr (l:List DO) (dp:List Nat)
 | sq (a b:CC)
 | sqw (a b:CC)
 | cd (c:Bj) (a b:CC)
 | bl (id:Nat) (c:CC)
 | lp (c:CC)
 | ex (id:Nat)
 | rt
def CC.erase:CC->CC
 | .skip=>.skip
 | .rg l=>.rg (l.map CO.er)
 | .dr l _=>.dr l []
 | .sq a b=>.sq a.erase b.erase
 | .sqw a b=>.sq a.erase b.erase
 | .cd c a b=>.cd c a.erase b.erase
 | .bl id c=>.bl id c.erase
 | .lp c=>.lp c.erase
 | .ex id=>.ex id
 | .rt=>.rt
def CD (s s':St):Prop:=∀C a w,S C s a w->S C s' a w
def Wy (s:St) (I:St->Prop):Prop:=∀C a w,S C s a w->∃s',I s'∧S C s' a w
theorem CD.s {s:St} (h:CD s s'):Wy s (·=s'):=fun C a w x=>⟨s',rfl,h C a w x⟩
def Ach (hd s s':St):Prop:=∀C a w,SatH C.h0 C.ρ0 hd.hp hd.n C.w0->S C s a w->S C s' a w
theorem CD.g {hd s:St} (h:CD s s'):Ach hd s s':=fun C a w _=>h C a w
def Nl (F:St->(Exit->St->Prop)->Prop) (st:St) (Q:Exit->St->Prop):Prop :=
 ∃I:Nat->St->Prop,(∃m s,I m s∧CD st s)∧∀m s,I m s->F s fun e s'=>match e with
  | .normal=>∃m' s'',m' < m∧I m' s''∧Ach s s' s''
  |e=>Q e s'
def vc (P:Program):CC->St->(Exit->St->Prop)->Prop
 | .skip,st,Q=>Q .normal st
 | .rg l,st,Q=>Bg P l st (Q .normal)
 | .dr l dp,st,Q=>LJ P st.n (st.n+l.length) 0 l st.env st.hp [] fun env hp=>Q .normal ⟨EN.drop dp env,hp,st.n+l.length⟩
 | .sq a b,st,Q=>vc P a st fun e s=>match e with
  | .normal=>vc P b s Q
  |e=>Q e s
 | .sqw a b,st,Q=>vc P a st fun e s=>match e with
  | .normal=>∃I:St->Prop,Wy s I∧∀s',I s'->vc P b s' Q
  |e=>Q e s
 | .cd c a b,st,Q=>EF true (c.ev st.env)∧match Bf (c.ev st.env) with
  | .b x=>H3 x (vc P a st Q) (vc P b st Q)
  |_=>False
 | .bl id c,st,Q=>vc P c st fun e s=>match e with
  | .exit i=>if i=id then Q .normal s else Q (.exit i) s
  |e=>Q e s
 | .lp c,st,Q=>Nl (vc P c) st Q
 | .ex id,st,Q=>Q (.exit id) st
 | .rt,st,Q=>Q .ret st
/-! ### From the model's code to the compact one -/
def DZ (N:Nat) (d4:List Oper):Option (Nat×Bool)->Option (Option (Nat×Bool))
 |none=>some none
 |some (j,i7)=>match (d4[j]?).bind (·.dst) with
  |some t=>if t<N then some (some (t,i7)) else none
  |none=>none
def L7 (P:Program) (N:Nat) (d4:List Oper):List Oper->Option (List CO)
 | []=>some []
 |o::r=>match P1 P N d4 o,DZ N d4 o.guard,L7 P N d4 r with
  |some c,some g,some l=>some (⟨o.dst,c,g,[],false⟩::l)
  |_,_,_=>none
def Zo (d4:List Oper):List (List Nat) :=
 d4.foldl (fun j6 o=>j6++[(o.after.toList.flatMap fun e=>if Region.binds .any e then e.on::j6.getD e.on [] else []).eraseDups]) []
def Ap.mw:Ap->Bool
 | .al _ | .alb _ _ | .bo _ | .st _ _ _ | .bs _ _ _ | .ap _ _ _ _ | .aps _ _ | .ms _ _ _ _ _ | .cl _ _ | .mk | .mu _ _ _ | .mpg _ | .mpn _ | .mpe _ | .mpd _ _ | .clr _ _ _=>true
 |_=>false
def Ap.mr:Ap->Bool
 | .lk _ _ _ _ | .mu _ _ _ | .ld _ _ _ | .cb _ | .ln _ _ | .sc _ _ _ _ | .ia _ _ _ | .st _ _ _ | .ap _ _ _ _ | .aps _ _ | .cl _ _ | .cc _ _ | .mpg _ | .mpn _ | .mpe _ | .mpd _ _ | .clr _ _ _=>true
 |_=>false
def SO (x y:Ap):Bool:=(x.mw&&(y.mw||y.mr))||(y.mw&&x.mr)
def CO.slots (o:CO):List Nat:=(o.op.srcs.flatMap Bj.slot)++(match o.g with | some (t,_)=>[t] | none=>[])
def CO.dsts (o:CO):List Nat:=o.dst.toList
def CO.apart (x y:CO):Bool:=x.dsts.all (fun d=>!(y.slots++y.dsts).contains d)&&y.dsts.all (fun d=>!x.slots.contains d)
def Uz (bs:List (List Nat)) (cl:List CO):List DO :=
 cl.zipIdx.map fun (o,i)=>
  ⟨o,(z1y i).filter (fun j=>!(bs.getD i []).contains j&&match cl[j]? with | some x=>SO x.op o.op | none=>false),
   (z1y cl.length).any (fun k=>i<k&&!(bs.getD k []).contains i&&match cl[k]? with | some x=>SO o.op x.op | none=>false),if o.op.isC then (bs.getD i []).filter (fun j=>match cl[j]? with | some x=>x.op.mw | none=>false) else []⟩
def bOk (d4:List Oper) (bs:List (List Nat)):Bool :=
 (z1y d4.length).all fun i=>match d4[i]? with
  |some o=>o.after.all (fun e=>!Region.binds .any e||decide (e.on<i))&&(bs.getD i []).all fun j=>decide (j<i)&&o.after.any fun e=>Region.binds .any e&&(e.on == j||(bs.getD e.on []).contains j)
  |none=>false
def pOk (bs:List (List Nat)) (dl:List DO):Bool :=
 (z1y dl.length).all fun i=>match dl[i]? with
  |some y=>y.bf.all ((bs.getD i []).contains ·)&&(z1y i).all fun j=>match dl[j]? with
   |some x=>(bs.getD i []).contains j||(x.o.apart y.o&&(!SO x.o.op y.o.op||(y.un.contains j&&x.lg)))
   |none=>false
  |none=>false
def dCk (P:Program) (d4:List Oper) (bs:List (List Nat)) (cl:List CO) (dl:List DO):Bool :=
 P.follows .mixedOrders&&dl.length == d4.length&&bOk d4 bs&&pOk bs dl
def OG (P:Program) (N:Nat) (d4:List Oper):Option CC :=
 match L7 P N d4 d4 with
 |some cl=>if dCk P d4 (Zo d4) cl (Uz (Zo d4) cl) then some (.dr (Uz (Zo d4) cl) []) else none
 |none=>none
def BP (P:Program) (N:Nat):Code->Option CC
 | .skip=>some .skip
 | .region _ d4 draw=>if draw then OG P N d4.toList else (L7 P N d4.toList d4.toList).map .rg
 | .seq a b=>match BP P N a,BP P N b with
  |some a,some b=>some (.sq a b)
  |_,_=>none
 | .cond c a b=>match Br N c,BP P N a,BP P N b with
  |some c,some a,some b=>some (.cd c a b)
  |_,_,_=>none
 | .block id c=>(BP P N c).map (.bl id)
 | .loop c=>(BP P N c).map .lp
 | .exit id=>some (.ex id)
 | .ret=>some .rt
 | .label _=>some .skip
 | .scope c=>BP P N c
 |_=>none
end
