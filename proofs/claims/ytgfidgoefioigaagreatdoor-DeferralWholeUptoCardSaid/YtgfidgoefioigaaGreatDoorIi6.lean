/- Proof. Conditions: none. -/
import Derived.Test.YtgfidgoefioigaaGreatDoorIi5
namespace Go.Eng
set_option linter.all false
def AI (P:Program) (f:FuncId) (hp:CH) (n:Nat) (args:List AV) (R:CH→Nat→AV→Prop):Prop :=
 (∃ fn, P.funcs[f]? = some fn ∧ (fn.name == "runtime.NumGoroutine") = false ∧ fn.body.isNone = false) ∧
 ∀h ρ w (vs:List Value),SatH h ρ hp n w→Br h ρ args vs→Calls P f vs.toArray w fun e w'=>∃v,e=.returned v∧∃h' ρ' Ao n' r,R Ao n' r∧B8 h h'∧BS ρ ρ' ∧
  SatH h' ρ' Ao n' w'∧AN h' ρ' r v∧Keeps (A9 ρ hp) w w'∧∀b,A9 ρ' Ao b→A9 ρ hp b∨w.heap.size≤b
def Ah (P:Program) (f:FuncId) (hp:CH) (n:Nat) (args:List AV) (r:AV):Prop :=
 (∃ fn, P.funcs[f]? = some fn ∧ (fn.name == "runtime.NumGoroutine") = false ∧ fn.body.isNone = false) ∧
 ∀h ρ w (vs:List Value),SatH h ρ hp n w→Br h ρ args vs→Calls P f vs.toArray w fun e w'=>∃v,e=.returned v∧∃h',B8 h h'∧SatH h' ρ hp n w'∧Bd h' r v∧Keeps (A9 ρ hp) w w'
def AV.purR:AV→Bool
 | .ag l=>l.all AV.pur
 | .tp l=>l.all fun α=>match α with
  | .ag l=>l.all AV.pur
  | α=>α.pur
 | α=>α.pur
theorem Mx {h:HP} {ρ:RO} {l:List AV} {v:Value} (r:AN h ρ (.ag l) v) (o:l.all AV.pur=true):Bd h (.ag l) v:=by
 obtain ⟨vs,rfl,rs⟩:=r.agg
 exact .ag _ _ rs.1 fun j α v h1 h2=>AV.pur_rel (rs.2 j α v h1 h2) (List.all_eq_true.1 o _ (List.mem_of_getElem? h1))
theorem AV.purR_rel {h:HP} {ρ:RO} {α:AV} {v:Value} (r:AN h ρ α v) (o:α.purR=true):Bd h α v:=by
 unfold AV.purR at o
 split at o
 .exact Mx r o
 .obtain ⟨vs,rfl,rs⟩:=r.tup
  refine .tp _ _ rs.1 fun j α v h1 h2=>?_
  have:=List.all_eq_true.1 o _ (List.mem_of_getElem? h1)
  have r1:=rs.2 j α v h1 h2
  split at this
  .exact Mx r1 this
  .exact AV.pur_rel r1 this
 .exact AV.pur_rel r o
theorem Ap.back {h h':HP} {ρ ρ':RO} {w w':World} {k:Nat} {c:Ap} (hr:BS ρ ρ') (s0:c.sat h ρ w k) (s:c.sat h' ρ' w' k):c.sat h' ρ w' k:=by
 cases c with
 | no=>trivial
 | bx cs =>
  obtain ⟨b,c,vs,e,h1,h2,h3,h4⟩:=s0
  obtain ⟨b',c',vs',e',Fj,Ep,h3',h4'⟩:=s
  rw [hr _ _ _ h1] at Fj
  cases Fj
  refine ⟨b,c,vs',e',h1,Ep,h3',fun j α v a1 a2=>?_⟩
  have hj:j<vs.size:=by have:=(List.getElem?_eq_some_iff.1 a1).1;omega
  exact AN.back hr (h4 j α vs[j] a1 (by simp [hj])) (h4' j α v a1 a2)
 | rw g n l =>
  obtain ⟨ob,cap,h1,_⟩:=s0
  obtain ⟨ob',cap',Fj,hx⟩:=s
  rw [hr _ _ _ h1] at Fj
  cases Fj
  exact ⟨ob,cap,h1,hx⟩
 | rc g n cap l =>
  obtain ⟨ob,h1,_⟩:=s0
  obtain ⟨ob',Fj,hx⟩:=s
  rw [hr _ _ _ h1] at Fj
  cases Fj
  exact ⟨ob,h1,hx⟩
 | sh g n l =>
  obtain ⟨ob,cap,h1,_⟩:=s0
  obtain ⟨ob',cap',Fj,hx⟩:=s
  rw [hr _ _ _ h1] at Fj
  cases Fj
  exact ⟨ob,cap,h1,hx⟩
 | mp l =>
  obtain ⟨b,c,es,cl,h1,_⟩:=s0
  obtain ⟨b',c',es',cl',Fj,hx⟩:=s
  rw [hr _ _ _ h1] at Fj
  cases Fj
  exact ⟨b,c,es',cl',h1,hx⟩
 | mq F =>
  obtain ⟨b,c,es,cl,h1,_⟩:=s0
  obtain ⟨b',c',es',cl',Fj,hx⟩:=s
  rw [hr _ _ _ h1] at Fj
  cases Fj
  exact ⟨b,c,es',cl',h1,hx⟩
 | mr l sn =>
  obtain ⟨b,c,es,cl,h1,_,_,_,_,b2,c2,sn2,g1,_⟩:=s0
  obtain ⟨b',c',es',cl',Fj,x1,x2,x3,x4,b2',c2',sn2',g1',x5⟩:=s
  rw [hr _ _ _ h1] at Fj
  cases Fj
  rw [hr _ _ _ g1] at g1'
  cases g1'
  exact ⟨b,c,es',cl',h1,x1,x2,x3,x4,b2,c2,sn2',g1,x5⟩
 | ro cs =>
  obtain ⟨b,c,vs,e,fr,h1,_⟩:=s0
  obtain ⟨b',c',vs',e',fr',Fj,hx⟩:=s
  rw [hr _ _ _ h1] at Fj
  cases Fj
  exact ⟨b,c,vs',e',fr',h1,hx⟩
 | rn g n l =>
  obtain ⟨ob,cap,h1,_,_,_,_,q⟩:=s0
  obtain ⟨ob',cap',Fj,a1,a2,a3,a4,q'⟩:=s
  rw [hr _ _ _ h1] at Fj
  cases Fj
  refine ⟨ob,cap,h1,a1,a2,a3,a4,fun b hb=>?_⟩
  obtain ⟨vs,e,z1,z2,z3⟩:=q b hb
  obtain ⟨vs',e',y1,y2,y3⟩:=q' b hb
  refine ⟨vs',e',y1,y2,fun j x q α g1 g2=>?_⟩
  obtain ⟨u,u1,u2⟩:=z3 j x q α g1 g2
  obtain ⟨u',u1',u2'⟩:=y3 j x q α g1 g2
  exact ⟨u',u1',AN.back hr u2 u2'⟩
 | sb T e g bs =>
  obtain ⟨b,c,p,v,h1,h2,h3,h4,h5,⟨y,hy⟩,h6⟩:=s0
  obtain ⟨b',c',p',v',Fj,Ep,h3',h4',h5',h7',h6'⟩:=s
  rw [hr _ _ _ h1] at Fj
  cases Fj
  refine ⟨b,c,p',v',h1,Ep,h3',h4',h5',⟨y,hy⟩,fun b2 e2=>?_⟩
  obtain ⟨q1,c2,q2⟩:=h6' b2 e2
  rw [hr _ _ _ hy] at q2
  cases q2
  exact ⟨q1,c2,hy⟩
theorem SatH.back {h h':HP} {ρ ρ':RO} {hp:CH} {n n':Nat} {w w':World} (hr:BS ρ ρ') (m0:SatH h ρ hp n w) (m:SatH h' ρ' hp n' w'):SatH h' ρ hp n w':=by
 have hl:∀b,A9 ρ hp b→A9 ρ' hp b:=fun b ⟨k,g,c,e,r⟩=>⟨k,g,c,e,hr _ _ _ r⟩
 exact ⟨m.hh,fun k=>Ap.back hr (m0.ch k) (m.ch k),m0.inj,fun b hb=>m.hid b (hl b hb),fun b hb=>m.lt b (hl b hb),m0.fr,m0.gens,m.gl⟩
theorem AI.fn {P:Program} {f:FuncId} {hp:CH} {n:Nat} {args:List AV} {r:AV} (m:AI P f hp n args fun Ao _ r'=>Ao=hp∧r'=r) (Gd:r.purR=true):Ah P f hp n args r:=by
 refine ⟨m.1,fun h ρ w vs hs ha=>(m.2 h ρ w vs hs ha).mono fun e w' ⟨v,he,h',ρ',Ao,n',r',⟨e1,e2⟩,hh,hr,hm,BW,hk,hl⟩=>?_⟩
 subst e1
 subst e2
 exact ⟨v,he,h',hh,SatH.back hr hs hm,AV.purR_rel BW Gd,hk⟩
theorem Ah.to {P:Program} {f:FuncId} {hp:CH} {n:Nat} {args:List AV} {r:AV} (m:Ah P f hp n args r):AI P f hp n args fun Ao n' r'=>Ao=hp∧n'=n∧r'=r :=
 ⟨m.1,fun h ρ w vs hs ha=>(m.2 h ρ w vs hs ha).mono fun e w' ⟨v,he,h',hh,hm,BW,hk⟩=>⟨v,he,h',ρ,hp,n,r,⟨rfl,rfl,rfl⟩,hh,BS.refl _,hm,.pu _ _ BW,hk,fun b hb=>.inl hb⟩⟩
def Af (P:Program) (f:FuncId) (hp:CH) (n:Nat) (args:List AV) (K:CH→Nat→AV→Prop):Prop :=
 ∃R,AI P f hp n args R∧∀Ao n' r,R Ao n' r→K Ao n' r
theorem Af.f {P:Program} {f:FuncId} {hp:CH} {n:Nat} {args:List AV} {K:CH→Nat→AV→Prop} {r:AV} (m:Ah P f hp n args r) (k:K hp n r):Af P f hp n args K :=
 ⟨_,m.to,fun Ao n' r' ⟨e1,e2,e3⟩=>by subst e1;subst e2;subst e3;exact k⟩
theorem Af.r {P:Program} {f:FuncId} {hp:CH} {n:Nat} {args:List AV} {K:CH→Nat→AV→Prop} {R:CH→Nat→AV→Prop} (m:AI P f hp n args R) (k:∀Ao n' r,R Ao n' r→K Ao n' r):Af P f hp n args K :=
 ⟨_,m,k⟩
def imp (b:Bool) (q:Prop):Prop:=b=true→q
def Em (p:Bool):AV→Prop
 | .gd c _=>imp p (c=true)
 | _=>True
def EV (env:EN) (p:Bool):List AX→Prop
 | []=>True
 | s::r=>Em p (s.ev env)∧EV env p r
def R5 (env:EN) (p:Bool):Option AX→Prop
 | none=>True
 | some s=>Em p (s.ev env)
def As.obsB (env:EN) (p:Bool):As→Prop
 | .pk c a b=>Em p (c.ev env)∧match AR (c.ev env) with
  | .b x=>Em (p&&x) (a.ev env)∧Em (p&&!x) (b.ev env)
  | _=>p=false
 | .mv x | .ld x _ _ | .un _ x | .ci _ x | .cs x | .cb x | .mi _ x | .fa x _ | .fl x _ _ _ | .ta x _ _ | .ex x _ | .ln _ x | .bo x | .s0 x | .nc x | .nl _ x=>Em p (x.ev env)
 | .bd _ ps=>EV env p (ps.map (·.2.2))
 | .bin _ _ x y | .ia x y _ | .eqs _ _ x y | .ix x y | .ai x y _ _ _ | .pa x y _ _ | .mm _ x y | .lk x y _ _ | .st x y _ | .ap x y _ _ | .aps x y | .ms x y _ _ _=>Em p (x.ev env)∧Em p (y.ev env)
 | .mf _ xs | .bs _ _ xs | .cl _ xs=>EV env p xs
 | .sc x lo hi _ | .ss x lo hi=>Em p (x.ev env)∧R5 env p lo∧R5 env p hi
 | .al _ | .alb _ _ | .mk=>True
 | .mu x s y=>Em p (x.ev env)∧Em p (s.ev env)∧Em p (y.ev env)
 | .mpg x | .mpn x | .mpe x=>Em p (x.ev env)
 | .mpd x s=>Em p (x.ev env)∧Em p (s.ev env)
 | .clr x _ _=>Em p (x.ev env)
 | .cc x xs=>Em p (x.ev env)∧EV env p xs
theorem C2 {b:Bool} {p:Prop} (hp:p→b=true) {α:AV} (h:Em b α):ob p α:=by
 cases α<;>first | trivial | exact fun x=>h (hp x)
theorem EB {env:EN} {b:Bool} {p:Prop} (hp:p→b=true):∀{l:List AX},EV env b l→SH env p l
 | [],_=>trivial
 | s::r,h=>⟨C2 hp h.1,EB hp h.2⟩
theorem GO {env:EN} {b:Bool} {p:Prop} (hp:p→b=true):∀{l:Option AX},R5 env b l→obo env p l
 | none,_=>trivial
 | some s,h=>C2 hp h
theorem As.obsB_obs {o:As} {env:EN} {b:Bool} {p:Prop} (hp:p→b=true) (h:o.obsB env b):o.obs env p:=by
 cases o
 case pk c x y =>
  obtain ⟨h1,h2⟩:=h
  refine ⟨C2 hp h1,?_⟩
  split at h2
  .rename_i z hz
   rw [hz]
   exact ⟨C2 (fun q=>by rw [hp q.1,q.2];rfl) h2.1,C2 (fun q=>by rw [hp q.1,q.2];rfl) h2.2⟩
  .rename_i hz
   split
   .rename_i z hz2
    exact absurd hz2 (hz z)
   .intro q
    rw [hp q] at h2
    cases h2
 case bd z ps=>exact EB hp h
 case mf g xs=>exact EB hp h
 case bs f n xs=>exact EB hp h
 case cl f xs=>exact EB hp h
 case cc f xs=>exact ⟨C2 hp h.1,EB hp h.2⟩
 case sc x lo hi n=>exact ⟨C2 hp h.1,GO hp h.2.1,GO hp h.2.2⟩
 case ss x lo hi=>exact ⟨C2 hp h.1,GO hp h.2.1,GO hp h.2.2⟩
 case al z=>trivial
 case mk=>trivial
 case alb=>trivial
 case mu x s y=>exact ⟨C2 hp h.1,C2 hp h.2.1,C2 hp h.2.2⟩
 all_goals first
  | exact C2 hp h
  | exact ⟨C2 hp h.1,C2 hp h.2⟩
def F5 (L:List (List AV)) (i:Nat) (K:List AV→Prop):Prop:=∃e,L[i]?=some e∧K e
def Rc (ag:Bool) (cs:List AV):AV:=match ag with
 | true=>.ag cs
 | false=>cs.getD 0 .un
def Hr (hp:CH) (f:AX→AV) (op:As) (K:AV→Prop):Prop :=
 match op with
 | .ld x m ag=>match f x with
  | .ep α n i off=>match sl hp α with
   | some l=>F5 l i fun e=>(e.length=n∧off+m≤e.length)∧K (Rc ag ((e.drop off).take m))
   | none=>False
  | .bx k off=>match gc hp k with
   | .bx cs=>off+m≤cs.length∧K (Rc ag ((cs.drop off).take m))
   | .ro cs=>off+m≤cs.length∧K (Rc ag ((cs.drop off).take m))
   | _=>False
  | _=>False
 | op=>op.pre hp f∧match op.val hp f with
  | some α=>K α
  | none=>False
theorem IV {hp:CH} {f:AX→AV} {op:As} {K:AV→Prop} (h:Hr hp f op K):op.pre hp f∧match op.val hp f with
  | some α=>K α
  | none=>False:=by
 unfold Hr at h
 split at h
 .rename_i x m ag
  refine ⟨trivial,?_⟩
  simp only [As.val]
  split at h
  .rename_i α n i off hx
   rw [hx]
   split at h
   .rename_i l hl
    obtain ⟨e,he,hc,hk⟩:=h
    simp only [HR,hl,he,if_pos hc,Option.map_some]
    cases ag<;>exact hk
   .exact h.elim
  .rename_i k off hx
   rw [hx]
   split at h
   .rename_i cs hk
    simp only [HR,hk,if_pos h.1,Option.map_some]
    have:=h.2
    cases ag<;>exact this
   .rename_i cs hk
    simp only [HR,hk,if_pos h.1,Option.map_some]
    have:=h.2
    cases ag<;>exact this
   .exact h.elim
  .exact h.elim
 .exact h
theorem MC {hp:CH} {f:AX→AV} {op:As} {K:AV→Prop} {α:AV} (h1:op.pre hp f) (h2:op.val hp f=some α) (h3:K α):Hr hp f op K:=by
 unfold Hr
 split
 .rename_i x m ag
  simp only [As.val] at h2
  have key:∃cs,HR hp m (f x)=some cs∧Rc ag cs=α:=by
   cases hl:HR hp m (f x) with
   | none=>rw [hl] at h2;cases h2
   | some cs =>
    rw [hl] at h2
    simp only [Option.map_some,Option.some.injEq] at h2
    exact ⟨cs,rfl,by cases ag<;>exact h2⟩
  obtain ⟨cs,hl,rfl⟩:=key
  clear h2 h1
  generalize f x=β at hl ⊢
  unfold HR at hl
  split at hl
  .rename_i k off
   split at hl
   .rename_i cs' hk
    split at hl
    .rename_i hle
     cases hl
     simp only [hk]
     exact ⟨hle,h3⟩
    .cases hl
   .rename_i cs' hk
    split at hl
    .rename_i hle
     cases hl
     simp only [hk]
     exact ⟨hle,h3⟩
    .cases hl
   .cases hl
  .rename_i γ n i off
   split at hl
   .rename_i l hs
    split at hl
    .rename_i e he
     split at hl
     .rename_i hc
      cases hl
      simp only [hs]
      exact ⟨e,he,hc,h3⟩
     .cases hl
    .cases hl
   .cases hl
  .cases hl
 .rw [h2]
  exact ⟨h1,h3⟩
theorem K6 {hp:CH} {f:AX→AV} {op:As} {K K':AV→Prop} (hk:∀α,K α→K' α) (h:Hr hp f op K):Hr hp f op K':=by
 obtain ⟨h1,h2⟩:=IV h
 split at h2
 .rename_i α he
  exact MC h1 he (hk _ h2)
 .exact h2.elim
structure CO where
 dst:Option Nat
 op:As
 g:Option (Nat × Bool)
 dp:List Nat:=[]
 fz:Bool:=false
def CO.er (o:CO):CO:={ o with dp:=[],fz:=false }
def EN.drop (dp:List Nat) (env:EN):EN :=
 match dp with
 | []=>env
 | dp=>env.filter fun p=>!dp.contains p.1
def XS (hp:CH) (p:AV) (cs:List AV) (K:CH→Prop):Prop :=
 match p with
 | .bx k off=>match gc hp k with
  | .bx old=>off+cs.length≤old.length∧K ((k,.bx (old.take off++cs++old.drop (off+cs.length)))::hp)
  | _=>False
 | .ep (.rw k g _) n i off=>match gc hp k with
  | .rw g' n' l=>(g=g'∧n=n'∧off+cs.length≤n∧EU cs=true)∧∃e,l[i]?=some e∧K ((k,.rw g' n' (l.set i (e.take off++cs++e.drop (off+cs.length))))::hp)
  | .rn g' n' l=>(g=g'∧n=n'∧off+cs.length≤n∧ones cs=true)∧∃e,l[i]?=some e∧K ((k,.rn g' n' (l.set i (e.take off++cs++e.drop (off+cs.length))))::hp)
  | _=>False
 | _=>False
def Dw (b:ByteArray):List (List AV):=b.data.toList.map fun x=>[AV.i .u8 x.toNat]
def muK (hp:CH) (x s y:AV) (K:CH→Prop):Prop :=
 match x,s with
 | .mp k,.s b=>match gc hp k with
  | .mp l=>y.purR=true∧K ((k,.mp (Dg b y l))::hp)
  | _=>False
 | _,_=>False
def mgK (hp:CH) (x:AV) (K:AV→CH→Prop):Prop :=
 match x with
 | .mp k=>match gc hp k with
  | .mp l=>K (.mi k) ((k,.mr l [])::hp)
  | _=>False
 | _=>False
def mxK (hp:CH) (x:AV) (K:AV→CH→Prop):Prop :=
 match x with
 | .mi k=>match gc hp k with
  | .mr l sn=>((∀p∈l,p.1∈sn)→K (.tp [.b false]) hp)∧∀(j:Nat) b α,l[j]?=some (b,α)→b ∉ sn→K (.tp [.b true,.s b,α]) ((k,.mr l (sn++[b]))::hp)
  | _=>False
 | _=>False
def meK (hp:CH) (x:AV) (K:AV→Prop):Prop :=
 match x with
 | .mi k=>match gc hp k with
  | .mr l sn=>∃b,sn.getLast?=some b∧∃α,By b l=some α∧K (.tp [.s b,α])
  | _=>False
 | _=>False
def mdK (hp:CH) (x s:AV) (K:CH→Prop):Prop :=
 match x,s with
 | .mp k,.s b=>match gc hp k with
  | .mp l=>K ((k,.mp (C3 b l))::hp)
  | .mr l sn=>K ((k,.mr (C3 b l) sn)::hp)
  | _=>False
 | _,_=>False
def clK (hp:CH) (x:AV) (n:Nat) (z:List AV) (K:CH→Prop):Prop :=
 match x with
 | .rw k g len=>match gc hp k with
  | .rw g' m l=>(g=g'∧m=n∧len=l.length)∧K ((k,.rw g m (List.replicate len z))::hp)
  | _=>False
 | .rf k g n' off len=>match gc hp k with
  | .rw g' m l=>(g=g'∧m=n∧n'=n∧off+len=l.length)∧K ((k,.rw g m (l.take off++List.replicate len z))::hp)
  | _=>False
 | _=>False
def nlZ (hp:CH) (k g len:Nat):Prop :=
 match gc hp k with
 | .rw g' _ _=>g=g'→len=0
 | .sh g' _ _=>g=g'→len=0
 | _=>True
def nlK (hp:CH) (α:AV) (neg:Bool) (K:Bool→Prop):Prop :=
 match α with
 | .ds l=>(l=[]→K (!neg))∧K neg
 | .rw k g len=>(nlZ hp k g len→K (!neg))∧K neg
 | .e0=>K (!neg)∧K neg
 | _=>False
def DP (m:Nat) (l:List (List AV)):Prop:=∀e∈l,e.length=m∧EU e=true
def H3 (n:Nat):List AV→Option (List (List AV))
 | []=>some []
 | α::r=>match α.cl,H3 n r with
  | some cs,some l=>if cs.length=n∧ones cs=true then some (cs::l) else none
  | _,_=>none
def nst (hp:CH):AV→Option (List (List AV))
 | .rw k g len=>match gc hp k with
  | .rn g' _ l=>if g=g'∧len≤l.length then some (l.take len) else none
  | _=>none
 | _=>none
def Tp (fz:Bool) (hp:CH) (α:AV):Option (List (List AV)) :=
 match fz with
 | true=>nst hp α
 | false=>none
def CT (P:Program) (k0:Nat) (o:CO) (st:St) (K:St→Prop):Prop :=
 o.op.obsB st.env true∧match o.op with
 | .al z=>K ⟨EN.set st.env o.dst (.bx k0 0),(k0,.bx z)::st.hp,max st.n (k0+1)⟩
 | .alb T e=>K ⟨EN.set st.env o.dst (.bx k0 0),(k0,.sb T e 0 ⟨#[]⟩)::st.hp,max st.n (k0+1)⟩
 | .mk=>K ⟨EN.set st.env o.dst (.mp k0),(k0,.mp [])::st.hp,max st.n (k0+1)⟩
 | .mu x s y=>muK st.hp (AR (x.ev st.env)) (AR (s.ev st.env)) (AR (y.ev st.env)) fun Ao=>K ⟨EN.set st.env o.dst .un,Ao,st.n⟩
 | .mpg x=>mgK st.hp (AR (x.ev st.env)) fun α Ao=>K ⟨EN.set st.env o.dst α,Ao,st.n⟩
 | .mpn x=>mxK st.hp (AR (x.ev st.env)) fun α Ao=>K ⟨EN.set st.env o.dst α,Ao,st.n⟩
 | .mpe x=>meK st.hp (AR (x.ev st.env)) fun α=>K ⟨EN.set st.env o.dst α,st.hp,st.n⟩
 | .mpd x s=>mdK st.hp (AR (x.ev st.env)) (AR (s.ev st.env)) fun Ao=>K ⟨EN.set st.env o.dst .un,Ao,st.n⟩
 | .clr x n z=>clK st.hp (AR (x.ev st.env)) n z fun Ao=>K ⟨EN.set st.env o.dst .un,Ao,st.n⟩
 | .bo x=>match (AR (x.ev st.env)).cl with
  | some cs=>K ⟨EN.set st.env o.dst (.bx k0 0),(k0,.bx cs)::st.hp,max st.n (k0+1)⟩
  | none=>False
 | .st x y m=>match (AR (y.ev st.env)).cl with
  | some cs=>cs.length=m∧ones cs=true∧XS st.hp (AR (x.ev st.env)) cs fun Ao=>K ⟨EN.set st.env o.dst .un,Ao,st.n⟩
  | none=>False
 | .bs fz n ps=>match o.fz with
  | true=>match H3 n (ps.map fun s=>AR (s.ev st.env)) with
   | some l=>K ⟨EN.set st.env o.dst (.rw k0 0 l.length),(k0,.rn 0 n l)::st.hp,max st.n (k0+1)⟩
   | none=>False
  | false=>match Cp (shutP st.hp (ps.map fun s=>AR (s.ev st.env))) n (ps.map fun s=>AR (s.ev st.env)) with
   | some l=>if fz then K ⟨EN.set st.env o.dst (.ds l),shutP st.hp (ps.map fun s=>AR (s.ev st.env)),st.n⟩
    else K ⟨EN.set st.env o.dst (.rw k0 0 l.length),(k0,.rw 0 n l)::shutP st.hp (ps.map fun s=>AR (s.ev st.env)),max st.n (k0+1)⟩
   | none=>False
 | .ap x y n bytes=>match Tp o.fz st.hp (AR (y.ev st.env)) with
  | some l2=>(∀e∈l2,e.length=n∧ones e=true)∧(Cf (AR (x.ev st.env))+l2.length)*bytes≤140737488355328∧Cf (AR (x.ev st.env))+l2.length≤9223372036854775807 ∧
   match M8 true st.hp st.n k0 n (AR (x.ev st.env)) l2 with
   | some (α,kc,nx)=>K ⟨EN.set st.env o.dst α,kc::st.hp,nx⟩
   | none=>False
  | none=>match sl st.hp (AR (y.ev st.env)) with
   | some l2=>(∀e∈l2,e.length=n∧EU e=true)∧(Cf (AR (x.ev st.env))+l2.length)*bytes≤140737488355328∧Cf (AR (x.ev st.env))+l2.length≤9223372036854775807 ∧
    match GB st.hp st.n k0 n (AR (x.ev st.env)) l2 with
    | some (α,kc,nx)=>K ⟨EN.set st.env o.dst α,kc::st.hp,nx⟩
    | none=>False
   | none=>False
 | .aps x y=>match AR (y.ev st.env) with
  | .s b=>Cf (AR (x.ev st.env))+b.size≤140737488355328∧match GB st.hp st.n k0 1 (AR (x.ev st.env)) (Dw b) with
   | some (α,kc,nx)=>K ⟨EN.set st.env o.dst α,kc::st.hp,nx⟩
   | none=>False
  | _=>False
 | .ms l c n bytes z=>match AR (l.ev st.env),AR (c.ev st.env) with
  | .i _ x,.i _ y=>0≤x∧x≤y∧y*bytes≤140737488355328∧y≤9223372036854775807∧z.length=n∧EU z=true ∧
   K ⟨EN.set st.env o.dst (.rw k0 0 x.toNat),(k0,.rw 0 n (List.replicate x.toNat z))::st.hp,max st.n (k0+1)⟩
  | _,_=>False
 | .cl f xs=>Af P f st.hp st.n (xs.map fun s=>AR (s.ev st.env)) fun Ao n' r=>K ⟨EN.set st.env o.dst r,Ao,n'⟩
 | .cc f xs=>match AR (f.ev st.env) with
  | .fn g caps=>Af P g st.hp st.n (xs.map (fun s=>AR (s.ev st.env))++caps) fun Ao n' r=>K ⟨EN.set st.env o.dst r,Ao,n'⟩
  | _=>False
 | .nl neg x=>nlK st.hp (AR (x.ev st.env)) neg fun b=>K ⟨EN.set st.env o.dst (.b b),st.hp,st.n⟩
 | op=>Hr st.hp (fun s=>AR (s.ev st.env)) op fun α=>K ⟨EN.set st.env o.dst α,st.hp,st.n⟩
def Kc (o:As) (env:EN):Bool :=
 match o with
 | .ld x _ _=>match AR (x.ev env) with
  | .ep _ _ _ _=>false
  | _=>true
 | o=>o.isV
def GD (x:Bool) (A B:Prop):Prop:=(x=true→A)∧(x=false→B)
def AA (P:Program) (f:FuncId) (hp:CH) (n:Nat) (args:List AV) (G:Bool) (K:CH→Nat→AV→Prop):Prop :=
 (∃r,(G=true→Ah P f hp n args r)∧K hp n (.gd G r))∨GD G (Af P f hp n args K) (K hp n (.gd false .un))
def Pz (P:Program) (o:CO) (st:St) (G:Bool) (K:St→Prop):Prop :=
 if Kc o.op st.env then
  o.op.obsB st.env G∧imp G (o.op.pre st.hp fun s=>AR (s.ev st.env))∧imp G ((o.op.val st.hp fun s=>AR (s.ev st.env)).isSome=true) ∧
   K ⟨EN.set st.env o.dst (.gd G ((o.op.val st.hp fun s=>AR (s.ev st.env)).getD .un)),st.hp,st.n⟩
 else match o.op with
  | .cl f xs=>EV st.env G xs∧AA P f st.hp st.n (xs.map fun s=>AR (s.ev st.env)) G fun Ao n' r=>K ⟨EN.set st.env o.dst r,Ao,n'⟩
  | _=>GD G (CT P st.n o st K) (K ⟨EN.set st.env o.dst (.gd false .un),st.hp,st.n⟩)
def Ig (P:Program) (o:CO) (st:St) (K:St→Prop):Prop :=
 match o.g with
 | none=>CT P st.n o st K
 | some (t,want)=>match ge st.env t with
  | .b x=>Pz P o st (x == want) K
  | .gd c (.b x)=>Pz P o st (c&&(x == want)) K
  | .gd false .un=>Pz P o st false K
  | _=>False
def W3 (k g:Nat) (l l':List (List AV)):AV→AV
 | .rw k' g' len=>if k'=k then (if g'=g∧len≤l.length then .ds (l.take len) else if g'=g+1∧len=l'.length then .ds l' else .rw k' g' len) else .rw k' g' len
 | α=>α
def frz (k g:Nat) (l l':List (List AV)) (env:EN):EN:=env.map fun p=>(p.1,W3 k g l l' p.2)
def pum:List Nat→Bool
 | []=>false
 | a::_=>a == 77777
def Sl (P:Program) (o:CO) (st:St) (K:St→Prop):Prop :=
  match o.op,o.g with
  | .ap x y n bytes, none => match nst st.hp (AR (y.ev st.env)) with
    | some _ => CT P st.n o st K
    | none => (As.ap x y n bytes).obsB st.env true ∧ match sl st.hp (AR (y.ev st.env)) with
      | some l2 => (∀ e ∈ l2, e.length = n ∧ EU e = true) ∧ (Cf (AR (x.ev st.env)) + l2.length) * bytes ≤ 140737488355328 ∧ Cf (AR (x.ev st.env)) + l2.length ≤ 9223372036854775807 ∧ match AR (x.ev st.env) with
        | .rw k g len => match gc st.hp k with
          | .rw g' n' l => match pum o.dp with
            | false => (g = g' ∧ n = n' ∧ len = l.length) ∧ K ⟨frz k g l (l ++ l2) (EN.set st.env o.dst (.rw k (g + 1) (len + l2.length))), (k, .sh (g + 1) n (l ++ l2)) :: (k, .rw (g + 1) n (l ++ l2)) :: st.hp, st.n⟩
            | true => (g = g' ∧ n = n' ∧ len ≤ l.length ∧ sl ((k, .rw g n (l.take len)) :: st.hp) (AR (y.ev st.env)) = some l2) ∧ K ⟨EN.set st.env o.dst (.rw k g (len + l2.length)), (k, .rw g n (l.take len ++ l2)) :: st.hp, st.n⟩ ∧
                K ⟨EN.set st.env o.dst (.rw st.n 0 (len+l2.length)),(st.n,.rw 0 n (l.take len++l2))::(k,.rw g n (l.take len))::st.hp,st.n+1⟩
          | _=>False
        | .e0 => pum o.dp = true ∧ K ⟨EN.set st.env o.dst (.rw st.n 0 l2.length), (st.n, .rw 0 n l2) :: st.hp, max st.n (st.n + 1)⟩
        | _=>False
      | none=>False
  | .bs _ _ _, none => CT P st.n o st K
  | _,_=>False
def TL (P:Program) (o:CO) (st:St) (K:St→Prop):Prop :=
 match o.fz with
 | false=>Ig P o st K
 | true=>Sl P o st K
def AW (P:Program):List CO→St→(St→Prop)→Prop
 | [],st,K=>K st
 | o::r,st,K=>TL P o st fun st'=>AW P r ⟨EN.drop o.dp st'.env,st'.hp,st'.n⟩ K
/-! ### Regions that draw an order -/
def AV.ids:AV→List Nat
 | .bx k _=>[k]
 | .rw k _ _=>[k]
 | .rf k _ _ _ _=>[k]
 | .mp k=>[k]
 | .mi k=>[k]
 | .ep α _ _ _=>α.ids
 | _=>[]
def As.srcs:As→List AX
 | .pk c a b=>[c,a,b]
 | .mv x | .ld x _ _ | .un _ x | .ci _ x | .cs x | .cb x | .mi _ x | .fa x _ | .fl x _ _ _ | .ta x _ _ | .ex x _ | .ln _ x | .bo x | .s0 x | .nc x | .nl _ x=>[x]
 | .bd _ ps=>ps.map (·.2.2)
 | .bin _ _ x y | .ia x y _ | .eqs _ _ x y | .ix x y | .ai x y _ _ _ | .pa x y _ _ | .mm _ x y | .lk x y _ _ | .st x y _ | .ap x y _ _ | .aps x y | .ms x y _ _ _=>[x,y]
 | .mf _ xs | .bs _ _ xs | .cl _ xs=>xs
 | .sc x lo hi _ | .ss x lo hi=>x::(lo.toList++hi.toList)
 | .al _ | .alb _ _ | .mk=>[]
 | .mu x s y=>[x,s,y]
 | .mpg x | .mpn x | .mpe x=>[x]
 | .mpd x s=>[x,s]
 | .clr x _ _=>[x]
 | .cc x xs=>x::xs
def AX.slot:AX→List Nat
 | .t n=>[n]
 | .c _=>[]
def As.rd (f:AX→AV):As→List Nat
 | .ld x _ _=>(f x).ids
 | .cb x=>(f x).ids
 | .ln _ x=>(f x).ids
 | .sc x _ _ _=>(f x).ids
 | .ia x _ _=>(f x).ids
 | .lk x _ _ _=>(f x).ids
 | _=>[]
def As.eff (hp:CH) (f:AX→AV) (id:Nat):As→Option (AV × CH × List Nat)
 | .al z=>some (.bx id 0,[(id,.bx z)],[])
 | .alb T e=>some (.bx id 0,[(id,.sb T e 0 ⟨#[]⟩)],[])
 | .mk=>some (.mp id,[(id,.mp [])],[])
 | .mu x s y=>match f x,f s with
  | .mp k,.s b=>match gc hp k with
   | .mp l=>some (.un,[(k,.mp (Dg b (f y) l))],[k])
   | _=>none
  | _,_=>none
 | .bo x=>match (f x).cl with
  | some c0=>some (.bx id 0,[(id,.bx c0)],[])
  | none=>none
 | .st x y m=>match (f y).cl,f x with
  | some c0,.bx k off=>match gc hp k with
   | .bx old=>some (.un,[(k,.bx (old.take off++c0++old.drop (off+c0.length)))],[k])
   | _=>none
  | some c0,.ep (.rw k g _) n i off=>match gc hp k with
   | .rw g' n' l=>match l[i]? with
    | some e=>some (.un,[(k,.rw g' n' (l.set i (e.take off++c0++e.drop (off+c0.length))))],[k])
    | none=>none
   | .rn g' n' l=>match l[i]? with
    | some e=>some (.un,[(k,.rn g' n' (l.set i (e.take off++c0++e.drop (off+c0.length))))],[k])
    | none=>none
   | _=>none
  | _,_=>none
 | .bs fz n ps=>match Cp [] n (ps.map f) with
  | some l=>if fz then some (.ds l,[],[]) else some (.rw id 0 l.length,[(id,.rw 0 n l)],[])
  | none=>none
 | .ap x y n bytes=>match sl hp (f y) with
  | some l2=>match GB hp 0 id n (f x) l2 with
   | some (α,kc,_)=>some (α,[kc],(f x).ids++(f y).ids)
   | none=>none
  | none=>none
 | .aps x y=>match f y with
  | .s b=>match GB hp 0 id 1 (f x) (Dw b) with
   | some (α,kc,_)=>some (α,[kc],(f x).ids)
   | none=>none
  | _=>none
 | .ms l c n bytes z=>match f l with
  | .i _ x=>some (.rw id 0 x.toNat,[(id,.rw 0 n (List.replicate x.toNat z))],[])
  | _=>none
 | op=>match op.val hp f with
  | some α=>some (α,[],op.rd f)
  | none=>none
def Nm:AV→Bool
 | .ag l=>l.all AV.pur
 | α=>α.pur
def As.effP (hp:CH) (f:AX→AV):As→Prop
 | .al _=>True
 | .alb _ _=>True
 | .mk=>True
 | .mu _ _ y=>(f y).purR=true
 | .bo _=>True
 | .st x y m=>match (f y).cl,f x with
  | some c0,.bx k off=>c0.length=m∧ones c0=true∧match gc hp k with
   | .bx old=>off+c0.length≤old.length
   | _=>False
  | some c0,.ep (.rw k g _) n i off=>c0.length=m∧ones c0=true∧match gc hp k with
   | .rw g' n' _=>g=g'∧n=n'∧off+c0.length≤n∧EU c0=true
   | .rn g' n' _=>g=g'∧n=n'∧off+c0.length≤n∧ones c0=true
   | _=>False
  | _,_=>False
 | .bs fz n ps=>(ps.map f).all Nm=true
 | .ap x y n bytes=>match sl hp (f y) with
  | some l2=>DP n l2∧(Cf (f x)+l2.length)*bytes≤140737488355328∧Cf (f x)+l2.length≤9223372036854775807
  | none=>False
 | .aps x y=>match f y with
  | .s b=>Cf (f x)+b.size≤140737488355328
  | _=>False
 | .ms l c n bytes z=>match f l,f c with
  | .i _ x,.i _ y=>0≤x∧x≤y∧y*bytes≤140737488355328∧y≤9223372036854775807∧z.length=n∧EU z=true
  | _,_=>False
 | op=>op.pre hp f
structure DO where
 o:CO
 un:List Nat
 lg:Bool
 bf:List Nat
structure LE where
 j:Nat
 R:List Nat
 W:List Nat
 c:Bool
def keys (u:CH):List Nat:=u.map (·.1)
def QB (a b:List Nat):Prop:=∀x∈a,∀y∈b,x≠y
def cf (n0 i:Nat) (R W:List Nat) (c:Bool) (e:LE):Prop :=
 QB e.W R∧QB e.W W∧QB W e.R∧(c=true→∀x∈e.W,x=n0+e.j)∧(e.c=true→∀x∈W,x=n0+i)
def X7 (n0 i:Nat) (un:List Nat) (R W:List Nat) (c:Bool):List LE→Prop
 | []=>True
 | e::r=>imp (un.contains e.j) (cf n0 i R W c e)∧X7 n0 i un R W c r
def AG (P:Program) (f:FuncId) (n0:Nat) (bf:List Nat) (hp:CH) (n:Nat) (args:List AV) (G:Bool) (K:AV→Prop):Prop :=
 ∃r,(G=true→∀Ao,(∀k,(k<n0∨∃j∈bf,k=n0+j)→gc Ao k=gc hp k)→Ah P f Ao n args r)∧K r
def aOk (ks:List Nat):AV→Prop
 | .rw k _ _=>k∈ks
 | .rf k _ _ _ _=>k∈ks
 | .mp k=>k∈ks
 | α=>α.pur=true
def VN (ks:List Nat):List AV→Prop
 | []=>True
 | α::r=>aOk ks α∧VN ks r
def cOk (ks:List Nat):Ap→Prop
 | .bx cs=>VN ks cs
 | .rn _ _ _=>False
 | _=>True
def nOk:Ap→Prop
 | .no=>False
 | _=>True
def Ka (hp:CH) (n0:Nat) (ks:List Nat):CH→Prop
 | []=>True
 | (k,c)::r=>k<n0∧nOk (gc hp k)∧cOk ks c∧Ka hp n0 ks r
def Aea (ks:List Nat) (r:AV):Prop:=r.purR=true∨aOk ks r
def A3 (P:Program) (f:FuncId) (n0:Nat) (bf:List Nat) (hp:CH) (n:Nat) (args:List AV) (id:Nat) (K:AV→CH→Prop):Prop :=
 (∃r,(∀Ao,(∀k,(k<n0∨∃j∈bf,k=n0+j)→gc Ao k=gc hp k)→Ah P f Ao n args r)∧K r []) ∨
 (∃m l,(∀Ao,(∀k,(k<n0∨∃j∈bf,k=n0+j)→gc Ao k=gc hp k)→AI P f Ao n args fun D6 n2 r2=>D6=(n,.rw 0 m l)::Ao∧n2=n+1∧r2=.rw n 0 l.length)∧K (.rw id 0 l.length) [(id,.rw 0 m l)]) ∨
 ∃r ws,Ka hp n0 (keys ws) ws∧Aea (keys ws) r∧(∀Ao,(∀k,(k<n0∨∃j∈bf,k=n0+j)→gc Ao k=gc hp k)→AI P f Ao n args fun D6 n2 r2=>D6=ws++Ao∧n2=n∧r2=r)∧K r ws
def Ek (P:Program) (n0 N1 i:Nat) (o:DO) (env:EN) (hp:CH) (K:AV→CH→List Nat→Bool→Prop):Prop :=
 match o.o.op with
 | .cl f xs=>A3 P f n0 o.bf hp N1 (xs.map fun s=>AR (s.ev env)) (n0+i) fun r ws=>K r ws [] true
 | .cc f xs=>match AR (f.ev env) with
  | .fn g caps=>AG P g n0 o.bf hp N1 (xs.map (fun s=>AR (s.ev env))++caps) true fun r=>K r [] [] true
  | _=>False
 | op=>op.effP hp (fun s=>AR (s.ev env))∧match op.eff hp (fun s=>AR (s.ev env)) (n0+i) with
  | some (α,ws,R)=>K α ws R false
  | none=>False
def dG (P:Program) (n0 N1 i:Nat) (o:DO) (env:EN) (hp:CH) (G:Bool) (K:AV→CH→List Nat→Bool→Prop):Prop :=
 o.o.op.obsB env G∧match o.o.op with
 | .cl f xs=>AG P f n0 o.bf hp N1 (xs.map fun s=>AR (s.ev env)) G fun r=>K (.gd G r) [] [] true
 | .cc f xs=>match AR (f.ev env) with
  | .fn g caps=>AG P g n0 o.bf hp N1 (xs.map (fun s=>AR (s.ev env))++caps) G fun r=>K (.gd G r) [] [] true
  | _=>False
 | op=>if op.isV then imp G (op.pre hp fun s=>AR (s.ev env))∧imp G ((op.val hp fun s=>AR (s.ev env)).isSome=true)∧K (.gd G ((op.val hp fun s=>AR (s.ev env)).getD .un)) [] (op.rd fun s=>AR (s.ev env)) false
  else (G=true∧Ek P n0 N1 i o env hp K)∨(G=false∧K (.gd false .un) [] [] false)
def Ki (P:Program) (n0 N1 i:Nat) (o:DO) (env:EN) (hp:CH) (K:AV→CH→List Nat→Bool→Prop):Prop :=
 match o.o.g with
 | none=>o.o.op.obsB env true∧Ek P n0 N1 i o env hp K
 | some (t,want)=>match ge env t with
  | .b x=>dG P n0 N1 i o env hp (x == want) K
  | .gd c (.b x)=>dG P n0 N1 i o env hp (c&&(x == want)) K
  | .gd false .un=>dG P n0 N1 i o env hp false K
  | _=>False
def HY (P:Program) (n0 N1 i:Nat) (o:DO) (env:EN) (hp:CH) (K:AV→CH→List Nat→Bool→Prop):Prop :=
 match o.o.op.isV with
 | true=>Hr hp (fun s=>AR (s.ev env)) o.o.op fun α=>K α [] (o.o.op.rd fun s=>AR (s.ev env)) false
 | false=>Ek P n0 N1 i o env hp K
def CJ (P:Program) (n0 N1 i:Nat) (o:DO) (env:EN) (hp:CH) (K:AV→CH→List Nat→Bool→Prop):Prop :=
 match o.o.g with
 | none=>o.o.op.obsB env true∧HY P n0 N1 i o env hp K
 | some _=>Ki P n0 N1 i o env hp K
def Kb (P:Program) (n0 N1:Nat):Nat→List DO→EN→CH→List LE→(EN→CH→Prop)→Prop
 | _,[],env,hp,_,K=>K env hp
 | i,o::r,env,hp,lg,K=>CJ P n0 N1 i o env hp fun α ws R c=>X7 n0 i o.un R (keys ws) c lg ∧
   Kb P n0 N1 (i+1) r (EN.set env o.o.dst α) (ws++hp) (match o.lg with | true=>⟨i,R,keys ws,c⟩::lg | false=>lg) K
def vcD (P:Program) (n0 N1:Nat):Nat→List DO→EN→CH→List LE→(EN→CH→Prop)→Prop
 | _,[],env,hp,_,K=>K env hp
 | i,o::r,env,hp,lg,K=>Ki P n0 N1 i o env hp fun α ws R c=>X7 n0 i o.un R (keys ws) c lg ∧
   vcD P n0 N1 (i+1) r (EN.set env o.o.dst α) (ws++hp) (if o.lg then ⟨i,R,keys ws,c⟩::lg else lg) K
inductive CC where
 | skip
 | rg (l:List CO)
 | dr (l:List DO) (dp:List Nat)
 | sq (a b:CC)
 | sqw (a b:CC)
 | cd (c:AX) (a b:CC)
 | bl (id:Nat) (c:CC)
 | lp (c:CC)
 | ex (id:Nat)
 | rt
def CC.erase:CC→CC
 | .skip=>.skip
 | .rg l=>.rg (l.map CO.er)
 | .dr l _=>.dr l []
 | .sq a b=>.sq a.erase b.erase
 | .sqw a b=>.sq a.erase b.erase
 | .cd c a b=>.cd c a.erase b.erase
 | .bl id c=>.bl id c.erase
 | .lp c=>.lp c.erase
 | .ex id=>.ex id
 | .rt=>.rt
def Ej (s s':St):Prop:=∀C a w,S C s a w→S C s' a w
def T5 (s:St) (I:St→Prop):Prop:=∀C a w,S C s a w→∃s',I s'∧S C s' a w
theorem Ej.s {s s':St} (h:Ej s s'):T5 s (·=s'):=fun C a w x=>⟨s',rfl,h C a w x⟩
def XU (hd s s':St):Prop:=∀C a w,SatH C.h0 C.ρ0 hd.hp hd.n C.w0→S C s a w→S C s' a w
theorem Ej.g {hd s s':St} (h:Ej s s'):XU hd s s':=fun C a w _=>h C a w
def L5 (F:St→(Exit→St→Prop)→Prop) (st:St) (Q:Exit→St→Prop):Prop :=
 ∃I:Nat→St→Prop,(∃m s,I m s∧Ej st s)∧∀m s,I m s→F s fun e s'=>match e with
  | .normal=>∃m' s'',m' < m∧I m' s''∧XU s s' s''
  | e=>Q e s'
def vc (P:Program):CC→St→(Exit→St→Prop)→Prop
 | .skip,st,Q=>Q .normal st
 | .rg l,st,Q=>AW P l st (Q .normal)
 | .dr l dp,st,Q=>Kb P st.n (st.n+l.length) 0 l st.env st.hp [] fun env hp=>Q .normal ⟨EN.drop dp env,hp,st.n+l.length⟩
 | .sq a b,st,Q=>vc P a st fun e s=>match e with
  | .normal=>vc P b s Q
  | e=>Q e s
 | .sqw a b,st,Q=>vc P a st fun e s=>match e with
  | .normal=>∃I:St→Prop,T5 s I∧∀s',I s'→vc P b s' Q
  | e=>Q e s
 | .cd c a b,st,Q=>Em true (c.ev st.env)∧match AR (c.ev st.env) with
  | .b x=>GD x (vc P a st Q) (vc P b st Q)
  | _=>False
 | .bl id c,st,Q=>vc P c st fun e s=>match e with
  | .exit i=>if i=id then Q .normal s else Q (.exit i) s
  | e=>Q e s
 | .lp c,st,Q=>L5 (vc P c) st Q
 | .ex id,st,Q=>Q (.exit id) st
 | .rt,st,Q=>Q .ret st
/-! ### From the model's code to the compact one -/
def D7 (N:Nat) (ops:List Oper):Option (Nat × Bool)→Option (Option (Nat × Bool))
 | none=>some none
 | some (j,want)=>match (ops[j]?).bind (·.dst) with
  | some t=>if t<N then some (some (t,want)) else none
  | none=>none
def JW (P:Program) (N:Nat) (ops:List Oper):List Oper→Option (List CO)
 | []=>some []
 | o::r=>match MD P N ops o,D7 N ops o.guard,JW P N ops r with
  | some c,some g,some l=>some (⟨o.dst,c,g,[],false⟩::l)
  | _,_,_=>none
def Wb (ops:List Oper):List (List Nat) :=
 ops.foldl (fun acc o=>acc++[(o.after.toList.flatMap fun e=>if Region.binds .any e then e.on::acc.getD e.on [] else []).eraseDups]) []
def As.mw:As→Bool
 | .al _ | .alb _ _ | .bo _ | .st _ _ _ | .bs _ _ _ | .ap _ _ _ _ | .aps _ _ | .ms _ _ _ _ _ | .cl _ _ | .mk | .mu _ _ _ | .mpg _ | .mpn _ | .mpe _ | .mpd _ _ | .clr _ _ _=>true
 | _=>false
def As.mr:As→Bool
 | .lk _ _ _ _ | .mu _ _ _ | .ld _ _ _ | .cb _ | .ln _ _ | .sc _ _ _ _ | .ia _ _ _ | .st _ _ _ | .ap _ _ _ _ | .aps _ _ | .cl _ _ | .cc _ _ | .mpg _ | .mpn _ | .mpe _ | .mpd _ _ | .clr _ _ _=>true
 | _=>false
def PI (x y:As):Bool:=(x.mw&&(y.mw||y.mr))||(y.mw&&x.mr)
def CO.slots (o:CO):List Nat:=(o.op.srcs.flatMap AX.slot)++(match o.g with | some (t,_)=>[t] | none=>[])
def CO.dsts (o:CO):List Nat:=o.dst.toList
def CO.apart (x y:CO):Bool:=x.dsts.all (fun d=>!(y.slots++y.dsts).contains d)&&y.dsts.all (fun d=>!x.slots.contains d)
def R9 (bs:List (List Nat)) (cl:List CO):List DO :=
 cl.zipIdx.map fun (o,i) =>
  ⟨o,(List.range i).filter (fun j=>!(bs.getD i []).contains j&&match cl[j]? with | some x=>PI x.op o.op | none=>false),
   (List.range cl.length).any (fun k=>i<k&&!(bs.getD k []).contains i&&match cl[k]? with | some x=>PI o.op x.op | none=>false),if o.op.isC then (bs.getD i []).filter (fun j=>match cl[j]? with | some x=>x.op.mw | none=>false) else []⟩
def bOk (ops:List Oper) (bs:List (List Nat)):Bool :=
 (List.range ops.length).all fun i=>match ops[i]? with
  | some o=>o.after.all (fun e=>!Region.binds .any e||decide (e.on<i))&&(bs.getD i []).all fun j=>decide (j<i)&&o.after.any fun e=>Region.binds .any e&&(e.on == j||(bs.getD e.on []).contains j)
  | none=>false
def pOk (bs:List (List Nat)) (dl:List DO):Bool :=
 (List.range dl.length).all fun i=>match dl[i]? with
  | some y=>y.bf.all ((bs.getD i []).contains ·)&&(List.range i).all fun j=>match dl[j]? with
   | some x=>(bs.getD i []).contains j||(x.o.apart y.o&&(!PI x.o.op y.o.op||(y.un.contains j&&x.lg)))
   | none=>false
  | none=>false
def dCk (P:Program) (ops:List Oper) (bs:List (List Nat)) (cl:List CO) (dl:List DO):Bool :=
 P.follows .mixedOrders&&dl.length == ops.length&&bOk ops bs&&pOk bs dl
def Ob (P:Program) (N:Nat) (ops:List Oper):Option CC :=
 match JW P N ops ops with
 | some cl=>if dCk P ops (Wb ops) cl (R9 (Wb ops) cl) then some (.dr (R9 (Wb ops) cl) []) else none
 | none=>none
def BL (P:Program) (N:Nat):Code→Option CC
 | .skip=>some .skip
 | .region _ ops draw=>if draw then Ob P N ops.toList else (JW P N ops.toList ops.toList).map .rg
 | .seq a b=>match BL P N a,BL P N b with
  | some a,some b=>some (.sq a b)
  | _,_=>none
 | .cond c a b=>match Bl N c,BL P N a,BL P N b with
  | some c,some a,some b=>some (.cd c a b)
  | _,_,_=>none
 | .block id c=>(BL P N c).map (.bl id)
 | .loop c=>(BL P N c).map .lp
 | .exit id=>some (.ex id)
 | .ret=>some .rt
 | .label _=>some .skip
 | .scope c=>BL P N c
 | _=>none
end Go.Eng
