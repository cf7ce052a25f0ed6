/- Proof. Conditions: none. -/
import Derived.Test.YtinbodeocoeneaaGreatDoorIc6
namespace Go.Eng
set_option linter.all false
def Meets (P:Program) (f:FuncId) (hp:CH) (n:Nat) (args:List AV) (R:CH→Nat→AV→Prop):Prop :=
 (∃ fn, P.funcs[f]? = some fn ∧ (fn.name == "runtime.NumGoroutine") = false ∧ fn.body.isNone = false) ∧
 ∀h ρ w (vs:List Value),SatH h ρ hp n w→RelL h ρ args vs→Calls P f vs.toArray w fun e w'=>∃v,e=.returned v∧∃h' ρ' hp' n' r,R hp' n' r∧HLe h h'∧RLe ρ ρ' ∧
  SatH h' ρ' hp' n' w'∧Rel h' ρ' r v∧Keeps (live ρ hp) w w'∧∀b,live ρ' hp' b→live ρ hp b∨w.heap.size≤b
def MeetsF (P:Program) (f:FuncId) (hp:CH) (n:Nat) (args:List AV) (r:AV):Prop :=
 (∃ fn, P.funcs[f]? = some fn ∧ (fn.name == "runtime.NumGoroutine") = false ∧ fn.body.isNone = false) ∧
 ∀h ρ w (vs:List Value),SatH h ρ hp n w→RelL h ρ args vs→Calls P f vs.toArray w fun e w'=>∃v,e=.returned v∧∃h',HLe h h'∧SatH h' ρ hp n w'∧PRel h' r v∧Keeps (live ρ hp) w w'
def AV.purR:AV→Bool
 | .ag l=>l.all AV.pur
 | .tp l=>l.all fun α=>match α with
  | .ag l=>l.all AV.pur
  | α=>α.pur
 | α=>α.pur
theorem purA_rel {h:HP} {ρ:RO} {l:List AV} {v:Value} (r:Rel h ρ (.ag l) v) (o:l.all AV.pur=true):PRel h (.ag l) v:=by
 obtain ⟨vs,rfl,rs⟩:=r.agg
 exact .ag _ _ rs.1 fun j α v h1 h2=>AV.pur_rel (rs.2 j α v h1 h2) (List.all_eq_true.1 o _ (List.mem_of_getElem? h1))
theorem AV.purR_rel {h:HP} {ρ:RO} {α:AV} {v:Value} (r:Rel h ρ α v) (o:α.purR=true):PRel h α v:=by
 unfold AV.purR at o
 split at o
 .exact purA_rel r o
 .obtain ⟨vs,rfl,rs⟩:=r.tup
  refine .tp _ _ rs.1 fun j α v h1 h2=>?_
  have:=List.all_eq_true.1 o _ (List.mem_of_getElem? h1)
  have r1:=rs.2 j α v h1 h2
  split at this
  .exact purA_rel r1 this
  .exact AV.pur_rel r1 this
 .exact AV.pur_rel r o
theorem Chunk.back {h h':HP} {ρ ρ':RO} {w w':World} {k:Nat} {c:Chunk} (hr:RLe ρ ρ') (s0:c.sat h ρ w k) (s:c.sat h' ρ' w' k):c.sat h' ρ w' k:=by
 cases c with
 | no=>trivial
 | bx cs =>
  obtain ⟨b,c,vs,e,h1,h2,h3,h4⟩:=s0
  obtain ⟨b',c',vs',e',h1',h2',h3',h4'⟩:=s
  rw [hr _ _ _ h1] at h1'
  cases h1'
  refine ⟨b,c,vs',e',h1,h2',h3',fun j α v a1 a2=>?_⟩
  have hj:j<vs.size:=by have:=(List.getElem?_eq_some_iff.1 a1).1;omega
  exact Rel.back hr (h4 j α vs[j] a1 (by simp [hj])) (h4' j α v a1 a2)
 | rw g n l =>
  obtain ⟨ob,cap,h1,_⟩:=s0
  obtain ⟨ob',cap',h1',hx⟩:=s
  rw [hr _ _ _ h1] at h1'
  cases h1'
  exact ⟨ob,cap,h1,hx⟩
 | sh g n l =>
  obtain ⟨ob,cap,h1,_⟩:=s0
  obtain ⟨ob',cap',h1',hx⟩:=s
  rw [hr _ _ _ h1] at h1'
  cases h1'
  exact ⟨ob,cap,h1,hx⟩
 | mp l =>
  obtain ⟨b,c,es,cl,h1,_⟩:=s0
  obtain ⟨b',c',es',cl',h1',hx⟩:=s
  rw [hr _ _ _ h1] at h1'
  cases h1'
  exact ⟨b,c,es',cl',h1,hx⟩
 | ro cs =>
  obtain ⟨b,c,vs,e,fr,h1,_⟩:=s0
  obtain ⟨b',c',vs',e',fr',h1',hx⟩:=s
  rw [hr _ _ _ h1] at h1'
  cases h1'
  exact ⟨b,c,vs',e',fr',h1,hx⟩
 | rn g n l =>
  obtain ⟨ob,cap,h1,_,_,_,_,q⟩:=s0
  obtain ⟨ob',cap',h1',a1,a2,a3,a4,q'⟩:=s
  rw [hr _ _ _ h1] at h1'
  cases h1'
  refine ⟨ob,cap,h1,a1,a2,a3,a4,fun b hb=>?_⟩
  obtain ⟨vs,e,z1,z2,z3⟩:=q b hb
  obtain ⟨vs',e',y1,y2,y3⟩:=q' b hb
  refine ⟨vs',e',y1,y2,fun j x q α g1 g2=>?_⟩
  obtain ⟨u,u1,u2⟩:=z3 j x q α g1 g2
  obtain ⟨u',u1',u2'⟩:=y3 j x q α g1 g2
  exact ⟨u',u1',Rel.back hr u2 u2'⟩
 | sb T e g bs =>
  obtain ⟨b,c,p,v,h1,h2,h3,h4,h5,⟨y,hy⟩,h6⟩:=s0
  obtain ⟨b',c',p',v',h1',h2',h3',h4',h5',h7',h6'⟩:=s
  rw [hr _ _ _ h1] at h1'
  cases h1'
  refine ⟨b,c,p',v',h1,h2',h3',h4',h5',⟨y,hy⟩,fun b2 e2=>?_⟩
  obtain ⟨q1,c2,q2⟩:=h6' b2 e2
  rw [hr _ _ _ hy] at q2
  cases q2
  exact ⟨q1,c2,hy⟩
theorem SatH.back {h h':HP} {ρ ρ':RO} {hp:CH} {n n':Nat} {w w':World} (hr:RLe ρ ρ') (m0:SatH h ρ hp n w) (m:SatH h' ρ' hp n' w'):SatH h' ρ hp n w':=by
 have hl:∀b,live ρ hp b→live ρ' hp b:=fun b ⟨k,g,c,e,r⟩=>⟨k,g,c,e,hr _ _ _ r⟩
 exact ⟨m.hh,fun k=>Chunk.back hr (m0.ch k) (m.ch k),m0.inj,fun b hb=>m.hid b (hl b hb),fun b hb=>m.lt b (hl b hb),m0.fr,m0.gens,m.gl⟩
theorem Meets.fn {P:Program} {f:FuncId} {hp:CH} {n:Nat} {args:List AV} {r:AV} (m:Meets P f hp n args fun hp' _ r'=>hp'=hp∧r'=r) (hp0:r.purR=true):MeetsF P f hp n args r:=by
 refine ⟨m.1,fun h ρ w vs hs ha=>(m.2 h ρ w vs hs ha).mono fun e w' ⟨v,he,h',ρ',hp',n',r',⟨e1,e2⟩,hh,hr,hm,hrel,hk,hl⟩=>?_⟩
 subst e1
 subst e2
 exact ⟨v,he,h',hh,SatH.back hr hs hm,AV.purR_rel hrel hp0,hk⟩
theorem MeetsF.to {P:Program} {f:FuncId} {hp:CH} {n:Nat} {args:List AV} {r:AV} (m:MeetsF P f hp n args r):Meets P f hp n args fun hp' n' r'=>hp'=hp∧n'=n∧r'=r :=
 ⟨m.1,fun h ρ w vs hs ha=>(m.2 h ρ w vs hs ha).mono fun e w' ⟨v,he,h',hh,hm,hrel,hk⟩=>⟨v,he,h',ρ,hp,n,r,⟨rfl,rfl,rfl⟩,hh,RLe.refl _,hm,.pu _ _ hrel,hk,fun b hb=>.inl hb⟩⟩
def vcCall (P:Program) (f:FuncId) (hp:CH) (n:Nat) (args:List AV) (K:CH→Nat→AV→Prop):Prop :=
 ∃R,Meets P f hp n args R∧∀hp' n' r,R hp' n' r→K hp' n' r
theorem vcCall.f {P:Program} {f:FuncId} {hp:CH} {n:Nat} {args:List AV} {K:CH→Nat→AV→Prop} {r:AV} (m:MeetsF P f hp n args r) (k:K hp n r):vcCall P f hp n args K :=
 ⟨_,m.to,fun hp' n' r' ⟨e1,e2,e3⟩=>by subst e1;subst e2;subst e3;exact k⟩
theorem vcCall.r {P:Program} {f:FuncId} {hp:CH} {n:Nat} {args:List AV} {K:CH→Nat→AV→Prop} {R:CH→Nat→AV→Prop} (m:Meets P f hp n args R) (k:∀hp' n' r,R hp' n' r→K hp' n' r):vcCall P f hp n args K :=
 ⟨_,m,k⟩
def imp (b:Bool) (q:Prop):Prop:=b=true→q
def obB (p:Bool):AV→Prop
 | .gd c _=>imp p (c=true)
 | _=>True
def oblB (env:EN) (p:Bool):List Src→Prop
 | []=>True
 | s::r=>obB p (s.ev env)∧oblB env p r
def oboB (env:EN) (p:Bool):Option Src→Prop
 | none=>True
 | some s=>obB p (s.ev env)
def COp.obsB (env:EN) (p:Bool):COp→Prop
 | .pk c a b=>obB p (c.ev env)∧match fet (c.ev env) with
  | .b x=>obB (p&&x) (a.ev env)∧obB (p&&!x) (b.ev env)
  | _=>p=false
 | .mv x | .ld x _ _ | .un _ x | .ci _ x | .cs x | .cb x | .mi _ x | .fa x _ | .fl x _ _ _ | .ta x _ _ | .ex x _ | .ln _ x | .bo x | .s0 x | .nc x | .nl _ x=>obB p (x.ev env)
 | .bd _ ps=>oblB env p (ps.map (·.2.2))
 | .bin _ _ x y | .ia x y _ | .eqs _ _ x y | .ix x y | .ai x y _ _ _ | .mm _ x y | .lk x y _ _ | .st x y _ | .ap x y _ _ | .aps x y | .ms x y _ _ _=>obB p (x.ev env)∧obB p (y.ev env)
 | .mf _ xs | .bs _ _ xs | .cl _ xs=>oblB env p xs
 | .sc x lo hi _ | .ss x lo hi=>obB p (x.ev env)∧oboB env p lo∧oboB env p hi
 | .al _ | .alb _ _ | .mk=>True
 | .mu x s y=>obB p (x.ev env)∧obB p (s.ev env)∧obB p (y.ev env)
 | .cc x xs=>obB p (x.ev env)∧oblB env p xs
theorem obB_ob {b:Bool} {p:Prop} (hp:p→b=true) {α:AV} (h:obB b α):ob p α:=by
 cases α<;>first | trivial | exact fun x=>h (hp x)
theorem oblB_obl {env:EN} {b:Bool} {p:Prop} (hp:p→b=true):∀{l:List Src},oblB env b l→obl env p l
 | [],_=>trivial
 | s::r,h=>⟨obB_ob hp h.1,oblB_obl hp h.2⟩
theorem oboB_obo {env:EN} {b:Bool} {p:Prop} (hp:p→b=true):∀{l:Option Src},oboB env b l→obo env p l
 | none,_=>trivial
 | some s,h=>obB_ob hp h
theorem COp.obsB_obs {o:COp} {env:EN} {b:Bool} {p:Prop} (hp:p→b=true) (h:o.obsB env b):o.obs env p:=by
 cases o
 case pk c x y =>
  obtain ⟨h1,h2⟩:=h
  refine ⟨obB_ob hp h1,?_⟩
  split at h2
  .rename_i z hz
   rw [hz]
   exact ⟨obB_ob (fun q=>by rw [hp q.1,q.2];rfl) h2.1,obB_ob (fun q=>by rw [hp q.1,q.2];rfl) h2.2⟩
  .rename_i hz
   split
   .rename_i z hz2
    exact absurd hz2 (hz z)
   .intro q
    rw [hp q] at h2
    cases h2
 case bd z ps=>exact oblB_obl hp h
 case mf g xs=>exact oblB_obl hp h
 case bs f n xs=>exact oblB_obl hp h
 case cl f xs=>exact oblB_obl hp h
 case cc f xs=>exact ⟨obB_ob hp h.1,oblB_obl hp h.2⟩
 case sc x lo hi n=>exact ⟨obB_ob hp h.1,oboB_obo hp h.2.1,oboB_obo hp h.2.2⟩
 case ss x lo hi=>exact ⟨obB_ob hp h.1,oboB_obo hp h.2.1,oboB_obo hp h.2.2⟩
 case al z=>trivial
 case mk=>trivial
 case alb=>trivial
 case mu x s y=>exact ⟨obB_ob hp h.1,obB_ob hp h.2.1,obB_ob hp h.2.2⟩
 all_goals first
  | exact obB_ob hp h
  | exact ⟨obB_ob hp h.1,obB_ob hp h.2⟩
def getK (L:List (List AV)) (i:Nat) (K:List AV→Prop):Prop:=∃e,L[i]?=some e∧K e
def ldV (ag:Bool) (cs:List AV):AV:=match ag with
 | true=>.ag cs
 | false=>cs.getD 0 .un
def valK (hp:CH) (f:Src→AV) (op:COp) (K:AV→Prop):Prop :=
 match op with
 | .ld x m ag=>match f x with
  | .ep α n i off=>match sl hp α with
   | some l=>getK l i fun e=>(e.length=n∧off+m≤e.length)∧K (ldV ag ((e.drop off).take m))
   | none=>False
  | .bx k off=>match gc hp k with
   | .bx cs=>off+m≤cs.length∧K (ldV ag ((cs.drop off).take m))
   | .ro cs=>off+m≤cs.length∧K (ldV ag ((cs.drop off).take m))
   | _=>False
  | _=>False
 | op=>op.pre hp f∧match op.val hp f with
  | some α=>K α
  | none=>False
theorem valK_val {hp:CH} {f:Src→AV} {op:COp} {K:AV→Prop} (h:valK hp f op K):op.pre hp f∧match op.val hp f with
  | some α=>K α
  | none=>False:=by
 unfold valK at h
 split at h
 .rename_i x m ag
  refine ⟨trivial,?_⟩
  simp only [COp.val]
  split at h
  .rename_i α n i off hx
   rw [hx]
   split at h
   .rename_i l hl
    obtain ⟨e,he,hc,hk⟩:=h
    simp only [ldc,hl,he,if_pos hc,Option.map_some]
    cases ag<;>exact hk
   .exact h.elim
  .rename_i k off hx
   rw [hx]
   split at h
   .rename_i cs hk
    simp only [ldc,hk,if_pos h.1,Option.map_some]
    have:=h.2
    cases ag<;>exact this
   .rename_i cs hk
    simp only [ldc,hk,if_pos h.1,Option.map_some]
    have:=h.2
    cases ag<;>exact this
   .exact h.elim
  .exact h.elim
 .exact h
theorem val_valK {hp:CH} {f:Src→AV} {op:COp} {K:AV→Prop} {α:AV} (h1:op.pre hp f) (h2:op.val hp f=some α) (h3:K α):valK hp f op K:=by
 unfold valK
 split
 .rename_i x m ag
  simp only [COp.val] at h2
  have key:∃cs,ldc hp m (f x)=some cs∧ldV ag cs=α:=by
   cases hl:ldc hp m (f x) with
   | none=>rw [hl] at h2;cases h2
   | some cs =>
    rw [hl] at h2
    simp only [Option.map_some,Option.some.injEq] at h2
    exact ⟨cs,rfl,by cases ag<;>exact h2⟩
  obtain ⟨cs,hl,rfl⟩:=key
  clear h2 h1
  generalize f x=β at hl ⊢
  unfold ldc at hl
  split at hl
  .rename_i k off
   split at hl
   .rename_i cs' hk
    split at hl
    .rename_i hle
     cases hl
     simp only [hk]
     exact ⟨hle,h3⟩
    .cases hl
   .rename_i cs' hk
    split at hl
    .rename_i hle
     cases hl
     simp only [hk]
     exact ⟨hle,h3⟩
    .cases hl
   .cases hl
  .rename_i γ n i off
   split at hl
   .rename_i l hs
    split at hl
    .rename_i e he
     split at hl
     .rename_i hc
      cases hl
      simp only [hs]
      exact ⟨e,he,hc,h3⟩
     .cases hl
    .cases hl
   .cases hl
  .cases hl
 .rw [h2]
  exact ⟨h1,h3⟩
theorem valK_mono {hp:CH} {f:Src→AV} {op:COp} {K K':AV→Prop} (hk:∀α,K α→K' α) (h:valK hp f op K):valK hp f op K':=by
 obtain ⟨h1,h2⟩:=valK_val h
 split at h2
 .rename_i α he
  exact val_valK h1 he (hk _ h2)
 .exact h2.elim
structure CO where
 dst:Option Nat
 op:COp
 g:Option (Nat × Bool)
 dp:List Nat:=[]
 fz:Bool:=false
def CO.er (o:CO):CO:={ o with dp:=[],fz:=false }
def EN.drop (dp:List Nat) (env:EN):EN :=
 match dp with
 | []=>env
 | dp=>env.filter fun p=>!dp.contains p.1
def stK (hp:CH) (p:AV) (cs:List AV) (K:CH→Prop):Prop :=
 match p with
 | .bx k off=>match gc hp k with
  | .bx old=>off+cs.length≤old.length∧K ((k,.bx (old.take off++cs++old.drop (off+cs.length)))::hp)
  | _=>False
 | .ep (.rw k g _) n i off=>match gc hp k with
  | .rw g' n' l=>(g=g'∧n=n'∧off+cs.length≤n∧purs cs=true)∧∃e,l[i]?=some e∧K ((k,.rw g' n' (l.set i (e.take off++cs++e.drop (off+cs.length))))::hp)
  | .rn g' n' l=>(g=g'∧n=n'∧off+cs.length≤n∧ones cs=true)∧∃e,l[i]?=some e∧K ((k,.rn g' n' (l.set i (e.take off++cs++e.drop (off+cs.length))))::hp)
  | _=>False
 | _=>False
def byteEls (b:ByteArray):List (List AV):=b.data.toList.map fun x=>[AV.i .u8 x.toNat]
def muK (hp:CH) (x s y:AV) (K:CH→Prop):Prop :=
 match x,s with
 | .mp k,.s b=>match gc hp k with
  | .mp l=>y.purR=true∧K ((k,.mp (mput b y l))::hp)
  | _=>False
 | _,_=>False
def nlZ (hp:CH) (k g len:Nat):Prop :=
 match gc hp k with
 | .rw g' _ _=>g=g'→len=0
 | .sh g' _ _=>g=g'→len=0
 | _=>True
def nlK (hp:CH) (α:AV) (neg:Bool) (K:Bool→Prop):Prop :=
 match α with
 | .ds l=>(l=[]→K (!neg))∧K neg
 | .rw k g len=>(nlZ hp k g len→K (!neg))∧K neg
 | .e0=>K (!neg)∧K neg
 | _=>False
def elsOk (m:Nat) (l:List (List AV)):Prop:=∀e∈l,e.length=m∧purs e=true
def partsN (n:Nat):List AV→Option (List (List AV))
 | []=>some []
 | α::r=>match α.cl,partsN n r with
  | some cs,some l=>if cs.length=n∧ones cs=true then some (cs::l) else none
  | _,_=>none
def nst (hp:CH):AV→Option (List (List AV))
 | .rw k g len=>match gc hp k with
  | .rn g' _ l=>if g=g'∧len≤l.length then some (l.take len) else none
  | _=>none
 | _=>none
def nstF (fz:Bool) (hp:CH) (α:AV):Option (List (List AV)) :=
 match fz with
 | true=>nst hp α
 | false=>none
def vcRun (P:Program) (k0:Nat) (o:CO) (st:St) (K:St→Prop):Prop :=
 o.op.obsB st.env true∧match o.op with
 | .al z=>K ⟨EN.set st.env o.dst (.bx k0 0),(k0,.bx z)::st.hp,max st.n (k0+1)⟩
 | .alb T e=>K ⟨EN.set st.env o.dst (.bx k0 0),(k0,.sb T e 0 ⟨#[]⟩)::st.hp,max st.n (k0+1)⟩
 | .mk=>K ⟨EN.set st.env o.dst (.mp k0),(k0,.mp [])::st.hp,max st.n (k0+1)⟩
 | .mu x s y=>muK st.hp (fet (x.ev st.env)) (fet (s.ev st.env)) (fet (y.ev st.env)) fun hp'=>K ⟨EN.set st.env o.dst .un,hp',st.n⟩
 | .bo x=>match (fet (x.ev st.env)).cl with
  | some cs=>K ⟨EN.set st.env o.dst (.bx k0 0),(k0,.bx cs)::st.hp,max st.n (k0+1)⟩
  | none=>False
 | .st x y m=>match (fet (y.ev st.env)).cl with
  | some cs=>cs.length=m∧ones cs=true∧stK st.hp (fet (x.ev st.env)) cs fun hp'=>K ⟨EN.set st.env o.dst .un,hp',st.n⟩
  | none=>False
 | .bs fz n ps=>match o.fz with
  | true=>match partsN n (ps.map fun s=>fet (s.ev st.env)) with
   | some l=>K ⟨EN.set st.env o.dst (.rw k0 0 l.length),(k0,.rn 0 n l)::st.hp,max st.n (k0+1)⟩
   | none=>False
  | false=>match partsL (shutP st.hp (ps.map fun s=>fet (s.ev st.env))) n (ps.map fun s=>fet (s.ev st.env)) with
   | some l=>if fz then K ⟨EN.set st.env o.dst (.ds l),shutP st.hp (ps.map fun s=>fet (s.ev st.env)),st.n⟩
    else K ⟨EN.set st.env o.dst (.rw k0 0 l.length),(k0,.rw 0 n l)::shutP st.hp (ps.map fun s=>fet (s.ev st.env)),max st.n (k0+1)⟩
   | none=>False
 | .ap x y n bytes=>match nstF o.fz st.hp (fet (y.ev st.env)) with
  | some l2=>(∀e∈l2,e.length=n∧ones e=true)∧(apLen (fet (x.ev st.env))+l2.length)*bytes≤140737488355328∧apLen (fet (x.ev st.env))+l2.length≤9223372036854775807 ∧
   match apRN true st.hp st.n k0 n (fet (x.ev st.env)) l2 with
   | some (α,kc,nx)=>K ⟨EN.set st.env o.dst α,kc::st.hp,nx⟩
   | none=>False
  | none=>match sl st.hp (fet (y.ev st.env)) with
   | some l2=>(∀e∈l2,e.length=n∧purs e=true)∧(apLen (fet (x.ev st.env))+l2.length)*bytes≤140737488355328∧apLen (fet (x.ev st.env))+l2.length≤9223372036854775807 ∧
    match apR st.hp st.n k0 n (fet (x.ev st.env)) l2 with
    | some (α,kc,nx)=>K ⟨EN.set st.env o.dst α,kc::st.hp,nx⟩
    | none=>False
   | none=>False
 | .aps x y=>match fet (y.ev st.env) with
  | .s b=>apLen (fet (x.ev st.env))+b.size≤140737488355328∧match apR st.hp st.n k0 1 (fet (x.ev st.env)) (byteEls b) with
   | some (α,kc,nx)=>K ⟨EN.set st.env o.dst α,kc::st.hp,nx⟩
   | none=>False
  | _=>False
 | .ms l c n bytes z=>match fet (l.ev st.env),fet (c.ev st.env) with
  | .i _ x,.i _ y=>0≤x∧x≤y∧y*bytes≤140737488355328∧y≤9223372036854775807∧z.length=n∧purs z=true ∧
   K ⟨EN.set st.env o.dst (.rw k0 0 x.toNat),(k0,.rw 0 n (List.replicate x.toNat z))::st.hp,max st.n (k0+1)⟩
  | _,_=>False
 | .cl f xs=>vcCall P f st.hp st.n (xs.map fun s=>fet (s.ev st.env)) fun hp' n' r=>K ⟨EN.set st.env o.dst r,hp',n'⟩
 | .cc f xs=>match fet (f.ev st.env) with
  | .fn g caps=>vcCall P g st.hp st.n (xs.map (fun s=>fet (s.ev st.env))++caps) fun hp' n' r=>K ⟨EN.set st.env o.dst r,hp',n'⟩
  | _=>False
 | .nl neg x=>nlK st.hp (fet (x.ev st.env)) neg fun b=>K ⟨EN.set st.env o.dst (.b b),st.hp,st.n⟩
 | op=>valK st.hp (fun s=>fet (s.ev st.env)) op fun α=>K ⟨EN.set st.env o.dst α,st.hp,st.n⟩
def soft (o:COp) (env:EN):Bool :=
 match o with
 | .ld x _ _=>match fet (x.ev env) with
  | .ep _ _ _ _=>false
  | _=>true
 | o=>o.isV
def vcIf (x:Bool) (A B:Prop):Prop:=(x=true→A)∧(x=false→B)
def gCall (P:Program) (f:FuncId) (hp:CH) (n:Nat) (args:List AV) (G:Bool) (K:CH→Nat→AV→Prop):Prop :=
 (∃r,(G=true→MeetsF P f hp n args r)∧K hp n (.gd G r))∨vcIf G (vcCall P f hp n args K) (K hp n (.gd false .un))
def vcG (P:Program) (o:CO) (st:St) (G:Bool) (K:St→Prop):Prop :=
 if soft o.op st.env then
  o.op.obsB st.env G∧imp G (o.op.pre st.hp fun s=>fet (s.ev st.env))∧imp G ((o.op.val st.hp fun s=>fet (s.ev st.env)).isSome=true) ∧
   K ⟨EN.set st.env o.dst (.gd G ((o.op.val st.hp fun s=>fet (s.ev st.env)).getD .un)),st.hp,st.n⟩
 else match o.op with
  | .cl f xs=>oblB st.env G xs∧gCall P f st.hp st.n (xs.map fun s=>fet (s.ev st.env)) G fun hp' n' r=>K ⟨EN.set st.env o.dst r,hp',n'⟩
  | _=>vcIf G (vcRun P st.n o st K) (K ⟨EN.set st.env o.dst (.gd false .un),st.hp,st.n⟩)
def vcOp1 (P:Program) (o:CO) (st:St) (K:St→Prop):Prop :=
 match o.g with
 | none=>vcRun P st.n o st K
 | some (t,want)=>match ge st.env t with
  | .b x=>vcG P o st (x == want) K
  | .gd c (.b x)=>vcG P o st (c&&(x == want)) K
  | .gd false .un=>vcG P o st false K
  | _=>False
def frzV (k g:Nat) (l l':List (List AV)):AV→AV
 | .rw k' g' len=>if k'=k then (if g'=g∧len≤l.length then .ds (l.take len) else if g'=g+1∧len=l'.length then .ds l' else .rw k' g' len) else .rw k' g' len
 | α=>α
def frz (k g:Nat) (l l':List (List AV)) (env:EN):EN:=env.map fun p=>(p.1,frzV k g l l' p.2)
def vcFz (P:Program) (o:CO) (st:St) (K:St→Prop):Prop :=
 match o.op,o.g with
 | .ap x y n bytes,none=>match nst st.hp (fet (y.ev st.env)) with
  | some _=>vcRun P st.n o st K
  | none=>(COp.ap x y n bytes).obsB st.env true∧match sl st.hp (fet (y.ev st.env)) with
   | some l2=>(∀e∈l2,e.length=n∧purs e=true)∧(apLen (fet (x.ev st.env))+l2.length)*bytes≤140737488355328∧apLen (fet (x.ev st.env))+l2.length≤9223372036854775807∧match fet (x.ev st.env) with
    | .rw k g len=>match gc st.hp k with
     | .rw g' n' l=>(g=g'∧n=n'∧len=l.length)∧K ⟨frz k g l (l++l2) (EN.set st.env o.dst (.rw k (g+1) (len+l2.length))),(k,.sh (g+1) n (l++l2))::(k,.rw (g+1) n (l++l2))::st.hp,st.n⟩
     | _=>False
    | _=>False
   | none=>False
 | .bs _ _ _,none=>vcRun P st.n o st K
 | _,_=>False
def vcOp (P:Program) (o:CO) (st:St) (K:St→Prop):Prop :=
 match o.fz with
 | false=>vcOp1 P o st K
 | true=>vcFz P o st K
def vcOps (P:Program):List CO→St→(St→Prop)→Prop
 | [],st,K=>K st
 | o::r,st,K=>vcOp P o st fun st'=>vcOps P r ⟨EN.drop o.dp st'.env,st'.hp,st'.n⟩ K
/-! ### Regions that draw an order -/
def AV.ids:AV→List Nat
 | .bx k _=>[k]
 | .rw k _ _=>[k]
 | .mp k=>[k]
 | .ep α _ _ _=>α.ids
 | _=>[]
def COp.srcs:COp→List Src
 | .pk c a b=>[c,a,b]
 | .mv x | .ld x _ _ | .un _ x | .ci _ x | .cs x | .cb x | .mi _ x | .fa x _ | .fl x _ _ _ | .ta x _ _ | .ex x _ | .ln _ x | .bo x | .s0 x | .nc x | .nl _ x=>[x]
 | .bd _ ps=>ps.map (·.2.2)
 | .bin _ _ x y | .ia x y _ | .eqs _ _ x y | .ix x y | .ai x y _ _ _ | .mm _ x y | .lk x y _ _ | .st x y _ | .ap x y _ _ | .aps x y | .ms x y _ _ _=>[x,y]
 | .mf _ xs | .bs _ _ xs | .cl _ xs=>xs
 | .sc x lo hi _ | .ss x lo hi=>x::(lo.toList++hi.toList)
 | .al _ | .alb _ _ | .mk=>[]
 | .mu x s y=>[x,s,y]
 | .cc x xs=>x::xs
def Src.slot:Src→List Nat
 | .t n=>[n]
 | .c _=>[]
def COp.rd (f:Src→AV):COp→List Nat
 | .ld x _ _=>(f x).ids
 | .cb x=>(f x).ids
 | .ln _ x=>(f x).ids
 | .sc x _ _ _=>(f x).ids
 | .ia x _ _=>(f x).ids
 | .lk x _ _ _=>(f x).ids
 | _=>[]
def COp.eff (hp:CH) (f:Src→AV) (id:Nat):COp→Option (AV × CH × List Nat)
 | .al z=>some (.bx id 0,[(id,.bx z)],[])
 | .alb T e=>some (.bx id 0,[(id,.sb T e 0 ⟨#[]⟩)],[])
 | .mk=>some (.mp id,[(id,.mp [])],[])
 | .mu x s y=>match f x,f s with
  | .mp k,.s b=>match gc hp k with
   | .mp l=>some (.un,[(k,.mp (mput b (f y) l))],[k])
   | _=>none
  | _,_=>none
 | .bo x=>match (f x).cl with
  | some c0=>some (.bx id 0,[(id,.bx c0)],[])
  | none=>none
 | .st x y m=>match (f y).cl,f x with
  | some c0,.bx k off=>match gc hp k with
   | .bx old=>some (.un,[(k,.bx (old.take off++c0++old.drop (off+c0.length)))],[k])
   | _=>none
  | some c0,.ep (.rw k g _) n i off=>match gc hp k with
   | .rw g' n' l=>match l[i]? with
    | some e=>some (.un,[(k,.rw g' n' (l.set i (e.take off++c0++e.drop (off+c0.length))))],[k])
    | none=>none
   | .rn g' n' l=>match l[i]? with
    | some e=>some (.un,[(k,.rn g' n' (l.set i (e.take off++c0++e.drop (off+c0.length))))],[k])
    | none=>none
   | _=>none
  | _,_=>none
 | .bs fz n ps=>match partsL [] n (ps.map f) with
  | some l=>if fz then some (.ds l,[],[]) else some (.rw id 0 l.length,[(id,.rw 0 n l)],[])
  | none=>none
 | .ap x y n bytes=>match sl hp (f y) with
  | some l2=>match apR hp 0 id n (f x) l2 with
   | some (α,kc,_)=>some (α,[kc],(f x).ids++(f y).ids)
   | none=>none
  | none=>none
 | .aps x y=>match f y with
  | .s b=>match apR hp 0 id 1 (f x) (byteEls b) with
   | some (α,kc,_)=>some (α,[kc],(f x).ids)
   | none=>none
  | _=>none
 | .ms l c n bytes z=>match f l with
  | .i _ x=>some (.rw id 0 x.toNat,[(id,.rw 0 n (List.replicate x.toNat z))],[])
  | _=>none
 | op=>match op.val hp f with
  | some α=>some (α,[],op.rd f)
  | none=>none
def pureV:AV→Bool
 | .ag l=>l.all AV.pur
 | α=>α.pur
def COp.effP (hp:CH) (f:Src→AV):COp→Prop
 | .al _=>True
 | .alb _ _=>True
 | .mk=>True
 | .mu _ _ y=>(f y).purR=true
 | .bo _=>True
 | .st x y m=>match (f y).cl,f x with
  | some c0,.bx k off=>c0.length=m∧ones c0=true∧match gc hp k with
   | .bx old=>off+c0.length≤old.length
   | _=>False
  | some c0,.ep (.rw k g _) n i off=>c0.length=m∧ones c0=true∧match gc hp k with
   | .rw g' n' _=>g=g'∧n=n'∧off+c0.length≤n∧purs c0=true
   | .rn g' n' _=>g=g'∧n=n'∧off+c0.length≤n∧ones c0=true
   | _=>False
  | _,_=>False
 | .bs fz n ps=>(ps.map f).all pureV=true
 | .ap x y n bytes=>match sl hp (f y) with
  | some l2=>elsOk n l2∧(apLen (f x)+l2.length)*bytes≤140737488355328∧apLen (f x)+l2.length≤9223372036854775807
  | none=>False
 | .aps x y=>match f y with
  | .s b=>apLen (f x)+b.size≤140737488355328
  | _=>False
 | .ms l c n bytes z=>match f l,f c with
  | .i _ x,.i _ y=>0≤x∧x≤y∧y*bytes≤140737488355328∧y≤9223372036854775807∧z.length=n∧purs z=true
  | _,_=>False
 | op=>op.pre hp f
structure DO where
 o:CO
 un:List Nat
 lg:Bool
 bf:List Nat
structure LE where
 j:Nat
 R:List Nat
 W:List Nat
 c:Bool
def keys (u:CH):List Nat:=u.map (·.1)
def dis (a b:List Nat):Prop:=∀x∈a,∀y∈b,x≠y
def cf (n0 i:Nat) (R W:List Nat) (c:Bool) (e:LE):Prop :=
 dis e.W R∧dis e.W W∧dis W e.R∧(c=true→∀x∈e.W,x=n0+e.j)∧(e.c=true→∀x∈W,x=n0+i)
def cfs (n0 i:Nat) (un:List Nat) (R W:List Nat) (c:Bool):List LE→Prop
 | []=>True
 | e::r=>imp (un.contains e.j) (cf n0 i R W c e)∧cfs n0 i un R W c r
def dCall (P:Program) (f:FuncId) (n0:Nat) (bf:List Nat) (hp:CH) (n:Nat) (args:List AV) (G:Bool) (K:AV→Prop):Prop :=
 ∃r,(G=true→∀hp',(∀k,(k<n0∨∃j∈bf,k=n0+j)→gc hp' k=gc hp k)→MeetsF P f hp' n args r)∧K r
def aOk (ks:List Nat):AV→Prop
 | .rw k _ _=>k∈ks
 | α=>α.pur=true
def asOk (ks:List Nat):List AV→Prop
 | []=>True
 | α::r=>aOk ks α∧asOk ks r
def cOk (ks:List Nat):Chunk→Prop
 | .bx cs=>asOk ks cs
 | .rn _ _ _=>False
 | _=>True
def nOk:Chunk→Prop
 | .no=>False
 | _=>True
def wsOk (hp:CH) (n0:Nat) (ks:List Nat):CH→Prop
 | []=>True
 | (k,c)::r=>k<n0∧nOk (gc hp k)∧cOk ks c∧wsOk hp n0 ks r
def dCallR (P:Program) (f:FuncId) (n0:Nat) (bf:List Nat) (hp:CH) (n:Nat) (args:List AV) (id:Nat) (K:AV→CH→Prop):Prop :=
 (∃r,(∀hp',(∀k,(k<n0∨∃j∈bf,k=n0+j)→gc hp' k=gc hp k)→MeetsF P f hp' n args r)∧K r []) ∨
 (∃m l,(∀hp',(∀k,(k<n0∨∃j∈bf,k=n0+j)→gc hp' k=gc hp k)→Meets P f hp' n args fun hp2 n2 r2=>hp2=(n,.rw 0 m l)::hp'∧n2=n+1∧r2=.rw n 0 l.length)∧K (.rw id 0 l.length) [(id,.rw 0 m l)]) ∨
 ∃r ws,wsOk hp n0 (keys ws) ws∧r.purR=true∧(∀hp',(∀k,(k<n0∨∃j∈bf,k=n0+j)→gc hp' k=gc hp k)→Meets P f hp' n args fun hp2 n2 r2=>hp2=ws++hp'∧n2=n∧r2=r)∧K r ws
def dRun (P:Program) (n0 N1 i:Nat) (o:DO) (env:EN) (hp:CH) (K:AV→CH→List Nat→Bool→Prop):Prop :=
 match o.o.op with
 | .cl f xs=>dCallR P f n0 o.bf hp N1 (xs.map fun s=>fet (s.ev env)) (n0+i) fun r ws=>K r ws [] true
 | .cc f xs=>match fet (f.ev env) with
  | .fn g caps=>dCall P g n0 o.bf hp N1 (xs.map (fun s=>fet (s.ev env))++caps) true fun r=>K r [] [] true
  | _=>False
 | op=>op.effP hp (fun s=>fet (s.ev env))∧match op.eff hp (fun s=>fet (s.ev env)) (n0+i) with
  | some (α,ws,R)=>K α ws R false
  | none=>False
def dG (P:Program) (n0 N1 i:Nat) (o:DO) (env:EN) (hp:CH) (G:Bool) (K:AV→CH→List Nat→Bool→Prop):Prop :=
 o.o.op.obsB env G∧match o.o.op with
 | .cl f xs=>dCall P f n0 o.bf hp N1 (xs.map fun s=>fet (s.ev env)) G fun r=>K (.gd G r) [] [] true
 | .cc f xs=>match fet (f.ev env) with
  | .fn g caps=>dCall P g n0 o.bf hp N1 (xs.map (fun s=>fet (s.ev env))++caps) G fun r=>K (.gd G r) [] [] true
  | _=>False
 | op=>if op.isV then imp G (op.pre hp fun s=>fet (s.ev env))∧imp G ((op.val hp fun s=>fet (s.ev env)).isSome=true)∧K (.gd G ((op.val hp fun s=>fet (s.ev env)).getD .un)) [] (op.rd fun s=>fet (s.ev env)) false
  else (G=true∧dRun P n0 N1 i o env hp K)∨(G=false∧K (.gd false .un) [] [] false)
def dOp (P:Program) (n0 N1 i:Nat) (o:DO) (env:EN) (hp:CH) (K:AV→CH→List Nat→Bool→Prop):Prop :=
 match o.o.g with
 | none=>o.o.op.obsB env true∧dRun P n0 N1 i o env hp K
 | some (t,want)=>match ge env t with
  | .b x=>dG P n0 N1 i o env hp (x == want) K
  | .gd c (.b x)=>dG P n0 N1 i o env hp (c&&(x == want)) K
  | .gd false .un=>dG P n0 N1 i o env hp false K
  | _=>False
def dRun2 (P:Program) (n0 N1 i:Nat) (o:DO) (env:EN) (hp:CH) (K:AV→CH→List Nat→Bool→Prop):Prop :=
 match o.o.op.isV with
 | true=>valK hp (fun s=>fet (s.ev env)) o.o.op fun α=>K α [] (o.o.op.rd fun s=>fet (s.ev env)) false
 | false=>dRun P n0 N1 i o env hp K
def dOp2 (P:Program) (n0 N1 i:Nat) (o:DO) (env:EN) (hp:CH) (K:AV→CH→List Nat→Bool→Prop):Prop :=
 match o.o.g with
 | none=>o.o.op.obsB env true∧dRun2 P n0 N1 i o env hp K
 | some _=>dOp P n0 N1 i o env hp K
def vcD2 (P:Program) (n0 N1:Nat):Nat→List DO→EN→CH→List LE→(EN→CH→Prop)→Prop
 | _,[],env,hp,_,K=>K env hp
 | i,o::r,env,hp,lg,K=>dOp2 P n0 N1 i o env hp fun α ws R c=>cfs n0 i o.un R (keys ws) c lg ∧
   vcD2 P n0 N1 (i+1) r (EN.set env o.o.dst α) (ws++hp) (match o.lg with | true=>⟨i,R,keys ws,c⟩::lg | false=>lg) K
def vcD (P:Program) (n0 N1:Nat):Nat→List DO→EN→CH→List LE→(EN→CH→Prop)→Prop
 | _,[],env,hp,_,K=>K env hp
 | i,o::r,env,hp,lg,K=>dOp P n0 N1 i o env hp fun α ws R c=>cfs n0 i o.un R (keys ws) c lg ∧
   vcD P n0 N1 (i+1) r (EN.set env o.o.dst α) (ws++hp) (if o.lg then ⟨i,R,keys ws,c⟩::lg else lg) K
@[reducible] def o_ (d:Nat) (op:COp) (dp:List Nat):CO:=⟨some d,op,none,dp,false⟩
@[go_sem] theorem o_e (d:Nat) (op:COp) (dp:List Nat):o_ d op dp=⟨some d,op,none,dp,false⟩:=rfl
@[reducible] def n_ (op:COp) (dp:List Nat):CO:=⟨none,op,none,dp,false⟩
@[go_sem] theorem n_e (op:COp) (dp:List Nat):n_ op dp=⟨none,op,none,dp,false⟩:=rfl
@[reducible] def g_ (d:Nat) (op:COp) (t:Nat) (b:Bool) (dp:List Nat):CO:=⟨some d,op,some (t,b),dp,false⟩
@[go_sem] theorem g_e (d:Nat) (op:COp) (t:Nat) (b:Bool) (dp:List Nat):g_ d op t b dp=⟨some d,op,some (t,b),dp,false⟩:=rfl
@[reducible] def d_ (d:Nat) (op:COp):DO:=⟨⟨some d,op,none,[],false⟩,[],false,[]⟩
@[go_sem] theorem d_e (d:Nat) (op:COp):d_ d op=⟨⟨some d,op,none,[],false⟩,[],false,[]⟩:=rfl
@[reducible] def m_ (d s:Nat) (dp:List Nat):CO:=⟨some d,.mv (.t s),none,dp,false⟩
@[go_sem] theorem m_e (d s:Nat) (dp:List Nat):m_ d s dp=⟨some d,.mv (.t s),none,dp,false⟩:=rfl
@[reducible] def f_ (d s o:Nat) (dp:List Nat):CO:=⟨some d,.fa (.t s) o,none,dp,false⟩
@[go_sem] theorem f_e (d s o:Nat) (dp:List Nat):f_ d s o dp=⟨some d,.fa (.t s) o,none,dp,false⟩:=rfl
@[reducible] def l_ (d s m:Nat) (dp:List Nat):CO:=⟨some d,.ld (.t s) m false,none,dp,false⟩
@[go_sem] theorem l_e (d s m:Nat) (dp:List Nat):l_ d s m dp=⟨some d,.ld (.t s) m false,none,dp,false⟩:=rfl
@[reducible] def a_ (d s m:Nat) (dp:List Nat):CO:=⟨some d,.ld (.t s) m true,none,dp,false⟩
@[go_sem] theorem a_e (d s m:Nat) (dp:List Nat):a_ d s m dp=⟨some d,.ld (.t s) m true,none,dp,false⟩:=rfl
inductive CC where
 | skip
 | rg (l:List CO)
 | dr (l:List DO) (dp:List Nat)
 | sq (a b:CC)
 | sqw (a b:CC)
 | cd (c:Src) (a b:CC)
 | bl (id:Nat) (c:CC)
 | lp (c:CC)
 | ex (id:Nat)
 | rt
@[reducible] def q_ (l:List CO) (b:CC):CC:=.sq (.rg l) b
@[go_sem] theorem q_e (l:List CO) (b:CC):q_ l b=.sq (.rg l) b:=rfl
def CC.erase:CC→CC
 | .skip=>.skip
 | .rg l=>.rg (l.map CO.er)
 | .dr l _=>.dr l []
 | .sq a b=>.sq a.erase b.erase
 | .sqw a b=>.sq a.erase b.erase
 | .cd c a b=>.cd c a.erase b.erase
 | .bl id c=>.bl id c.erase
 | .lp c=>.lp c.erase
 | .ex id=>.ex id
 | .rt=>.rt
def Weak (s s':St):Prop:=∀C a w,S C s a w→S C s' a w
def WeakG (hd s s':St):Prop:=∀C a w,SatH C.h0 C.ρ0 hd.hp hd.n C.w0→S C s a w→S C s' a w
theorem Weak.g {hd s s':St} (h:Weak s s'):WeakG hd s s':=fun C a w _=>h C a w
def vcLoop (F:St→(Exit→St→Prop)→Prop) (st:St) (Q:Exit→St→Prop):Prop :=
 ∃I:Nat→St→Prop,(∃m s,I m s∧Weak st s)∧∀m s,I m s→F s fun e s'=>match e with
  | .normal=>∃m' s'',m' < m∧I m' s''∧WeakG s s' s''
  | e=>Q e s'
def vc (P:Program):CC→St→(Exit→St→Prop)→Prop
 | .skip,st,Q=>Q .normal st
 | .rg l,st,Q=>vcOps P l st (Q .normal)
 | .dr l dp,st,Q=>vcD2 P st.n (st.n+l.length) 0 l st.env st.hp [] fun env hp=>Q .normal ⟨EN.drop dp env,hp,st.n+l.length⟩
 | .sq a b,st,Q=>vc P a st fun e s=>match e with
  | .normal=>vc P b s Q
  | e=>Q e s
 | .sqw a b,st,Q=>vc P a st fun e s=>match e with
  | .normal=>∃s',Weak s s'∧vc P b s' Q
  | e=>Q e s
 | .cd c a b,st,Q=>obB true (c.ev st.env)∧match fet (c.ev st.env) with
  | .b x=>vcIf x (vc P a st Q) (vc P b st Q)
  | _=>False
 | .bl id c,st,Q=>vc P c st fun e s=>match e with
  | .exit i=>if i=id then Q .normal s else Q (.exit i) s
  | e=>Q e s
 | .lp c,st,Q=>vcLoop (vc P c) st Q
 | .ex id,st,Q=>Q (.exit id) st
 | .rt,st,Q=>Q .ret st
/-! ### From the model's code to the compact one -/
def cguard (N:Nat) (ops:List Oper):Option (Nat × Bool)→Option (Option (Nat × Bool))
 | none=>some none
 | some (j,want)=>match (ops[j]?).bind (·.dst) with
  | some t=>if t<N then some (some (t,want)) else none
  | none=>none
def cops (P:Program) (N:Nat) (ops:List Oper):List Oper→Option (List CO)
 | []=>some []
 | o::r=>match cop P N ops o,cguard N ops o.guard,cops P N ops r with
  | some c,some g,some l=>some (⟨o.dst,c,g,[],false⟩::l)
  | _,_,_=>none
def befs (ops:List Oper):List (List Nat) :=
 ops.foldl (fun acc o=>acc++[(o.after.toList.flatMap fun e=>if Region.binds .any e then e.on::acc.getD e.on [] else []).eraseDups]) []
def COp.mw:COp→Bool
 | .al _ | .alb _ _ | .bo _ | .st _ _ _ | .bs _ _ _ | .ap _ _ _ _ | .aps _ _ | .ms _ _ _ _ _ | .cl _ _ | .mk | .mu _ _ _=>true
 | _=>false
def COp.mr:COp→Bool
 | .lk _ _ _ _ | .mu _ _ _ | .ld _ _ _ | .cb _ | .ln _ _ | .sc _ _ _ _ | .ia _ _ _ | .st _ _ _ | .ap _ _ _ _ | .aps _ _ | .cl _ _ | .cc _ _=>true
 | _=>false
def mates (x y:COp):Bool:=(x.mw&&(y.mw||y.mr))||(y.mw&&x.mr)
def CO.slots (o:CO):List Nat:=(o.op.srcs.flatMap Src.slot)++(match o.g with | some (t,_)=>[t] | none=>[])
def CO.dsts (o:CO):List Nat:=o.dst.toList
def CO.apart (x y:CO):Bool:=x.dsts.all (fun d=>!(y.slots++y.dsts).contains d)&&y.dsts.all (fun d=>!x.slots.contains d)
def mkD (bs:List (List Nat)) (cl:List CO):List DO :=
 cl.zipIdx.map fun (o,i) =>
  ⟨o,(List.range i).filter (fun j=>!(bs.getD i []).contains j&&match cl[j]? with | some x=>mates x.op o.op | none=>false),
   (List.range cl.length).any (fun k=>i<k&&!(bs.getD k []).contains i&&match cl[k]? with | some x=>mates o.op x.op | none=>false),if o.op.isC then (bs.getD i []).filter (fun j=>match cl[j]? with | some x=>x.op.mw | none=>false) else []⟩
def bOk (ops:List Oper) (bs:List (List Nat)):Bool :=
 (List.range ops.length).all fun i=>match ops[i]? with
  | some o=>o.after.all (fun e=>!Region.binds .any e||decide (e.on<i))&&(bs.getD i []).all fun j=>decide (j<i)&&o.after.any fun e=>Region.binds .any e&&(e.on == j||(bs.getD e.on []).contains j)
  | none=>false
def pOk (bs:List (List Nat)) (dl:List DO):Bool :=
 (List.range dl.length).all fun i=>match dl[i]? with
  | some y=>y.bf.all ((bs.getD i []).contains ·)&&(List.range i).all fun j=>match dl[j]? with
   | some x=>(bs.getD i []).contains j||(x.o.apart y.o&&(!mates x.o.op y.o.op||(y.un.contains j&&x.lg)))
   | none=>false
  | none=>false
def dCk (P:Program) (ops:List Oper) (bs:List (List Nat)) (cl:List CO) (dl:List DO):Bool :=
 P.follows .mixedOrders&&dl.length == ops.length&&bOk ops bs&&pOk bs dl
def cdraw (P:Program) (N:Nat) (ops:List Oper):Option CC :=
 match cops P N ops ops with
 | some cl=>if dCk P ops (befs ops) cl (mkD (befs ops) cl) then some (.dr (mkD (befs ops) cl) []) else none
 | none=>none
def ccode (P:Program) (N:Nat):Code→Option CC
 | .skip=>some .skip
 | .region _ ops draw=>if draw then cdraw P N ops.toList else (cops P N ops.toList ops.toList).map .rg
 | .seq a b=>match ccode P N a,ccode P N b with
  | some a,some b=>some (.sq a b)
  | _,_=>none
 | .cond c a b=>match csrc N c,ccode P N a,ccode P N b with
  | some c,some a,some b=>some (.cd c a b)
  | _,_,_=>none
 | .block id c=>(ccode P N c).map (.bl id)
 | .loop c=>(ccode P N c).map .lp
 | .exit id=>some (.ex id)
 | .ret=>some .rt
 | .label _=>some .skip
 | .scope c=>ccode P N c
 | _=>none
end Go.Eng
