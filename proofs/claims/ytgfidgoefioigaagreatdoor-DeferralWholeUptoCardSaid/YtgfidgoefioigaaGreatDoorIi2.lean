/- Proof. Conditions: none. -/
import Derived.Laws.Entries
import Derived.Laws.Tables
import Derived.Laws.StructEq
import Derived.Laws.Slices
import Derived.ChangeKeysEq
import Derived.MapKept
import Derived.Test.YtgfidgoefioigaaGreatDoorIi1
namespace Go.Eng
set_option linter.all false
def Br (h:HP) (ρ:RO) (l:List AV) (vs:List Value):Prop:=l.length=vs.length∧∀(j:Nat) α v,l[j]?=some α→vs[j]?=some v→AN h ρ α v
theorem Br.nil {h:HP} {ρ:RO}:Br h ρ [] []:=⟨rfl,fun j α v e=>by simp at e⟩
theorem Br.cons {h:HP} {ρ:RO} {α:AV} {v:Value} {l:List AV} {vs:List Value} (r:AN h ρ α v) (rs:Br h ρ l vs):Br h ρ (α::l) (v::vs) :=
 ⟨by simp [rs.1],fun j β u e1 e2=>by
  cases j with
  | zero=>simp at e1 e2;subst e1;subst e2;exact r
  | succ j=>exact rs.2 j β u (by simpa using e1) (by simpa using e2)⟩
theorem Br.mono {h h':HP} {ρ ρ':RO} (hh:B8 h h') (hr:BS ρ ρ') {l:List AV} {vs:List Value} (r:Br h ρ l vs):Br h' ρ' l vs :=
 ⟨r.1,fun j α v e1 e2=>(r.2 j α v e1 e2).mono hh hr⟩
theorem AN.agg {h:HP} {ρ:RO} {l:List AV} {v:Value} (r:AN h ρ (.ag l) v):∃vs:List Value,v=.agg vs.toArray∧Br h ρ l vs:=by
 cases r with
 | pu _ _ p =>
  cases p with
  | ag _ vs e hx=>exact ⟨vs,rfl,e,fun j α v a b=>.pu _ _ (hx j α v a b)⟩
 | ag _ vs e hx=>exact ⟨vs,rfl,e,hx⟩
theorem AN.tup {h:HP} {ρ:RO} {l:List AV} {v:Value} (r:AN h ρ (.tp l) v):∃vs:List Value,v=.tuple vs.toArray∧Br h ρ l vs:=by
 cases r with
 | pu _ _ p =>
  cases p with
  | tp _ vs e hx=>exact ⟨vs,rfl,e,fun j α v a b=>.pu _ _ (hx j α v a b)⟩
 | tp _ vs e hx=>exact ⟨vs,rfl,e,hx⟩
theorem AN.mkAgg {h:HP} {ρ:RO} {l:List AV} {vs:List Value} (r:Br h ρ l vs):AN h ρ (.ag l) (.agg vs.toArray):=.ag _ _ r.1 r.2
theorem AN.mkTup {h:HP} {ρ:RO} {l:List AV} {vs:List Value} (r:Br h ρ l vs):AN h ρ (.tp l) (.tuple vs.toArray):=.tp _ _ r.1 r.2
theorem AN.bool {h:HP} {ρ:RO} {x:Bool} {v:Value} (r:AN h ρ (.b x) v):v=.bool x:=by
 cases r with | pu _ _ p=>cases p with | b=>rfl
theorem AN.int {h:HP} {ρ:RO} {k:IntKind} {x:Int} {v:Value} (r:AN h ρ (.i k x) v):v=.int k x:=by
 cases r with | pu _ _ p=>cases p with | i=>rfl
theorem AN.str {h:HP} {ρ:RO} {x:ByteArray} {v:Value} (r:AN h ρ (.s x) v):v=.string x:=by
 cases r with | pu _ _ p=>cases p with | s=>rfl
theorem AN.face {h:HP} {ρ:RO} {t:Nat} {x:AV} {v:Value} (r:AN h ρ (.fc t x) v):∃u,v=.iface t u∧AN h ρ x u:=by
 cases r with
 | pu _ _ p=>cases p with | fc _ _ u q=>exact ⟨u,rfl,.pu _ _ q⟩
 | fc _ _ u q=>exact ⟨u,rfl,q⟩
theorem AN.nilf {h:HP} {ρ:RO} {v:Value} (r:AN h ρ .ni v):v=.nilIface:=by
 cases r with | pu _ _ p=>cases p with | ni=>rfl
theorem AN.func {h:HP} {ρ:RO} {f:Nat} {l:List AV} {v:Value} (r:AN h ρ (.fn f l) v):∃vs:List Value,v=.func (.func f) #[] vs.toArray∧Br h ρ l vs:=by
 cases r with
 | pu _ _ p=>cases p
 | fn _ _ vs e hx=>exact ⟨vs,rfl,e,hx⟩
def AV.one:AV→Bool
 | .un | .ag _ | .tp _ | .gd _ _=>false
 | _=>true
theorem AV.one_rel {h:HP} {ρ:RO} {α:AV} {v:Value} (r:AN h ρ α v) (o:α.one=true):v.oneCell'=true:=by
 cases r with
 | pu _ _ p=>cases p<;>first | rfl | (simp [AV.one] at o)
 | _=>first | rfl | (simp [AV.one] at o)
theorem RK {v:Value} (o:v.oneCell'=true):v.cells=#[v]:=by cases v<;>simp [Value.cells,Value.oneCell'] at *
def AV.cl:AV→Option (List AV)
 | .ag l=>some l
 | α=>if α.one then some [α] else none
theorem AV.cl_rel {h:HP} {ρ:RO} {α:AV} {v:Value} (r:AN h ρ α v) {l:List AV} (e:α.cl=some l):Br h ρ l v.cells.toList:=by
 cases α with
 | ag l' =>
  simp only [AV.cl,Option.some.injEq] at e
  subst e
  obtain ⟨vs,rfl,rs⟩:=r.agg
  simpa [Value.cells] using rs
 | _ =>
  simp only [AV.cl] at e
  split at e
  .rename_i ho
   simp only [Option.some.injEq] at e
   subst e
   rw [RK (AV.one_rel r ho)]
   exact Br.cons r .nil
  .cases e
def ones (l:List AV):Bool:=l.all AV.one
theorem J2 {h:HP} {ρ:RO} {l:List AV} {vs:List Value} (r:Br h ρ l vs) (o:ones l=true):∀v∈vs,v.oneCell'=true:=by
 intro v hv
 obtain ⟨j,hj,rfl⟩:=List.mem_iff_getElem.1 hv
 have SI:j<l.length:=by rw [r.1];exact hj
 exact AV.one_rel (r.2 j l[j] vs[j] (by simp [SI]) (by simp [hj])) (List.all_eq_true.1 o _ (List.getElem_mem SI))
/-! ### Operands -/
inductive AX where
 | t (n:Nat)
 | c (α:AV)
def AX.ev (env:EN):AX→AV
 | .t n=>ge env n
 | .c α=>α
def Tf:Value→Option AV
 | .bool x=>some (.b x)
 | .int k n=>some (.i k n)
 | .string x=>some (.s x)
 | .slice none 0 0=>some .e0
 | .pointer none=>some .np
 | .map none=>some .mn
 | .nilFunc=>some .nf
 | .nilIface=>some .ni
 | _=>none
def DF:List Value→Option (List AV)
 | []=>some []
 | v::r=>match Tf v,DF r with
  | some α,some l=>some (α::l)
  | _,_=>none
theorem TP {vs:List Value} {l:List AV} (e:DF vs=some l):∀v∈vs,v.oneCell'=true:=by
 induction vs generalizing l with
 | nil=>intro v h;cases h
 | cons x vs ih =>
  unfold DF at e
  split at e
  .rename_i α l' e1 e2
   intro v h
   rcases List.mem_cons.1 h with rfl | h
   .unfold Tf at e1
    split at e1<;>first | rfl | cases e1
   .exact ih e2 v h
  .cases e
def XW:Value→Option AV
 | .agg cs=>(DF cs.toList).map .ag
 | v=>Tf v
theorem IK {v:Value} {α:AV} (e:Tf v=some α) (h:HP):Bd h α v:=by
 unfold Tf at e
 split at e<;>first | (cases e;constructor) | cases e
theorem F4 {vs:List Value} {l:List AV} (e:DF vs=some l) (h:HP) (ρ:RO):Br h ρ l vs:=by
 induction vs generalizing l with
 | nil=>simp [DF] at e;subst e;exact .nil
 | cons v vs ih =>
  unfold DF at e
  split at e
  .rename_i α l' e1 e2
   cases e
   exact .cons (.pu _ _ (IK e1 h)) (ih e2)
  .cases e
theorem S7 {vs:List Value} {l:List AV} (e:DF vs=some l) (h:HP):l.length=vs.length∧∀(j:Nat) α v,l[j]?=some α→vs[j]?=some v→Bd h α v:=by
 induction vs generalizing l with
 | nil=>simp [DF] at e;subst e;exact ⟨rfl,fun j α v q=>by simp at q⟩
 | cons x vs ih =>
  unfold DF at e
  split at e
  .rename_i α l' e1 e2
   cases e
   obtain ⟨h1,h2⟩:=ih e2
   refine ⟨by simp [h1],fun j β v a b=>?_⟩
   cases j with
   | zero=>simp at a b;subst a;subst b;exact IK e1 h
   | succ j=>exact h2 j β v (by simpa using a) (by simpa using b)
  .cases e
theorem Lq {v:Value} {α:AV} (e:XW v=some α) (h:HP) (ρ:RO):AN h ρ α v:=by
 unfold XW at e
 split at e
 .rename_i cs
  cases hc:DF cs.toList with
  | none=>simp [hc] at e
  | some l =>
   simp [hc] at e
   subst e
   have:=AN.mkAgg (F4 hc h ρ)
   simpa using this
 .exact .pu _ _ (IK e h)
def Bl (N:Nat):Operand→Option AX
 | .tmp t=>if t<N then some (.t t) else none
 | .const v=>(XW v).map .c
 | .func f=>some (.c (.fn f []))
 | .global _=>none
theorem SW {C:Ctx} {st:St} {h:HP} {ρ:RO} {a:Act} {w:World} (S:Sat C st h ρ a w) {x:Operand} {s:AX} (e:Bl C.N x=some s):AN h ρ (s.ev st.env) (a.eval x):=by
 cases x with
 | tmp t =>
  simp only [Bl] at e
  split at e
  .rename_i ht
   cases e
   obtain ⟨v,hv,r⟩:=S.env t ht
   simp only [Act.eval,AX.ev]
   simpa [hv] using r
  .cases e
 | const v =>
  simp only [Bl] at e
  cases hc:XW v with
  | none=>simp [hc] at e
  | some α=>simp [hc] at e;subst e;exact Lq hc h ρ
 | func f=>simp only [Bl] at e;cases e;exact .fn f [] [] rfl (fun j α v e=>by simp at e)
 |_=>simp [Bl] at e
def AR:AV→AV
 | .gd _ x=>x
 | α=>α
def ob (p:Prop):AV→Prop
 | .gd c _=>p→c=true
 | _=>True
theorem PN {h:HP} {ρ:RO} {α:AV} {v:Value} (r:AN h ρ α v) {p:Prop} (hp:p) (o:ob p α):AN h ρ (AR α) v:=by
 cases α with
 | gd c x =>
  have hc:c=true:=o hp
  cases r with
  | pu _ _ q=>cases q with | gd _ _ _ q1 _=>exact .pu _ _ (q1 hc)
  | gd _ _ _ q1 _=>exact q1 hc
 | _=>exact r
/-! ### The tables -/
def Ww (P:Program) (t:TypeId):Option (Nat × Bool) :=
 match P.info? t,P.underlying t with
 | some i,some d=>some (i.size,match d with | .struct _ | .array _ _=>true | _=>false)
 | _,_=>none
def DG (P:Program) (t:TypeId):Option Nat:=(P.info? t).map (·.size)
def HA (P:Program) (t:TypeId):Option TypeId:=match P.underlying t with | some (.slice e)=>some e | _=>none
def Ln (P:Program) (t:TypeId) (f:Nat):Option Field:=match P.underlying t with | some (.struct fs)=>fs[f]? | _=>none
theorem G4 {P:Program} {t:TypeId} {n:Nat} {ag:Bool} (e:Ww P t=some (n,ag)) (w:World):(isAgg t).run P w=.ok ag w∧(sizeOf t).run P w=.ok n w:=by
 unfold Ww at e
 split at e
 .rename_i i d h1 h2
  simp only [Option.some.injEq,Prod.mk.injEq] at e
  obtain ⟨rfl,rfl⟩:=e
  refine ⟨?_,by simp [sizeOf,typeInfo,h1]⟩
  unfold isAgg
  rw [Sem.run_bind,run_underlying h2 w]
  cases d<;>simp
 .cases e
theorem Ce {P:Program} {t:TypeId} {n:Nat} (e:DG P t=some n) (w:World):(sizeOf t).run P w=.ok n w:=by
 unfold DG at e
 cases h1:P.info? t with
 | none=>simp [h1] at e
 | some i=>simp [h1] at e;subst e;simp [sizeOf,typeInfo,h1]
theorem N4 {P:Program} {t:TypeId} {m:Nat} {ag:Bool} (e:Ww P t=some (m,ag)) (h1:ag=false→m=1) {h:HP} {ρ:RO} {hp:CH} {n:Nat} {w:World} (mm:SatH h ρ hp n w)
  {α:AV} {v:Value} (r:AN h ρ α v) {cs:List AV} (hl:HR hp m α=some cs) :
  ∃u,(Instr.loadAt t v).run P w=.ok u w∧AN h ρ (if ag then .ag cs else cs.getD 0 .un) u:=by
 obtain ⟨b,o,rfl,Bb,us,hu,hc,hr⟩:=Me mm r hl
 obtain ⟨ha,hz⟩:=G4 e w
 cases ag with
 | true =>
  refine ⟨.agg us.toArray,?_,?_⟩
  .have hcell:=run_loadCells_list (P:=P) w ⟨b,o,none⟩ us (fun j u hj=>by rw [Addr.add_lit];exact hc j u hj)
   rw [hu] at hcell
   simp [Instr.loadAt,Instr.sureAddr,loadVar,ha,hz,hcell]
  .simp only [if_true]
   exact AN.mkAgg ⟨by omega,hr⟩
 | false =>
  have hm:=h1 rfl
  subst hm
  obtain ⟨u,rfl⟩:∃u,us=[u]:=by
   cases us with
   | nil=>simp at hu
   | cons u r=>cases r with
    | nil=>exact ⟨u,rfl⟩
    | cons=>simp at hu
  obtain ⟨c,rfl⟩:∃c,cs=[c]:=by
   cases cs with
   | nil=>simp at Bb
   | cons u r=>cases r with
    | nil=>exact ⟨u,rfl⟩
    | cons=>simp at Bb
  refine ⟨u,?_,by simpa using hr 0 c u rfl rfl⟩
  have:=hc 0 u rfl
  simp only [Nat.add_zero] at this
  simp [Instr.loadAt,Instr.sureAddr,loadVar,ha,this]
def RJ (off:Nat):AV→Option AV
 | .bx k o=>some (.bx k (o+off))
 | .ep α n i o=>some (.ep α n i (o+off))
 | _=>none
theorem Ke {P:Program} {t:TypeId} {f:Nat} {fd:Field} (e:Ln P t f=some fd) {z:Nat} (hz:DG P fd.type=some z) (h0:z≠0) {h:HP} {ρ:RO} {w:World}
  {α:AV} {v:Value} (r:AN h ρ α v) {β:AV} (hl:RJ fd.offset α=some β):∃u,(Instr.fieldAt t v f).run P w=.ok u w∧AN h ρ β u:=by
 unfold Ln at e
 cases hu:P.underlying t with
 | none=>simp [hu] at e
 | some d =>
  cases d<;>try (simp [hu] at e;done)
  rename_i fs
  simp [hu] at e
  have key:∀b o,(Instr.fieldAt t (.pointer (some ⟨b,o,none⟩)) f).run P w=.ok (.pointer (some ⟨b,o+fd.offset,none⟩)) w:=by
   intro b o
   simp [Instr.fieldAt,run_underlying hu,e,Instr.sureAddr,fieldPlace,Ce hz,h0]
   rw [Addr.add_lit]
  cases α with
  | bx k o =>
   simp only [RJ,Option.some.injEq] at hl
   subst hl
   cases r with
   | pu _ _ p=>cases p
   | bx _ _ b c e=>exact ⟨_,key b o,.bx _ _ _ _ e⟩
  | ep β n i o =>
   simp only [RJ,Option.some.injEq] at hl
   subst hl
   cases r with
   | pu _ _ p=>cases p
   | ep _ _ _ _ b o' len cap ra hi =>
    refine ⟨_,key _ _,?_⟩
    rw [Nat.add_assoc]
    exact .ep _ _ _ _ _ _ _ _ ra hi
  | _=>simp [RJ] at hl
theorem Sv {P:Program} {t:TypeId} {f:Nat} {fd:Field} (e:Ln P t f=some fd) {m:Nat} {ag:Bool} (hz:Ww P fd.type=some (m,ag)) (h1:ag=false→m=1) {h:HP} {ρ:RO} {w:World}
  {l:List AV} {v:Value} (r:AN h ρ (.ag l) v) (hle:fd.offset+m≤l.length) :
  ∃u,(Instr.field t v f).run P w=.ok u w∧AN h ρ (if ag then .ag ((l.drop fd.offset).take m) else l.getD fd.offset .un) u:=by
 unfold Ln at e
 cases hu:P.underlying t with
 | none=>simp [hu] at e
 | some d =>
  cases d<;>try (simp [hu] at e;done)
  rename_i fs
  simp [hu] at e
  obtain ⟨ha,hs⟩:=G4 hz w
  obtain ⟨vs,rfl,rs⟩:=r.agg
  cases ag with
  | true =>
   refine ⟨.agg ((vs.drop fd.offset).take m).toArray,?_,?_⟩
   .simp [Instr.field,run_underlying hu,e,asAgg,part,ha,hs,List.extract_eq_take_drop]
   .simp only [if_true]
    refine AN.mkAgg ⟨by have:=rs.1;simp;omega,fun j α v h1 h2=>?_⟩
    exact rs.2 _ α v (AY h1).1 (AY h2).1
  | false =>
   have hm:=h1 rfl
   subst hm
   have BH:fd.offset<vs.length:=by have:=rs.1;omega
   refine ⟨vs[fd.offset],?_,?_⟩
   .simp [Instr.field,run_underlying hu,e,asAgg,part,ha,BH]
   .have hl:fd.offset<l.length:=by omega
    simp [hl]
    exact rs.2 fd.offset _ _ (by simp [hl]) (by simp [BH])
theorem Kk {P:Program} {t e:TypeId} (he:HA P t=some e) {z:Nat} (hz:DG P e=some z) {h:HP} {ρ:RO} {hp:CH} {n:Nat} {w:World} (mm:SatH h ρ hp n w)
  {α:AV} {v:Value} (r:AN h ρ α v) {l:List (List AV)} (hl:sl hp α=some l) {k:IntKind} {i:Int} (h0:0≤i) (h1:i.toNat<l.length) :
  ∃u,(Instr.indexAt t v (.int k i)).run P w=.ok u w∧AN h ρ (.ep α z i.toNat 0) u:=by
 unfold HA at he
 cases hu:P.underlying t with
 | none=>simp [hu] at he
 | some d =>
  cases d<;>try (simp [hu] at he;done)
  simp [hu] at he
  subst he
  obtain ⟨a,cap,rfl,hc,q0,_,hm⟩:=Eu mm r hl
  obtain ⟨b,o,rfl,_⟩:=hm (by intro e;subst e;simp at h1)
  refine ⟨.pointer (some ⟨b,o+z*i.toNat+0,none⟩),?_,.ep _ _ _ _ _ _ _ _ r h1⟩
  have hi:i<(l.length:Int):=by omega
  simp [Instr.indexAt,asIntOf,run_underlying hu,h0,hi,Ce hz,Addr.add_lit,Nat.mul_comm]
inductive As where
 | mv (x:AX)
 | pk (c a b:AX)
 | bd (z:List AV) (ps:List (Nat × Nat × AX))
 | ld (x:AX) (m:Nat) (ag:Bool)
 | bin (op:BinOp) (c:Nat) (x y:AX)
 | un (op:UnOp) (x:AX)
 | ci (k:IntKind) (x:AX)
 | cs (x:AX)
 | cb (x:AX)
 | mi (t:Nat) (x:AX)
 | mf (f:Nat) (xs:List AX)
 | fa (x:AX) (off:Nat)
 | fl (x:AX) (off m:Nat) (ag:Bool)
 | ia (x i:AX) (n:Nat)
 | ta (x:AX) (t:Nat) (z:AV)
 | ex (x:AX) (j:Nat)
 | ln (str:Bool) (x:AX)
 | eqs (neg:Bool) (ks:List Nat) (x y:AX)
 | sc (x:AX) (lo hi:Option AX) (n:Nat)
 | ss (x:AX) (lo hi:Option AX)
 | ix (x i:AX)
 | mm (mx:Bool) (x y:AX)
 | s0 (x:AX)
 | nc (x:AX)
 | nl (neg:Bool) (x:AX)
 | ai (x i:AX) (len m:Nat) (ag:Bool)
 | pa (x i:AX) (len m:Nat)
 | mk
 | lk (x s:AX) (ok:Bool) (z:AV)
 | mu (x s y:AX)
 | mpg (x:AX)
 | mpn (x:AX)
 | mpe (x:AX)
 | mpd (x s:AX)
 | clr (x:AX) (n:Nat) (z:List AV)
 | al (z:List AV)
 | alb (T e:Nat)
 | bo (x:AX)
 | st (x y:AX) (m:Nat)
 | bs (fz:Bool) (n:Nat) (ps:List AX)
 | ap (x y:AX) (n bytes:Nat)
 | aps (x y:AX)
 | ms (l c:AX) (n bytes:Nat) (z:List AV)
 | cl (f:Nat) (xs:List AX)
 | cc (f:AX) (xs:List AX)
def As.isV:As→Bool
 | .al _ | .alb _ _ | .bo _ | .st _ _ _ | .bs _ _ _ | .ap _ _ _ _ | .aps _ _ | .ms _ _ _ _ _ | .cl _ _ | .cc _ _ | .nl _ _ | .mk | .mu _ _ _ | .mpg _ | .mpn _ | .mpe _ | .mpd _ _ | .clr _ _ _=>false
 | _=>true
def As.isC:As→Bool
 | .cl _ _ | .cc _ _=>true
 | _=>false
def Ab9 (k:IntKind) (a b:Int):Int:=k.wrap (a*2 ^ (min b.toNat k.bits))
def Ac3 (k:IntKind) (a b:Int):Int:=a.fdiv (2 ^ (min b.toNat k.bits))
def Ad7 (k:IntKind) (a b:Int):Int:=k.wrap (BitVec.ofInt k.bits a &&& BitVec.ofInt k.bits b).toNat
def orI (k:IntKind) (a b:Int):Int:=k.wrap (BitVec.ofInt k.bits a ||| BitVec.ofInt k.bits b).toNat
def Adg (k:IntKind) (a b:Int):Int:=k.wrap (BitVec.ofInt k.bits a ^^^ BitVec.ofInt k.bits b).toNat
def ZJ (op:BinOp) (k:IntKind) (a:Int) (k':IntKind) (b:Int):Option AV :=
 match op with
 | .shl=>some (.i k (Ab9 k a b))
 | .shr=>some (.i k (Ac3 k a b))
 | .add=>if k=k' then some (.i k (k.wrap (a+b))) else none
 | .sub=>if k=k' then some (.i k (k.wrap (a - b))) else none
 | .mul=>if k=k' then some (.i k (k.wrap (a*b))) else none
 | .quo=>if k=k' then some (.i k (k.wrap (a.tdiv b))) else none
 | .rem=>if k=k' then some (.i k (a.tmod b)) else none
 | .and=>if k=k' then some (.i k (Ad7 k a b)) else none
 | .or=>if k=k' then some (.i k (orI k a b)) else none
 | .xor=>if k=k' then some (.i k (Adg k a b)) else none
 | .andNot=>none
 | .eql=>if k=k' then some (.b (decide (a=b))) else none
 | .neq=>if k=k' then some (.b (!decide (a=b))) else none
 | .lss=>if k=k' then some (.b (decide (a<b))) else none
 | .leq=>if k=k' then some (.b (decide (a≤b))) else none
 | .gtr=>if k=k' then some (.b (decide (b<a))) else none
 | .geq=>if k=k' then some (.b (decide (b≤a))) else none
def ZR (op:BinOp) (a b:ByteArray):Option AV :=
 match op with
 | .add=>some (.s (a++b))
 | .eql=>some (.b (decide (a=b)))
 | .neq=>some (.b (!decide (a=b)))
 | .lss=>some (.b (Op.bytesLess a.toList b.toList))
 | .gtr=>some (.b (!(Op.bytesLess a.toList b.toList||decide (a=b))))
 | .leq=>some (.b (Op.bytesLess a.toList b.toList||decide (a=b)))
 | .geq=>some (.b (!(Op.bytesLess a.toList b.toList)))
 | _=>none
def eqB (op:BinOp) (e:Bool):Option AV :=
 match op with
 | .eql=>some (.b e)
 | .neq=>some (.b (!e))
 | _=>none
def VD (op:BinOp) (c:Nat):AV→AV→Option AV
 | .i k a,.i k' b=>if c=0 then ZJ op k a k' b else none
 | .s a,.s b=>if c=0 then ZR op a b else none
 | .b a,.b b=>if c=1 then eqB op (a == b) else none
 | .np,.np=>if c=2 then eqB op true else none
 | .bx _ _,.np=>if c=2 then eqB op false else none
 | _,_=>none
def YC:BinOp→AV→AV→Prop
 | .quo,.i _ _,.i _ b=>b≠0
 | .rem,.i _ _,.i _ b=>b≠0
 | .shl,.i _ _,.i _ b=>0≤b
 | .shr,.i _ _,.i _ b=>0≤b
 | .add,.s a,.s b=>a.size+b.size≤9223372036854775807
 | _,_,_=>True
def unV:UnOp→AV→Option AV
 | .not,.b x=>some (.b (!x))
 | .neg,.i k n=>some (.i k (k.wrap (0 - n)))
 | _,_=>none
def byt:List (List AV)→Option (List UInt8)
 | []=>some []
 | [.i .u8 n]::r=>match byt r with
  | some l=>some (UInt8.ofNat n.toNat::l)
  | none=>none
 | _=>none
def Vs (f:AX→AV):List AV→List (Nat × Nat × AX)→Option (List AV)
 | z,[]=>some z
 | z,(off,m,s)::r=>match (f s).cl with
  | some cs=>if cs.length=m∧off+m≤z.length then Vs f (z.take off++cs++z.drop (off+m)) r else none
  | none=>none
def eqk:Nat→AV→AV→Option Bool
 | 0,.i k a,.i k' b=>if k=k' then some (decide (a=b)) else none
 | 1,.b a,.b b=>some (a == b)
 | 3,.s a,.s b=>some (decide (a=b))
 | _,_,_=>none
def X5:List Nat→List AV→List AV→Option Bool
 | [],[],[]=>some true
 | k::ks,x::xs,y::ys=>match eqk k x y,X5 ks xs ys with
  | some e,some r=>some (e&&r)
  | _,_=>none
 | _,_,_=>none
def Ua (hp:CH) (str:Bool) (α:AV):Option Int :=
 match str with
 | true=>match α with
  | .s x=>some x.size
  | _=>none
 | false=>match sl hp α with
  | some l=>some l.length
  | none=>none
def Tl:AV→Option Int
 | .i _ n=>some n
 | _=>none
def Gu (f:AX→AV):Option AX→Option Int
 | none=>some 0
 | some s=>Tl (f s)
def Fz (f:AX→AV) (len:Int):Option AX→Option Int
 | none=>some len
 | some s=>Tl (f s)
def CM (n:Nat):AV→Nat→Nat→Option AV
 | .ds l,lo,hi=>some (.ds ((l.take hi).drop lo))
 | .e0,_,_=>some .e0
 | .rw k g _,0,hi=>some (.rw k g hi)
 | .rw k g _,lo+1,hi=>some (.rf k g n (lo+1) (hi - (lo+1)))
 | .rf k g n' off _,lo,hi=>if n'=n then some (.rf k g n (off+lo) (hi - lo)) else none
 | _,_,_=>none
def WT (hp:CH):AV→AV
 | .ds l=>.ds l
 | .e0=>.e0
 | .rw k g len=>match gc hp k with
  | .sh g' _ l=>if g=g'∧len≤l.length then .ds (l.take len) else .rw k g len
  | _=>.rw k g len
 | x=>x
def By (b:ByteArray):List (ByteArray × AV)→Option AV
 | []=>none
 | (x,α)::r=>if b=x then some α else By b r
def Dg (b:ByteArray) (β:AV):List (ByteArray × AV)→List (ByteArray × AV)
 | []=>[(b,β)]
 | (x,α)::r=>if b=x then (b,β)::r else (x,α)::Dg b β r
def C3 (b:ByteArray):List (ByteArray × AV)→List (ByteArray × AV)
 | []=>[]
 | (x,α)::r=>if b=x then r else (x,α)::C3 b r
def lkV:Bool→AV→Option AV→AV
 | true,_,some α=>.tp [α,.b true]
 | true,z,none=>.tp [z,.b false]
 | false,_,some α=>α
 | false,z,none=>z
def pkV:AV→AV→AV→Option AV
 | .b x,.b y,.b z=>some (.b (bif x then y else z))
 | .b true,.b y,.un=>some (.b y)
 | .b false,.un,.b z=>some (.b z)
 | _,_,_=>none
def ncV:AV→Option AV
 | .bx k off=>some (.bx k off)
 | .ep α n i off=>some (.ep α n i off)
 | _=>none
def s0V:AV→Option AV
 | .ds _=>some .e0
 | .e0=>some .e0
 | .rw _ _ _=>some .e0
 | _=>none
def As.val (hp:CH) (f:AX→AV):As→Option AV
 | .mv x=>some (f x)
 | .pk c a b=>pkV (f c) (f a) (f b)
 | .bd z ps=>(Vs f z ps).map .ag
 | .ld x m ag=>(HR hp m (f x)).map fun cs=>if ag then .ag cs else cs.getD 0 .un
 | .bin op c x y=>VD op c (f x) (f y)
 | .un op x=>unV op (f x)
 | .ci k x=>match f x with
  | .i _ n=>some (.i k (k.wrap n))
  | _=>none
 | .cs x=>match f x with
  | .s y=>some (.s y)
  | _=>none
 | .cb x=>match sl hp (f x) with
  | some l=>match byt l with
   | some b=>some (.s ⟨b.toArray⟩)
   | none=>none
  | none=>none
 | .mi t x=>some (.fc t (f x))
 | .mf g xs=>some (.fn g (xs.map f))
 | .fa x off=>RJ off (f x)
 | .fl x off m ag=>match f x with
  | .ag l=>if off+m≤l.length then some (if ag then .ag ((l.drop off).take m) else l.getD off .un) else none
  | _=>none
 | .ia x i n=>match f i with
  | .i _ j=>some (.ep (f x) n j.toNat 0)
  | _=>none
 | .ta x t z=>match f x with
  | .fc u y=>if u=t then some (.tp [y,.b true]) else some (.tp [z,.b false])
  | .ni=>some (.tp [z,.b false])
  | _=>none
 | .ex x j=>match f x with
  | .tp l=>l[j]?
  | _=>none
 | .ln str x=>(Ua hp str (f x)).map (.i .i64)
 | .eqs neg ks x y=>match f x,f y with
  | .ag l,.ag l'=>match X5 ks l l' with
   | some e=>some (.b (if neg then !e else e))
   | none=>none
  | _,_=>none
 | .sc x lo hi n=>match sl hp (f x) with
  | some l=>match Gu f lo,Fz f l.length hi with
   | some a,some b=>CM n (WT hp (f x)) a.toNat b.toNat
   | _,_=>none
  | none=>none
 | .ss x lo hi=>match f x with
  | .s y=>match Gu f lo,Fz f y.size hi with
   | some a,some b=>some (.s (y.extract a.toNat b.toNat))
   | _,_=>none
  | _=>none
 | .mm mx x y=>match f x,f y with
  | .i k a,.i k' b=>if k=k' then some (.i k (match mx with | true=>if a<b then b else a | false=>if b<a then b else a)) else none
  | _,_=>none
 | .ai x i len m ag=>match f x,f i with
  | .ag l,.i _ j=>if j.toNat*m+m≤l.length then some (if ag then .ag ((l.drop (j.toNat*m)).take m) else l.getD (j.toNat*m) .un) else none
  | _,_=>none
 | .pa x i len m=>match f x,f i with
  | .bx k o,.i _ j=>some (.bx k (o+m*j.toNat))
  | _,_=>none
 | .s0 x=>s0V (f x)
 | .nc x=>ncV (f x)
 | .lk x s ok z=>match f x,f s with
  | .mp k,.s b=>match gc hp k with
   | .mp l=>some (lkV ok z (By b l))
   | .mr l _=>some (lkV ok z (By b l))
   | _=>none
  | _,_=>none
 | .ix x i=>match f x,f i with
  | .s y,.i _ j=>some (.i .u8 ((y.data.toList.getD j.toNat 0).toNat))
  | _,_=>none
 | _=>none
def P1 (f:AX→AV) (len:Int) (lo hi:Option AX):Prop :=
 match Gu f lo,Fz f len hi with
 | some a,some b=>0≤a∧a≤b∧b≤len
 | _,_=>False
def As.pre (hp:CH) (f:AX→AV):As→Prop
 | .bin op c x y=>YC op (f x) (f y)
 | .ia x i n=>match f i,sl hp (f x) with
  | .i _ j,some l=>0≤j∧j.toNat<l.length
  | _,_=>False
 | .ai x i len m ag=>match f i with
  | .i _ j=>0≤j∧j<len
  | _=>False
 | .pa x i len m=>match f i with
  | .i _ j=>0≤j∧j<len
  | _=>False
 | .sc x lo hi n=>match sl hp (f x) with
  | some l=>P1 f l.length lo hi∧∀e∈l,e.length=n
  | none=>False
 | .ss x lo hi=>match f x with
  | .s y=>P1 f y.size lo hi
  | _=>False
 | .ix x i=>match f x,f i with
  | .s y,.i _ j=>0≤j∧j.toNat<y.size
  | _,_=>False
 | _=>True
/-! ### From the model's operations to compact ones -/
def HF (N:Nat):Option Operand→Option (Option AX)
 | none=>some none
 | some x=>(Bl N x).map some
def srcs (N:Nat):List Operand→Option (List AX)
 | []=>some []
 | x::r=>match Bl N x,srcs N r with
  | some s,some l=>some (s::l)
  | _,_=>none
def J4 (P:Program) (N:Nat) (t:TypeId):List (Nat × Operand)→Option (List (Nat × Nat × AX))
 | []=>some []
 | (i,x)::r=>match Ln P t i,Bl N x,J4 P N t r with
  | some fd,some s,some l=>match DG P fd.type with
   | some z=>some ((fd.offset,z,s)::l)
   | none=>none
  | _,_,_=>none
def IC (N z:Nat):List (Nat × Operand)→Option (List (Nat × Nat × AX))
 | []=>some []
 | (i,x)::r=>match Bl N x,IC N z r with
  | some s,some l=>some ((i*z,z,s)::l)
  | _,_=>none
def G8 (P:Program):Nat→List Field→Option (List Nat)
 | _,[]=>some []
 | o,f::r=>match P.underlying f.type,G8 P (o+1) r with
  | some (.int _), some l => if f.offset = o ∧ f.name ≠ "_" then some (0 :: l) else none
  | some .string, some l => if f.offset = o ∧ f.name ≠ "_" then some (3 :: l) else none
  | some .bool, some l => if f.offset = o ∧ f.name ≠ "_" then some (1 :: l) else none
  | _,_=>none
def VG (P:Program) (t:TypeId):Option Nat :=
 match P.underlying t with
 | some (.int _) | some .string=>some 0
 | some .bool=>some 1
 | some (.pointer _)=>some 2
 | _=>none
def Is:Nat→List (Nat × Operand)→Bool
 | _,[]=>true
 | k,(i,_)::r=>i == k&&Is (k+1) r
def U9 (ops:List Oper) (d:Option Tmp):Bool :=
 match d with
 | none=>false
 | some t=>ops.any fun o=>match o.op with
  | .call c=>match c.callee,(c.args[1]?:Option Operand) with
   | .builtin .append,some (.tmp u)=>u == t
   | _,_=>false
  | _=>false
def Pf (ops:List Oper):Nat→Tmp→Bool
 | 0,_=>false
 | k+1,t=>ops.any fun o=>match o.op with
  | .call c=>match c.callee with
   | .value (.func _)=>c.args.any fun x=>match x with
    | .tmp u=>u == t
    | _=>false
   | .builtin .append=>match (c.args[1]?:Option Operand) with
    | some (.tmp u)=>u == t
    | _=>false
   | _=>false
  | .build _ ps=>(ps.any fun p=>match p.2 with
    | .tmp u=>u == t
    | _=>false)&&match o.dst with
     | some u=>Pf ops k u
     | none=>false
  | .buildSlice _ _ ps=>(ps.any fun p=>match p.2 with
    | .tmp u=>u == t
    | _=>false)&&match o.dst with
     | some u=>Pf ops k u
     | none=>false
  | _=>false
def UE (ops:List Oper) (d:Option Tmp):Bool :=
 match d with
 | none=>false
 | some t=>Pf ops 3 t
def sbZ:Value→Bool
 | .agg cs=>match cs.toList with
  | [.pointer none,.slice none 0 0]=>true
  | _=>false
 | _=>false
def sbT (P:Program) (t:TypeId):Option Nat :=
 match P.underlying t with
 | some (.struct fs)=>match fs.toList with
  | [f0,f1]=>match P.underlying f0.type,P.underlying f1.type with
   | some (.pointer t'),some (.slice e)=>if t'=t then some e else none
   | _,_=>none
  | _=>none
 | _=>none
def alC (P:Program) (t:TypeId) (z:Value):Option As :=
 match sbZ z,sbT P t with
 | true,some e=>some (.alb t e)
 | _,_=>(DF z.cells.toList).map .al
theorem YO {z:Value} (h:sbZ z=true):z=.agg #[.pointer none,.slice none 0 0]:=by
 unfold sbZ at h
 split at h
 .rename_i cs
  split at h
  .rename_i e
   congr 1
   exact Array.ext' e
  .cases h
 .cases h
theorem OK {P:Program} {t:TypeId} {z:Value} {c:As} (h:alC P t z=some c):(∃zl,DF z.cells.toList=some zl∧c=.al zl)∨(∃e,c=.alb t e∧z=.agg #[.pointer none,.slice none 0 0]):=by
 unfold alC at h
 split at h
 .rename_i e hz _
  cases h
  exact .inr ⟨e,rfl,YO hz⟩
 .cases ec:DF z.cells.toList with
  | none=>rw [ec] at h;cases h
  | some zl=>rw [ec] at h;cases h;exact .inl ⟨zl,rfl,rfl⟩
def nlC:BinOp→Operand→AX→Option As
 | .eql,.const (.slice none 0 0),x=>some (.nl false x)
 | .neq,.const (.slice none 0 0),x=>some (.nl true x)
 | _,_,_=>none
def MD (P:Program) (N:Nat) (ops:List Oper) (o:Oper):Option As :=
 match o.op with
 | .move x | .assign x=>(Bl N x).map .mv
 | .pick c a b=>match Bl N c,Bl N a,Bl N b with
  | some c,some a,some b=>some (.pk c a b)
  | _,_,_=>none
 | .build t ps=>match P.info? t,P.underlying t,J4 P N t ps.toList with
  | some i,some (.struct fs),some l=>match i.zero,fs.toList.mapM (fun f=>(P.info? f.type).map fun i=>(f.offset,i.size)) with
   | some z,some _=>(DF z.cells.toList).map fun z=>.bd z l
   | _,_=>none
  | some i,some (.array len e),_=>match i.zero,DG P e with
   | some z,some n=>match IC N n ps.toList with
    | some l=>(DF z.cells.toList).map fun z=>.bd z l
    | none=>none
   | _,_=>none
  | _,_,_=>none
 | .load t x=>match Ww P t,Bl N x with
  | some (m,ag),some s=>if ag=false∧m≠1 then none else some (.ld s m ag)
  | _,_=>none
 | .binOp op t x y _=>match Bl N x,Bl N y with
  | some sx,some sy=>match VG P t with
   | some c=>some (.bin op c sx sy)
   | none=>match P.underlying t with
    | some (.struct fs)=>match G8 P 0 fs.toList,op with
     | some ks,.eql=>if P.stoodInHeld t=false∧P.eqGuardType P.depth t=false then some (.eqs false ks sx sy) else none
     | some ks,.neq=>if P.stoodInHeld t=false∧P.eqGuardType P.depth t=false then some (.eqs true ks sx sy) else none
     | _,_=>none
    | some (.slice _)=>nlC op y sx
    | _=>none
  | _,_=>none
 | .unOp op _ x=>(Bl N x).map (.un op)
 | .convert s d x=>match Bl N x,P.underlying s,P.underlying d with
  | some x,some _,some (.int k)=>some (.ci k x)
  | some x,some .string,some .string=>some (.cs x)
  | some x,some (.slice e),some .string=>match P.underlying e with
   | some (.int .u8)=>if DG P e=some 1 then some (.cb x) else none
   | _=>none
  | _,_,_=>none
 | .makeInterface t x=>match Bl N x,P.underlying t with
  | some _,some (.interface _)=>none
  | some x,some _=>some (.mi t x)
  | _,_=>none
 | .makeFunc (.func f) first cap=>if first.isEmpty then (srcs N cap.toList).map (.mf f) else none
 | .typeAssert x _ t ok=>match Bl N x,P.underlying t,P.info? t with
  | some _,some (.interface _),_=>none
  | some x,some _,some i=>match i.zero with
   | some z=>if ok then (XW z).map (.ta x t) else none
   | none=>none
  | _,_,_=>none
 | .extract x j=>(Bl N x).map fun x=>.ex x j
 | .fieldAddr t x f=>match Bl N x,Ln P t f with
  | some x,some fd=>match DG P fd.type with
   | some z=>if z=0 then none else some (.fa x fd.offset)
   | none=>none
  | _,_=>none
 | .field t x f=>match Bl N x,Ln P t f with
  | some x,some fd=>match Ww P fd.type with
   | some (m,ag)=>if ag=false∧m≠1 then none else some (.fl x fd.offset m ag)
   | none=>none
  | _,_=>none
 | .indexAddr t x i=>match Bl N x,Bl N i,HA P t with
  | some x,some i,some e=>(DG P e).map (.ia x i)
  | some x,some i,none=>match P.underlying t with
   | some (.array len e)=>(DG P e).map (.pa x i len)
   | _=>none
  | _,_,_=>none
 | .index t x i=>match Bl N x,Bl N i,P.underlying t with
  | some x,some i,some .string=>some (.ix x i)
  | some x,some i,some (.array len e)=>match Ww P e with
   | some (m,ag)=>if ag=false∧m≠1 then none else some (.ai x i len m ag)
   | none=>none
  | _,_,_=>none
 | .slice t x lo hi none=>match Bl N x,HF N lo,HF N hi,P.underlying t with
  | some x,some lo,some hi,some (.slice e)=>(DG P e).map (.sc x lo hi)
  | some x,some lo,some hi,some .string=>some (.ss x lo hi)
  | _,_,_,_=>none
 | .slice t x none (some hi) (some mx)=>match Bl N x,Bl N hi,Bl N mx,P.underlying t with
  | some x,some (.c (.i _ h)),some (.c (.i _ m)),some (.slice e)=>if h=0∧m=0 then (DG P e).map fun _=>.s0 x else none
  | _,_,_,_=>none
 | .alloc t=>match P.info? t with
  | some i=>match i.zero with
   | some z=>alC P t z
   | none=>none
  | none=>none
 | .box _ x=>(Bl N x).map .bo
 | .store t x y=>match Bl N x,Bl N y,DG P t with
  | some x,some y,some m=>some (.st x y m)
  | _,_,_=>none
 | .buildSlice t len ps=>match HA P t,srcs N (ps.toList.map (·.2)) with
  | some e,some l=>match DG P e with
   | some n=>if Is 0 ps.toList∧ps.toList.length=len∧len*n≤16777216∧((P.info? e).bind (·.zero)).isSome∧n≠0 then some (.bs (U9 ops o.dst||UE ops o.dst) n l) else none
   | none=>none
  | _,_=>none
 | .makeSlice t l c=>match Bl N l,Bl N c,HA P t with
  | some l,some c,some e=>match P.info? e with
   | some i=>match i.zero with
    | some z=>if z.cells.size=i.size then (DF z.cells.toList).map (.ms l c i.size i.bytes) else none
    | none=>none
   | none=>none
  | _,_,_=>none
 | .nilCheck x=>(Bl N x).map .nc
 | .makeMap t none=>match P.underlying t with
  | some (.map k e)=>match P.underlying k with
   | some .string=>some .mk
   | _=>none
  | _=>none
 | .lookup t x ix ok=>match Bl N x,Bl N ix,P.underlying t with
  | some x,some ix,some (.map k e)=>match P.underlying k,P.info? e with
   | some .string,some i=>match i.zero with
    | some z=>(XW z).map (.lk x ix ok)
    | none=>none
   | _,_=>none
  | _,_,_=>none
 | .mapUpdate t m k x=>match Bl N m,Bl N k,Bl N x,P.underlying t with
  | some m,some s,some x,some (.map k e)=>match P.underlying k with
   | some .string=>some (.mu m s x)
   | _=>none
  | _,_,_,_=>none
 | .range t x=>match Bl N x,P.underlying t with
  | some x,some (.map k e)=>match P.underlying k with
   | some .string=>some (.mpg x)
   | _=>none
  | _,_=>none
 | .next it false=>(Bl N it).map .mpn
 | .entry it=>(Bl N it).map .mpe
 | .call c=>match c.callee with
  | .builtin .len=>match srcs N c.args.toList,c.argTypes.toList with
   | some [x],[t]=>match P.underlying t with
    | some .string=>some (.ln true x)
    | some (.slice _)=>some (.ln false x)
    | _=>none
   | _,_=>none
  | .builtin .append=>match srcs N c.args.toList,c.argTypes.toList with
   | some [x,y],[t,u]=>match HA P t,P.underlying u with
    | some e,some (.slice _)=>match P.info? e with
     | some i=>match i.zero with
      | some z=>if z.cells.size=i.size then some (.ap x y i.size i.bytes) else none
      | none=>none
     | none=>none
    | some e,some .string=>match P.info? e with
     | some i=>match i.zero with
      | some z=>if z.cells.size=i.size∧i.size=1∧i.bytes=1 then some (.aps x y) else none
      | none=>none
     | none=>none
    | _,_=>none
   | _,_=>none
  | .builtin .min=>match srcs N c.args.toList with
   | some [x,y]=>some (.mm false x y)
   | _=>none
  | .builtin .max=>match srcs N c.args.toList with
   | some [x,y]=>some (.mm true x y)
   | _=>none
  | .builtin .delete=>match srcs N c.args.toList,c.argTypes.toList with
   | some [m,s],[t,u]=>match P.underlying t with
    | some (.map k e)=>match P.underlying k with
     | some .string=>some (.mpd m s)
     | _=>none
    | _=>none
   | _,_=>none
  | .builtin .clear=>match srcs N c.args.toList,c.argTypes.toList with
   | some [x],[t]=>match HA P t with
    | some e=>match P.info? e with
     | some i=>match i.zero with
      | some z=>if z.cells.size=i.size then (DF z.cells.toList).map (.clr x i.size) else none
      | none=>none
     | none=>none
    | none=>none
   | _,_=>none
  | .value (.func f)=>(srcs N c.args.toList).map (.cl f)
  | .value x=>match Bl N x,srcs N c.args.toList with
   | some x,some l=>some (.cc x l)
   | _,_=>none
  | _=>none
 | _=>none
/-! ### Laws of single operations -/
theorem Cw {P:Program} {w w':World} {s:Sem Value} {v:Value} (h:s.run P w=.ok v w'):(do pure (Next.value (←s)):Sem Next).run P w=.ok (.value v) w':=by
 simp [Sem.run_bind,h]
theorem O0 {a b:ByteArray} (h:a.toList=b.toList):a=b:=by
 rw [ByteArray.toList_eq,ByteArray.toList_eq] at h
 cases a
 cases b
 congr
 exact Array.ext' h
theorem Jt (a b:ByteArray):(a.toList == b.toList)=decide (a=b):=by
 by_cases h:a=b
 .subst h
  simp
 .have:¬a.toList=b.toList:=fun e=>h (O0 e)
  simp [h,this]
theorem LI (a b:Int):(a == b)=decide (a=b):=by by_cases h:a=b<;>simp [h]
theorem IY {P:Program} (w:World) (d:Nat) {t e:TypeId} (hu:P.underlying t=some (.pointer e)):(Op.equalIn (d+1) t (.pointer none) (.pointer none)).run P w=.ok true w:=by
 simp [Op.equalIn,run_underlying hu]
theorem II {P:Program} (w:World) (d:Nat) {t e:TypeId} (a:Addr) (hu:P.underlying t=some (.pointer e)):(Op.equalIn (d+1) t (.pointer (some a)) (.pointer none)).run P w=.ok false w:=by
 simp [Op.equalIn,run_underlying hu]
theorem Ps {P:Program} {h:HP} {ρ:RO} {w:World} {op:BinOp} {t:TypeId} {c:Nat} {x y:Operand} (hc:VG P t=some c) {α β γ:AV} {u v:Value}
  (ru:AN h ρ α u) (rv:AN h ρ β v) (hp:YC op α β) (hv:VD op c α β=some γ) :
  ∃z,(do eqGuard op t x y u v;binOp op t u v:Sem Value).run P w=.ok z w∧AN h ρ γ z:=by
 have hu1:c=1→P.underlying t=some .bool:=by
  intro e;subst e;unfold VG at hc;split at hc<;>simp_all
 have hu2:c=2→∃e,P.underlying t=some (.pointer e):=by
  intro e;subst e;unfold VG at hc;split at hc<;>simp_all
 have hi:∀(k:IntKind) (n:Int),AN h ρ (.i k n) (.int k n):=fun k n=>.pu _ _ (.i k n)
 have hbb:∀(b:Bool),AN h ρ (.b b) (.bool b):=fun b=>.pu _ _ (.b b)
 have hss:∀(b:ByteArray),AN h ρ (.s b) (.string b):=fun b=>.pu _ _ (.s b)
 have fin:∀e,(Op.equal t u v).run P w=.ok e w→eqGuard op t x y u v=pure ()→(op=.eql→binOp op t u v=(do pure (.bool (←Op.equal t u v)))) →
   (op=.neq→binOp op t u v=(do pure (.bool (!(←Op.equal t u v)))))→eqB op e=some γ→∃z,(do eqGuard op t x y u v;binOp op t u v:Sem Value).run P w=.ok z w∧AN h ρ γ z:=by
  intro e he hg h1 h2 hq
  rw [hg]
  cases op<;>simp [eqB] at hq
  .subst hq
   refine ⟨_,?_,hbb _⟩
   rw [h1 rfl]
   simp [he]
  .subst hq
   refine ⟨_,?_,hbb _⟩
   rw [h2 rfl]
   simp [he]
 unfold VD at hv
 split at hv
 .rename_i k a k' b
  split at hv
  .rename_i hc0
   subst hc0
   obtain rfl:=ru.int
   obtain rfl:=rv.int
   cases op<;>simp [ZJ] at hv
   case quo=>obtain ⟨rfl,rfl⟩:=hv;refine ⟨_,?_,hi _ _⟩;simp [binOp_quo,eqGuard_at_int,Op.intDiv,show b≠0 from hp]
   case rem=>obtain ⟨rfl,rfl⟩:=hv;refine ⟨_,?_,hi _ _⟩;simp [binOp_rem,eqGuard_at_int,Op.intDiv,show b≠0 from hp]
   case shl=>obtain rfl:=hv;refine ⟨_,?_,hi _ _⟩;simp [binOp_shl,eqGuard_at_int,Op.shift,Ab9,show ¬b<0 from Int.not_lt.2 hp]
   case shr=>obtain rfl:=hv;refine ⟨_,?_,hi _ _⟩;simp [binOp_shr,eqGuard_at_int,Op.shift,Ac3,show ¬b<0 from Int.not_lt.2 hp]
   case eql=>obtain ⟨rfl,rfl⟩:=hv;refine ⟨_,?_,hbb _⟩;simp [binOp_eql,eqGuard_at_int,LI]
   case neq=>obtain ⟨rfl,rfl⟩:=hv;refine ⟨_,?_,hbb _⟩;simp [binOp_neq,eqGuard_at_int,bne,LI]
   case lss=>obtain ⟨rfl,rfl⟩:=hv;refine ⟨_,?_,hbb _⟩;simp [binOp_lss,eqGuard_at_int]
   case leq=>obtain ⟨rfl,rfl⟩:=hv;refine ⟨_,?_,hbb _⟩;simp [binOp_leq,eqGuard_at_int]
   case gtr=>obtain ⟨rfl,rfl⟩:=hv;refine ⟨_,?_,hbb _⟩;simp [binOp_gtr,eqGuard_at_int]
   case geq=>obtain ⟨rfl,rfl⟩:=hv;refine ⟨_,?_,hbb _⟩;simp [binOp_geq,eqGuard_at_int]
   all_goals
    obtain ⟨rfl,rfl⟩:=hv
    refine ⟨_,?_,hi _ _⟩
    simp [binOp,eqGuard_at_int,Op.intArith,Op.intBits,Ad7,orI,Adg]
    done
  .cases hv
 .rename_i a b
  split at hv
  .rename_i hc0
   subst hc0
   obtain rfl:=ru.str
   obtain rfl:=rv.str
   cases op<;>simp [ZR] at hv
   case add =>
    obtain rfl:=hv
    have Ao:a.size+b.size≤9223372036854775807:=hp
    refine ⟨_,?_,hss _⟩
    have:¬(((a.size+b.size:Nat):Int) > IntKind.i64.max):=by
     have:IntKind.i64.max=9223372036854775807:=by decide
     rw [this]
     omega
    simp only [binOp,Op.stringOp,eqGuard_at_string]
    rw [if_neg this]
    rfl
   all_goals
    obtain rfl:=hv
    refine ⟨_,?_,hbb _⟩
    simp [binOp,Op.stringOp,eqGuard_at_string,Jt]
    done
  .cases hv
 .rename_i a b
  split at hv
  .rename_i hc0
   obtain rfl:=ru.bool
   obtain rfl:=rv.bool
   exact fin _ (run_equalIn_bool' (P:=P) w 9999 t a b (hu1 hc0)) (eqGuard_at_bool ..) (fun e=>by subst e;rfl) (fun e=>by subst e;rfl) hv
  .cases hv
 .split at hv
  .rename_i hc0
   obtain ⟨e,hu⟩:=hu2 hc0
   have e1:u=.pointer none:=by cases ru with | pu _ _ p=>cases p;rfl
   have e2:v=.pointer none:=by cases rv with | pu _ _ p=>cases p;rfl
   subst e1
   subst e2
   exact fin true (IY w 9999 hu) (eqGuard_at_pointer ..) (fun e=>by subst e;rfl) (fun e=>by subst e;rfl) hv
  .cases hv
 .split at hv
  .rename_i hc0
   obtain ⟨e,hu⟩:=hu2 hc0
   obtain ⟨a,e1⟩:∃a,u=.pointer (some a):=by cases ru with | pu _ _ p=>cases p | bx _ _ b c e=>exact ⟨_,rfl⟩
   have e2:v=.pointer none:=by cases rv with | pu _ _ p=>cases p;rfl
   subst e1
   subst e2
   exact fin false (II w 9999 a hu) (eqGuard_at_pointer ..) (fun e=>by subst e;rfl) (fun e=>by subst e;rfl) hv
  .cases hv
 .cases hv
def SH (env:EN) (p:Prop):List AX→Prop
 | []=>True
 | s::r=>ob p (s.ev env)∧SH env p r
def obo (env:EN) (p:Prop):Option AX→Prop
 | none=>True
 | some s=>ob p (s.ev env)
def As.obs (env:EN) (p:Prop):As→Prop
 | .pk c a b=>ob p (c.ev env)∧match AR (c.ev env) with
  | .b x=>ob (p∧x=true) (a.ev env)∧ob (p∧x=false) (b.ev env)
  | _=>¬p
 | .mv x | .ld x _ _ | .un _ x | .ci _ x | .cs x | .cb x | .mi _ x | .fa x _ | .fl x _ _ _ | .ta x _ _ | .ex x _ | .ln _ x | .bo x | .s0 x | .nc x | .nl _ x=>ob p (x.ev env)
 | .bd _ ps=>SH env p (ps.map (·.2.2))
 | .bin _ _ x y | .ia x y _ | .eqs _ _ x y | .ix x y | .ai x y _ _ _ | .pa x y _ _ | .mm _ x y | .lk x y _ _ | .st x y _ | .ap x y _ _ | .aps x y | .ms x y _ _ _=>ob p (x.ev env)∧ob p (y.ev env)
 | .mf _ xs | .bs _ _ xs | .cl _ xs=>SH env p xs
 | .sc x lo hi _ | .ss x lo hi=>ob p (x.ev env)∧obo env p lo∧obo env p hi
 | .al _ | .alb _ _ | .mk=>True
 | .mu x s y=>ob p (x.ev env)∧ob p (s.ev env)∧ob p (y.ev env)
 | .mpg x | .mpn x | .mpe x=>ob p (x.ev env)
 | .mpd x s=>ob p (x.ev env)∧ob p (s.ev env)
 | .clr x _ _=>ob p (x.ev env)
 | .cc x xs=>ob p (x.ev env)∧SH env p xs
section
variable {P:Program} {C:Ctx} {st:St} {h:HP} {ρ:RO} {a:Act} {w:World} (S:Sat C st h ρ a w) {p:Prop} (hp:p)
include S hp
theorem A0 {x:Operand} {s:AX} (e:Bl C.N x=some s) (o:ob p (s.ev st.env)):AN h ρ (AR (s.ev st.env)) (a.eval x):=PN (SW S e) hp o
theorem DR {xs:List Operand} {l:List AX} (e:srcs C.N xs=some l) (o:SH st.env p l):Br h ρ (l.map fun s=>AR (s.ev st.env)) (xs.map a.eval):=by
 induction xs generalizing l with
 | nil=>simp [srcs] at e;subst e;exact .nil
 | cons x xs ih =>
  unfold srcs at e
  split at e
  .rename_i s l' e1 e2
   cases e
   exact .cons (A0 S hp e1 o.1) (ih e2 o.2)
  .cases e
end
theorem UC {off:Nat}:∀(cs:List Value) (k:Nat) (cells:Array Value),off+k+cs.length≤cells.size →
  ((cs.zipIdx k).foldl (fun (x:Array Value) (c:Value × Nat)=>x.setIfInBounds (off+c.2) c.1) cells).size=cells.size ∧
  ∀j:Nat,((cs.zipIdx k).foldl (fun (x:Array Value) (c:Value × Nat)=>x.setIfInBounds (off+c.2) c.1) cells)[j]?=if off+k≤j∧j<off+k+cs.length then cs[j - (off+k)]? else cells[j]?:=by
 intro cs
 induction cs with
 | nil =>
  intro k cells _
  refine ⟨rfl,fun j=>?_⟩
  have:¬(off+k≤j∧j<off+k+0):=by omega
  simp
  omega
 | cons c cs ih =>
  intro k cells hk
  simp only [List.length_cons] at hk
  simp only [List.zipIdx_cons,List.foldl_cons,List.length_cons]
  obtain ⟨i1,i2⟩:=ih (k+1) (cells.setIfInBounds (off+k) c) (by simp;omega)
  refine ⟨by rw [i1];simp,fun j=>?_⟩
  rw [i2 j,Array.getElem?_setIfInBounds]
  by_cases c1:j=off+k
  .subst c1
   rw [if_neg (by omega),if_pos rfl,if_pos (by omega),if_pos (by omega)]
   simp
  .by_cases c2:off+(k+1)≤j∧j<off+(k+1)+cs.length
   .rw [if_pos c2,if_pos (by omega)]
    rw [show j - (off+k)=(j - (off+(k+1)))+1 by omega]
    simp
   .rw [if_neg c2,if_neg (by omega),if_neg (by omega)]
theorem Nn {h:HP} {ρ:RO} {a:Act} {f:AX→AV} {places:Nat→Option (Nat × Nat)} :
    ∀(ps:List (Nat × Nat × AX)) (vs:List (Nat × Value)) (z:List AV) (cells:Array Value) (out:List AV),
      ps.length=vs.length→(∀(j:Nat) q i v,ps[j]?=some q→vs[j]?=some (i,v)→places i=some (q.1,q.2.1)∧AN h ρ (f q.2.2) v) →
      Br h ρ z cells.toList→Vs f z ps=some out→∃cs,Instr.fill places cells vs=some cs∧Br h ρ out cs.toList:=by
  intro ps
  induction ps with
  | nil =>
    intro vs z cells out hl _ hz hb
    cases vs with
    | nil => simp [Vs] at hb; subst hb; exact ⟨cells, rfl, hz⟩
    | cons => simp at hl
  | cons q ps ih =>
    intro vs z cells out hl hx hz hb
    cases vs with
    | nil => simp at hl
    | cons v vs =>
      obtain ⟨i,v⟩:=v
      obtain ⟨off,m,s⟩:=q
      obtain ⟨hpl0,hr⟩:=hx 0 (off,m,s) i v rfl rfl
      have JG:places i=some (off,m):=hpl0
      unfold Vs at hb
      split at hb
      . rename_i cs Oe
        split at hb
        . rename_i hc
          have hrc:=AV.cl_rel hr Oe
          have DN : v.cells.size = m := by have := hrc.1; simp at this; omega
          have hzl:=hz.1
          simp only [Array.length_toList] at hzl
          simp only [Instr.fill,JG]
          have hcond : ¬ ((decide (v.cells.size ≠ m) || decide (off + v.cells.size > cells.size)) = true) := by simp; omega
          rw [if_neg hcond]
          obtain ⟨s1, s2⟩ := UC (off := off) v.cells.toList 0 cells (by simp; omega)
          have ef : v.cells.zipIdx.foldl (fun (cs : Array Value) (x : Value × Nat) => cs.setIfInBounds (off + x.2) x.1) cells = (v.cells.toList.zipIdx 0).foldl (fun (x : Array Value) (c : Value × Nat) => x.setIfInBounds (off + c.2) c.1) cells := by
            rw [←Array.foldl_toList,Array.toList_zipIdx]
          rw [ef]
          refine ih vs _ _ out (by simpa using hl) (fun j q i v h1 h2 => hx (j + 1) q i v (by simpa using h1) (by simpa using h2)) ?_ hb
          have Bb:cs.length=v.cells.toList.length:=hrc.1
          have hlen2 : cs.length = v.cells.size := by simpa using Bb
          refine ⟨by simp only [Array.length_toList, s1]; simp; omega, fun j α u h1 h2 => ?_⟩
          rw [Array.getElem?_toList,s2 j] at h2
          simp only [List.append_assoc,List.getElem?_append,List.length_take,List.getElem?_take,List.getElem?_drop] at h1
          rw [show min off z.length = off by omega] at h1
          simp only [Array.length_toList] at h2
          by_cases c1:j<off
          . rw [if_pos c1, if_pos c1] at h1
            rw [if_neg (by omega)] at h2
            exact hz.2 j α u h1 (by simpa using h2)
          . rw [if_neg c1] at h1
            by_cases c2:j - off<cs.length
            . rw [if_pos c2] at h1
              rw [if_pos (by omega)] at h2
              exact hrc.2 _ α u h1 h2
            . rw [if_neg c2, show off + m + (j - off - cs.length) = j by omega] at h1
              rw [if_neg (by omega)] at h2
              exact hz.2 j α u h1 (by simpa using h2)
        . cases hb
      . cases hb
theorem Xr:∀(l:List (List AV)) (b:List UInt8),byt l=some b→∃xs:List Int,l=xs.map (fun n=>[AV.i .u8 n])∧b=xs.map (fun n=>UInt8.ofNat n.toNat):=by
 intro l
 induction l with
 | nil=>intro b hb;simp [byt] at hb;subst hb;exact ⟨[],rfl,rfl⟩
 | cons e l ih =>
  intro b hb
  unfold byt at hb
  split at hb
  .rename_i e1;cases e1
  .rename_i n r e1
   cases e1
   split at hb
   .rename_i l' hl'
    cases hb
    obtain ⟨xs,rfl,rfl⟩:=ih l' hl'
    exact ⟨n::xs,rfl,rfl⟩
   .cases hb
  .cases hb
end Go.Eng
