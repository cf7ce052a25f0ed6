/- Proof. Conditions: none. -/
import Derived.Laws.Entries
import Derived.Laws.Tables
import Derived.Laws.StructEq
import Derived.Laws.Slices
import Derived.ChangeKeysEq
import Derived.MapKept
import Derived.Test.YtinbodeocoeneaaGreatDoorIc1
namespace Go.Eng
set_option linter.all false
def RelL (h:HP) (ρ:RO) (l:List AV) (vs:List Value):Prop:=l.length=vs.length∧∀(j:Nat) α v,l[j]?=some α→vs[j]?=some v→Rel h ρ α v
theorem RelL.nil {h:HP} {ρ:RO}:RelL h ρ [] []:=⟨rfl,fun j α v e=>by simp at e⟩
theorem RelL.cons {h:HP} {ρ:RO} {α:AV} {v:Value} {l:List AV} {vs:List Value} (r:Rel h ρ α v) (rs:RelL h ρ l vs):RelL h ρ (α::l) (v::vs) :=
 ⟨by simp [rs.1],fun j β u e1 e2=>by
  cases j with
  | zero=>simp at e1 e2;subst e1;subst e2;exact r
  | succ j=>exact rs.2 j β u (by simpa using e1) (by simpa using e2)⟩
theorem RelL.mono {h h':HP} {ρ ρ':RO} (hh:HLe h h') (hr:RLe ρ ρ') {l:List AV} {vs:List Value} (r:RelL h ρ l vs):RelL h' ρ' l vs :=
 ⟨r.1,fun j α v e1 e2=>(r.2 j α v e1 e2).mono hh hr⟩
theorem Rel.agg {h:HP} {ρ:RO} {l:List AV} {v:Value} (r:Rel h ρ (.ag l) v):∃vs:List Value,v=.agg vs.toArray∧RelL h ρ l vs:=by
 cases r with
 | pu _ _ p =>
  cases p with
  | ag _ vs e hx=>exact ⟨vs,rfl,e,fun j α v a b=>.pu _ _ (hx j α v a b)⟩
 | ag _ vs e hx=>exact ⟨vs,rfl,e,hx⟩
theorem Rel.tup {h:HP} {ρ:RO} {l:List AV} {v:Value} (r:Rel h ρ (.tp l) v):∃vs:List Value,v=.tuple vs.toArray∧RelL h ρ l vs:=by
 cases r with
 | pu _ _ p =>
  cases p with
  | tp _ vs e hx=>exact ⟨vs,rfl,e,fun j α v a b=>.pu _ _ (hx j α v a b)⟩
 | tp _ vs e hx=>exact ⟨vs,rfl,e,hx⟩
theorem Rel.mkAgg {h:HP} {ρ:RO} {l:List AV} {vs:List Value} (r:RelL h ρ l vs):Rel h ρ (.ag l) (.agg vs.toArray):=.ag _ _ r.1 r.2
theorem Rel.mkTup {h:HP} {ρ:RO} {l:List AV} {vs:List Value} (r:RelL h ρ l vs):Rel h ρ (.tp l) (.tuple vs.toArray):=.tp _ _ r.1 r.2
theorem Rel.bool {h:HP} {ρ:RO} {x:Bool} {v:Value} (r:Rel h ρ (.b x) v):v=.bool x:=by
 cases r with | pu _ _ p=>cases p with | b=>rfl
theorem Rel.int {h:HP} {ρ:RO} {k:IntKind} {x:Int} {v:Value} (r:Rel h ρ (.i k x) v):v=.int k x:=by
 cases r with | pu _ _ p=>cases p with | i=>rfl
theorem Rel.str {h:HP} {ρ:RO} {x:ByteArray} {v:Value} (r:Rel h ρ (.s x) v):v=.string x:=by
 cases r with | pu _ _ p=>cases p with | s=>rfl
theorem Rel.face {h:HP} {ρ:RO} {t:Nat} {x:AV} {v:Value} (r:Rel h ρ (.fc t x) v):∃u,v=.iface t u∧Rel h ρ x u:=by
 cases r with
 | pu _ _ p=>cases p with | fc _ _ u q=>exact ⟨u,rfl,.pu _ _ q⟩
 | fc _ _ u q=>exact ⟨u,rfl,q⟩
theorem Rel.nilf {h:HP} {ρ:RO} {v:Value} (r:Rel h ρ .ni v):v=.nilIface:=by
 cases r with | pu _ _ p=>cases p with | ni=>rfl
theorem Rel.func {h:HP} {ρ:RO} {f:Nat} {l:List AV} {v:Value} (r:Rel h ρ (.fn f l) v):∃vs:List Value,v=.func (.func f) #[] vs.toArray∧RelL h ρ l vs:=by
 cases r with
 | pu _ _ p=>cases p
 | fn _ _ vs e hx=>exact ⟨vs,rfl,e,hx⟩
def AV.one:AV→Bool
 | .un | .ag _ | .tp _ | .gd _ _=>false
 | _=>true
theorem AV.one_rel {h:HP} {ρ:RO} {α:AV} {v:Value} (r:Rel h ρ α v) (o:α.one=true):v.oneCell'=true:=by
 cases r with
 | pu _ _ p=>cases p<;>first | rfl | (simp [AV.one] at o)
 | _=>first | rfl | (simp [AV.one] at o)
theorem cells_one {v:Value} (o:v.oneCell'=true):v.cells=#[v]:=by cases v<;>simp [Value.cells,Value.oneCell'] at *
def AV.cl:AV→Option (List AV)
 | .ag l=>some l
 | α=>if α.one then some [α] else none
theorem AV.cl_rel {h:HP} {ρ:RO} {α:AV} {v:Value} (r:Rel h ρ α v) {l:List AV} (e:α.cl=some l):RelL h ρ l v.cells.toList:=by
 cases α with
 | ag l' =>
  simp only [AV.cl,Option.some.injEq] at e
  subst e
  obtain ⟨vs,rfl,rs⟩:=r.agg
  simpa [Value.cells] using rs
 | _ =>
  simp only [AV.cl] at e
  split at e
  .rename_i ho
   simp only [Option.some.injEq] at e
   subst e
   rw [cells_one (AV.one_rel r ho)]
   exact RelL.cons r .nil
  .cases e
def ones (l:List AV):Bool:=l.all AV.one
theorem ones_rel {h:HP} {ρ:RO} {l:List AV} {vs:List Value} (r:RelL h ρ l vs) (o:ones l=true):∀v∈vs,v.oneCell'=true:=by
 intro v hv
 obtain ⟨j,hj,rfl⟩:=List.mem_iff_getElem.1 hv
 have hj':j<l.length:=by rw [r.1];exact hj
 exact AV.one_rel (r.2 j l[j] vs[j] (by simp [hj']) (by simp [hj])) (List.all_eq_true.1 o _ (List.getElem_mem hj'))
/-! ### Operands -/
inductive Src where
 | t (n:Nat)
 | c (α:AV)
def Src.ev (env:EN):Src→AV
 | .t n=>ge env n
 | .c α=>α
def cav1:Value→Option AV
 | .bool x=>some (.b x)
 | .int k n=>some (.i k n)
 | .string x=>some (.s x)
 | .slice none 0 0=>some .e0
 | .pointer none=>some .np
 | .map none=>some .mn
 | .nilFunc=>some .nf
 | .nilIface=>some .ni
 | _=>none
def cavs:List Value→Option (List AV)
 | []=>some []
 | v::r=>match cav1 v,cavs r with
  | some α,some l=>some (α::l)
  | _,_=>none
def cav:Value→Option AV
 | .agg cs=>(cavs cs.toList).map .ag
 | v=>cav1 v
theorem cav1_rel {v:Value} {α:AV} (e:cav1 v=some α) (h:HP):PRel h α v:=by
 unfold cav1 at e
 split at e<;>first | (cases e;constructor) | cases e
theorem cavs_rel {vs:List Value} {l:List AV} (e:cavs vs=some l) (h:HP) (ρ:RO):RelL h ρ l vs:=by
 induction vs generalizing l with
 | nil=>simp [cavs] at e;subst e;exact .nil
 | cons v vs ih =>
  unfold cavs at e
  split at e
  .rename_i α l' e1 e2
   cases e
   exact .cons (.pu _ _ (cav1_rel e1 h)) (ih e2)
  .cases e
theorem cav_rel {v:Value} {α:AV} (e:cav v=some α) (h:HP) (ρ:RO):Rel h ρ α v:=by
 unfold cav at e
 split at e
 .rename_i cs
  cases hc:cavs cs.toList with
  | none=>simp [hc] at e
  | some l =>
   simp [hc] at e
   subst e
   have:=Rel.mkAgg (cavs_rel hc h ρ)
   simpa using this
 .exact .pu _ _ (cav1_rel e h)
def csrc (N:Nat):Operand→Option Src
 | .tmp t=>if t<N then some (.t t) else none
 | .const v=>(cav v).map .c
 | .func f=>some (.c (.fn f []))
 | .global _=>none
theorem csrc_rel {C:Ctx} {st:St} {h:HP} {ρ:RO} {a:Act} {w:World} (S:Sat C st h ρ a w) {x:Operand} {s:Src} (e:csrc C.N x=some s):Rel h ρ (s.ev st.env) (a.eval x):=by
 cases x with
 | tmp t =>
  simp only [csrc] at e
  split at e
  .rename_i ht
   cases e
   obtain ⟨v,hv,r⟩:=S.env t ht
   simp only [Act.eval,Src.ev]
   simpa [hv] using r
  .cases e
 | const v =>
  simp only [csrc] at e
  cases hc:cav v with
  | none=>simp [hc] at e
  | some α=>simp [hc] at e;subst e;exact cav_rel hc h ρ
 | func f=>simp only [csrc] at e;cases e;exact .fn f [] [] rfl (fun j α v e=>by simp at e)
 |_=>simp [csrc] at e
def fet:AV→AV
 | .gd _ x=>x
 | α=>α
def ob (p:Prop):AV→Prop
 | .gd c _=>p→c=true
 | _=>True
theorem fet_rel {h:HP} {ρ:RO} {α:AV} {v:Value} (r:Rel h ρ α v) {p:Prop} (hp:p) (o:ob p α):Rel h ρ (fet α) v:=by
 cases α with
 | gd c x =>
  have hc:c=true:=o hp
  cases r with
  | pu _ _ q=>cases q with | gd _ _ _ q1 _=>exact .pu _ _ (q1 hc)
  | gd _ _ _ q1 _=>exact q1 hc
 | _=>exact r
/-! ### The tables -/
def tyA (P:Program) (t:TypeId):Option (Nat × Bool) :=
 match P.info? t,P.underlying t with
 | some i,some d=>some (i.size,match d with | .struct _ | .array _ _=>true | _=>false)
 | _,_=>none
def tySz (P:Program) (t:TypeId):Option Nat:=(P.info? t).map (·.size)
def tyEl (P:Program) (t:TypeId):Option TypeId:=match P.underlying t with | some (.slice e)=>some e | _=>none
def tyFd (P:Program) (t:TypeId) (f:Nat):Option Field:=match P.underlying t with | some (.struct fs)=>fs[f]? | _=>none
theorem run_isAgg' {P:Program} {t:TypeId} {n:Nat} {ag:Bool} (e:tyA P t=some (n,ag)) (w:World):(isAgg t).run P w=.ok ag w∧(sizeOf t).run P w=.ok n w:=by
 unfold tyA at e
 split at e
 .rename_i i d h1 h2
  simp only [Option.some.injEq,Prod.mk.injEq] at e
  obtain ⟨rfl,rfl⟩:=e
  refine ⟨?_,by simp [sizeOf,typeInfo,h1]⟩
  unfold isAgg
  rw [Sem.run_bind,run_underlying h2 w]
  cases d<;>simp
 .cases e
theorem run_sizeOf' {P:Program} {t:TypeId} {n:Nat} (e:tySz P t=some n) (w:World):(sizeOf t).run P w=.ok n w:=by
 unfold tySz at e
 cases h1:P.info? t with
 | none=>simp [h1] at e
 | some i=>simp [h1] at e;subst e;simp [sizeOf,typeInfo,h1]
theorem run_load {P:Program} {t:TypeId} {m:Nat} {ag:Bool} (e:tyA P t=some (m,ag)) (h1:ag=false→m=1) {h:HP} {ρ:RO} {hp:CH} {n:Nat} {w:World} (mm:SatH h ρ hp n w)
  {α:AV} {v:Value} (r:Rel h ρ α v) {cs:List AV} (hl:ldc hp m α=some cs) :
  ∃u,(Instr.loadAt t v).run P w=.ok u w∧Rel h ρ (if ag then .ag cs else cs.getD 0 .un) u:=by
 obtain ⟨b,o,rfl,hlen,us,hu,hc,hr⟩:=ldc_read mm r hl
 obtain ⟨ha,hz⟩:=run_isAgg' e w
 cases ag with
 | true =>
  refine ⟨.agg us.toArray,?_,?_⟩
  .have hcell:=run_loadCells_list (P:=P) w ⟨b,o,none⟩ us (fun j u hj=>by rw [Addr.add_lit];exact hc j u hj)
   rw [hu] at hcell
   simp [Instr.loadAt,Instr.sureAddr,loadVar,ha,hz,hcell]
  .simp only [if_true]
   exact Rel.mkAgg ⟨by omega,hr⟩
 | false =>
  have hm:=h1 rfl
  subst hm
  obtain ⟨u,rfl⟩:∃u,us=[u]:=by
   cases us with
   | nil=>simp at hu
   | cons u r=>cases r with
    | nil=>exact ⟨u,rfl⟩
    | cons=>simp at hu
  obtain ⟨c,rfl⟩:∃c,cs=[c]:=by
   cases cs with
   | nil=>simp at hlen
   | cons u r=>cases r with
    | nil=>exact ⟨u,rfl⟩
    | cons=>simp at hlen
  refine ⟨u,?_,by simpa using hr 0 c u rfl rfl⟩
  have:=hc 0 u rfl
  simp only [Nat.add_zero] at this
  simp [Instr.loadAt,Instr.sureAddr,loadVar,ha,this]
def fadr (off:Nat):AV→Option AV
 | .bx k o=>some (.bx k (o+off))
 | .ep α n i o=>some (.ep α n i (o+off))
 | _=>none
theorem run_fieldAddr {P:Program} {t:TypeId} {f:Nat} {fd:Field} (e:tyFd P t f=some fd) {z:Nat} (hz:tySz P fd.type=some z) (h0:z≠0) {h:HP} {ρ:RO} {w:World}
  {α:AV} {v:Value} (r:Rel h ρ α v) {β:AV} (hl:fadr fd.offset α=some β):∃u,(Instr.fieldAt t v f).run P w=.ok u w∧Rel h ρ β u:=by
 unfold tyFd at e
 cases hu:P.underlying t with
 | none=>simp [hu] at e
 | some d =>
  cases d<;>try (simp [hu] at e;done)
  rename_i fs
  simp [hu] at e
  have key:∀b o,(Instr.fieldAt t (.pointer (some ⟨b,o,none⟩)) f).run P w=.ok (.pointer (some ⟨b,o+fd.offset,none⟩)) w:=by
   intro b o
   simp [Instr.fieldAt,run_underlying hu,e,Instr.sureAddr,fieldPlace,run_sizeOf' hz,h0]
   rw [Addr.add_lit]
  cases α with
  | bx k o =>
   simp only [fadr,Option.some.injEq] at hl
   subst hl
   cases r with
   | pu _ _ p=>cases p
   | bx _ _ b c e=>exact ⟨_,key b o,.bx _ _ _ _ e⟩
  | ep β n i o =>
   simp only [fadr,Option.some.injEq] at hl
   subst hl
   cases r with
   | pu _ _ p=>cases p
   | ep _ _ _ _ b o' len cap ra hi =>
    refine ⟨_,key _ _,?_⟩
    rw [Nat.add_assoc]
    exact .ep _ _ _ _ _ _ _ _ ra hi
  | _=>simp [fadr] at hl
theorem run_field {P:Program} {t:TypeId} {f:Nat} {fd:Field} (e:tyFd P t f=some fd) {m:Nat} {ag:Bool} (hz:tyA P fd.type=some (m,ag)) (h1:ag=false→m=1) {h:HP} {ρ:RO} {w:World}
  {l:List AV} {v:Value} (r:Rel h ρ (.ag l) v) (hle:fd.offset+m≤l.length) :
  ∃u,(Instr.field t v f).run P w=.ok u w∧Rel h ρ (if ag then .ag ((l.drop fd.offset).take m) else l.getD fd.offset .un) u:=by
 unfold tyFd at e
 cases hu:P.underlying t with
 | none=>simp [hu] at e
 | some d =>
  cases d<;>try (simp [hu] at e;done)
  rename_i fs
  simp [hu] at e
  obtain ⟨ha,hs⟩:=run_isAgg' hz w
  obtain ⟨vs,rfl,rs⟩:=r.agg
  cases ag with
  | true =>
   refine ⟨.agg ((vs.drop fd.offset).take m).toArray,?_,?_⟩
   .simp [Instr.field,run_underlying hu,e,asAgg,part,ha,hs,List.extract_eq_take_drop]
   .simp only [if_true]
    refine Rel.mkAgg ⟨by have:=rs.1;simp;omega,fun j α v h1 h2=>?_⟩
    exact rs.2 _ α v (drop_take_get h1).1 (drop_take_get h2).1
  | false =>
   have hm:=h1 rfl
   subst hm
   have hlt:fd.offset<vs.length:=by have:=rs.1;omega
   refine ⟨vs[fd.offset],?_,?_⟩
   .simp [Instr.field,run_underlying hu,e,asAgg,part,ha,hlt]
   .have hl:fd.offset<l.length:=by omega
    simp [hl]
    exact rs.2 fd.offset _ _ (by simp [hl]) (by simp [hlt])
theorem run_indexAddr {P:Program} {t e:TypeId} (he:tyEl P t=some e) {z:Nat} (hz:tySz P e=some z) {h:HP} {ρ:RO} {hp:CH} {n:Nat} {w:World} (mm:SatH h ρ hp n w)
  {α:AV} {v:Value} (r:Rel h ρ α v) {l:List (List AV)} (hl:sl hp α=some l) {k:IntKind} {i:Int} (h0:0≤i) (h1:i.toNat<l.length) :
  ∃u,(Instr.indexAt t v (.int k i)).run P w=.ok u w∧Rel h ρ (.ep α z i.toNat 0) u:=by
 unfold tyEl at he
 cases hu:P.underlying t with
 | none=>simp [hu] at he
 | some d =>
  cases d<;>try (simp [hu] at he;done)
  simp [hu] at he
  subst he
  obtain ⟨a,cap,rfl,hc,q0,_,hm⟩:=sl_read mm r hl
  obtain ⟨b,o,rfl,_⟩:=hm (by intro e;subst e;simp at h1)
  refine ⟨.pointer (some ⟨b,o+z*i.toNat+0,none⟩),?_,.ep _ _ _ _ _ _ _ _ r h1⟩
  have hi:i<(l.length:Int):=by omega
  simp [Instr.indexAt,asIntOf,run_underlying hu,h0,hi,run_sizeOf' hz,Addr.add_lit,Nat.mul_comm]
end Go.Eng
