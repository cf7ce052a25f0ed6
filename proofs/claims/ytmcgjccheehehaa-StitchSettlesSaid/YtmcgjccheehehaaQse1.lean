/-
  The parts EngA of the proof, in one file. Conditions: none.
-/
import Derived.Below
import Derived.Laws.Rows
import Derived.Laws.Append
import Derived.Laws.CopyRow
import Derived.Laws.Pointers
import Derived.Tactics
import Derived.Orders
namespace Go.Eng
set_option linter.unusedVariables false
set_option linter.unusedSimpArgs false
/-- Abstract values. 'un': anything. 'ag': a struct or array, its cells one behind the other. 'tp': a tuple. 'ds': a slice that nobody writes, by its elements, each the list of its cells. 'e0': an empty slice without capacity.
'bx': a pointer into the chunk k. 'rw': a slice over the whole of the row in chunk k, generation g, its first len elements. 'ep': a pointer to cell off of element i of a slice whose elements have n cells. 'mp': a map in chunk k. 'gd': a value that is there if c. -/
inductive AV where
  | un
  | b (x : Bool)
  | i (k : IntKind) (n : Int)
  | s (x : ByteArray)
  | ag (l : List AV)
  | tp (l : List AV)
  | ds (l : List (List AV))
  | e0
  | np
  | bx (k off : Nat)
  | rw (k g len : Nat)
  | ep (α : AV) (n i off : Nat)
  | mp (k : Nat)
  | mn
  | fn (f : Nat) (c : List AV)
  | nf
  | fc (t : Nat) (x : AV)
  | ni
  | gd (c : Bool) (x : AV)
abbrev HP := Nat → Option Obj
abbrev RO := Nat → Nat → Option (Option Nat × Nat)
def cellAt (h : HP) (b o : Nat) : Option Value := match h b with | some (.cells c _ _) => c[o]? | _ => none
/-- Pure abstract values stand for values whose memory lies in the part 'h' that nobody writes any more. -/
inductive PRel (h : HP) : AV → Value → Prop
  | un (v : Value) : PRel h .un v
  | b (x : Bool) : PRel h (.b x) (.bool x)
  | i (k : IntKind) (n : Int) : PRel h (.i k n) (.int k n)
  | s (x : ByteArray) : PRel h (.s x) (.string x)
  | ag (l : List AV) (vs : List Value) : l.length = vs.length → (∀ (j : Nat) α v, l[j]? = some α → vs[j]? = some v → PRel h α v) → PRel h (.ag l) (.agg vs.toArray)
  | tp (l : List AV) (vs : List Value) : l.length = vs.length → (∀ (j : Nat) α v, l[j]? = some α → vs[j]? = some v → PRel h α v) → PRel h (.tp l) (.tuple vs.toArray)
  | ds (l : List (List AV)) (n : Nat) (a : Option Addr) (cap : Nat) (us : Nat → Nat → Value) : l.length ≤ cap → (∀ (j : Nat) e, l[j]? = some e → e.length = n) →
      (∀ (j : Nat) e (q : Nat) α, l[j]? = some e → e[q]? = some α → PRel h α (us j q)) →
      (l ≠ [] → ∃ b off, a = some ⟨b, off, none⟩ ∧ ∀ (j : Nat) e (q : Nat) α, l[j]? = some e → e[q]? = some α → cellAt h b (off + n * j + q) = some (us j q)) →
      PRel h (.ds l) (.slice a l.length cap)
  | e0 (a : Option Addr) : PRel h .e0 (.slice a 0 0)
  | np : PRel h .np (.pointer none)
  | mn : PRel h .mn (.map none)
  | nf : PRel h .nf .nilFunc
  | ni : PRel h .ni .nilIface
  | fc (t : Nat) (x : AV) (v : Value) : PRel h x v → PRel h (.fc t x) (.iface t v)
  | gd (c : Bool) (x : AV) (v : Value) : (c = true → PRel h x v) → (c = false → v = undef) → PRel h (.gd c x) v
/-- Abstract values that may lead into chunks. -/
inductive Rel (h : HP) (ρ : RO) : AV → Value → Prop
  | pu (α : AV) (v : Value) : PRel h α v → Rel h ρ α v
  | ag (l : List AV) (vs : List Value) : l.length = vs.length → (∀ (j : Nat) α v, l[j]? = some α → vs[j]? = some v → Rel h ρ α v) → Rel h ρ (.ag l) (.agg vs.toArray)
  | tp (l : List AV) (vs : List Value) : l.length = vs.length → (∀ (j : Nat) α v, l[j]? = some α → vs[j]? = some v → Rel h ρ α v) → Rel h ρ (.tp l) (.tuple vs.toArray)
  | bx (k off b c : Nat) : ρ k 0 = some (some b, c) → Rel h ρ (.bx k off) (.pointer (some ⟨b, off, none⟩))
  | rw (k g len cap : Nat) (a : Option Addr) (ob : Option Nat) : ρ k g = some (ob, cap) → len ≤ cap → (∀ b, ob = some b → a = some ⟨b, 0, none⟩) → Rel h ρ (.rw k g len) (.slice a len cap)
  | ep (α : AV) (n i off b o len cap : Nat) : Rel h ρ α (.slice (some ⟨b, o, none⟩) len cap) → i < len → Rel h ρ (.ep α n i off) (.pointer (some ⟨b, o + n * i + off, none⟩))
  | mp (k b c : Nat) : ρ k 0 = some (some b, c) → Rel h ρ (.mp k) (.map (some b))
  | fn (f : Nat) (l : List AV) (vs : List Value) : l.length = vs.length → (∀ (j : Nat) α v, l[j]? = some α → vs[j]? = some v → Rel h ρ α v) → Rel h ρ (.fn f l) (.func (.func f) #[] vs.toArray)
  | fc (t : Nat) (x : AV) (v : Value) : Rel h ρ x v → Rel h ρ (.fc t x) (.iface t v)
  | gd (c : Bool) (x : AV) (v : Value) : (c = true → Rel h ρ x v) → (c = false → v = undef) → Rel h ρ (.gd c x) v
def HLe (h h' : HP) : Prop := ∀ b o, h b = some o → h' b = some o
def RLe (ρ ρ' : RO) : Prop := ∀ k g x, ρ k g = some x → ρ' k g = some x
theorem HLe.refl (h : HP) : HLe h h := fun _ _ e => e
theorem HLe.trans {a b c : HP} (x : HLe a b) (y : HLe b c) : HLe a c := fun k o e => y k o (x k o e)
theorem RLe.refl (ρ : RO) : RLe ρ ρ := fun _ _ _ e => e
theorem RLe.trans {a b c : RO} (x : RLe a b) (y : RLe b c) : RLe a c := fun k g v e => y k g v (x k g v e)
theorem cellAt_mono {h h' : HP} (hh : HLe h h') {b o : Nat} {u : Value} (e : cellAt h b o = some u) : cellAt h' b o = some u := by
  unfold cellAt at *
  cases hb : h b with
  | none => simp [hb] at e
  | some x => rw [hb] at e; rw [hh _ _ hb]; exact e
theorem PRel.mono {h h' : HP} (hh : HLe h h') {α : AV} {v : Value} (r : PRel h α v) : PRel h' α v := by
  induction r with
  | un v => exact .un v
  | b x => exact .b x
  | i k n => exact .i k n
  | s x => exact .s x
  | ag l vs e _ ih => exact .ag l vs e ih
  | tp l vs e _ ih => exact .tp l vs e ih
  | ds l n a cap us hc hn _ hm ih =>
    refine .ds l n a cap us hc hn ih fun hl => ?_
    obtain ⟨b, off, ea, hx⟩ := hm hl
    exact ⟨b, off, ea, fun j e q α h1 h2 => cellAt_mono hh (hx j e q α h1 h2)⟩
  | e0 a => exact .e0 a
  | np => exact .np
  | mn => exact .mn
  | nf => exact .nf
  | ni => exact .ni
  | fc t x v _ ih => exact .fc t x v ih
  | gd c x v _ hf ih => exact .gd c x v ih hf
theorem Rel.mono {h h' : HP} {ρ ρ' : RO} (hh : HLe h h') (hr : RLe ρ ρ') {α : AV} {v : Value} (r : Rel h ρ α v) : Rel h' ρ' α v := by
  induction r with
  | pu α v p => exact .pu α v (p.mono hh)
  | ag l vs e _ ih => exact .ag l vs e ih
  | tp l vs e _ ih => exact .tp l vs e ih
  | bx k off b c e => exact .bx k off b c (hr _ _ _ e)
  | rw k g len cap a ob e hl ha => exact .rw k g len cap a ob (hr _ _ _ e) hl ha
  | ep α n i off b o len cap _ hi ih => exact .ep α n i off b o len cap ih hi
  | mp k b c e => exact .mp k b c (hr _ _ _ e)
  | fn f l vs e _ ih => exact .fn f l vs e ih
  | fc t x v _ ih => exact .fc t x v ih
  | gd c x v _ hf ih => exact .gd c x v ih hf
theorem idx_some {α β : Type} {l : List α} {vs : List β} (e : l.length = vs.length) {j : Nat} {x : α} (h : l[j]? = some x) : ∃ v, vs[j]? = some v := by
  have hj : j < vs.length := by have := (List.getElem?_eq_some_iff.1 h).1; omega
  exact ⟨vs[j], List.getElem?_eq_getElem hj⟩
/-- If a value was met under the smaller ρ, what holds of it under the greater one holds under the smaller one. -/
theorem Rel.back {h h' : HP} {ρ ρ' : RO} (hr : RLe ρ ρ') {α : AV} {v0 v : Value} (r0 : Rel h ρ α v0) (r : Rel h' ρ' α v) : Rel h' ρ α v := by
  induction r0 generalizing v with
  | pu α v0 p =>
    induction p generalizing v with
    | un => exact .pu _ _ (.un _)
    | b x => cases r with | pu _ _ p => exact .pu _ _ p
    | i x => cases r with | pu _ _ p => exact .pu _ _ p
    | s x => cases r with | pu _ _ p => exact .pu _ _ p
    | ag l vs e _ ih =>
      cases r with
      | pu _ _ p => exact .pu _ _ p
      | ag _ ws e' h' =>
        exact .ag _ _ e' fun j α v h1 h2 => let ⟨u, hu⟩ := idx_some e h1; ih j α u h1 hu (h' j α v h1 h2)
    | tp l vs e _ ih =>
      cases r with
      | pu _ _ p => exact .pu _ _ p
      | tp _ ws e' h' =>
        exact .tp _ _ e' fun j α v h1 h2 => let ⟨u, hu⟩ := idx_some e h1; ih j α u h1 hu (h' j α v h1 h2)
    | ds => cases r with | pu _ _ p => exact .pu _ _ p
    | e0 => cases r with | pu _ _ p => exact .pu _ _ p
    | np => cases r with | pu _ _ p => exact .pu _ _ p
    | mn => cases r with | pu _ _ p => exact .pu _ _ p
    | nf => cases r with | pu _ _ p => exact .pu _ _ p
    | ni => cases r with | pu _ _ p => exact .pu _ _ p
    | fc t x v0 _ ih =>
      cases r with
      | pu _ _ p => exact .pu _ _ p
      | fc _ _ v h' => exact .fc _ _ _ (ih h')
    | gd c x v0 _ hf ih =>
      cases r with
      | pu _ _ p => exact .pu _ _ p
      | gd _ _ v h' hf' => exact .gd _ _ _ (fun hc => ih hc (h' hc)) hf'
  | ag l vs e _ ih =>
    cases r with
    | pu _ _ p => exact .pu _ _ p
    | ag _ ws e' h' =>
      exact .ag _ _ e' fun j α v h1 h2 => let ⟨u, hu⟩ := idx_some e h1; ih j α u h1 hu (h' j α v h1 h2)
  | tp l vs e _ ih =>
    cases r with
    | pu _ _ p => exact .pu _ _ p
    | tp _ ws e' h' =>
      exact .tp _ _ e' fun j α v h1 h2 => let ⟨u, hu⟩ := idx_some e h1; ih j α u h1 hu (h' j α v h1 h2)
  | bx k off b c e0 =>
    cases r with
    | pu _ _ p => exact .pu _ _ p
    | bx _ _ b' c' e =>
      rw [hr _ _ _ e0] at e
      cases e
      exact .bx _ _ _ _ e0
  | rw k g len cap a ob e0 hl ha =>
    cases r with
    | pu _ _ p => exact .pu _ _ p
    | rw _ _ _ cap' a' ob' e hl' ha' =>
      rw [hr _ _ _ e0] at e
      cases e
      exact .rw _ _ _ _ _ _ e0 hl' ha'
  | ep α n i off b o len cap _ hi ih =>
    cases r with
    | pu _ _ p => exact .pu _ _ p
    | ep _ _ _ _ b' o' len' cap' r' hi' => exact .ep _ _ _ _ _ _ _ _ (ih r') hi'
  | mp k b c e0 =>
    cases r with
    | pu _ _ p => exact .pu _ _ p
    | mp _ b' c' e =>
      rw [hr _ _ _ e0] at e
      cases e
      exact .mp _ _ _ e0
  | fn f l vs e _ ih =>
    cases r with
    | pu _ _ p => exact .pu _ _ p
    | fn _ _ ws e' h' =>
      exact .fn _ _ _ e' fun j α v h1 h2 => let ⟨u, hu⟩ := idx_some e h1; ih j α u h1 hu (h' j α v h1 h2)
  | fc t x v0 _ ih =>
    cases r with
    | pu _ _ p => exact .pu _ _ p
    | fc _ _ v h' => exact .fc _ _ _ (ih h')
  | gd c x v0 _ hf ih =>
    cases r with
    | pu _ _ p => exact .pu _ _ p
    | gd _ _ v h' hf' => exact .gd _ _ _ (fun hc => ih hc (h' hc)) hf'
/-- Chunks of abstract memory. 'ro': a variable that nobody writes for the time being. 'no': nothing is known. 'bx': a variable, by its cells. 'rw': a row that grows, generation g, elements of n cells. 'sh': a row that nobody writes any more. 'mp': a map keyed by strings. -/
inductive Chunk where
  | no
  | bx (cs : List AV)
  | rw (g n : Nat) (l : List (List AV))
  | sh (g n : Nat) (l : List (List AV))
  | mp (l : List (ByteArray × AV))
  | ro (cs : List AV)
abbrev CH := List (Nat × Chunk)
def gc : CH → Nat → Chunk
  | [], _ => .no
  | (k, c) :: r, j => if k = j then c else gc r j
abbrev EN := List (Nat × AV)
def ge : EN → Nat → AV
  | [], _ => .un
  | (k, c) :: r, j => if k = j then c else ge r j
/-- The generation under which a chunk's block is written. -/
def Chunk.gen : Chunk → Option Nat
  | .bx _ => some 0
  | .rw g _ _ => some g
  | .mp _ => some 0
  | _ => none
/-- What a chunk says of memory. -/
def Chunk.sat (h : HP) (ρ : RO) (w : World) (k : Nat) : Chunk → Prop
  | .no => True
  | .bx cs => ∃ b c vs e, ρ k 0 = some (some b, c) ∧ w.heap[b]? = some (.cells vs e (0, 0)) ∧ vs.size = cs.length ∧ ∀ (j : Nat) α v, cs[j]? = some α → vs[j]? = some v → Rel h ρ α v
  | .rw g n l => ∃ ob cap, ρ k g = some (ob, cap) ∧ l.length ≤ cap ∧ cap ≤ maxLen ∧ (∀ (j : Nat) e, l[j]? = some e → e.length = n) ∧ (ob = none → cap = 0) ∧
      ∀ b, ob = some b → ∃ vs e, w.heap[b]? = some (.cells vs e (0, 0)) ∧ vs.size = cap * n ∧ ∀ (j : Nat) x (q : Nat) α, l[j]? = some x → x[q]? = some α → ∃ u, vs[n * j + q]? = some u ∧ PRel h α u
  | .sh g n l => ∃ ob cap, ρ k g = some (ob, cap) ∧ l.length ≤ cap ∧ cap ≤ maxLen ∧ (∀ (j : Nat) e, l[j]? = some e → e.length = n) ∧ (ob = none → cap = 0) ∧
      ∀ b, ob = some b → ∃ vs e fr, h b = some (.cells vs e fr) ∧ ∀ (j : Nat) x (q : Nat) α, l[j]? = some x → x[q]? = some α → ∃ u, vs[n * j + q]? = some u ∧ PRel h α u
  | .mp l => ∃ b c es clock, ρ k 0 = some (some b, c) ∧ w.heap[b]? = some (.map es clock) ∧ es.size = l.length ∧
      ∀ (j : Nat) x α, l[j]? = some (x, α) → ∃ u born, es[j]? = some ⟨.string x, u, born⟩ ∧ PRel h α u
  | .ro cs => ∃ b c vs e fr, ρ k 0 = some (some b, c) ∧ h b = some (.cells vs e fr) ∧ vs.size = cs.length ∧ ∀ (j : Nat) α v, cs[j]? = some α → vs[j]? = some v → PRel h α v
/-- The block that chunk k may write. -/
def live (ρ : RO) (hp : CH) (b : Nat) : Prop := ∃ k g c, (gc hp k).gen = some g ∧ ρ k g = some (some b, c)
structure SatH (h : HP) (ρ : RO) (hp : CH) (n : Nat) (w : World) : Prop where
  hh : ∀ b o, h b = some o → w.heap[b]? = some o
  ch : ∀ k, (gc hp k).sat h ρ w k
  inj : ∀ k k' g g' b c c', (gc hp k).gen = some g → (gc hp k').gen = some g' → ρ k g = some (some b, c) → ρ k' g' = some (some b, c') → k = k'
  hid : ∀ b, live ρ hp b → h b = none
  lt : ∀ b, live ρ hp b → b < w.heap.size
  fr : ∀ k g, n ≤ k → ρ k g = none
  gens : ∀ k g g' m l x, gc hp k = .rw g m l → ρ k g' = some x → g' ≤ g
/-- w' is w, but for new blocks and the blocks of X. -/
structure Keeps (X : Nat → Prop) (w w' : World) : Prop where
  os : w'.os = w.os
  tape : w'.tape = w.tape
  output : w'.output = w.output
  size : w.heap.size ≤ w'.heap.size
  block : ∀ b, b < w.heap.size → ¬ X b → w'.heap[b]? = w.heap[b]?
theorem Keeps.refl (X : Nat → Prop) (w : World) : Keeps X w w := ⟨rfl, rfl, rfl, Nat.le_refl _, fun _ _ _ => rfl⟩
theorem Keeps.trans {X Y : Nat → Prop} {a b c : World} (x : Keeps X a b) (y : Keeps Y b c) (hy : ∀ k, k < a.heap.size → Y k → X k) : Keeps X a c :=
  ⟨y.os.trans x.os, y.tape.trans x.tape, y.output.trans x.output, Nat.le_trans x.size y.size,
   fun k hk hX => (y.block k (Nat.lt_of_lt_of_le hk x.size) (fun hY => hX (hy k hk hY))).trans (x.block k hk hX)⟩
theorem Keeps.below {w w' : World} (x : Keeps (fun _ => False) w w') : RowKit.Below w.heap.size w w' :=
  ⟨x.os, x.tape, x.output, x.size, fun k hk => x.block k hk (fun h => h)⟩
structure St where
  env : EN
  hp : CH
  n : Nat
/-- A state of the walk: in the frame and in the world stands what the abstract state says, and what was there when the call began is as it was. -/
structure Ctx where
  w0 : World
  X : Nat → Prop
  h0 : HP
  ρ0 : RO
  N : Nat
structure Sat (C : Ctx) (st : St) (h : HP) (ρ : RO) (a : Act) (w : World) : Prop where
  hle : HLe C.h0 h
  rle : RLe C.ρ0 ρ
  keep : Keeps C.X C.w0 w
  own : ∀ b, live ρ st.hp b → C.w0.heap.size ≤ b ∨ C.X b
  mem : SatH h ρ st.hp st.n w
  env : ∀ t, t < C.N → ∃ v, a.tmps[t]? = some v ∧ Rel h ρ (ge st.env t) v
  size : a.tmps.size = C.N
  defers : a.defers = []
def S (C : Ctx) (st : St) (a : Act) (w : World) : Prop := ∃ h ρ, Sat C st h ρ a w
end Go.Eng
