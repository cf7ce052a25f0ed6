/-
  The parts EngZ EngS EngO EngBL of the proof, in one file. Conditions: none.
-/
import Derived.Shelf.Strings.BuilderF
import Derived.Shelf.Strings.OnBuilder
import Derived.Shelf.Strconv.Itoa3
import Derived.Test.YtgollgfifnmaaaaDoorCmS141
namespace Go.Eng
open Go.Shelf Go.RowKit Go.Proofs
set_option linter.unusedVariables false
set_option linter.unusedSimpArgs false
section
variable {P : Program} (w : World)
variable {w}
end
end Go.Eng
namespace Go.Eng
open Go.Shelf Go.RowKit Go.Proofs
set_option linter.unusedVariables false
set_option linter.unusedSimpArgs false
/-- In block b lies a builder (types T, e) whose first cell is p and whose bytes bs stand in v. -/
structure BA (T e b : Nat) (p v : Value) (bs : List Value) (w : World) : Prop where
  blk : w.heap[b]? = some (.cells #[p, v] T (0, 0))
  own : w.ownsRowF 0 e 1 v bs.length bs
  ne : v.ownBlock ≠ some b
/-- From w to w' only the builder in block b was written. -/
structure Wrote (T e b : Nat) (p' v : Value) (bs' : List Value) (w w' : World) : Prop where
  ex : ∃ v', BA T e b p' v' bs' w' ∧ ∀ g, v'.ownBlock = some g → v.ownBlock = some g ∨ w.heap.size ≤ g
  os : w'.os = w.os
  tape : w'.tape = w.tape
  output : w'.output = w.output
  size : w.heap.size ≤ w'.heap.size
  block : ∀ k, k < w.heap.size → k ≠ b → some k ≠ v.ownBlock → w'.heap[k]? = w.heap[k]?
theorem BA.lt {T e b : Nat} {p v : Value} {bs : List Value} {w : World} (h : BA T e b p v bs w) : b < w.heap.size := by
  rcases Nat.lt_or_ge b w.heap.size with h' | h'
  · exact h'
  · have := h.blk
    rw [Array.getElem?_eq_none h'] at this
    cases this
/-- The buffer's new header is stored. -/
theorem Wrote.put {T e b : Nat} {p v v' : Value} {bs' : List Value} {w w1 w2 : World} (hlt : b < w.heap.size) (ho : w1.os = w.os ∧ w1.tape = w.tape ∧ w1.output = w.output ∧ w.heap.size ≤ w1.heap.size ∧ ∀ k, k < w.heap.size → k ≠ b → w1.heap[k]? = w.heap[k]?)
    (hg : w1.grownBy w2 v.ownBlock) (hb2 : w2.heap[b]? = some (.cells #[p, v] T (0, 0))) (hown : w2.ownsRowF 0 e 1 v' bs'.length bs') (hTe : T ≠ e) (hw : ∀ g, v'.ownBlock = some g → v.ownBlock = some g ∨ w.heap.size ≤ g) :
    Wrote T e b p v bs' w (w2.setCell ⟨b, 1, none⟩ v') := by
  have hne := Lib.ownBlock_neF hown hb2 hTe
  obtain ⟨o1, o2, o3, o4, o5⟩ := ho
  refine ⟨⟨v', ⟨?_, ?_, hne⟩, hw⟩, hg.os.trans o1, hg.tape.trans o2, hg.output.trans o3, ?_, fun k hk hkb hkv => ?_⟩
  · simp [World.setCell, Array.getElem?_modify, hb2]
  · exact hown.kept (row := some b) ⟨rfl, rfl, rfl, by simp [World.setCell], fun k _ hk => Below.heap_setCell _ _ _ _ (fun e => hk (by simp [e]))⟩ (Or.inr hne)
  · have := hg.size
    simp [World.setCell]
    omega
  · rw [Below.heap_setCell _ _ _ _ (fun e => hkb e), hg.block k (by omega) hkv]
    exact o5 k hk hkb
variable {P : Program} {ρ : Ren}
end Go.Eng
namespace Go.Eng
open Go.Shelf Go.RowKit Go.Proofs
set_option linter.unusedVariables false
set_option linter.unusedSimpArgs false
theorem RelL.un {h : HP} {ρ : RO} {α : AV} {l : List AV} {vs : List Value} (r : RelL h ρ (α :: l) vs) : ∃ v vs', vs = v :: vs' ∧ Rel h ρ α v ∧ RelL h ρ l vs' := by
  cases vs with
  | nil => cases r.1
  | cons v vs => exact ⟨v, vs, rfl, r.2 0 α v rfl rfl, Nat.succ.inj r.1, fun j β u a b => r.2 (j + 1) β u a b⟩
theorem RelL.un0 {h : HP} {ρ : RO} {vs : List Value} (r : RelL h ρ [] vs) : vs = [] := List.eq_nil_of_length_eq_zero r.1.symm
variable {P : Program} {ρ : Ren}
end Go.Eng
namespace Go.Eng
open Go.Shelf Go.RowKit Go.Proofs
set_option linter.unusedVariables false
set_option linter.unusedSimpArgs false
/-- New blocks alone. -/
theorem SatH.grown {h : HP} {ρ : RO} {hp : CH} {n : Nat} {w w' : World} (m : SatH h ρ hp n w) (hsz : w.heap.size ≤ w'.heap.size) (hb : ∀ b, b < w.heap.size → w'.heap[b]? = w.heap[b]?) : SatH h ρ hp n w' :=
  ⟨fun b o e => by rw [hb b (Array.getElem?_eq_some_iff.1 (m.hh b o e)).1]; exact m.hh b o e, fun k => Chunk.sat_mono (HLe.refl _) (RLe.refl _) (fun g b x q1 q2 => hb b (m.lt b ⟨k, g, x, q1, q2⟩)) (m.ch k), m.inj, m.hid, fun b q => Nat.lt_of_lt_of_le (m.lt b q) hsz, m.fr, m.gens, m.gl⟩
theorem Below.keeps {w w' : World} (X : Nat → Prop) (B : Below w.heap.size w w') : Keeps X w w' := ⟨B.os, B.tape, B.output, B.size, fun k hk _ => B.block k hk⟩
variable {P : Program} {ρ : Ren}
/-- A decimal numeral. -/
def itoaB (x : Int) : ByteArray := ⟨(Lib.itoa x).toArray⟩
theorem meets_itoa (L : LaysM.n171 P ρ) {f : FuncId} (hf : ρ.f 171 = f) (hfn : ∃ fn, P.funcs[f]? = some fn ∧ (fn.name == "runtime.NumGoroutine") = false ∧ fn.body.isNone = false) {gb : Nat}
    (htab : ∀ w : World, (∃ t fr, w.heap[gb]? = some (.cells (Lib.pow10Tab.map fun z => Value.int IntKind.u64 z).toArray t fr)) → ∀ x, -9223372036854775808 ≤ x → x ≤ 9223372036854775807 →
      Calls P (ρ.f 171) #[.int .i64 x] w fun e w' => e = .returned (.string (itoaB x)) ∧ ∃ k os, w' = Sort.grow (w.drewN k) os)
    (hgl : (gb, (Lib.pow10Tab.map fun z => Value.int IntKind.u64 z).toArray) ∈ glTab) {hp : CH} {n : Nat} {x : Int} (h0 : -9223372036854775808 ≤ x) (h1 : x ≤ 9223372036854775807) : MeetsF P f hp n [.i .i64 x] (.s (itoaB x)) := by
  subst hf
  refine ⟨hfn, fun h ρ0 w vs hs ha => ?_⟩
  obtain ⟨v1, r1, rfl, x1, ha⟩ := ha.un
  obtain rfl := ha.un0
  have e1 : v1 = .int .i64 x := by
    cases x1 with
    | pu _ _ q => cases q; rfl
  subst e1
  obtain ⟨t, fr, q⟩ := hs.gl _ _ hgl
  refine (htab w ⟨t, fr, hs.hh _ _ q⟩ x h0 h1).mono fun e w' ⟨he, k, os, hw⟩ => ?_
  have B : Below w.heap.size w w' := by
    subst hw
    exact ⟨rfl, rfl, rfl, by simp [Sort.grow], fun k hk => by simp only [Sort.grow, World.heap_drewN]; exact Array.getElem?_append_left hk⟩
  exact ⟨_, he, h, HLe.refl _, hs.grown B.size (fun b hb => B.block b hb), .s _, Below.keeps _ B⟩
end Go.Eng
