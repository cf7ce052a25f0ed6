/-
  The parts PcK of the proof, in one file. Conditions: none.
-/
import Derived.Test.YtpenniildabheaaPb37
namespace Go.Proofs.Ytpenniildabheaa
open Go.Eng
set_option linter.unusedVariables false
set_option linter.unusedSimpArgs false
set_option maxRecDepth 20000
set_option maxHeartbeats 2000000
/-- What stands in the row while entries are struck out. -/
structure DelI (q : Ent → Bool) (L D : List Ent) (i j : Nat) : Prop where
  len : D.length = L.length
  lt : i < j
  le : j ≤ L.length
  low : D.take i = (L.take j).filter fun x => !q x
  high : ∀ t, j ≤ t → D[t]? = L[t]?
theorem DelI.keep {q : Ent → Bool} {L D : List Ent} {i j : Nat} (h : DelI q L D i j) {x : Ent} (ex : L[j]? = some x) (hq : q x = false) : DelI q L (D.set i x) (i + 1) (j + 1) := by
  have hj : j < L.length := (List.getElem?_eq_some_iff.1 ex).1
  have h1 := h.lt
  have h2 := h.len
  refine ⟨by simp [h.len], by omega, hj, ?_, fun t ht => ?_⟩
  · have hi : i < D.length := by omega
    have e1 : L.take (j + 1) = L.take j ++ [x] := by rw [List.take_add_one, ex]; rfl
    rw [List.take_add_one, List.getElem?_set_self hi, List.take_set_of_le (Nat.le_refl _), h.low, e1, List.filter_append]
    simp [hq]
  · rw [List.getElem?_set_ne (by omega)]
    exact h.high t (by omega)
theorem DelI.skip {q : Ent → Bool} {L D : List Ent} {i j : Nat} (h : DelI q L D i j) {x : Ent} (ex : L[j]? = some x) (hq : q x = true) : DelI q L D i (j + 1) := by
  have hj : j < L.length := (List.getElem?_eq_some_iff.1 ex).1
  have h1 := h.lt
  refine ⟨h.len, by omega, hj, ?_, fun t ht => h.high t (by omega)⟩
  rw [h.low, List.take_add_one, ex, List.filter_append]
  simp [hq]
theorem DelI.fin {q : Ent → Bool} {L D : List Ent} {i : Nat} (h : DelI q L D i L.length) : D.take i = L.filter fun x => !q x := by
  have := h.low
  rwa [List.take_length] at this
end Go.Proofs.Ytpenniildabheaa
