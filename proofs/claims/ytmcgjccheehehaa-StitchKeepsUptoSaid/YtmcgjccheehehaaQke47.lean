/-
  The parts SbD of the proof, in one file. Conditions: none.
-/
import Derived.Test.YtmcgjccheehehaaQke46
namespace Go.Proofs.Ytmcgjccheehehaa
open Go.Eng
set_option linter.unusedVariables false
set_option linter.unusedSimpArgs false
/-- What 'clean' asks of one node. -/
structure ClC (v : Val) : Prop where
  a : v.k ≠ 6 → v.keys = []
  b : v.k ≠ 6 → v.k ≠ 5 → v.items = []
  c : v.k = 6 → v.keys.length = v.items.length
  d : v.k = 6 ∨ v.k = 5 → v.n = 0 ∧ v.s = ⟨#[]⟩
  e : ∀ (i k : Nat) (x : ByteArray), k < i → i < v.items.length → v.keys[k]? = some x → v.keys[i]? ≠ some x
inductive Cl : Val → Prop
  | mk (v : Val) : ClC v → (∀ x ∈ v.items, Cl x) → Cl v
theorem Cl.c {v : Val} (h : Cl v) : ClC v := by cases h; assumption
theorem Cl.x {v : Val} (h : Cl v) : ∀ x ∈ v.items, Cl x := by cases h; assumption
/-- The first index of a key that occurs once. -/
theorem ix_once {k : ByteArray} {l : List ByteArray} {i : Nat} (h : l[i]? = some k) (hn : ∀ j, j < i → l[j]? ≠ some k) : ix k l 0 = i := by
  have h1 := ix_first k l 0 i h
  have h2 := ix_at k l 0 h1.1
  rcases Nat.lt_or_ge (ix k l 0).toNat i with q | q
  · exact absurd (by simpa using h2) (hn _ q)
  · omega
theorem typ_coll (on : ByteArray) (one : Pk → Val) (l : List Pk) : typT (collV on one l) = on := by
  simp [typT, getV, collV, ix, Val.k_mk, Val.s_mk, Val.items_mk, Val.keys_mk]
end Go.Proofs.Ytmcgjccheehehaa
