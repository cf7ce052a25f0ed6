/-
  The parts SbB SbD SbE of the proof, in one file. Conditions: none.
-/
import Derived.Test.YtmcgjccheehehaaQjo48
namespace Go.Proofs.Ytmcgjccheehehaa
open Go.Eng
set_option linter.unusedVariables false
set_option linter.unusedSimpArgs false
set_option maxRecDepth 20000
set_option maxHeartbeats 1000000
/-- No two picks have the same type and key, no key is __t. -/
inductive Sg : List Pk → Prop
  | mk (l : List Pk) : (∀ (i k : Nat) p q, k < i → l[k]? = some p → l[i]? = some q → ¬ (p.on = q.on ∧ p.key = q.key)) → (∀ p ∈ l, p.key ≠ ttN) → (∀ p ∈ l, Sg p.picks) → Sg l
theorem Sg.n {l : List Pk} (h : Sg l) : ∀ (i k : Nat) p q, k < i → l[k]? = some p → l[i]? = some q → ¬ (p.on = q.on ∧ p.key = q.key) := by cases h; assumption
theorem Sg.t {l : List Pk} (h : Sg l) : ∀ p ∈ l, p.key ≠ ttN := by cases h; assumption
theorem Sg.p {l : List Pk} (h : Sg l) : ∀ p ∈ l, Sg p.picks := by cases h; assumption
end Go.Proofs.Ytmcgjccheehehaa
namespace Go.Proofs.Ytmcgjccheehehaa
open Go.Eng
set_option linter.unusedVariables false
set_option linter.unusedSimpArgs false
/-- What 'clean' asks of one node. -/
structure ClC (v : Val) : Prop where
  a : v.k ≠ 6 → v.keys = []
  b : v.k ≠ 6 → v.k ≠ 5 → v.items = []
  c : v.k = 6 → v.keys.length = v.items.length
  d : v.k = 6 ∨ v.k = 5 → v.n = 0 ∧ v.s = ⟨#[]⟩
  e : ∀ (i k : Nat) (x : ByteArray), k < i → i < v.items.length → v.keys[k]? = some x → v.keys[i]? ≠ some x
inductive Cl : Val → Prop
  | mk (v : Val) : ClC v → (∀ x ∈ v.items, Cl x) → Cl v
theorem Cl.c {v : Val} (h : Cl v) : ClC v := by cases h; assumption
theorem Cl.x {v : Val} (h : Cl v) : ∀ x ∈ v.items, Cl x := by cases h; assumption
end Go.Proofs.Ytmcgjccheehehaa
namespace Go.Proofs.Ytmcgjccheehehaa
open Go.Eng
set_option linter.unusedVariables false
set_option linter.unusedSimpArgs false
/-- Two lists, element by element. -/
inductive F2 {α β : Type} (R : α → β → Prop) : List α → List β → Prop
  | nil : F2 R [] []
  | cons {a : α} {b : β} {l : List α} {m : List β} : R a b → F2 R l m → F2 R (a :: l) (b :: m)
theorem F2.app {α β : Type} {R : α → β → Prop} {l l' : List α} {m m' : List β} (h : F2 R l m) (h' : F2 R l' m') : F2 R (l ++ l') (m ++ m') := by
  induction h with
  | nil => exact h'
  | cons r _ ih => exact .cons r ih
end Go.Proofs.Ytmcgjccheehehaa
