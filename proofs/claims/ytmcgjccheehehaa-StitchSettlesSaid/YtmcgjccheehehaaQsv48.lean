/-
  The parts SbE SbF of the proof, in one file. Conditions: none.
-/
import Derived.Test.YtmcgjccheehehaaQsv47
namespace Go.Proofs.Ytmcgjccheehehaa
open Go.Eng
set_option linter.unusedVariables false
set_option linter.unusedSimpArgs false
/-- Two lists, element by element. -/
inductive F2 {α β : Type} (R : α → β → Prop) : List α → List β → Prop
  | nil : F2 R [] []
  | cons {a : α} {b : β} {l : List α} {m : List β} : R a b → F2 R l m → F2 R (a :: l) (b :: m)
theorem F2.app {α β : Type} {R : α → β → Prop} {l l' : List α} {m m' : List β} (h : F2 R l m) (h' : F2 R l' m') : F2 R (l ++ l') (m ++ m') := by
  induction h with
  | nil => exact h'
  | cons r _ ih => exact .cons r ih
end Go.Proofs.Ytmcgjccheehehaa
namespace Go.Proofs.Ytmcgjccheehehaa
open Go.Eng
set_option linter.unusedVariables false
set_option linter.unusedSimpArgs false
theorem wt_failO (f : Fet) (s : ByteArray) : wtV (failO f s) ≤ 3 + 2 * wtKs f.pk := by
  have h1 := onP_len f.t f.pk
  have h2 := wtKs_len f.pk
  rw [wtV_eq]
  unfold failO collV
  simp only [Val.items_mk, Val.keys_mk, List.length_cons, List.length_map]
  rw [wtL, wt_fails, wtV_eq]
  simp only [Val.items_mk, Val.keys_mk, List.length_nil, wtL]
  omega
end Go.Proofs.Ytmcgjccheehehaa
