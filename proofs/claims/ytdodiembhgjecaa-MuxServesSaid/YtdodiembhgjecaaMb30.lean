/-
  The parts MxC of the proof, in one file. Conditions: none.
-/
import Derived.Test.YtdodiembhgjecaaMb29
namespace Go.Proofs.Ytdodiembhgjecaa
open Go.Eng
set_option linter.unusedVariables false
set_option linter.unusedSimpArgs false
set_option maxRecDepth 20000
set_option maxHeartbeats 1000000
theorem take_snoc {α : Type} {l : List α} {j : Nat} {x : α} (h : l[j]? = some x) : l.take j ++ [x] = l.take (j + 1) := by
  rw [List.take_add_one, h]
  rfl
theorem frames_eq (l : List Frm) (hl : l.length ≤ 1000000) (hp : CH) (m : Nat) : MeetsF Try.prog 16 hp m [.ds (mapC frC l), .ds (mapC frC l)] (.b true) := by
  refine meetsF Try.func16 (by kernel_rfl) cc16 cr16 rfl fun hf => ?_; unfold ck16
  simp only [go_sem, ↓reduceIte, Nat.reduceEqDiff, Nat.reduceBEq, Nat.reduceAdd, Nat.reduceLeDiff, Nat.reduceLT, reduceCtorEq, Nat.reduceMul, Nat.reduceSub, Int.reduceEq, Int.reduceLT, Int.reduceLE, Int.reduceToNat]
  refine loop (fun q : Nat × Nat => ⟨[(0, .ds (mapC frC l)), (1, .ds (mapC frC l)), (5, .i .i64 q.1)], hp, q.2⟩) (fun q => q.1 ≤ l.length) (fun q => l.length - q.1) (0, m) ?_ ?_ (fun ⟨j, n⟩ hj => ?_)
  · simp
  · refine weak_ok ?_ (Sub.refl _) (Nat.le_refl _)
    simp only [go_sem, ↓reduceIte, Nat.reduceEqDiff, Nat.reduceBEq, Nat.reduceAdd, Nat.reduceLeDiff, Nat.reduceLT, reduceCtorEq, Nat.reduceMul, Nat.reduceSub, Int.reduceEq, Int.reduceLT, Int.reduceLE, Int.reduceToNat]
  dsimp only at hj
  simp (disch := omega) only [ite_ne, go_sem, ↓reduceIte, Nat.reduceEqDiff, Nat.reduceBEq, Nat.reduceAdd, Nat.reduceLeDiff, Nat.reduceLT, reduceCtorEq, Nat.reduceMul, Nat.reduceSub, Int.reduceEq, Int.reduceLT, Int.reduceLE, Int.reduceToNat]
  refine cdK_of (fun q => ?_) (fun q => ?_)
  · have q : j < l.length := by simpa using q
    obtain ⟨x, ex⟩ : ∃ x, l[j]? = some x := ⟨l[j], by simp [q]⟩
    simp (disch := omega) only [ite_ne, q, getK_s (mapC_get frC ex), decide_true, go_sem, ↓reduceIte, Nat.reduceEqDiff, Nat.reduceBEq, Nat.reduceAdd, Nat.reduceLeDiff, Nat.reduceLT, reduceCtorEq, Nat.reduceMul, Nat.reduceSub, Int.reduceEq, Int.reduceLT, Int.reduceLE, Int.reduceToNat]
    refine ⟨(j + 1, _), by dsimp only; omega, by dsimp only; omega, weak_ok ?_ (Sub.refl _) (Nat.le_refl _)⟩
    simp (disch := omega) only [ite_ne, wr64s j (by omega), go_sem, ↓reduceIte, Nat.reduceEqDiff, Nat.reduceBEq, Nat.reduceAdd, Nat.reduceLeDiff, Nat.reduceLT, reduceCtorEq, Nat.reduceMul, Nat.reduceSub, Int.reduceEq, Int.reduceLT, Int.reduceLE, Int.reduceToNat]
  · simp only [go_sem, ↓reduceIte, Nat.reduceEqDiff, Nat.reduceBEq, Nat.reduceAdd, Nat.reduceLeDiff, Nat.reduceLT, reduceCtorEq, Nat.reduceMul, Nat.reduceSub, Int.reduceEq, Int.reduceLT, Int.reduceLE, Int.reduceToNat]
end Go.Proofs.Ytdodiembhgjecaa
