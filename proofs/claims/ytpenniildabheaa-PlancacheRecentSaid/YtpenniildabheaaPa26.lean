/-
  The parts VaB of the proof, in one file. Conditions: none.
-/
import Derived.Test.YtpenniildabheaaPa25
namespace Go.Proofs.Ytpenniildabheaa
open Go.Eng
set_option linter.unusedVariables false
set_option linter.unusedSimpArgs false
set_option maxRecDepth 20000
theorem clone_ok (l : List ByteArray) (h : l.length * 16 ≤ 140737488355327) (hp : CH) (m : Nat) : MeetsF Try.prog 39 hp m [.ds (stC l)] (.ds (stC l)) := by
  refine meetsF Try.func39 (by kernel_rfl) cc39 cr39 rfl fun hf => ?_; unfold ck39
  simp only [go_sem, ↓reduceIte, Nat.reduceEqDiff, Nat.reduceBEq, Nat.reduceAdd, Nat.reduceLeDiff, Nat.reduceLT, reduceCtorEq, Nat.reduceMul, Nat.reduceSub, Int.reduceEq, Int.reduceLT, Int.reduceLE, Int.reduceToNat]
  exact ⟨fun e => by rw [e], by omega, by omega⟩
end Go.Proofs.Ytpenniildabheaa
