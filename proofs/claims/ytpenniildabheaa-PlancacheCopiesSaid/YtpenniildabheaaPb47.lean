/-
  The parts PcCC of the proof, in one file. Conditions: none.
-/
import Derived.Test.YtpenniildabheaaPb46
namespace Go.Proofs.Ytpenniildabheaa
open Go.Eng
set_option linter.unusedVariables false
set_option linter.unusedSimpArgs false
set_option maxRecDepth 20000
set_option maxHeartbeats 2000000
/-- Memory behind new plans. -/
def plL (n : Int) (m : Nat) : CH := [(m + 9, .rn 0 3 [[.i .i64 1, .rw (m + 7) 0 1, .rw (m + 8) 0 1]]),
  (m + 8, .rn 0 8 [[.i .i64 n, .i .i64 1, .rw (m + 4) 0 1, .s ⟨#[81, 117, 101, 114, 121]⟩, .rw (m + 2) 0 1, .i .i64 0, .rw (m + 5) 0 1, .rw (m + 3) 0 1]]),
  (m + 7, .rn 0 9 [pkN ⟨#[97]⟩ .e0 (.rw m 0 1) .e0]),
  (m + 6, .bx [.i .i64 n, .i .i64 1, .rw (m + 4) 0 1, .s ⟨#[81, 117, 101, 114, 121]⟩, .rw (m + 2) 0 1, .i .i64 0, .rw (m + 5) 0 1, .rw (m + 3) 0 1]),
  (m + 6, .bx [.i .i64 0, .i .i64 0, .e0, .s ⟨#[]⟩, .e0, .i .i64 0, .e0, .e0]),
  (m + 5, .rn 0 9 [pkN ⟨#[97]⟩ .e0 (.rw m 0 1) .e0]), (m + 4, .rw 0 2 [[.s ⟨#[81, 117, 101, 114, 121]⟩, .s ⟨#[97]⟩]]), (m + 3, .rw 0 1 [[.i .i64 n]]), (m + 2, .rw 0 1 [[.s ⟨#[105, 100]⟩]]),
  (m + 1, .bx (pkN ⟨#[97]⟩ .e0 (.rw m 0 1) .e0)), (m + 1, .bx [.s ⟨#[]⟩, .s ⟨#[]⟩, .s ⟨#[]⟩, .e0, .s ⟨#[]⟩, .e0, .s ⟨#[]⟩, .i .i64 0, .e0]), (m, .rw 0 1 [[.i .i64 1]])]
theorem plansN (n : Int) (hp : CH) (m : Nat) : Meets Try.prog 10 hp m [.i .i64 n] (fun hp' n' r => hp' = plL n m ++ hp ∧ n' = m + 10 ∧ r = .rw (m + 9) 0 1) := by
  refine meets Try.func10 (by kernel_rfl) cc910 cr910 rfl ?_; unfold ck910
  unfold plL pkN
  simp (disch := omega) only [ite_ne, go_sem, ↓reduceIte, Nat.reduceEqDiff, Nat.reduceBEq, Nat.reduceAdd, Nat.reduceLeDiff, Nat.reduceLT, reduceCtorEq, Nat.reduceMul, Nat.reduceSub, Int.reduceEq, Int.reduceLT, Int.reduceLE, Int.reduceToNat]
  try rfl
end Go.Proofs.Ytpenniildabheaa
