/-
  The parts DaD of the proof, in one file. Conditions: none.
-/
import Derived.Test.YthiifoleopdieaaPj36
namespace Go.Proofs.Ythiifoleopdieaa
open Go.Eng
set_option linter.unusedVariables false
set_option linter.unusedSimpArgs false
set_option maxRecDepth 20000
def txV (s : ByteArray) : Val := .mk 3 0 s [] []
theorem text_ok (s : ByteArray) (hp : CH) (m : Nat) : MeetsF Try.prog 25 hp m [.s s] (vx (txV s)) := by
  refine meetsF Try.func25 (by kernel_rfl) cc25 cr25 rfl fun hf => ?_; unfold ck25
  simp only [go_sem, ↓reduceIte, Nat.reduceEqDiff, Nat.reduceBEq, Nat.reduceAdd, Nat.reduceLeDiff, Nat.reduceLT, reduceCtorEq, Nat.reduceMul, Nat.reduceSub, Int.reduceEq, Int.reduceLT, Int.reduceLE, Int.reduceToNat]
  rfl
theorem tx_fit (s : ByteArray) : (txV s).Fit := .mk _ (by simp [txV, Val.items_mk]) (by simp [txV, Val.keys_mk]) (by simp [txV, Val.items_mk])
end Go.Proofs.Ythiifoleopdieaa
