/-
  The parts VaS of the proof, in one file. Conditions: none.
-/
import Derived.Test.YtaeablbcfkamjaaProg
import Derived.WalkKit
import Derived.Lib.Bytealg
import Derived.Test.YtaeablbcfkamjaaVt34
namespace Go.Proofs.Ytaeablbcfkamjaa
open Go.Eng
set_option linter.unusedVariables false
set_option linter.unusedSimpArgs false
set_option maxHeartbeats 1000000 in
set_option maxRecDepth 100000 in
theorem cmpStr (a b : ByteArray) (w : World) :
    Calls Try.prog 66 #[.string a, .string b] w fun e w' => e = .returned (.int .i64 (Lib.compareBytes a.data.toList b.data.toList)) ∧ w' = w := by
  go_enter Try.func66, (by rfl : Try.f66.ntmps = Try.f66.ntmps)
  go_wp2
  rw [run_callFunc_extern Try.func74 (by kernel_rfl) (by kernel_rfl) (by kernel_rfl) (e := Extern.BytealgCompare.compare) (by kernel_rfl), Lib.run_compareString]
  simp only [Result.andThen]
  rw [Oper.upon_value]
  go_wp2
  go_ret
  exact ⟨rfl, rfl⟩
end Go.Proofs.Ytaeablbcfkamjaa
