/-
  The parts PcZ of the proof, in one file. Conditions: none.
-/
import Derived.Test.YtpenniildabheaaRows
import Derived.WalkKit
import Derived.Test.YtpenniildabheaaPb42
namespace Go.Proofs.Ytpenniildabheaa
open Go.Eng
set_option linter.unusedVariables false
set_option linter.unusedSimpArgs false
theorem own : ownKnob Try.prog.godebug = none := by kernel_rfl
theorem kids : Kids Try.prog (· < Try.prog.types.size) := kids_rows (by kernel_rfl) (by kernel_rfl)
theorem sized {t e : TypeId} (ht : t < Try.prog.types.size) (hd : Try.prog.underlying t = some (.slice e)) : 0 < Try.prog.cellsOf e := slB_of (by kernel_rfl) ht hd
theorem reads_int {α : AV} (h : AS Try.prog 3 α) : ∃ n : Int, α = .i .i64 n ∧ True := by
  obtain ⟨n, rfl, _⟩ := as_int Try.underlying3 h
  exact ⟨n, rfl, trivial⟩
theorem reads_string {α : AV} (h : AS Try.prog 9 α) : ∃ b : ByteArray, α = .s b ∧ True := by
  obtain ⟨b, rfl, _⟩ := as_string Try.underlying9 h
  exact ⟨b, rfl, trivial⟩
end Go.Proofs.Ytpenniildabheaa
