/-
  The parts PcZ of the proof, in one file. Conditions: none.
-/
import Derived.Test.YtpenniildabheaaRows
import Derived.WalkKit
import Derived.Test.YtpenniildabheaaPa50
namespace Go.Proofs.Ytpenniildabheaa
open Go.Eng
set_option linter.unusedVariables false
set_option linter.unusedSimpArgs false
theorem own : ownKnob Try.prog.godebug = none := by kernel_rfl
theorem kids : Kids Try.prog (· < Try.prog.types.size) := kids_rows (by kernel_rfl) (by kernel_rfl)
theorem sized {t e : TypeId} (ht : t < Try.prog.types.size) (hd : Try.prog.underlying t = some (.slice e)) : 0 < Try.prog.cellsOf e := slB_of (by kernel_rfl) ht hd
theorem reads_int {α : AV} (h : AS Try.prog 3 α) : ∃ n : Int, α = .i .i64 n ∧ True := by
  obtain ⟨n, rfl, _⟩ := as_int Try.underlying3 h
  exact ⟨n, rfl, trivial⟩
theorem reads_u8 {α : AV} (h : AS Try.prog 5 α) : ∃ n : Int, α = .i .u8 n ∧ (0 ≤ n ∧ n ≤ 255) := by
  obtain ⟨n, rfl, hr⟩ := as_int Try.underlying5 h
  have h1 : IntKind.u8.min = 0 := by decide
  have h2 : IntKind.u8.max = 255 := by decide
  simp only [Lit.wf, Bool.and_eq_true, decide_eq_true_eq, h1, h2] at hr
  exact ⟨n, rfl, hr⟩
theorem shp_step {L : List AV} (h : Shp Try.prog 44 L) : ∃ f : Stp, L = stpC f := by
  obtain ⟨parts, rfl, hl, hp⟩ := shp_struct Try.underlying44 h
  obtain ⟨a, b, c, d, rfl⟩ := ds_n4 (show parts.length = 4 from hl)
  obtain ⟨a, rfl, _⟩ := shp_int Try.underlying5 (hp 0 _ a rfl rfl)
  obtain ⟨b, rfl, _⟩ := shp_string Try.underlying9 (hp 1 _ b rfl rfl)
  obtain ⟨c, rfl, _⟩ := shp_int Try.underlying3 (hp 2 _ c rfl rfl)
  obtain ⟨d, rfl, _⟩ := shp_int Try.underlying3 (hp 3 _ d rfl rfl)
  exact ⟨⟨a, b, c, d⟩, rfl⟩
theorem reads_step {α : AV} (h : AS Try.prog 44 α) : ∃ f : Stp, α = .ag (stpC f) ∧ True := by
  obtain ⟨L, rfl, h2⟩ := as_struct Try.underlying44 h
  obtain ⟨f, rfl⟩ := shp_step h2
  exact ⟨f, rfl, trivial⟩
theorem reads_steps {α : AV} (h : AS Try.prog 38 α) : ∃ l : List Stp, α = .ds (mapC stpC l) ∧ True := by
  obtain ⟨l, rfl, _, hx⟩ := as_slice Try.underlying38 h
  obtain ⟨m, rfl, _⟩ := mapC_of (c := stpC) fun x h => shp_step (hx x h)
  exact ⟨m, rfl, trivial⟩
end Go.Proofs.Ytpenniildabheaa
