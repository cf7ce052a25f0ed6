/-
  The parts PcCZ of the proof, in one file. Conditions: none.
-/
import Derived.Test.YtpenniildabheaaPb53
namespace Go.Proofs.Ytpenniildabheaa
open Go.Eng
set_option linter.unusedVariables false
set_option linter.unusedSimpArgs false
theorem copies_law (αs : List AV) (h : ASs Try.prog [9, 3, 3] αs) : MeetsF Try.prog 4 [] 0 αs (.b true) := by
  obtain ⟨α1, α2, α3, rfl, h1, h2, h3⟩ := as_n3 h
  obtain ⟨x1, rfl, w1⟩ := reads_string h1
  obtain ⟨x2, rfl, w2⟩ := reads_int h2
  obtain ⟨x3, rfl, w3⟩ := reads_int h3
  exact lawCopies x1 x2 x3 [] 0
set_option maxRecDepth 100000 in
theorem copies_lifted (os : Os) (started : os.Started) (H : Type) (enc : TypeId × Value → H) :
    ReturnsInHanded {} Try.checked os 4 .any (Rows.plancacheCopiesSpec.pre6 enc Try.prog Try.f4 Rows.plancacheCopiesRow.domain false) (Rows.plancacheCopiesSpec.post enc Try.prog Try.f4 false true false false) := by
  refine returnsInHanded_of_change (C := Try.checked) own started (by kernel_rfl) Try.func4
    (ChangeSpec.witness6 (enc := enc) (C := Try.checked) false ⟨#[], #[.string ⟨#[]⟩, .int .i64 0, .int .i64 0], []⟩ 8 (by kernel_rfl) (by kernel_rfl) (by kernel_rfl) (by kernel_rfl)) ?_
  intro W base args ds gs before hval hW _ _
  refine law_contract (tb := 4) kids sized ?_ rfl (fun ds hl => ?_) rfl Try.underlying4 (fun αs h => copies_law αs h) hval hW
  · exact par_lt (by kernel_rfl)
  · obtain ⟨d1, d2, d3, rfl⟩ := ds_n3 (show ds.length = 3 from hl)
    exact ⟨rfl, rfl, rfl⟩
/-- The statement PlancacheCopies. -/
theorem copies_holds : Rows.PlancacheCopiesSaid :=
  OpenClaim.holds_of_wide 4 Try.f4 rfl rfl rfl rfl rfl rfl rfl ⟨rfl, rfl, rfl, rfl, rfl⟩ rfl rfl rfl rfl rfl (by kernel_rfl) Try.func4 (by kernel_rfl)
    (of_decide_eq_true (by kernel_rfl)) (by unfold Func.isWrapper; first | (rw [if_pos (by decide +kernel)]; kernel_rfl) | (rw [if_neg (by decide +kernel)]; exact ⟨rfl, rfl⟩))
    (fun os started H enc _ => copies_lifted os started H enc)
theorem plancache_copies : Rows.PlancacheCopiesSaid ∧ True := ⟨copies_holds, trivial⟩
end Go.Proofs.Ytpenniildabheaa
