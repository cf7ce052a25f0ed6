/-
  The parts VsZ of the proof, in one file. Conditions: none.
-/
import Derived.Test.YtaeablbcfkamjaaVt53
namespace Go.Proofs.Ytaeablbcfkamjaa
open Go.Eng
set_option linter.unusedVariables false
set_option linter.unusedSimpArgs false
theorem val_fit (v : Val) (h : avw (vx v) ≤ 1048576) : v.Fit ∧ wtV v ≤ 1000000000 := by
  have := vx_av v
  exact ⟨wtV_fit v (by omega), by omega⟩
theorem vsort_law (αs : List AV) (h : ASs Try.prog [25] αs) (hw : avL αs ≤ 1048576) : MeetsF Try.prog 8 [] 0 αs (.b true) := by
  obtain ⟨α1, rfl, h1⟩ := as_n1 h
  obtain ⟨x1, rfl, w1⟩ := reads_val h1
  simp only [avL] at hw
  exact lawSort x1 (val_fit x1 (by omega)).1 (val_fit x1 (by omega)).2 [] 0
set_option maxRecDepth 100000 in
theorem vsort_lifted (os : Os) (started : os.Started) (H : Type) (enc : TypeId × Value → H) (F : Stop.Interp) :
    ReturnsInHanded {} Try.checked os 8 .any ((Rows.OpenSpec.upto Rows.valueSortSpec).pre6 enc Try.prog Try.f8 Rows.valueSortUptoRow.domain false) (((Rows.OpenSpec.upto Rows.valueSortSpec).at F).post enc Try.prog Try.f8 false true false false) := by
  refine returnsInHanded_of_cond (C := Try.checked) (k := Rows.uptoSmall) rfl own started (by kernel_rfl) Try.func8
    (OpenSpec.witness (enc := enc) (C := Try.checked) (k := Rows.uptoSmall) rfl false ⟨#[], #[.agg #[.int .i64 0, .int .i64 0, .string ⟨#[]⟩, .slice none 0 0, .slice none 0 0]], []⟩ 8 (by kernel_rfl) (by kernel_rfl) (by kernel_rfl) (x := ([.agg [.lit (.int .i64 0), .lit (.int .i64 0), .lit (.string []), .nil, .nil]], [], [])) (by kernel_rfl) (by kernel_rfl) (by kernel_rfl)) ?_
  intro W base args ds gs before hval hW _ hk _
  have hg : gs = [] := by
    obtain ⟨p, q, hA, hV, _⟩ := hW
    exact (ChangeShapes.trodVars_none hV).1
  subst hg
  have hk : Rows.uptoBulkAll ds ≤ 1048576 := by simpa [Rows.uptoSmall] using hk
  refine law_core (s := Rows.valueSortSpec) (tb := 4) kids sized ?_ rfl (fun ds hl => ?_) rfl Try.underlying4 (m := fun αs h hb => vsort_law αs h (Nat.le_trans hb hk)) hval hW
  · exact par_lt (by kernel_rfl)
  · obtain ⟨d1, rfl⟩ := ds_n1 (show ds.length = 1 from hl)
    exact ⟨rfl, rfl, rfl⟩
/-- The statement ValueSort, where what it reads is not too much. -/
theorem vsort_holds : Rows.ValueSortUptoSaid :=
  OpenClaim.holds_of_cond 8 Try.f8 rfl rfl rfl rfl rfl rfl rfl ⟨rfl, rfl, rfl, rfl, rfl⟩ rfl rfl rfl rfl rfl (by kernel_rfl) Try.func8 (by kernel_rfl)
    (of_decide_eq_true (by kernel_rfl)) (by unfold Func.isWrapper; first | (rw [if_pos (by decide +kernel)]; kernel_rfl) | (rw [if_neg (by decide +kernel)]; exact ⟨rfl, rfl⟩))
    (fun os started H enc _ F => vsort_lifted os started H enc F)
end Go.Proofs.Ytaeablbcfkamjaa
