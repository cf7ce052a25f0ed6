/-
  The parts DaX SeXT of the proof, in one file. Conditions: none.
-/
import Derived.Test.YthiifoleopdieaaPt53
namespace Go.Proofs.Ythiifoleopdieaa
open Go.Eng
set_option linter.unusedVariables false
set_option linter.unusedSimpArgs false
theorem dat_small (d : Dat) (h : avw (dx d) ≤ 1048576) : d.w.length ≤ 1048576 ∧ ∀ x ∈ d.i, x.l.length ≤ 1048576 := by
  simp only [dx, avw, avL] at h
  have hw : d.w.length ≤ avLL (mapC wrC d.w) := mapC_len_le (fun x => by simp [wrC, avL, avw]; omega) _
  refine ⟨by omega, fun x hx => ?_⟩
  have h1 := avLL_mem (List.mem_map_of_mem (f := itC) hx)
  have h1 : avL (itC x) ≤ avLL (mapC itC d.i) := h1
  simp only [itC, avL, avw] at h1
  have h2 : x.l.length ≤ avLL (mapC celC x.l) := mapC_len_le (fun x => by have := celC_av x; omega) _
  omega
theorem dat_fit2 (d : Dat) (h : avw (dx d) ≤ 1048576) : d.Fit2 :=
  ⟨dat_fit d h, by have := (dat_small d h).1; omega, fun x hx => by have := (dat_small d h).2 x hx; omega⟩
end Go.Proofs.Ythiifoleopdieaa
namespace Go.Proofs.Ythiifoleopdieaa
open Go.Eng
set_option linter.unusedVariables false
set_option linter.unusedSimpArgs false
theorem touched_law (αs : List AV) (h : ASs Try.prog [33, 9, 9] αs) (hw : avL αs ≤ 1048576) : MeetsF Try.prog 5 [] 0 αs (.b true) := by
  obtain ⟨α1, α2, α3, rfl, h1, h2, h3⟩ := as_n3 h
  obtain ⟨x1, rfl, w1⟩ := reads_data h1
  obtain ⟨x2, rfl, w2⟩ := reads_str h2
  obtain ⟨x3, rfl, w3⟩ := reads_str h3
  simp only [avL] at hw
  exact lawTouched x1 (dat_fit2 x1 (by omega)) x2 x3 [] 0
set_option maxRecDepth 100000 in
theorem touched_lifted (os : Os) (started : os.Started) (H : Type) (enc : TypeId × Value → H) (F : Stop.Interp) :
    ReturnsInHanded {} Try.checked os 5 .any ((Rows.OpenSpec.upto Rows.serialTouchedSpec).pre6 enc Try.prog Try.f5 Rows.serialTouchedUptoRow.domain false) (((Rows.OpenSpec.upto Rows.serialTouchedSpec).at F).post enc Try.prog Try.f5 false true false false) := by
  refine returnsInHanded_of_cond (C := Try.checked) (k := Rows.uptoSmall) rfl own started (by kernel_rfl) Try.func5
    (OpenSpec.witness (enc := enc) (C := Try.checked) (k := Rows.uptoSmall) rfl false ⟨#[], #[.agg #[.slice none 0 0, .slice none 0 0], .string ⟨#[]⟩, .string ⟨#[]⟩], []⟩ 8 (by kernel_rfl) (by kernel_rfl) (by kernel_rfl) (x := ([.agg [.nil, .nil], .lit (.string []), .lit (.string [])], [], [])) (by kernel_rfl) (by kernel_rfl) (by kernel_rfl)) ?_
  intro W base args ds gs before hval hW _ hk _
  have hg : gs = [] := by
    obtain ⟨p, q, hA, hV, _⟩ := hW
    exact (ChangeShapes.trodVars_none hV).1
  subst hg
  have hk : Rows.uptoBulkAll ds ≤ 1048576 := by simpa [Rows.uptoSmall] using hk
  refine law_core (s := Rows.serialTouchedSpec) (tb := 4) kids sized ?_ rfl (fun ds hl => ?_) rfl Try.underlying4 (m := fun αs h hb => touched_law αs h (Nat.le_trans hb hk)) hval hW
  · exact par_lt (by kernel_rfl)
  · obtain ⟨d1, d2, d3, rfl⟩ := ds_n3 (show ds.length = 3 from hl)
    exact ⟨rfl, rfl, rfl⟩
/-- The statement SerialTouched, where what it reads is not too much. -/
theorem touched_holds : Rows.SerialTouchedUptoSaid :=
  OpenClaim.holds_of_cond 5 Try.f5 rfl rfl rfl rfl rfl rfl rfl ⟨rfl, rfl, rfl, rfl, rfl⟩ rfl rfl rfl rfl rfl (by kernel_rfl) Try.func5 (by kernel_rfl)
    (of_decide_eq_true (by kernel_rfl)) (by unfold Func.isWrapper; first | (rw [if_pos (by decide +kernel)]; kernel_rfl) | (rw [if_neg (by decide +kernel)]; exact ⟨rfl, rfl⟩))
    (fun os started H enc _ F => touched_lifted os started H enc F)
end Go.Proofs.Ythiifoleopdieaa
