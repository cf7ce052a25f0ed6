/-
  The statements about right datasets and lookups, for all datasets. Conditions: none.
-/
import Derived.Test.YtjalbhlahfgogaaDaRQ
import Derived.Test.YtjalbhlahfgogaaDaD
namespace Go.Proofs.Ytjalbhlahfgogaa
open Go.Eng
set_option linter.unusedVariables false
set_option linter.unusedSimpArgs false
theorem readq_ask {α : AV} (h : AQ Try.prog 41 α) : ∃ q : Int × ByteArray × ByteArray, α = .ag [.i .i64 q.1, .s q.2.1, .s q.2.2] ∧ True := by
  obtain ⟨L, rfl, h2⟩ := aq_struct Try.underlying41 h
  obtain ⟨parts, rfl, hl, hp⟩ := shq_struct Try.underlying41 h2
  obtain ⟨a, b, c, rfl⟩ := ds_n3 (show parts.length = 3 from hl)
  obtain ⟨a, rfl, _⟩ := shp_int Try.underlying3 (hp 0 _ a rfl rfl).shp
  obtain ⟨b, rfl, _⟩ := shp_string Try.underlying9 (hp 1 _ b rfl rfl).shp
  obtain ⟨c, rfl, _⟩ := shp_string Try.underlying9 (hp 2 _ c rfl rfl).shp
  exact ⟨(a, b, c), rfl, trivial⟩
theorem rights_law (αs : List AV) (h : AQs Try.prog [25] αs) : MeetsF Try.prog 3 [] 0 αs (.b true) := by
  obtain ⟨α1, rfl, h1⟩ := aq_n1 h
  obtain ⟨x1, rfl, w1⟩ := readq_data h1
  exact lawRights x1 w1 [] 0
set_option maxRecDepth 100000 in
theorem rights_lifted (os : Os) (started : os.Started) (H : Type) (enc : TypeId × Value → H) :
    ReturnsInHanded {} Try.checked os 3 .any (Rows.dataRightsSpec.pre6 enc Try.prog Try.f3 Rows.dataRightsRow.domain false) (Rows.dataRightsSpec.post enc Try.prog Try.f3 false true false false) := by
  refine returnsInHanded_of_change_sized (C := Try.checked) own started (by kernel_rfl) Try.func3
    (ChangeSpec.witness6 (enc := enc) (C := Try.checked) false ⟨#[], #[.agg #[.slice none 0 0, .slice none 0 0]], []⟩ 8 (by kernel_rfl) (by kernel_rfl) (by kernel_rfl) (by kernel_rfl)) ?_
  intro W base args ds gs before hval hW _ hz _
  refine law_sized (tb := 4) kids sized ?_ rfl (fun ds hl => ?_) rfl Try.underlying4 (m := fun αs h => rights_law αs h) hval hW hz
  · exact par_lt (by kernel_rfl)
  · obtain ⟨d1, rfl⟩ := ds_n1 (show ds.length = 1 from hl)
    exact ⟨rfl, rfl, rfl⟩
/-- The statement DataRights. -/
theorem rights_holds : Rows.DataRightsSaid :=
  OpenClaim.holds_of_wide 3 Try.f3 rfl rfl rfl rfl rfl rfl rfl ⟨rfl, rfl, rfl, rfl, rfl⟩ rfl rfl rfl rfl rfl (by kernel_rfl) Try.func3 (by kernel_rfl)
    (of_decide_eq_true (by kernel_rfl)) (by unfold Func.isWrapper; first | (rw [if_pos (by decide +kernel)]; kernel_rfl) | (rw [if_neg (by decide +kernel)]; exact ⟨rfl, rfl⟩))
    (fun os started H enc _ => rights_lifted os started H enc)
theorem lookups_law (αs : List AV) (h : AQs Try.prog [25, 41, 9] αs) : MeetsF Try.prog 5 [] 0 αs (.b true) := by
  obtain ⟨α1, α2, α3, rfl, h1, h2, h3⟩ := aq_n3 h
  obtain ⟨x1, rfl, w1⟩ := readq_data h1
  obtain ⟨x2, rfl, w2⟩ := readq_ask h2
  obtain ⟨x3, rfl, w3⟩ := readq_str h3
  exact lawLookups x1 w1 x2.1 x2.2.1 x2.2.2 x3 [] 0
set_option maxRecDepth 100000 in
theorem lookups_lifted (os : Os) (started : os.Started) (H : Type) (enc : TypeId × Value → H) :
    ReturnsInHanded {} Try.checked os 5 .any (Rows.dataLookupsSpec.pre6 enc Try.prog Try.f5 Rows.dataLookupsRow.domain false) (Rows.dataLookupsSpec.post enc Try.prog Try.f5 false true false false) := by
  refine returnsInHanded_of_change_sized (C := Try.checked) own started (by kernel_rfl) Try.func5
    (ChangeSpec.witness6 (enc := enc) (C := Try.checked) false ⟨#[], #[.agg #[.slice none 0 0, .slice none 0 0], .agg #[.int .i64 0, .string ⟨#[]⟩, .string ⟨#[]⟩], .string ⟨#[]⟩], []⟩ 8 (by kernel_rfl) (by kernel_rfl) (by kernel_rfl) (by kernel_rfl)) ?_
  intro W base args ds gs before hval hW _ hz _
  refine law_sized (tb := 4) kids sized ?_ rfl (fun ds hl => ?_) rfl Try.underlying4 (m := fun αs h => lookups_law αs h) hval hW hz
  · exact par_lt (by kernel_rfl)
  · obtain ⟨d1, d2, d3, rfl⟩ := ds_n3 (show ds.length = 3 from hl)
    exact ⟨rfl, rfl, rfl⟩
/-- The statement DataLookups. -/
theorem lookups_holds : Rows.DataLookupsSaid :=
  OpenClaim.holds_of_wide 5 Try.f5 rfl rfl rfl rfl rfl rfl rfl ⟨rfl, rfl, rfl, rfl, rfl⟩ rfl rfl rfl rfl rfl (by kernel_rfl) Try.func5 (by kernel_rfl)
    (of_decide_eq_true (by kernel_rfl)) (by unfold Func.isWrapper; first | (rw [if_pos (by decide +kernel)]; kernel_rfl) | (rw [if_neg (by decide +kernel)]; exact ⟨rfl, rfl⟩))
    (fun os started H enc _ => lookups_lifted os started H enc)
end Go.Proofs.Ytjalbhlahfgogaa
