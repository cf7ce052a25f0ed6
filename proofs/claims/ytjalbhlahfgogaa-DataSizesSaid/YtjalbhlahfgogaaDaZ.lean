/-
  The statements about right datasets and lookups. Conditions: none.
-/
import Derived.Test.YtjalbhlahfgogaaDaR
import Derived.Test.YtjalbhlahfgogaaDaD
namespace Go.Proofs.Ytjalbhlahfgogaa
open Go.Eng
set_option linter.unusedVariables false
set_option linter.unusedSimpArgs false
theorem reads_ask {α : AV} (h : AS Try.prog 41 α) : ∃ q : Int × ByteArray × ByteArray, α = .ag [.i .i64 q.1, .s q.2.1, .s q.2.2] ∧ True := by
  obtain ⟨L, rfl, h2⟩ := as_struct Try.underlying41 h
  obtain ⟨parts, rfl, hl, hp⟩ := shp_struct Try.underlying41 h2
  obtain ⟨a, b, c, rfl⟩ := ds_n3 (show parts.length = 3 from hl)
  obtain ⟨a, rfl, _⟩ := shp_int Try.underlying3 (hp 0 _ a rfl rfl)
  obtain ⟨b, rfl, _⟩ := shp_string Try.underlying9 (hp 1 _ b rfl rfl)
  obtain ⟨c, rfl, _⟩ := shp_string Try.underlying9 (hp 2 _ c rfl rfl)
  exact ⟨(a, b, c), rfl, trivial⟩
theorem rights_law (αs : List AV) (h : ASs Try.prog [25] αs) (hw : avL αs ≤ 1048576) : MeetsF Try.prog 3 [] 0 αs (.b true) := by
  obtain ⟨α1, rfl, h1⟩ := as_n1 h
  obtain ⟨x1, rfl, w1⟩ := reads_data h1
  simp only [avL] at hw
  exact lawRights x1 (dat_fit x1 (by omega)) [] 0
set_option maxRecDepth 100000 in
theorem rights_lifted (os : Os) (started : os.Started) (H : Type) (enc : TypeId × Value → H) (F : Stop.Interp) :
    ReturnsInHanded {} Try.checked os 3 .any ((Rows.OpenSpec.upto Rows.dataRightsSpec).pre6 enc Try.prog Try.f3 Rows.dataRightsUptoRow.domain false) (((Rows.OpenSpec.upto Rows.dataRightsSpec).at F).post enc Try.prog Try.f3 false true false false) := by
  refine returnsInHanded_of_cond (C := Try.checked) (k := Rows.uptoSmall) rfl own started (by kernel_rfl) Try.func3
    (OpenSpec.witness (enc := enc) (C := Try.checked) (k := Rows.uptoSmall) rfl false ⟨#[], #[.agg #[.slice none 0 0, .slice none 0 0]], []⟩ 8 (by kernel_rfl) (by kernel_rfl) (by kernel_rfl) (x := ([.agg [.nil, .nil]], [], [])) (by kernel_rfl) (by kernel_rfl) (by kernel_rfl)) ?_
  intro W base args ds gs before hval hW _ hk _
  have hg : gs = [] := by
    obtain ⟨p, q, hA, hV, _⟩ := hW
    exact (ChangeShapes.trodVars_none hV).1
  subst hg
  have hk : Rows.uptoBulkAll ds ≤ 1048576 := by simpa [Rows.uptoSmall] using hk
  refine law_core (s := Rows.dataRightsSpec) (tb := 4) kids sized ?_ rfl (fun ds hl => ?_) rfl Try.underlying4 (m := fun αs h hb => rights_law αs h (Nat.le_trans hb hk)) hval hW
  · exact par_lt (by kernel_rfl)
  · obtain ⟨d1, rfl⟩ := ds_n1 (show ds.length = 1 from hl)
    exact ⟨rfl, rfl, rfl⟩
/-- The statement DataRights, where what it reads is not too much. -/
theorem rights_holds : Rows.DataRightsUptoSaid :=
  OpenClaim.holds_of_cond 3 Try.f3 rfl rfl rfl rfl rfl rfl rfl ⟨rfl, rfl, rfl, rfl, rfl⟩ rfl rfl rfl rfl rfl (by kernel_rfl) Try.func3 (by kernel_rfl)
    (of_decide_eq_true (by kernel_rfl)) (by unfold Func.isWrapper; first | (rw [if_pos (by decide +kernel)]; kernel_rfl) | (rw [if_neg (by decide +kernel)]; exact ⟨rfl, rfl⟩))
    (fun os started H enc _ F => rights_lifted os started H enc F)
theorem lookups_law (αs : List AV) (h : ASs Try.prog [25, 41, 9] αs) (hw : avL αs ≤ 1048576) : MeetsF Try.prog 5 [] 0 αs (.b true) := by
  obtain ⟨α1, α2, α3, rfl, h1, h2, h3⟩ := as_n3 h
  obtain ⟨x1, rfl, w1⟩ := reads_data h1
  obtain ⟨x2, rfl, w2⟩ := reads_ask h2
  obtain ⟨x3, rfl, w3⟩ := reads_str h3
  simp only [avL] at hw
  exact lawLookups x1 (dat_fit x1 (by omega)) x2.1 x2.2.1 x2.2.2 x3 [] 0
set_option maxRecDepth 100000 in
theorem lookups_lifted (os : Os) (started : os.Started) (H : Type) (enc : TypeId × Value → H) (F : Stop.Interp) :
    ReturnsInHanded {} Try.checked os 5 .any ((Rows.OpenSpec.upto Rows.dataLookupsSpec).pre6 enc Try.prog Try.f5 Rows.dataLookupsUptoRow.domain false) (((Rows.OpenSpec.upto Rows.dataLookupsSpec).at F).post enc Try.prog Try.f5 false true false false) := by
  refine returnsInHanded_of_cond (C := Try.checked) (k := Rows.uptoSmall) rfl own started (by kernel_rfl) Try.func5
    (OpenSpec.witness (enc := enc) (C := Try.checked) (k := Rows.uptoSmall) rfl false ⟨#[], #[.agg #[.slice none 0 0, .slice none 0 0], .agg #[.int .i64 0, .string ⟨#[]⟩, .string ⟨#[]⟩], .string ⟨#[]⟩], []⟩ 8 (by kernel_rfl) (by kernel_rfl) (by kernel_rfl) (x := ([.agg [.nil, .nil], .agg [.lit (.int .i64 0), .lit (.string []), .lit (.string [])], .lit (.string [])], [], [])) (by kernel_rfl) (by kernel_rfl) (by kernel_rfl)) ?_
  intro W base args ds gs before hval hW _ hk _
  have hg : gs = [] := by
    obtain ⟨p, q, hA, hV, _⟩ := hW
    exact (ChangeShapes.trodVars_none hV).1
  subst hg
  have hk : Rows.uptoBulkAll ds ≤ 1048576 := by simpa [Rows.uptoSmall] using hk
  refine law_core (s := Rows.dataLookupsSpec) (tb := 4) kids sized ?_ rfl (fun ds hl => ?_) rfl Try.underlying4 (m := fun αs h hb => lookups_law αs h (Nat.le_trans hb hk)) hval hW
  · exact par_lt (by kernel_rfl)
  · obtain ⟨d1, d2, d3, rfl⟩ := ds_n3 (show ds.length = 3 from hl)
    exact ⟨rfl, rfl, rfl⟩
/-- The statement DataLookups, where what it reads is not too much. -/
theorem lookups_holds : Rows.DataLookupsUptoSaid :=
  OpenClaim.holds_of_cond 5 Try.f5 rfl rfl rfl rfl rfl rfl rfl ⟨rfl, rfl, rfl, rfl, rfl⟩ rfl rfl rfl rfl rfl (by kernel_rfl) Try.func5 (by kernel_rfl)
    (of_decide_eq_true (by kernel_rfl)) (by unfold Func.isWrapper; first | (rw [if_pos (by decide +kernel)]; kernel_rfl) | (rw [if_neg (by decide +kernel)]; exact ⟨rfl, rfl⟩))
    (fun os started H enc _ F => lookups_lifted os started H enc F)
theorem sizes_law (αs : List AV) (h : ASs Try.prog [3, 3] αs) : MeetsF Try.prog 4 [] 0 αs (.b true) := by
  obtain ⟨α1, α2, rfl, h1, h2⟩ := as_n2 h
  obtain ⟨x1, rfl, w1⟩ := reads_num h1
  obtain ⟨x2, rfl, w2⟩ := reads_num h2
  exact lawSizes x1 x2 [] 0
set_option maxRecDepth 100000 in
theorem sizes_lifted (os : Os) (started : os.Started) (H : Type) (enc : TypeId × Value → H) :
    ReturnsInHanded {} Try.checked os 4 .any (Rows.dataSizesSpec.pre6 enc Try.prog Try.f4 Rows.dataSizesRow.domain false) (Rows.dataSizesSpec.post enc Try.prog Try.f4 false true false false) := by
  refine returnsInHanded_of_change (C := Try.checked) own started (by kernel_rfl) Try.func4
    (ChangeSpec.witness6 (enc := enc) (C := Try.checked) false ⟨#[], #[.int .i64 0, .int .i64 0], []⟩ 8 (by kernel_rfl) (by kernel_rfl) (by kernel_rfl) (by kernel_rfl)) ?_
  intro W base args ds gs before hval hW _ _
  refine law_contract (tb := 4) kids sized ?_ rfl (fun ds hl => ?_) rfl Try.underlying4 (fun αs h => sizes_law αs h) hval hW
  · exact par_lt (by kernel_rfl)
  · obtain ⟨d1, d2, rfl⟩ := ds_n2 (show ds.length = 2 from hl)
    exact ⟨rfl, rfl, rfl⟩
/-- The statement DataSizes. -/
theorem sizes_holds : Rows.DataSizesSaid :=
  OpenClaim.holds_of_wide 4 Try.f4 rfl rfl rfl rfl rfl rfl rfl ⟨rfl, rfl, rfl, rfl, rfl⟩ rfl rfl rfl rfl rfl (by kernel_rfl) Try.func4 (by kernel_rfl)
    (of_decide_eq_true (by kernel_rfl)) (by unfold Func.isWrapper; first | (rw [if_pos (by decide +kernel)]; kernel_rfl) | (rw [if_neg (by decide +kernel)]; exact ⟨rfl, rfl⟩))
    (fun os started H enc _ => sizes_lifted os started H enc)
end Go.Proofs.Ytjalbhlahfgogaa
