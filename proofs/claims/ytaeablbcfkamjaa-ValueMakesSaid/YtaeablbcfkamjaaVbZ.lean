/-
  The statements of chapter 2 but for sorting. Conditions: none.
-/
import Derived.Test.YtaeablbcfkamjaaVaR
import Derived.Test.YtaeablbcfkamjaaVbF
namespace Go.Proofs.Ytaeablbcfkamjaa
open Go.Eng
set_option linter.unusedVariables false
set_option linter.unusedSimpArgs false
theorem reads_str {α : AV} (h : AS Try.prog 9 α) : ∃ s : ByteArray, α = .s s ∧ True := by
  obtain ⟨s, rfl, _⟩ := as_string Try.underlying9 h
  exact ⟨s, rfl, trivial⟩
theorem reads_num {α : AV} (h : AS Try.prog 3 α) : ∃ n : Int, α = .i .i64 n ∧ True := by
  obtain ⟨n, rfl, _⟩ := as_int Try.underlying3 h
  exact ⟨n, rfl, trivial⟩
theorem reads_bool {α : AV} (h : AS Try.prog 4 α) : ∃ b : Bool, α = .b b ∧ True := by
  obtain ⟨n, rfl, _⟩ := as_bool Try.underlying4 h
  exact ⟨n, rfl, trivial⟩
theorem reads_strs {α : AV} (h : AS Try.prog 23 α) : ∃ l : List ByteArray, α = .ds (stC l) ∧ True := by
  obtain ⟨l, rfl, _, hx⟩ := as_slice Try.underlying23 h
  obtain ⟨ks, rfl, _⟩ := mapC_of (c := st1) fun x h => by
    obtain ⟨s, rfl, _⟩ := shp_string Try.underlying9 (hx x h)
    exact ⟨s, rfl⟩
  exact ⟨ks, rfl, trivial⟩
theorem reads_vals {α : AV} (h : AS Try.prog 22 α) : ∃ l : List Val, α = .ds (mapC valC l) ∧ True := by
  obtain ⟨l, rfl, _, hx⟩ := as_slice Try.underlying22 h
  obtain ⟨vs, rfl, _⟩ := mapC_of (c := valC) fun x h => shp_val (hx x h)
  exact ⟨vs, rfl, trivial⟩
theorem val_fit (v : Val) (h : avw (vx v) ≤ 1048576) : v.Fit ∧ wtV v ≤ 1000000000000 := by
  have := vx_av v
  exact ⟨wtV_fit v (by omega), by omega⟩
theorem vals_fit (l : List Val) (h : avw (.ds (mapC valC l)) ≤ 1048576) : l.length * 80 ≤ 140737488355327 ∧ ∀ x ∈ l, x.Fit := by
  simp only [avw] at h
  have h1 : l.length ≤ avLL (mapC valC l) := mapC_len_le (fun x => by have := valC_av x; omega) _
  refine ⟨by omega, fun x hx => wtV_fit x ?_⟩
  have h2 : avL (valC x) ≤ avLL (mapC valC l) := avLL_mem (List.mem_map_of_mem (f := valC) hx)
  have := valC_av x
  omega
theorem strs_fit (l : List ByteArray) (h : avw (.ds (stC l)) ≤ 1048576) : l.length * 16 ≤ 140737488355327 := by
  simp only [avw] at h
  have h1 : l.length ≤ avLL (stC l) := mapC_len_le st1_av _
  omega
theorem right_law (αs : List AV) (h : ASs Try.prog [25] αs) (hw : avL αs ≤ 1048576) : MeetsF Try.prog 3 [] 0 αs (.b true) := by
  obtain ⟨α1, rfl, h1⟩ := as_n1 h
  obtain ⟨x1, rfl, w1⟩ := reads_val h1
  simp only [avL] at hw
  exact lawRight x1 (val_fit x1 (by omega)).1 [] 0
set_option maxRecDepth 100000 in
theorem right_lifted (os : Os) (started : os.Started) (H : Type) (enc : TypeId × Value → H) (F : Stop.Interp) :
    ReturnsInHanded {} Try.checked os 3 .any ((Rows.OpenSpec.upto Rows.valueRightSpec).pre6 enc Try.prog Try.f3 Rows.valueRightUptoRow.domain false) (((Rows.OpenSpec.upto Rows.valueRightSpec).at F).post enc Try.prog Try.f3 false true false false) := by
  refine returnsInHanded_of_cond (C := Try.checked) (k := Rows.uptoSmall) rfl own started (by kernel_rfl) Try.func3
    (OpenSpec.witness (enc := enc) (C := Try.checked) (k := Rows.uptoSmall) rfl false ⟨#[], #[.agg #[.int .i64 0, .int .i64 0, .string ⟨#[]⟩, .slice none 0 0, .slice none 0 0]], []⟩ 8 (by kernel_rfl) (by kernel_rfl) (by kernel_rfl) (x := ([.agg [.lit (.int .i64 0), .lit (.int .i64 0), .lit (.string []), .nil, .nil]], [], [])) (by kernel_rfl) (by kernel_rfl) (by kernel_rfl)) ?_
  intro W base args ds gs before hval hW _ hk _
  have hg : gs = [] := by
    obtain ⟨p, q, hA, hV, _⟩ := hW
    exact (ChangeShapes.trodVars_none hV).1
  subst hg
  have hk : Rows.uptoBulkAll ds ≤ 1048576 := by simpa [Rows.uptoSmall] using hk
  refine law_core (s := Rows.valueRightSpec) (tb := 4) kids sized ?_ rfl (fun ds hl => ?_) rfl Try.underlying4 (m := fun αs h hb => right_law αs h (Nat.le_trans hb hk)) hval hW
  · exact par_lt (by kernel_rfl)
  · obtain ⟨d1, rfl⟩ := ds_n1 (show ds.length = 1 from hl)
    exact ⟨rfl, rfl, rfl⟩
/-- The statement ValueRight, where what it reads is not too much. -/
theorem right_holds : Rows.ValueRightUptoSaid :=
  OpenClaim.holds_of_cond 3 Try.f3 rfl rfl rfl rfl rfl rfl rfl ⟨rfl, rfl, rfl, rfl, rfl⟩ rfl rfl rfl rfl rfl (by kernel_rfl) Try.func3 (by kernel_rfl)
    (of_decide_eq_true (by kernel_rfl)) (by unfold Func.isWrapper; first | (rw [if_pos (by decide +kernel)]; kernel_rfl) | (rw [if_neg (by decide +kernel)]; exact ⟨rfl, rfl⟩))
    (fun os started H enc _ F => right_lifted os started H enc F)
theorem measure_law (αs : List AV) (h : ASs Try.prog [25] αs) (hw : avL αs ≤ 1048576) : MeetsF Try.prog 4 [] 0 αs (.b true) := by
  obtain ⟨α1, rfl, h1⟩ := as_n1 h
  obtain ⟨x1, rfl, w1⟩ := reads_val h1
  simp only [avL] at hw
  exact lawMeasure x1 (val_fit x1 (by omega)).1 (val_fit x1 (by omega)).2 [] 0
set_option maxRecDepth 100000 in
theorem measure_lifted (os : Os) (started : os.Started) (H : Type) (enc : TypeId × Value → H) (F : Stop.Interp) :
    ReturnsInHanded {} Try.checked os 4 .any ((Rows.OpenSpec.upto Rows.valueMeasureSpec).pre6 enc Try.prog Try.f4 Rows.valueMeasureUptoRow.domain false) (((Rows.OpenSpec.upto Rows.valueMeasureSpec).at F).post enc Try.prog Try.f4 false true false false) := by
  refine returnsInHanded_of_cond (C := Try.checked) (k := Rows.uptoSmall) rfl own started (by kernel_rfl) Try.func4
    (OpenSpec.witness (enc := enc) (C := Try.checked) (k := Rows.uptoSmall) rfl false ⟨#[], #[.agg #[.int .i64 0, .int .i64 0, .string ⟨#[]⟩, .slice none 0 0, .slice none 0 0]], []⟩ 8 (by kernel_rfl) (by kernel_rfl) (by kernel_rfl) (x := ([.agg [.lit (.int .i64 0), .lit (.int .i64 0), .lit (.string []), .nil, .nil]], [], [])) (by kernel_rfl) (by kernel_rfl) (by kernel_rfl)) ?_
  intro W base args ds gs before hval hW _ hk _
  have hg : gs = [] := by
    obtain ⟨p, q, hA, hV, _⟩ := hW
    exact (ChangeShapes.trodVars_none hV).1
  subst hg
  have hk : Rows.uptoBulkAll ds ≤ 1048576 := by simpa [Rows.uptoSmall] using hk
  refine law_core (s := Rows.valueMeasureSpec) (tb := 4) kids sized ?_ rfl (fun ds hl => ?_) rfl Try.underlying4 (m := fun αs h hb => measure_law αs h (Nat.le_trans hb hk)) hval hW
  · exact par_lt (by kernel_rfl)
  · obtain ⟨d1, rfl⟩ := ds_n1 (show ds.length = 1 from hl)
    exact ⟨rfl, rfl, rfl⟩
/-- The statement ValueMeasure, where what it reads is not too much. -/
theorem measure_holds : Rows.ValueMeasureUptoSaid :=
  OpenClaim.holds_of_cond 4 Try.f4 rfl rfl rfl rfl rfl rfl rfl ⟨rfl, rfl, rfl, rfl, rfl⟩ rfl rfl rfl rfl rfl (by kernel_rfl) Try.func4 (by kernel_rfl)
    (of_decide_eq_true (by kernel_rfl)) (by unfold Func.isWrapper; first | (rw [if_pos (by decide +kernel)]; kernel_rfl) | (rw [if_neg (by decide +kernel)]; exact ⟨rfl, rfl⟩))
    (fun os started H enc _ F => measure_lifted os started H enc F)
theorem order_law (αs : List AV) (h : ASs Try.prog [25, 25, 25] αs) (hw : avL αs ≤ 1048576) : MeetsF Try.prog 5 [] 0 αs (.b true) := by
  obtain ⟨α1, α2, α3, rfl, h1, h2, h3⟩ := as_n3 h
  obtain ⟨x1, rfl, w1⟩ := reads_val h1
  obtain ⟨x2, rfl, w2⟩ := reads_val h2
  obtain ⟨x3, rfl, w3⟩ := reads_val h3
  simp only [avL] at hw
  exact lawOrder x1 x2 x3 (val_fit x1 (by omega)).1 (val_fit x2 (by omega)).1 (val_fit x3 (by omega)).1 [] 0
set_option maxRecDepth 100000 in
theorem order_lifted (os : Os) (started : os.Started) (H : Type) (enc : TypeId × Value → H) (F : Stop.Interp) :
    ReturnsInHanded {} Try.checked os 5 .any ((Rows.OpenSpec.upto Rows.valueOrderSpec).pre6 enc Try.prog Try.f5 Rows.valueOrderUptoRow.domain false) (((Rows.OpenSpec.upto Rows.valueOrderSpec).at F).post enc Try.prog Try.f5 false true false false) := by
  refine returnsInHanded_of_cond (C := Try.checked) (k := Rows.uptoSmall) rfl own started (by kernel_rfl) Try.func5
    (OpenSpec.witness (enc := enc) (C := Try.checked) (k := Rows.uptoSmall) rfl false ⟨#[], #[.agg #[.int .i64 0, .int .i64 0, .string ⟨#[]⟩, .slice none 0 0, .slice none 0 0], .agg #[.int .i64 0, .int .i64 0, .string ⟨#[]⟩, .slice none 0 0, .slice none 0 0], .agg #[.int .i64 0, .int .i64 0, .string ⟨#[]⟩, .slice none 0 0, .slice none 0 0]], []⟩ 8 (by kernel_rfl) (by kernel_rfl) (by kernel_rfl) (x := ([.agg [.lit (.int .i64 0), .lit (.int .i64 0), .lit (.string []), .nil, .nil], .agg [.lit (.int .i64 0), .lit (.int .i64 0), .lit (.string []), .nil, .nil], .agg [.lit (.int .i64 0), .lit (.int .i64 0), .lit (.string []), .nil, .nil]], [], [])) (by kernel_rfl) (by kernel_rfl) (by kernel_rfl)) ?_
  intro W base args ds gs before hval hW _ hk _
  have hg : gs = [] := by
    obtain ⟨p, q, hA, hV, _⟩ := hW
    exact (ChangeShapes.trodVars_none hV).1
  subst hg
  have hk : Rows.uptoBulkAll ds ≤ 1048576 := by simpa [Rows.uptoSmall] using hk
  refine law_core (s := Rows.valueOrderSpec) (tb := 4) kids sized ?_ rfl (fun ds hl => ?_) rfl Try.underlying4 (m := fun αs h hb => order_law αs h (Nat.le_trans hb hk)) hval hW
  · exact par_lt (by kernel_rfl)
  · obtain ⟨d1, d2, d3, rfl⟩ := ds_n3 (show ds.length = 3 from hl)
    exact ⟨rfl, rfl, rfl⟩
/-- The statement ValueOrder, where what it reads is not too much. -/
theorem order_holds : Rows.ValueOrderUptoSaid :=
  OpenClaim.holds_of_cond 5 Try.f5 rfl rfl rfl rfl rfl rfl rfl ⟨rfl, rfl, rfl, rfl, rfl⟩ rfl rfl rfl rfl rfl (by kernel_rfl) Try.func5 (by kernel_rfl)
    (of_decide_eq_true (by kernel_rfl)) (by unfold Func.isWrapper; first | (rw [if_pos (by decide +kernel)]; kernel_rfl) | (rw [if_neg (by decide +kernel)]; exact ⟨rfl, rfl⟩))
    (fun os started H enc _ F => order_lifted os started H enc F)
theorem object_law (αs : List AV) (h : ASs Try.prog [23, 22, 9] αs) (hw : avL αs ≤ 1048576) : MeetsF Try.prog 6 [] 0 αs (.b true) := by
  obtain ⟨α1, α2, α3, rfl, h1, h2, h3⟩ := as_n3 h
  obtain ⟨x1, rfl, w1⟩ := reads_strs h1
  obtain ⟨x2, rfl, w2⟩ := reads_vals h2
  obtain ⟨x3, rfl, w3⟩ := reads_str h3
  simp only [avL] at hw
  exact lawObject x1 x2 (strs_fit x1 (by omega)) (vals_fit x2 (by omega)).1 (vals_fit x2 (by omega)).2 x3 [] 0
set_option maxRecDepth 100000 in
theorem object_lifted (os : Os) (started : os.Started) (H : Type) (enc : TypeId × Value → H) (F : Stop.Interp) :
    ReturnsInHanded {} Try.checked os 6 .any ((Rows.OpenSpec.upto Rows.valueObjectSpec).pre6 enc Try.prog Try.f6 Rows.valueObjectUptoRow.domain false) (((Rows.OpenSpec.upto Rows.valueObjectSpec).at F).post enc Try.prog Try.f6 false true false false) := by
  refine returnsInHanded_of_cond (C := Try.checked) (k := Rows.uptoSmall) rfl own started (by kernel_rfl) Try.func6
    (OpenSpec.witness (enc := enc) (C := Try.checked) (k := Rows.uptoSmall) rfl false ⟨#[], #[.slice none 0 0, .slice none 0 0, .string ⟨#[]⟩], []⟩ 8 (by kernel_rfl) (by kernel_rfl) (by kernel_rfl) (x := ([.nil, .nil, .lit (.string [])], [], [])) (by kernel_rfl) (by kernel_rfl) (by kernel_rfl)) ?_
  intro W base args ds gs before hval hW _ hk _
  have hg : gs = [] := by
    obtain ⟨p, q, hA, hV, _⟩ := hW
    exact (ChangeShapes.trodVars_none hV).1
  subst hg
  have hk : Rows.uptoBulkAll ds ≤ 1048576 := by simpa [Rows.uptoSmall] using hk
  refine law_core (s := Rows.valueObjectSpec) (tb := 4) kids sized ?_ rfl (fun ds hl => ?_) rfl Try.underlying4 (m := fun αs h hb => object_law αs h (Nat.le_trans hb hk)) hval hW
  · exact par_lt (by kernel_rfl)
  · obtain ⟨d1, d2, d3, rfl⟩ := ds_n3 (show ds.length = 3 from hl)
    exact ⟨rfl, rfl, rfl⟩
/-- The statement ValueObject, where what it reads is not too much. -/
theorem object_holds : Rows.ValueObjectUptoSaid :=
  OpenClaim.holds_of_cond 6 Try.f6 rfl rfl rfl rfl rfl rfl rfl ⟨rfl, rfl, rfl, rfl, rfl⟩ rfl rfl rfl rfl rfl (by kernel_rfl) Try.func6 (by kernel_rfl)
    (of_decide_eq_true (by kernel_rfl)) (by unfold Func.isWrapper; first | (rw [if_pos (by decide +kernel)]; kernel_rfl) | (rw [if_neg (by decide +kernel)]; exact ⟨rfl, rfl⟩))
    (fun os started H enc _ F => object_lifted os started H enc F)
theorem get_law (αs : List AV) (h : ASs Try.prog [25, 9] αs) (hw : avL αs ≤ 1048576) : MeetsF Try.prog 7 [] 0 αs (.b true) := by
  obtain ⟨α1, α2, rfl, h1, h2⟩ := as_n2 h
  obtain ⟨x1, rfl, w1⟩ := reads_val h1
  obtain ⟨x2, rfl, w2⟩ := reads_str h2
  simp only [avL] at hw
  exact lawGet x1 (val_fit x1 (by omega)).1 x2 [] 0
set_option maxRecDepth 100000 in
theorem get_lifted (os : Os) (started : os.Started) (H : Type) (enc : TypeId × Value → H) (F : Stop.Interp) :
    ReturnsInHanded {} Try.checked os 7 .any ((Rows.OpenSpec.upto Rows.valueGetSpec).pre6 enc Try.prog Try.f7 Rows.valueGetUptoRow.domain false) (((Rows.OpenSpec.upto Rows.valueGetSpec).at F).post enc Try.prog Try.f7 false true false false) := by
  refine returnsInHanded_of_cond (C := Try.checked) (k := Rows.uptoSmall) rfl own started (by kernel_rfl) Try.func7
    (OpenSpec.witness (enc := enc) (C := Try.checked) (k := Rows.uptoSmall) rfl false ⟨#[], #[.agg #[.int .i64 0, .int .i64 0, .string ⟨#[]⟩, .slice none 0 0, .slice none 0 0], .string ⟨#[]⟩], []⟩ 8 (by kernel_rfl) (by kernel_rfl) (by kernel_rfl) (x := ([.agg [.lit (.int .i64 0), .lit (.int .i64 0), .lit (.string []), .nil, .nil], .lit (.string [])], [], [])) (by kernel_rfl) (by kernel_rfl) (by kernel_rfl)) ?_
  intro W base args ds gs before hval hW _ hk _
  have hg : gs = [] := by
    obtain ⟨p, q, hA, hV, _⟩ := hW
    exact (ChangeShapes.trodVars_none hV).1
  subst hg
  have hk : Rows.uptoBulkAll ds ≤ 1048576 := by simpa [Rows.uptoSmall] using hk
  refine law_core (s := Rows.valueGetSpec) (tb := 4) kids sized ?_ rfl (fun ds hl => ?_) rfl Try.underlying4 (m := fun αs h hb => get_law αs h (Nat.le_trans hb hk)) hval hW
  · exact par_lt (by kernel_rfl)
  · obtain ⟨d1, d2, rfl⟩ := ds_n2 (show ds.length = 2 from hl)
    exact ⟨rfl, rfl, rfl⟩
/-- The statement ValueGet, where what it reads is not too much. -/
theorem get_holds : Rows.ValueGetUptoSaid :=
  OpenClaim.holds_of_cond 7 Try.f7 rfl rfl rfl rfl rfl rfl rfl ⟨rfl, rfl, rfl, rfl, rfl⟩ rfl rfl rfl rfl rfl (by kernel_rfl) Try.func7 (by kernel_rfl)
    (of_decide_eq_true (by kernel_rfl)) (by unfold Func.isWrapper; first | (rw [if_pos (by decide +kernel)]; kernel_rfl) | (rw [if_neg (by decide +kernel)]; exact ⟨rfl, rfl⟩))
    (fun os started H enc _ F => get_lifted os started H enc F)
theorem makes_law (αs : List AV) (h : ASs Try.prog [4, 3, 9] αs) : MeetsF Try.prog 9 [] 0 αs (.b true) := by
  obtain ⟨α1, α2, α3, rfl, h1, h2, h3⟩ := as_n3 h
  obtain ⟨x1, rfl, w1⟩ := reads_bool h1
  obtain ⟨x2, rfl, w2⟩ := reads_num h2
  obtain ⟨x3, rfl, w3⟩ := reads_str h3
  exact lawMakes x1 x2 x3 [] 0
set_option maxRecDepth 100000 in
theorem makes_lifted (os : Os) (started : os.Started) (H : Type) (enc : TypeId × Value → H) :
    ReturnsInHanded {} Try.checked os 9 .any (Rows.valueMakesSpec.pre6 enc Try.prog Try.f9 Rows.valueMakesRow.domain false) (Rows.valueMakesSpec.post enc Try.prog Try.f9 false true false false) := by
  refine returnsInHanded_of_change (C := Try.checked) own started (by kernel_rfl) Try.func9
    (ChangeSpec.witness6 (enc := enc) (C := Try.checked) false ⟨#[], #[.bool false, .int .i64 0, .string ⟨#[]⟩], []⟩ 8 (by kernel_rfl) (by kernel_rfl) (by kernel_rfl) (by kernel_rfl)) ?_
  intro W base args ds gs before hval hW _ _
  refine law_contract (tb := 4) kids sized ?_ rfl (fun ds hl => ?_) rfl Try.underlying4 (fun αs h => makes_law αs h) hval hW
  · exact par_lt (by kernel_rfl)
  · obtain ⟨d1, d2, d3, rfl⟩ := ds_n3 (show ds.length = 3 from hl)
    exact ⟨rfl, rfl, rfl⟩
/-- The statement ValueMakes. -/
theorem makes_holds : Rows.ValueMakesSaid :=
  OpenClaim.holds_of_wide 9 Try.f9 rfl rfl rfl rfl rfl rfl rfl ⟨rfl, rfl, rfl, rfl, rfl⟩ rfl rfl rfl rfl rfl (by kernel_rfl) Try.func9 (by kernel_rfl)
    (of_decide_eq_true (by kernel_rfl)) (by unfold Func.isWrapper; first | (rw [if_pos (by decide +kernel)]; kernel_rfl) | (rw [if_neg (by decide +kernel)]; exact ⟨rfl, rfl⟩))
    (fun os started H enc _ => makes_lifted os started H enc)
end Go.Proofs.Ytaeablbcfkamjaa
