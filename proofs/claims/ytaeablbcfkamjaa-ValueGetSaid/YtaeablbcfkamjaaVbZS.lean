/-
  Counted values weigh what is counted; the law on measures and the statements of chapter 2 but for sorting, for all values. Conditions: none.
-/
import Derived.Test.YtaeablbcfkamjaaVaRQ
import Derived.Test.YtaeablbcfkamjaaVbF
namespace Go.Proofs.Ytaeablbcfkamjaa
open Go.Eng
set_option linter.unusedVariables false
set_option linter.unusedSimpArgs false
theorem cntL_wt : ∀ (l : List Val) (M : Int), (∀ x ∈ l, ∀ n : Int, 0 ≤ n → n ≤ M → n ≤ cntV x n M ∧ (cntV x n M ≤ M → cntV x n M = n + wtV x)) → ∀ n : Int, 0 ≤ n → n ≤ cntL l n M ∧ (cntL l n M ≤ M → cntL l n M = n + wtL l)
  | [], M, _, n, h0 => by rw [cntL, wtL]; exact ⟨Int.le_refl _, fun _ => by simp⟩
  | x :: r, M, h, n, h0 => by
    rw [cntL, wtL]
    split
    · rename_i hn
      have h1 := h x (by simp) n h0 hn
      have h2 := cntL_wt r M (fun y hy => h y (by simp [hy])) (cntV x n M) (by omega)
      refine ⟨by omega, fun h3 => ?_⟩
      have h4 := h2.2 h3
      have h5 := h1.2 (by omega)
      rw [h4, h5]
      omega
    · rename_i hn
      exact ⟨Int.le_refl _, fun h3 => absurd h3 hn⟩
theorem cnt_wt (v : Val) (M : Int) (hM : M ≤ 1000000000) : v.Fit → ∀ n : Int, 0 ≤ n → n ≤ M → n ≤ cntV v n M ∧ (cntV v n M ≤ M → cntV v n M = n + wtV v) := by
  refine Val.ind (Q := fun v => v.Fit → ∀ n : Int, 0 ≤ n → n ≤ M → n ≤ cntV v n M ∧ (cntV v n M ≤ M → cntV v n M = n + wtV v)) (fun v ih hv n h0 hn => ?_) v
  have hl := hv.l
  have e1 : IntKind.i64.wrap (n + 1) = n + 1 := wr64 (by omega)
  rw [cntV_eq, wtV_eq, e1, wr64 (by omega)]
  have h2 := cntL_wt v.items M (fun x hx => ih x hx (hv.x hx)) (n + 1 + v.keys.length) (by omega)
  refine ⟨by omega, fun h3 => ?_⟩
  rw [h2.2 h3]
  omega
theorem lawMeasureS (v : Val) (hv : v.Fit) (hp : CH) (m : Nat) : MeetsF Try.prog 4 hp m [vx v] (.b true) := by
  by_cases c : cntV v 0 400 ≤ 400
  · have := (cnt_wt v 400 (by omega) hv 0 (by omega) (by omega)).2 c
    exact lawMeasure v hv (by omega) hp m
  · have hw := few_ok v hv
    rw [decide_eq_false c] at hw
    refine meetsF Try.func4 (by kernel_rfl) cc4 cr4 rfl fun hf => ?_; unfold ck4
    simp only [go_sem, ↓reduceIte, Nat.reduceEqDiff, Nat.reduceBEq, Nat.reduceAdd, Nat.reduceLeDiff, Nat.reduceLT, reduceCtorEq, Nat.reduceMul, Nat.reduceSub, Int.reduceEq, Int.reduceLT, Int.reduceLE, Int.reduceToNat]
    refine vcCall.f (hw _ _) ?_
    simp only [go_sem, ↓reduceIte, Nat.reduceEqDiff, Nat.reduceBEq, Nat.reduceAdd, Nat.reduceLeDiff, Nat.reduceLT, reduceCtorEq, Nat.reduceMul, Nat.reduceSub, Int.reduceEq, Int.reduceLT, Int.reduceLE, Int.reduceToNat]
    refine vcCall.f (knows_ok _ _) ?_
    simp only [go_sem, ↓reduceIte, Nat.reduceEqDiff, Nat.reduceBEq, Nat.reduceAdd, Nat.reduceLeDiff, Nat.reduceLT, reduceCtorEq, Nat.reduceMul, Nat.reduceSub, Int.reduceEq, Int.reduceLT, Int.reduceLE, Int.reduceToNat]
theorem right_law (αs : List AV) (h : AQs Try.prog [25] αs) : MeetsF Try.prog 3 [] 0 αs (.b true) := by
  obtain ⟨α1, rfl, h1⟩ := aq_n1 h
  obtain ⟨x1, rfl, w1⟩ := readq_val h1
  exact lawRight x1 w1 [] 0
set_option maxRecDepth 100000 in
theorem right_lifted (os : Os) (started : os.Started) (H : Type) (enc : TypeId × Value → H) :
    ReturnsInHanded {} Try.checked os 3 .any (Rows.valueRightSpec.pre6 enc Try.prog Try.f3 Rows.valueRightRow.domain false) (Rows.valueRightSpec.post enc Try.prog Try.f3 false true false false) := by
  refine returnsInHanded_of_change_sized (C := Try.checked) own started (by kernel_rfl) Try.func3
    (ChangeSpec.witness6 (enc := enc) (C := Try.checked) false ⟨#[], #[.agg #[.int .i64 0, .int .i64 0, .string ⟨#[]⟩, .slice none 0 0, .slice none 0 0]], []⟩ 8 (by kernel_rfl) (by kernel_rfl) (by kernel_rfl) (by kernel_rfl)) ?_
  intro W base args ds gs before hval hW _ hz _
  refine law_sized (tb := 4) kids sized ?_ rfl (fun ds hl => ?_) rfl Try.underlying4 (m := fun αs h => right_law αs h) hval hW hz
  · exact par_lt (by kernel_rfl)
  · obtain ⟨d1, rfl⟩ := ds_n1 (show ds.length = 1 from hl)
    exact ⟨rfl, rfl, rfl⟩
/-- The statement ValueRight. -/
theorem right_holds : Rows.ValueRightSaid :=
  OpenClaim.holds_of_wide 3 Try.f3 rfl rfl rfl rfl rfl rfl rfl ⟨rfl, rfl, rfl, rfl, rfl⟩ rfl rfl rfl rfl rfl (by kernel_rfl) Try.func3 (by kernel_rfl)
    (of_decide_eq_true (by kernel_rfl)) (by unfold Func.isWrapper; first | (rw [if_pos (by decide +kernel)]; kernel_rfl) | (rw [if_neg (by decide +kernel)]; exact ⟨rfl, rfl⟩))
    (fun os started H enc _ => right_lifted os started H enc)
theorem measure_law (αs : List AV) (h : AQs Try.prog [25] αs) : MeetsF Try.prog 4 [] 0 αs (.b true) := by
  obtain ⟨α1, rfl, h1⟩ := aq_n1 h
  obtain ⟨x1, rfl, w1⟩ := readq_val h1
  exact lawMeasureS x1 w1 [] 0
set_option maxRecDepth 100000 in
theorem measure_lifted (os : Os) (started : os.Started) (H : Type) (enc : TypeId × Value → H) :
    ReturnsInHanded {} Try.checked os 4 .any (Rows.valueMeasureSpec.pre6 enc Try.prog Try.f4 Rows.valueMeasureRow.domain false) (Rows.valueMeasureSpec.post enc Try.prog Try.f4 false true false false) := by
  refine returnsInHanded_of_change_sized (C := Try.checked) own started (by kernel_rfl) Try.func4
    (ChangeSpec.witness6 (enc := enc) (C := Try.checked) false ⟨#[], #[.agg #[.int .i64 0, .int .i64 0, .string ⟨#[]⟩, .slice none 0 0, .slice none 0 0]], []⟩ 8 (by kernel_rfl) (by kernel_rfl) (by kernel_rfl) (by kernel_rfl)) ?_
  intro W base args ds gs before hval hW _ hz _
  refine law_sized (tb := 4) kids sized ?_ rfl (fun ds hl => ?_) rfl Try.underlying4 (m := fun αs h => measure_law αs h) hval hW hz
  · exact par_lt (by kernel_rfl)
  · obtain ⟨d1, rfl⟩ := ds_n1 (show ds.length = 1 from hl)
    exact ⟨rfl, rfl, rfl⟩
/-- The statement ValueMeasure. -/
theorem measure_holds : Rows.ValueMeasureSaid :=
  OpenClaim.holds_of_wide 4 Try.f4 rfl rfl rfl rfl rfl rfl rfl ⟨rfl, rfl, rfl, rfl, rfl⟩ rfl rfl rfl rfl rfl (by kernel_rfl) Try.func4 (by kernel_rfl)
    (of_decide_eq_true (by kernel_rfl)) (by unfold Func.isWrapper; first | (rw [if_pos (by decide +kernel)]; kernel_rfl) | (rw [if_neg (by decide +kernel)]; exact ⟨rfl, rfl⟩))
    (fun os started H enc _ => measure_lifted os started H enc)
theorem order_law (αs : List AV) (h : AQs Try.prog [25, 25, 25] αs) : MeetsF Try.prog 5 [] 0 αs (.b true) := by
  obtain ⟨α1, α2, α3, rfl, h1, h2, h3⟩ := aq_n3 h
  obtain ⟨x1, rfl, w1⟩ := readq_val h1
  obtain ⟨x2, rfl, w2⟩ := readq_val h2
  obtain ⟨x3, rfl, w3⟩ := readq_val h3
  exact lawOrder x1 x2 x3 w1 w2 w3 [] 0
set_option maxRecDepth 100000 in
theorem order_lifted (os : Os) (started : os.Started) (H : Type) (enc : TypeId × Value → H) :
    ReturnsInHanded {} Try.checked os 5 .any (Rows.valueOrderSpec.pre6 enc Try.prog Try.f5 Rows.valueOrderRow.domain false) (Rows.valueOrderSpec.post enc Try.prog Try.f5 false true false false) := by
  refine returnsInHanded_of_change_sized (C := Try.checked) own started (by kernel_rfl) Try.func5
    (ChangeSpec.witness6 (enc := enc) (C := Try.checked) false ⟨#[], #[.agg #[.int .i64 0, .int .i64 0, .string ⟨#[]⟩, .slice none 0 0, .slice none 0 0], .agg #[.int .i64 0, .int .i64 0, .string ⟨#[]⟩, .slice none 0 0, .slice none 0 0], .agg #[.int .i64 0, .int .i64 0, .string ⟨#[]⟩, .slice none 0 0, .slice none 0 0]], []⟩ 8 (by kernel_rfl) (by kernel_rfl) (by kernel_rfl) (by kernel_rfl)) ?_
  intro W base args ds gs before hval hW _ hz _
  refine law_sized (tb := 4) kids sized ?_ rfl (fun ds hl => ?_) rfl Try.underlying4 (m := fun αs h => order_law αs h) hval hW hz
  · exact par_lt (by kernel_rfl)
  · obtain ⟨d1, d2, d3, rfl⟩ := ds_n3 (show ds.length = 3 from hl)
    exact ⟨rfl, rfl, rfl⟩
/-- The statement ValueOrder. -/
theorem order_holds : Rows.ValueOrderSaid :=
  OpenClaim.holds_of_wide 5 Try.f5 rfl rfl rfl rfl rfl rfl rfl ⟨rfl, rfl, rfl, rfl, rfl⟩ rfl rfl rfl rfl rfl (by kernel_rfl) Try.func5 (by kernel_rfl)
    (of_decide_eq_true (by kernel_rfl)) (by unfold Func.isWrapper; first | (rw [if_pos (by decide +kernel)]; kernel_rfl) | (rw [if_neg (by decide +kernel)]; exact ⟨rfl, rfl⟩))
    (fun os started H enc _ => order_lifted os started H enc)
theorem object_law (αs : List AV) (h : AQs Try.prog [23, 22, 9] αs) : MeetsF Try.prog 6 [] 0 αs (.b true) := by
  obtain ⟨α1, α2, α3, rfl, h1, h2, h3⟩ := aq_n3 h
  obtain ⟨x1, rfl, w1⟩ := readq_strs h1
  obtain ⟨x2, rfl, w2⟩ := readq_vals h2
  obtain ⟨x3, rfl, w3⟩ := readq_str h3
  exact lawObject x1 x2 w1 w2.1 w2.2 x3 [] 0
set_option maxRecDepth 100000 in
theorem object_lifted (os : Os) (started : os.Started) (H : Type) (enc : TypeId × Value → H) :
    ReturnsInHanded {} Try.checked os 6 .any (Rows.valueObjectSpec.pre6 enc Try.prog Try.f6 Rows.valueObjectRow.domain false) (Rows.valueObjectSpec.post enc Try.prog Try.f6 false true false false) := by
  refine returnsInHanded_of_change_sized (C := Try.checked) own started (by kernel_rfl) Try.func6
    (ChangeSpec.witness6 (enc := enc) (C := Try.checked) false ⟨#[], #[.slice none 0 0, .slice none 0 0, .string ⟨#[]⟩], []⟩ 8 (by kernel_rfl) (by kernel_rfl) (by kernel_rfl) (by kernel_rfl)) ?_
  intro W base args ds gs before hval hW _ hz _
  refine law_sized (tb := 4) kids sized ?_ rfl (fun ds hl => ?_) rfl Try.underlying4 (m := fun αs h => object_law αs h) hval hW hz
  · exact par_lt (by kernel_rfl)
  · obtain ⟨d1, d2, d3, rfl⟩ := ds_n3 (show ds.length = 3 from hl)
    exact ⟨rfl, rfl, rfl⟩
/-- The statement ValueObject. -/
theorem object_holds : Rows.ValueObjectSaid :=
  OpenClaim.holds_of_wide 6 Try.f6 rfl rfl rfl rfl rfl rfl rfl ⟨rfl, rfl, rfl, rfl, rfl⟩ rfl rfl rfl rfl rfl (by kernel_rfl) Try.func6 (by kernel_rfl)
    (of_decide_eq_true (by kernel_rfl)) (by unfold Func.isWrapper; first | (rw [if_pos (by decide +kernel)]; kernel_rfl) | (rw [if_neg (by decide +kernel)]; exact ⟨rfl, rfl⟩))
    (fun os started H enc _ => object_lifted os started H enc)
theorem get_law (αs : List AV) (h : AQs Try.prog [25, 9] αs) : MeetsF Try.prog 7 [] 0 αs (.b true) := by
  obtain ⟨α1, α2, rfl, h1, h2⟩ := aq_n2 h
  obtain ⟨x1, rfl, w1⟩ := readq_val h1
  obtain ⟨x2, rfl, w2⟩ := readq_str h2
  exact lawGet x1 w1 x2 [] 0
set_option maxRecDepth 100000 in
theorem get_lifted (os : Os) (started : os.Started) (H : Type) (enc : TypeId × Value → H) :
    ReturnsInHanded {} Try.checked os 7 .any (Rows.valueGetSpec.pre6 enc Try.prog Try.f7 Rows.valueGetRow.domain false) (Rows.valueGetSpec.post enc Try.prog Try.f7 false true false false) := by
  refine returnsInHanded_of_change_sized (C := Try.checked) own started (by kernel_rfl) Try.func7
    (ChangeSpec.witness6 (enc := enc) (C := Try.checked) false ⟨#[], #[.agg #[.int .i64 0, .int .i64 0, .string ⟨#[]⟩, .slice none 0 0, .slice none 0 0], .string ⟨#[]⟩], []⟩ 8 (by kernel_rfl) (by kernel_rfl) (by kernel_rfl) (by kernel_rfl)) ?_
  intro W base args ds gs before hval hW _ hz _
  refine law_sized (tb := 4) kids sized ?_ rfl (fun ds hl => ?_) rfl Try.underlying4 (m := fun αs h => get_law αs h) hval hW hz
  · exact par_lt (by kernel_rfl)
  · obtain ⟨d1, d2, rfl⟩ := ds_n2 (show ds.length = 2 from hl)
    exact ⟨rfl, rfl, rfl⟩
/-- The statement ValueGet. -/
theorem get_holds : Rows.ValueGetSaid :=
  OpenClaim.holds_of_wide 7 Try.f7 rfl rfl rfl rfl rfl rfl rfl ⟨rfl, rfl, rfl, rfl, rfl⟩ rfl rfl rfl rfl rfl (by kernel_rfl) Try.func7 (by kernel_rfl)
    (of_decide_eq_true (by kernel_rfl)) (by unfold Func.isWrapper; first | (rw [if_pos (by decide +kernel)]; kernel_rfl) | (rw [if_neg (by decide +kernel)]; exact ⟨rfl, rfl⟩))
    (fun os started H enc _ => get_lifted os started H enc)
end Go.Proofs.Ytaeablbcfkamjaa
