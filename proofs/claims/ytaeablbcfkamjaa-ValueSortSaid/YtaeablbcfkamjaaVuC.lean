/-
  The statement Sort, for all values. Conditions: none.
-/
import Derived.Test.YtaeablbcfkamjaaVuB
namespace Go.Proofs.Ytaeablbcfkamjaa
open Go.Eng Vs
set_option linter.unusedVariables false
set_option linter.unusedSimpArgs false
theorem cntL_wt : ∀ (l : List Val) (M : Int), (∀ x ∈ l, ∀ n : Int, 0 ≤ n → n ≤ M → n ≤ cntV x n M ∧ (cntV x n M ≤ M → cntV x n M = n + wtV x)) → ∀ n : Int, 0 ≤ n → n ≤ cntL l n M ∧ (cntL l n M ≤ M → cntL l n M = n + wtL l)
  | [], M, _, n, h0 => by rw [cntL, wtL]; exact ⟨Int.le_refl _, fun _ => by simp⟩
  | x :: r, M, h, n, h0 => by
    rw [cntL, wtL]
    split
    · rename_i hn
      have h1 := h x (by simp) n h0 hn
      have h2 := cntL_wt r M (fun y hy => h y (by simp [hy])) (cntV x n M) (by omega)
      refine ⟨by omega, fun h3 => ?_⟩
      have h4 := h2.2 h3
      have h5 := h1.2 (by omega)
      rw [h4, h5]
      omega
    · rename_i hn
      exact ⟨Int.le_refl _, fun h3 => absurd h3 hn⟩
theorem cnt_wt (v : Val) (M : Int) (hM : M ≤ 1000000000) : v.Fit → ∀ n : Int, 0 ≤ n → n ≤ M → n ≤ cntV v n M ∧ (cntV v n M ≤ M → cntV v n M = n + wtV v) := by
  refine Val.ind (Q := fun v => v.Fit → ∀ n : Int, 0 ≤ n → n ≤ M → n ≤ cntV v n M ∧ (cntV v n M ≤ M → cntV v n M = n + wtV v)) (fun v ih hv n h0 hn => ?_) v
  have hl := hv.l
  have e1 : IntKind.i64.wrap (n + 1) = n + 1 := wr64 (by omega)
  rw [cntV_eq, wtV_eq, e1, wr64 (by omega)]
  have h2 := cntL_wt v.items M (fun x hx => ih x hx (hv.x hx)) (n + 1 + v.keys.length) (by omega)
  refine ⟨by omega, fun h3 => ?_⟩
  rw [h2.2 h3]
  omega
theorem lawSortS (v : Val) (hv : v.Fit) (hp : CH) (m : Nat) : MeetsF Try.prog 8 hp m [vx v] (.b true) := by
  by_cases c : cntV v 0 400 ≤ 400
  · have := (cnt_wt v 400 (by omega) hv 0 (by omega) (by omega)).2 c
    exact lawSort v hv (by omega) hp m
  · have hw := few_ok v hv
    rw [decide_eq_false c] at hw
    refine meetsF Try.func8 (by kernel_rfl) cc8 cr8 rfl fun hf => ?_; unfold ck8
    simp only [go_sem, ↓reduceIte, Nat.reduceEqDiff, Nat.reduceBEq, Nat.reduceAdd, Nat.reduceLeDiff, Nat.reduceLT, reduceCtorEq, Nat.reduceMul, Nat.reduceSub, Int.reduceEq, Int.reduceLT, Int.reduceLE, Int.reduceToNat]
    refine vcCall.f (hw _ _) ?_
    simp only [go_sem, ↓reduceIte, Nat.reduceEqDiff, Nat.reduceBEq, Nat.reduceAdd, Nat.reduceLeDiff, Nat.reduceLT, reduceCtorEq, Nat.reduceMul, Nat.reduceSub, Int.reduceEq, Int.reduceLT, Int.reduceLE, Int.reduceToNat]
    refine vcCall.f (knows_ok _ _) ?_
    simp only [go_sem, ↓reduceIte, Nat.reduceEqDiff, Nat.reduceBEq, Nat.reduceAdd, Nat.reduceLeDiff, Nat.reduceLT, reduceCtorEq, Nat.reduceMul, Nat.reduceSub, Int.reduceEq, Int.reduceLT, Int.reduceLE, Int.reduceToNat]
theorem vsort_law (αs : List AV) (h : AQs Try.prog [25] αs) : MeetsF Try.prog 8 [] 0 αs (.b true) := by
  obtain ⟨α1, rfl, h1⟩ := aq_n1 h
  obtain ⟨x1, rfl, w1⟩ := readq_val h1
  exact lawSortS x1 w1 [] 0
set_option maxRecDepth 100000 in
theorem vsort_lifted (os : Os) (started : os.Started) (H : Type) (enc : TypeId × Value → H) :
    ReturnsInHanded {} Try.checked os 8 .any (Rows.valueSortSpec.pre6 enc Try.prog Try.f8 Rows.valueSortRow.domain false) (Rows.valueSortSpec.post enc Try.prog Try.f8 false true false false) := by
  refine returnsInHanded_of_change_sized (C := Try.checked) own started (by kernel_rfl) Try.func8
    (ChangeSpec.witness6 (enc := enc) (C := Try.checked) false ⟨#[], #[.agg #[.int .i64 0, .int .i64 0, .string ⟨#[]⟩, .slice none 0 0, .slice none 0 0]], []⟩ 8 (by kernel_rfl) (by kernel_rfl) (by kernel_rfl) (by kernel_rfl)) ?_
  intro W base args ds gs before hval hW _ hz _
  refine law_sized (tb := 4) kids sized ?_ rfl (fun ds hl => ?_) rfl Try.underlying4 (m := fun αs h => vsort_law αs h) hval hW hz
  · exact par_lt (by kernel_rfl)
  · obtain ⟨d1, rfl⟩ := ds_n1 (show ds.length = 1 from hl)
    exact ⟨rfl, rfl, rfl⟩
/-- The statement ValueSort. -/
theorem vsort_holds : Rows.ValueSortSaid :=
  OpenClaim.holds_of_wide 8 Try.f8 rfl rfl rfl rfl rfl rfl rfl ⟨rfl, rfl, rfl, rfl, rfl⟩ rfl rfl rfl rfl rfl (by kernel_rfl) Try.func8 (by kernel_rfl)
    (of_decide_eq_true (by kernel_rfl)) (by unfold Func.isWrapper; first | (rw [if_pos (by decide +kernel)]; kernel_rfl) | (rw [if_neg (by decide +kernel)]; exact ⟨rfl, rfl⟩))
    (fun os started H enc _ => vsort_lifted os started H enc)
end Go.Proofs.Ytaeablbcfkamjaa
