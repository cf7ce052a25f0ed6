/-
  The statement DataWrites, for all datasets. Conditions: none.
-/
import Derived.Test.YtjalbhlahfgogaaQws47
namespace Go.Proofs.Ytjalbhlahfgogaa
open Go.Eng
set_option linter.unusedVariables false
set_option linter.unusedSimpArgs false
theorem lawWritesS (d : Dat) (hd : d.Fit) (hc : ∀ x ∈ d.i, x.l.length ≤ 1256584717421) (f a : ByteArray) (hp : CH) (m : Nat) : MeetsF Try.prog 7 hp m [dx d, .s f, .s a] (.b true) := by
  by_cases c : lgD d = true
  · have hw := large_ok d hd
    rw [c] at hw
    refine meetsF Try.func7 (by kernel_rfl) cc7 cr7 rfl fun hf => ?_; unfold ck7
    simp only [go_sem, ↓reduceIte, Nat.reduceEqDiff, Nat.reduceBEq, Nat.reduceAdd, Nat.reduceLeDiff, Nat.reduceLT, reduceCtorEq, Nat.reduceMul, Nat.reduceSub, Int.reduceEq, Int.reduceLT, Int.reduceLE, Int.reduceToNat]
    refine vcCall.f (hw _ _) ?_
    simp only [go_sem, ↓reduceIte, Nat.reduceEqDiff, Nat.reduceBEq, Nat.reduceAdd, Nat.reduceLeDiff, Nat.reduceLT, reduceCtorEq, Nat.reduceMul, Nat.reduceSub, Int.reduceEq, Int.reduceLT, Int.reduceLE, Int.reduceToNat]
    refine vcCall.f (ex20_ok _ _) ?_
    simp only [go_sem, ↓reduceIte, Nat.reduceEqDiff, Nat.reduceBEq, Nat.reduceAdd, Nat.reduceLeDiff, Nat.reduceLT, reduceCtorEq, Nat.reduceMul, Nat.reduceSub, Int.reduceEq, Int.reduceLT, Int.reduceLE, Int.reduceToNat]
  · have c2 : d.w.length ≤ 60 := by
      have c : lgD d = false := by simpa using c
      unfold lgD at c
      simp only [Bool.or_eq_false_iff, decide_eq_false_iff_not] at c
      omega
    have h2 : d.Fit2 := ⟨hd, by omega, fun x hx => by have := hc x hx; omega⟩
    exact lawWrites d h2 f a (appV_fit2 h2 (B := 1256584717421) hc (by omega) f a) hp m
theorem writes_law (αs : List AV) (h : AQs Try.prog [25, 9, 9] αs) : MeetsF Try.prog 7 [] 0 αs (.b true) := by
  obtain ⟨α1, α2, α3, rfl, h1, h2, h3⟩ := aq_n3 h
  obtain ⟨x1, rfl, w1⟩ := readq_data h1
  obtain ⟨x2, rfl, w2⟩ := readq_str h2
  obtain ⟨x3, rfl, w3⟩ := readq_str h3
  exact lawWritesS x1 w1.1 w1.2 x2 x3 [] 0
set_option maxRecDepth 100000 in
theorem writes_lifted (os : Os) (started : os.Started) (H : Type) (enc : TypeId × Value → H) :
    ReturnsInHanded {} Try.checked os 7 .any (Rows.dataWritesSpec.pre6 enc Try.prog Try.f7 Rows.dataWritesRow.domain false) (Rows.dataWritesSpec.post enc Try.prog Try.f7 false true false false) := by
  refine returnsInHanded_of_change_sized (C := Try.checked) own started (by kernel_rfl) Try.func7
    (ChangeSpec.witness6 (enc := enc) (C := Try.checked) false ⟨#[], #[.agg #[.slice none 0 0, .slice none 0 0], .string ⟨#[]⟩, .string ⟨#[]⟩], []⟩ 8 (by kernel_rfl) (by kernel_rfl) (by kernel_rfl) (by kernel_rfl)) ?_
  intro W base args ds gs before hval hW _ hz _
  refine law_sized (tb := 4) kids sized ?_ rfl (fun ds hl => ?_) rfl Try.underlying4 (m := fun αs h => writes_law αs h) hval hW hz
  · exact par_lt (by kernel_rfl)
  · obtain ⟨d1, d2, d3, rfl⟩ := ds_n3 (show ds.length = 3 from hl)
    exact ⟨rfl, rfl, rfl⟩
/-- The statement DataWrites. -/
theorem writes_holds : Rows.DataWritesSaid :=
  OpenClaim.holds_of_wide 7 Try.f7 rfl rfl rfl rfl rfl rfl rfl ⟨rfl, rfl, rfl, rfl, rfl⟩ rfl rfl rfl rfl rfl (by kernel_rfl) Try.func7 (by kernel_rfl)
    (of_decide_eq_true (by kernel_rfl)) (by unfold Func.isWrapper; first | (rw [if_pos (by decide +kernel)]; kernel_rfl) | (rw [if_neg (by decide +kernel)]; exact ⟨rfl, rfl⟩))
    (fun os started H enc _ => writes_lifted os started H enc)
end Go.Proofs.Ytjalbhlahfgogaa
