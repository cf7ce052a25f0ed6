/-
  The parts CmXE CmXW of the proof, in one file. Conditions: none.
-/
import Derived.Test.YtgollgfifnmaaaaDoorCmP353
namespace Go.Proofs.YtgollgfifnmaaaaDoor
open Go.Eng
open Go.ChangeShapes Go.WideShapes Go.ChangeAt Go.RowKit
set_option linter.unusedVariables false
set_option linter.unusedSimpArgs false
theorem cnul_law (αs : List AV) (h : ASs Tryd.prog [31] αs) (hw : avL αs ≤ 1048576) : MeetsF Tryd.prog 7 [] 0 αs (.b true) := by
  obtain ⟨α1, rfl, h1⟩ := as_n1 h
  simp only [avL] at hw
  obtain ⟨doc, root, l, v, rfl, c⟩ := reads_case22 h1 (by omega)
  exact lawNulls22 doc root l v c [] 0
set_option maxRecDepth 100000 in
theorem cnul_lifted (os : Os) (started : os.Started) (H : Type) (enc : TypeId × Value → H) (F : Stop.Interp) :
    ReturnsInHanded {} Tryd.checked os 7 .any ((Rows.OpenSpec.upto Rows.completeNullsSpec).preRow enc Tryd.prog Tryd.f7 Rows.completeNullsUptoRow.domain false Rows.completeNullsUptoRow.laid) (((Rows.OpenSpec.upto Rows.completeNullsSpec).at F).post enc Tryd.prog Tryd.f7 false true false false) := by
  have hx : DataW.whole enc Tryd.prog ((laidWorld os).forCall (fun _ _ => 0) ⟨#[], #[case0], []⟩).memory Tryd.f7.params.toList Rows.completeNullsSpec.vars false #[case0].toList 8 = some ([.agg [.agg [.nil], .lit (.string []), .nil, .agg [.lit (.int .i64 0), .lit (.int .i64 0), .lit (.string []), .nil, .nil]]], [], []) := by kernel_rfl
  refine returnsInHanded_of_row (C := Tryd.checked) (s := Rows.OpenSpec.upto Rows.completeNullsSpec) own started (by kernel_rfl) Tryd.func7
    (witness_row_at (enc := enc) (C := Tryd.checked) false (laidWorld os) #[case0] rfl (by kernel_rfl) (by kernel_rfl) (by kernel_rfl)
      (OpenSpec.preRow_of_cond 8 hx (by kernel_rfl) (fun k hk => by cases hk; kernel_rfl) (by kernel_rfl) (laid_met os _))) ?_
  intro W base args ds gs before hval hW hc1 hc2 hc3 hL _ _
  have hg : gs = [] := by
    obtain ⟨p, q, hA, hV, _⟩ := hW
    exact (ChangeShapes.trodVars_none hV).1
  subst hg
  have hk : Rows.uptoBulkAll ds ≤ 1048576 := by first | (simpa [Rows.uptoSmall] using hc1 _ rfl) | (simpa [Rows.uptoSmall] using hc2 _ rfl)
  refine law_core (s := Rows.completeNullsSpec) (tb := 4) kids sized ?_ rfl (fun ds hl => ?_) rfl Tryd.underlying4 (m := fun αs h hb => cnul_law αs h (Nat.le_trans hb hk)) hval hW (pow10_laid hL)
  · exact par_lt (by kernel_rfl)
  · obtain ⟨d1, rfl⟩ := ds_n1 (show ds.length = 1 from hl)
    exact ⟨rfl, rfl, rfl⟩
theorem cnul_said : Rows.CompleteNullsUptoSaid :=
  OpenClaim.holds_of_cond 7 Tryd.f7 rfl rfl rfl rfl rfl rfl rfl ⟨rfl, rfl, rfl, rfl, rfl⟩ rfl rfl rfl rfl rfl (by kernel_rfl) Tryd.func7 (by kernel_rfl)
    (of_decide_eq_true (by kernel_rfl)) (by unfold Func.isWrapper; first | (rw [if_pos (by decide +kernel)]; kernel_rfl) | (rw [if_neg (by decide +kernel)]; exact ⟨rfl, rfl⟩))
    (fun os started H enc _ F => by rw [OpenClaim.pre_eq_preRow]; exact cnul_lifted os started H enc F)
theorem cnul_plain (f : FuncId) (fn : Func) (hf : Tryd.pinned.checked.prog.funcNamed Rows.completeNullsUptoRow.func = some f) (hfn : Tryd.pinned.checked.prog.funcs[f]? = some fn) :
    false = Tryd.pinned.checked.prog.looks [] ∧ ∀ (j : Nat) t, fn.params[j]? = some t → Tryd.pinned.checked.prog.wantsStandIn t = false := by
  obtain rfl : f = 7 := Option.some.inj ((show Tryd.prog.funcNamed Rows.completeNullsUptoRow.func = some 7 by kernel_rfl).symm.trans hf) |>.symm
  obtain rfl : fn = Tryd.f7 := (Option.some.inj (Tryd.func7.symm.trans hfn)).symm
  refine ⟨by kernel_rfl, fun j t ht => ?_⟩
  have key : ∀ t ∈ Tryd.f7.params.toList, Tryd.prog.wantsStandIn t = false := by
    have key : (Tryd.f7.params.toList.all fun t => !Tryd.prog.wantsStandIn t) = true := by kernel_rfl
    intro t ht; simpa using List.all_eq_true.1 key t ht
  exact key t (Array.mem_toList_iff.2 (Array.mem_of_getElem? ht))
/-- The statement CompleteNulls's card, where what it reads is not too much. -/
theorem cnul_holds : Rows.CompleteNullsUptoCardSaid :=
  Claim7.holds_tied_plain_at .later [] _ _ _ _ cnul_said (fun _ h => by cases h) (by kernel_rfl) (fun _ h => by cases h) completeNullsUpto_row_tie rfl ⟨rfl, rfl⟩ (by kernel_rfl) rfl cnul_plain (by kernel_rfl)
end Go.Proofs.YtgollgfifnmaaaaDoor
namespace Go.Proofs.YtgollgfifnmaaaaDoor
theorem complete_fn : Rows.CompleteFitsUptoCardSaid ∧ Rows.CompleteNullsUptoCardSaid := ⟨cfit_holds, cnul_holds⟩
end Go.Proofs.YtgollgfifnmaaaaDoor
