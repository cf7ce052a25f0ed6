/-
  The parts CmXA CmXB CmXY of the proof, in one file. Conditions: none.
-/
import Derived.Test.YtgollgfifnmaaaaDoorCmS153
namespace Go.Proofs.YtgollgfifnmaaaaDoor
open Go.Eng
open Go.ChangeShapes Go.WideShapes Go.ChangeAt Go.RowKit
set_option linter.unusedVariables false
set_option linter.unusedSimpArgs false
theorem clvs_law (αs : List AV) (h : AQs Tryd.prog [24, 9, 29] αs) : MeetsF Tryd.prog 4 [] 0 αs (.b true) := by
  obtain ⟨α1, α2, α3, rfl, h1, h2, h3⟩ := aq_n3 h
  obtain ⟨doc, rfl, hd⟩ := readq_doc h1
  obtain ⟨s, rfl, _⟩ := aq_string Tryd.underlying9 h2
  obtain ⟨v, rfl, hv⟩ := readq_vals h3
  exact lawLeaves doc hd s v hv [] 0
set_option maxRecDepth 100000 in
theorem clvs_lifted (os : Os) (started : os.Started) (H : Type) (enc : TypeId × Value → H) (F : Stop.Interp) :
    ReturnsInHanded {} Tryd.checked os 4 .any ((OpenSpec.ofChange Rows.completeLeavesSpec).preRow enc Tryd.prog Tryd.f4 Rows.completeLeavesRow.domain false Rows.completeLeavesRow.laid) (((OpenSpec.ofChange Rows.completeLeavesSpec).at F).post enc Tryd.prog Tryd.f4 false true false false) := by
  have hx : DataW.whole enc Tryd.prog ((laidWorld os).forCall (fun _ _ => 0) ⟨#[], #[doc0, str0, val0], []⟩).memory Tryd.f4.params.toList Rows.completeLeavesSpec.vars false #[doc0, str0, val0].toList 8 = some ([.agg [.nil], .lit (.string []), .agg [.lit (.int .i64 0), .lit (.int .i64 0), .lit (.string []), .nil, .nil]], [], []) := by kernel_rfl
  refine returnsInHanded_of_row (C := Tryd.checked) (s := OpenSpec.ofChange Rows.completeLeavesSpec) own started (by kernel_rfl) Tryd.func4
    (witness_row_at (enc := enc) (C := Tryd.checked) false (laidWorld os) #[doc0, str0, val0] rfl (by kernel_rfl) (by kernel_rfl) (by kernel_rfl)
      (OpenSpec.preRow_of_cond 8 hx (by kernel_rfl) (fun k hk => by cases hk) (by kernel_rfl) (laid_met os _))) ?_
  intro W base args ds gs before hval hW hc1 hc2 hc3 hL _ _
  have hg : gs = [] := by
    obtain ⟨p, q, hA, hV, _⟩ := hW
    exact (ChangeShapes.trodVars_none hV).1
  subst hg
  refine law_sized (s := Rows.completeLeavesSpec) (tb := 4) kids sized ?_ rfl (fun ds hl => ?_) rfl Tryd.underlying4 (m := fun αs h => clvs_law αs h) hval hW hc3 (pow10_laid hL)
  · exact par_lt (by kernel_rfl)
  · obtain ⟨d1, d2, d3, rfl⟩ := ds_n3 (show ds.length = 3 from hl)
    exact ⟨rfl, rfl, rfl⟩
theorem clvs_said : Rows.CompleteLeavesSaid :=
  OpenClaim.holds_of_cond 4 Tryd.f4 rfl rfl rfl rfl rfl rfl rfl ⟨rfl, rfl, rfl, rfl, rfl⟩ rfl rfl rfl rfl rfl (by kernel_rfl) Tryd.func4 (by kernel_rfl)
    (of_decide_eq_true (by kernel_rfl)) (by unfold Func.isWrapper; first | (rw [if_pos (by decide +kernel)]; kernel_rfl) | (rw [if_neg (by decide +kernel)]; exact ⟨rfl, rfl⟩))
    (fun os started H enc _ F => by rw [OpenClaim.pre_eq_preRow]; exact clvs_lifted os started H enc F)
theorem clvs_plain (f : FuncId) (fn : Func) (hf : Tryd.pinned.checked.prog.funcNamed Rows.completeLeavesRow.func = some f) (hfn : Tryd.pinned.checked.prog.funcs[f]? = some fn) :
    false = Tryd.pinned.checked.prog.looks [] ∧ ∀ (j : Nat) t, fn.params[j]? = some t → Tryd.pinned.checked.prog.wantsStandIn t = false := by
  obtain rfl : f = 4 := Option.some.inj ((show Tryd.prog.funcNamed Rows.completeLeavesRow.func = some 4 by kernel_rfl).symm.trans hf) |>.symm
  obtain rfl : fn = Tryd.f4 := (Option.some.inj (Tryd.func4.symm.trans hfn)).symm
  refine ⟨by kernel_rfl, fun j t ht => ?_⟩
  have key : ∀ t ∈ Tryd.f4.params.toList, Tryd.prog.wantsStandIn t = false := by
    have key : (Tryd.f4.params.toList.all fun t => !Tryd.prog.wantsStandIn t) = true := by kernel_rfl
    intro t ht; simpa using List.all_eq_true.1 key t ht
  exact key t (Array.mem_toList_iff.2 (Array.mem_of_getElem? ht))
/-- The statement CompleteLeaves's card. -/
theorem clvs_holds : Rows.CompleteLeavesCardSaid :=
  Claim7.holds_tied_plain_at .later [] _ _ _ _ clvs_said (fun _ h => by cases h) (by kernel_rfl) (fun _ h => by cases h) completeLeaves_row_tie rfl ⟨rfl, rfl⟩ (by kernel_rfl) rfl clvs_plain (by kernel_rfl)
end Go.Proofs.YtgollgfifnmaaaaDoor
namespace Go.Proofs.YtgollgfifnmaaaaDoor
open Go.Eng
open Go.ChangeShapes Go.WideShapes Go.ChangeAt Go.RowKit
set_option linter.unusedVariables false
set_option linter.unusedSimpArgs false
theorem crsp_law (αs : List AV) (h : AQs Tryd.prog [29, 34] αs) : MeetsF Tryd.prog 5 [] 0 αs (.b true) := by
  obtain ⟨α1, α2, rfl, h1, h2⟩ := aq_n2 h
  obtain ⟨v, rfl, hv⟩ := readq_vals h1
  obtain ⟨l, rfl, hl⟩ := readq_prbs h2
  exact lawResponsesS v hv l hl [] 0
set_option maxRecDepth 100000 in
theorem crsp_lifted (os : Os) (started : os.Started) (H : Type) (enc : TypeId × Value → H) (F : Stop.Interp) :
    ReturnsInHanded {} Tryd.checked os 5 .any ((OpenSpec.ofChange Rows.completeResponsesSpec).preRow enc Tryd.prog Tryd.f5 Rows.completeResponsesRow.domain false Rows.completeResponsesRow.laid) (((OpenSpec.ofChange Rows.completeResponsesSpec).at F).post enc Tryd.prog Tryd.f5 false true false false) := by
  have hx : DataW.whole enc Tryd.prog ((laidWorld os).forCall (fun _ _ => 0) ⟨#[], #[val0, prb0], []⟩).memory Tryd.f5.params.toList Rows.completeResponsesSpec.vars false #[val0, prb0].toList 8 = some ([.agg [.lit (.int .i64 0), .lit (.int .i64 0), .lit (.string []), .nil, .nil], .nil], [], []) := by kernel_rfl
  refine returnsInHanded_of_row (C := Tryd.checked) (s := OpenSpec.ofChange Rows.completeResponsesSpec) own started (by kernel_rfl) Tryd.func5
    (witness_row_at (enc := enc) (C := Tryd.checked) false (laidWorld os) #[val0, prb0] rfl (by kernel_rfl) (by kernel_rfl) (by kernel_rfl)
      (OpenSpec.preRow_of_cond 8 hx (by kernel_rfl) (fun k hk => by cases hk) (by kernel_rfl) (laid_met os _))) ?_
  intro W base args ds gs before hval hW hc1 hc2 hc3 hL _ _
  have hg : gs = [] := by
    obtain ⟨p, q, hA, hV, _⟩ := hW
    exact (ChangeShapes.trodVars_none hV).1
  subst hg
  refine law_sized (s := Rows.completeResponsesSpec) (tb := 4) kids sized ?_ rfl (fun ds hl => ?_) rfl Tryd.underlying4 (m := fun αs h => crsp_law αs h) hval hW hc3 (pow10_laid hL)
  · exact par_lt (by kernel_rfl)
  · obtain ⟨d1, d2, rfl⟩ := ds_n2 (show ds.length = 2 from hl)
    exact ⟨rfl, rfl, rfl⟩
theorem crsp_said : Rows.CompleteResponsesSaid :=
  OpenClaim.holds_of_cond 5 Tryd.f5 rfl rfl rfl rfl rfl rfl rfl ⟨rfl, rfl, rfl, rfl, rfl⟩ rfl rfl rfl rfl rfl (by kernel_rfl) Tryd.func5 (by kernel_rfl)
    (of_decide_eq_true (by kernel_rfl)) (by unfold Func.isWrapper; first | (rw [if_pos (by decide +kernel)]; kernel_rfl) | (rw [if_neg (by decide +kernel)]; exact ⟨rfl, rfl⟩))
    (fun os started H enc _ F => by rw [OpenClaim.pre_eq_preRow]; exact crsp_lifted os started H enc F)
theorem crsp_plain (f : FuncId) (fn : Func) (hf : Tryd.pinned.checked.prog.funcNamed Rows.completeResponsesRow.func = some f) (hfn : Tryd.pinned.checked.prog.funcs[f]? = some fn) :
    false = Tryd.pinned.checked.prog.looks [] ∧ ∀ (j : Nat) t, fn.params[j]? = some t → Tryd.pinned.checked.prog.wantsStandIn t = false := by
  obtain rfl : f = 5 := Option.some.inj ((show Tryd.prog.funcNamed Rows.completeResponsesRow.func = some 5 by kernel_rfl).symm.trans hf) |>.symm
  obtain rfl : fn = Tryd.f5 := (Option.some.inj (Tryd.func5.symm.trans hfn)).symm
  refine ⟨by kernel_rfl, fun j t ht => ?_⟩
  have key : ∀ t ∈ Tryd.f5.params.toList, Tryd.prog.wantsStandIn t = false := by
    have key : (Tryd.f5.params.toList.all fun t => !Tryd.prog.wantsStandIn t) = true := by kernel_rfl
    intro t ht; simpa using List.all_eq_true.1 key t ht
  exact key t (Array.mem_toList_iff.2 (Array.mem_of_getElem? ht))
/-- The statement CompleteResponses's card. -/
theorem crsp_holds : Rows.CompleteResponsesCardSaid :=
  Claim7.holds_tied_plain_at .later [] _ _ _ _ crsp_said (fun _ h => by cases h) (by kernel_rfl) (fun _ h => by cases h) completeResponses_row_tie rfl ⟨rfl, rfl⟩ (by kernel_rfl) rfl crsp_plain (by kernel_rfl)
end Go.Proofs.YtgollgfifnmaaaaDoor
namespace Go.Proofs.YtgollgfifnmaaaaDoor
theorem complete_two : Rows.CompleteLeavesCardSaid ∧ Rows.CompleteResponsesCardSaid := ⟨clvs_holds, crsp_holds⟩
end Go.Proofs.YtgollgfifnmaaaaDoor
