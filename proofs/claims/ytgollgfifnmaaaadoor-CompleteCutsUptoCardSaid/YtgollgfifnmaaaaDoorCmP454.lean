/-
  The parts CmXF of the proof, in one file. Conditions: none.
-/
import Derived.Test.YtgollgfifnmaaaaDoorCmP453
namespace Go.Proofs.YtgollgfifnmaaaaDoor
open Go.Eng
open Go.ChangeShapes Go.WideShapes Go.ChangeAt Go.RowKit
set_option linter.unusedVariables false
set_option linter.unusedSimpArgs false
theorem ccut_law (αs : List AV) (h : ASs Tryd.prog [31, 3] αs) (hw : avL αs ≤ 1048576) : MeetsF Tryd.prog 8 [] 0 αs (.b true) := by
  obtain ⟨α1, α2, rfl, h1, h2⟩ := as_n2 h
  simp only [avL] at hw
  obtain ⟨doc, root, l, v, rfl, c⟩ := reads_case22 h1 (by omega)
  obtain ⟨n, rfl, hn⟩ := as_int Tryd.underlying3 h2
  exact lawCuts22 doc root l v c n (wf64 hn) [] 0
set_option maxRecDepth 100000 in
theorem ccut_lifted (os : Os) (started : os.Started) (H : Type) (enc : TypeId × Value → H) (F : Stop.Interp) :
    ReturnsInHanded {} Tryd.checked os 8 .any ((Rows.OpenSpec.upto Rows.completeCutsSpec).preRow enc Tryd.prog Tryd.f8 Rows.completeCutsUptoRow.domain false Rows.completeCutsUptoRow.laid) (((Rows.OpenSpec.upto Rows.completeCutsSpec).at F).post enc Tryd.prog Tryd.f8 false true false false) := by
  have hx : DataW.whole enc Tryd.prog ((laidWorld os).forCall (fun _ _ => 0) ⟨#[], #[case0, .int .i64 0], []⟩).memory Tryd.f8.params.toList Rows.completeCutsSpec.vars false #[case0, .int .i64 0].toList 8 = some ([.agg [.agg [.nil], .lit (.string []), .nil, .agg [.lit (.int .i64 0), .lit (.int .i64 0), .lit (.string []), .nil, .nil]], .lit (.int .i64 0)], [], []) := by kernel_rfl
  refine returnsInHanded_of_row (C := Tryd.checked) (s := Rows.OpenSpec.upto Rows.completeCutsSpec) own started (by kernel_rfl) Tryd.func8
    (witness_row_at (enc := enc) (C := Tryd.checked) false (laidWorld os) #[case0, .int .i64 0] rfl (by kernel_rfl) (by kernel_rfl) (by kernel_rfl)
      (OpenSpec.preRow_of_cond 8 hx (by kernel_rfl) (fun k hk => by cases hk; kernel_rfl) (by kernel_rfl) (laid_met os _))) ?_
  intro W base args ds gs before hval hW hc1 hc2 hc3 hL _ _
  have hg : gs = [] := by
    obtain ⟨p, q, hA, hV, _⟩ := hW
    exact (ChangeShapes.trodVars_none hV).1
  subst hg
  have hk : Rows.uptoBulkAll ds ≤ 1048576 := by first | (simpa [Rows.uptoSmall] using hc1 _ rfl) | (simpa [Rows.uptoSmall] using hc2 _ rfl)
  refine law_core (s := Rows.completeCutsSpec) (tb := 4) kids sized ?_ rfl (fun ds hl => ?_) rfl Tryd.underlying4 (m := fun αs h hb => ccut_law αs h (Nat.le_trans hb hk)) hval hW (pow10_laid hL)
  · exact par_lt (by kernel_rfl)
  · obtain ⟨d1, d2, rfl⟩ := ds_n2 (show ds.length = 2 from hl)
    exact ⟨rfl, rfl, rfl⟩
theorem ccut_said : Rows.CompleteCutsUptoSaid :=
  OpenClaim.holds_of_cond 8 Tryd.f8 rfl rfl rfl rfl rfl rfl rfl ⟨rfl, rfl, rfl, rfl, rfl⟩ rfl rfl rfl rfl rfl (by kernel_rfl) Tryd.func8 (by kernel_rfl)
    (of_decide_eq_true (by kernel_rfl)) (by unfold Func.isWrapper; first | (rw [if_pos (by decide +kernel)]; kernel_rfl) | (rw [if_neg (by decide +kernel)]; exact ⟨rfl, rfl⟩))
    (fun os started H enc _ F => by rw [OpenClaim.pre_eq_preRow]; exact ccut_lifted os started H enc F)
theorem ccut_plain (f : FuncId) (fn : Func) (hf : Tryd.pinned.checked.prog.funcNamed Rows.completeCutsUptoRow.func = some f) (hfn : Tryd.pinned.checked.prog.funcs[f]? = some fn) :
    false = Tryd.pinned.checked.prog.looks [] ∧ ∀ (j : Nat) t, fn.params[j]? = some t → Tryd.pinned.checked.prog.wantsStandIn t = false := by
  obtain rfl : f = 8 := Option.some.inj ((show Tryd.prog.funcNamed Rows.completeCutsUptoRow.func = some 8 by kernel_rfl).symm.trans hf) |>.symm
  obtain rfl : fn = Tryd.f8 := (Option.some.inj (Tryd.func8.symm.trans hfn)).symm
  refine ⟨by kernel_rfl, fun j t ht => ?_⟩
  have key : ∀ t ∈ Tryd.f8.params.toList, Tryd.prog.wantsStandIn t = false := by
    have key : (Tryd.f8.params.toList.all fun t => !Tryd.prog.wantsStandIn t) = true := by kernel_rfl
    intro t ht; simpa using List.all_eq_true.1 key t ht
  exact key t (Array.mem_toList_iff.2 (Array.mem_of_getElem? ht))
/-- The statement CompleteCuts's card, where what it reads is not too much. -/
theorem ccut_holds : Rows.CompleteCutsUptoCardSaid :=
  Claim7.holds_tied_plain_at .later [] _ _ _ _ ccut_said (fun _ h => by cases h) (by kernel_rfl) (fun _ h => by cases h) completeCutsUpto_row_tie rfl ⟨rfl, rfl⟩ (by kernel_rfl) rfl ccut_plain (by kernel_rfl)
end Go.Proofs.YtgollgfifnmaaaaDoor
