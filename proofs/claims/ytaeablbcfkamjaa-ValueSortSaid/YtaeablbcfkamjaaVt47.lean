/-
  The parts VbD of the proof, in one file. Conditions: none.
-/
import Derived.Test.YtaeablbcfkamjaaVt46
namespace Go.Proofs.Ytaeablbcfkamjaa
open Go.Eng
set_option linter.unusedVariables false
set_option linter.unusedSimpArgs false
set_option maxRecDepth 20000
/-- Empty slices among the arguments. -/
theorem cv_args {P : Program} {f : FuncId} {hp : CH} {n : Nat} {args args' : List AV} {r : AV} (e : cvT hp args = some args') (m : MeetsF P f hp n args' r) : MeetsF P f hp n args r :=
  ⟨m.1, fun h ρ w vs hs ha => m.2 h ρ w vs hs (prel_tp (cvR_rel hs (relL_tp ha) (show cvR _ (.tp args) = some (.tp args') by rw [cvR, e]; rfl)))⟩
theorem leaf_fit {k n : Int} {s : ByteArray} {l : List ByteArray} (hl : l.length ≤ 10) : (Val.mk k n s [] l).Fit := .mk _ (by simp [Val.items_mk]) (by simp [Val.keys_mk]; omega) (by simp [Val.items_mk])
def exK : List ByteArray := [⟨#[98]⟩, ⟨#[97]⟩]
def exO : Val := obV exK [inV 1, inV 2]
def exN : Val := liV [inV 1, liV [inV 2]]
def exS : Val := obV [⟨#[97, 32, 98]⟩] [zVal]
theorem in_fit (n : Int) : (inV n).Fit := leaf_fit (by simp)
theorem li_fit {l : List Val} (h : l.length * 80 ≤ 140737488355327) (hx : ∀ x ∈ l, x.Fit) : (liV l).Fit := .mk _ (by simpa [liV, Val.items_mk] using h) (by simp [liV, Val.keys_mk]) (by simpa [liV, Val.items_mk] using hx)
theorem z_fit : zVal.Fit := leaf_fit (by simp)
theorem exO_fit : exO.Fit := .mk _ (by decide) (by decide) (by simp [exO, obV, Val.items_mk, in_fit])
theorem exN_fit : exN.Fit := li_fit (by decide) (by simp only [List.mem_cons, List.not_mem_nil, or_false, forall_eq_or_imp, forall_eq]; exact ⟨in_fit _, li_fit (by decide) (by simp [in_fit])⟩)
theorem exS_fit : exS.Fit := .mk _ (by decide) (by decide) (by simp [exS, obV, Val.items_mk, z_fit])
theorem leaf_sok {k n : Int} {s : ByteArray} : SOk (Val.mk k n s [] []) := .mk _ (stable_small _ (by simp [Val.keys_mk])) (by simp [Val.items_mk])
theorem exO_sok : SOk exO := .mk _ (stable_small _ (by decide)) (by simp only [exO, obV, Val.items_mk, List.mem_cons, List.not_mem_nil, or_false, forall_eq_or_imp, forall_eq]; exact ⟨leaf_sok, leaf_sok⟩)
theorem exO_obj : objV exK [inV 1, inV 2] = (exO, 0) := by
  rw [objV, if_neg (by simp [exK]), if_neg (by decide +kernel)]
  rfl
theorem exS_obj : objV [⟨#[97, 32, 98]⟩] [zVal] = (exS, 0) := by
  rw [objV, if_neg (by simp), if_neg (by decide +kernel)]
  rfl
theorem exO_sort : (sortV exO).keys = [⟨#[97]⟩, ⟨#[98]⟩] := by decide +kernel
theorem exO_get : getV exO ⟨#[98]⟩ = some (inV 1) := by
  rw [getV, if_pos (by decide +kernel), if_pos (by decide +kernel)]
  have : ix ⟨#[98]⟩ exO.keys 0 = 0 := by decide +kernel
  rw [this]
  rfl
theorem exS_r : rightV false exS = true := by decide +kernel
theorem exS_l : rightV true exS = false := by decide +kernel
theorem exN_s : szV exN = 4 := by decide +kernel
theorem exN_d : dpV exN = 3 := by decide +kernel
theorem ex_cmp : cmpV (liV [inV 1]) (liV [inV 1, inV 1]) = -1 := by decide +kernel
theorem ex_lit : rightV true (.mk 7 0 ⟨#[97]⟩ [] []) = true := by decide +kernel
theorem knows_ok (hp : CH) (m : Nat) : MeetsF Try.prog 11 hp m [] (.b true) := by
  have hO := vObject_ok exK [inV 1, inV 2] (by decide) (by decide) (by simp [in_fit])
  rw [exO_obj] at hO
  have hG := fun hp m => get_ok exO exO_fit ⟨#[98]⟩ hp m
  rw [exO_get] at hG
  have hP := vObject_ok [⟨#[97, 32, 98]⟩] [zVal] (by decide) (by decide) (by simp [z_fit])
  rw [exS_obj] at hP
  have e1 : (inV 1).n = 1 := rfl
  have hR := vRight_ok exS exS_fit
  rw [exS_r] at hR
  have hL := vLiteral_ok exS exS_fit
  rw [exS_l] at hL
  have hs := vsize_ok exN exN_fit
  rw [exN_s] at hs
  have hd := vdepth_ok exN exN_fit
  rw [exN_d] at hd
  have hc := vcmp_ok (liV [inV 1]) (liV [inV 1, inV 1]) (li_fit (by decide) (by simp [in_fit])) (li_fit (by decide) (by simp [in_fit]))
  rw [ex_cmp] at hc
  have hm := vsame_ok (boV true) (boV true) (leaf_fit (by simp)) (leaf_fit (by simp))
  rw [cmpV_refl] at hm
  have hl := vLiteral_ok (.mk 7 0 ⟨#[97]⟩ [] []) (leaf_fit (by simp))
  rw [ex_lit] at hl
  refine meetsF Try.func11 (by kernel_rfl) cc11 cr11 rfl fun hf => ?_; unfold ck11
  simp only [go_sem, ↓reduceIte, Nat.reduceEqDiff, Nat.reduceBEq, Nat.reduceAdd, Nat.reduceLeDiff, Nat.reduceLT, reduceCtorEq, Nat.reduceMul, Nat.reduceSub, Int.reduceEq, Int.reduceLT, Int.reduceLE, Int.reduceToNat]
  refine vcCall.f (vInt_ok 1 _ _) ?_
  simp only [go_sem, ↓reduceIte, Nat.reduceEqDiff, Nat.reduceBEq, Nat.reduceAdd, Nat.reduceLeDiff, Nat.reduceLT, reduceCtorEq, Nat.reduceMul, Nat.reduceSub, Int.reduceEq, Int.reduceLT, Int.reduceLE, Int.reduceToNat]
  first | refine dCallR.f (fun _ _ _ => vInt_ok 2 _ _) ?_ | refine dCall.f (fun _ _ _ => vInt_ok 2 _ _) ?_
  simp only [go_sem, ↓reduceIte, Nat.reduceEqDiff, Nat.reduceBEq, Nat.reduceAdd, Nat.reduceLeDiff, Nat.reduceLT, reduceCtorEq, Nat.reduceMul, Nat.reduceSub, Int.reduceEq, Int.reduceLT, Int.reduceLE, Int.reduceToNat]
  refine dCallR.f (fun _ hp' hh => vList_ok [inV 2] (by decide) (by simp [in_fit]) hp' _) ?_
  simp only [go_sem, ↓reduceIte, Nat.reduceEqDiff, Nat.reduceBEq, Nat.reduceAdd, Nat.reduceLeDiff, Nat.reduceLT, reduceCtorEq, Nat.reduceMul, Nat.reduceSub, Int.reduceEq, Int.reduceLT, Int.reduceLE, Int.reduceToNat]
  refine dCallR.f (fun _ hp' hh => vList_ok [inV 1, liV [inV 2]] (by decide) (by simp only [List.mem_cons, List.not_mem_nil, or_false, forall_eq_or_imp, forall_eq]; exact ⟨in_fit _, li_fit (by decide) (by simp [in_fit])⟩) hp' _) ?_
  simp only [go_sem, ↓reduceIte, Nat.reduceEqDiff, Nat.reduceBEq, Nat.reduceAdd, Nat.reduceLeDiff, Nat.reduceLT, reduceCtorEq, Nat.reduceMul, Nat.reduceSub, Int.reduceEq, Int.reduceLT, Int.reduceLE, Int.reduceToNat]
  first | refine dCallR.f (fun _ _ _ => vInt_ok 2 _ _) ?_ | refine dCall.f (fun _ _ _ => vInt_ok 2 _ _) ?_
  simp only [go_sem, ↓reduceIte, Nat.reduceEqDiff, Nat.reduceBEq, Nat.reduceAdd, Nat.reduceLeDiff, Nat.reduceLT, reduceCtorEq, Nat.reduceMul, Nat.reduceSub, Int.reduceEq, Int.reduceLT, Int.reduceLE, Int.reduceToNat]
  refine dCallR.f (fun _ hp' hh => hO hp' _) ?_
  simp only [go_sem, ↓reduceIte, Nat.reduceEqDiff, Nat.reduceBEq, Nat.reduceAdd, Nat.reduceLeDiff, Nat.reduceLT, reduceCtorEq, Nat.reduceMul, Nat.reduceSub, Int.reduceEq, Int.reduceLT, Int.reduceLE, Int.reduceToNat]
  refine vcCall.f (sort_ok exO exO_fit exO_sok _ _) ?_
  simp only [go_sem, ↓reduceIte, Nat.reduceEqDiff, Nat.reduceBEq, Nat.reduceAdd, Nat.reduceLeDiff, Nat.reduceLT, reduceCtorEq, Nat.reduceMul, Nat.reduceSub, Int.reduceEq, Int.reduceLT, Int.reduceLE, Int.reduceToNat]
  obtain ⟨S, hS⟩ : ∃ S, sortV exO = S := ⟨_, rfl⟩
  have hk := exO_sort
  rw [hS] at hk ⊢
  refine vcCall.f (hG _ _) ?_
  simp only [go_sem, ↓reduceIte, Nat.reduceEqDiff, Nat.reduceBEq, Nat.reduceAdd, Nat.reduceLeDiff, Nat.reduceLT, reduceCtorEq, Nat.reduceMul, Nat.reduceSub, Int.reduceEq, Int.reduceLT, Int.reduceLE, Int.reduceToNat]
  refine vcCall.f ((hP _ _).cv rfl) ?_
  simp only [e1, hk, mapC_cons, mapC_nil, List.length_cons, List.length_nil, go_sem, ↓reduceIte, Nat.reduceEqDiff, Nat.reduceBEq, Nat.reduceAdd, Nat.reduceLeDiff, Nat.reduceLT, reduceCtorEq, Nat.reduceMul, Nat.reduceSub, Int.reduceEq, Int.reduceLT, Int.reduceLE, Int.reduceToNat]
  refine gCall.f (fun _ => hR _ _) ?_
  simp only [go_sem, ↓reduceIte, Nat.reduceEqDiff, Nat.reduceBEq, Nat.reduceAdd, Nat.reduceLeDiff, Nat.reduceLT, reduceCtorEq, Nat.reduceMul, Nat.reduceSub, Int.reduceEq, Int.reduceLT, Int.reduceLE, Int.reduceToNat]
  refine gCall.f (fun _ => hL _ _) ?_
  simp only [go_sem, ↓reduceIte, Nat.reduceEqDiff, Nat.reduceBEq, Nat.reduceAdd, Nat.reduceLeDiff, Nat.reduceLT, reduceCtorEq, Nat.reduceMul, Nat.reduceSub, Int.reduceEq, Int.reduceLT, Int.reduceLE, Int.reduceToNat]
  first | refine dCallR.f (fun _ _ _ => hs _ _) ?_ | refine dCall.f (fun _ _ _ => hs _ _) ?_
  simp only [go_sem, ↓reduceIte, Nat.reduceEqDiff, Nat.reduceBEq, Nat.reduceAdd, Nat.reduceLeDiff, Nat.reduceLT, reduceCtorEq, Nat.reduceMul, Nat.reduceSub, Int.reduceEq, Int.reduceLT, Int.reduceLE, Int.reduceToNat]
  first | refine dCallR.f (fun _ _ _ => hd _ _) ?_ | refine dCall.f (fun _ _ _ => hd _ _) ?_
  simp only [go_sem, ↓reduceIte, Nat.reduceEqDiff, Nat.reduceBEq, Nat.reduceAdd, Nat.reduceLeDiff, Nat.reduceLT, reduceCtorEq, Nat.reduceMul, Nat.reduceSub, Int.reduceEq, Int.reduceLT, Int.reduceLE, Int.reduceToNat]
  refine .inl ?_
  refine dCall.f (fun _ hp' hh => vList_ok [inV 1] (by decide) (by simp [in_fit]) hp' _) ?_
  simp only [go_sem, ↓reduceIte, Nat.reduceEqDiff, Nat.reduceBEq, Nat.reduceAdd, Nat.reduceLeDiff, Nat.reduceLT, reduceCtorEq, Nat.reduceMul, Nat.reduceSub, Int.reduceEq, Int.reduceLT, Int.reduceLE, Int.reduceToNat]
  refine .inl ?_
  refine dCall.f (fun _ hp' hh => vList_ok [inV 1, inV 1] (by decide) (by simp [in_fit]) hp' _) ?_
  simp only [go_sem, ↓reduceIte, Nat.reduceEqDiff, Nat.reduceBEq, Nat.reduceAdd, Nat.reduceLeDiff, Nat.reduceLT, reduceCtorEq, Nat.reduceMul, Nat.reduceSub, Int.reduceEq, Int.reduceLT, Int.reduceLE, Int.reduceToNat]
  first | refine dCallR.f (fun _ _ _ => hc _ _) ?_ | refine dCall.f (fun _ _ _ => hc _ _) ?_
  simp only [go_sem, ↓reduceIte, Nat.reduceEqDiff, Nat.reduceBEq, Nat.reduceAdd, Nat.reduceLeDiff, Nat.reduceLT, reduceCtorEq, Nat.reduceMul, Nat.reduceSub, Int.reduceEq, Int.reduceLT, Int.reduceLE, Int.reduceToNat]
  first | refine dCallR.f (fun _ _ _ => vBool_ok true _ _) ?_ | refine dCall.f (fun _ _ _ => vBool_ok true _ _) ?_
  simp only [go_sem, ↓reduceIte, Nat.reduceEqDiff, Nat.reduceBEq, Nat.reduceAdd, Nat.reduceLeDiff, Nat.reduceLT, reduceCtorEq, Nat.reduceMul, Nat.reduceSub, Int.reduceEq, Int.reduceLT, Int.reduceLE, Int.reduceToNat]
  refine dCall.f (fun _ _ _ => cv_args rfl (hm _ _)) ?_
  simp only [go_sem, ↓reduceIte, Nat.reduceEqDiff, Nat.reduceBEq, Nat.reduceAdd, Nat.reduceLeDiff, Nat.reduceLT, reduceCtorEq, Nat.reduceMul, Nat.reduceSub, Int.reduceEq, Int.reduceLT, Int.reduceLE, Int.reduceToNat]
  refine dCall.f (fun _ _ _ => cv_args rfl (hl _ _)) ?_
  simp only [go_sem, ↓reduceIte, Nat.reduceEqDiff, Nat.reduceBEq, Nat.reduceAdd, Nat.reduceLeDiff, Nat.reduceLT, reduceCtorEq, Nat.reduceMul, Nat.reduceSub, Int.reduceEq, Int.reduceLT, Int.reduceLE, Int.reduceToNat]
end Go.Proofs.Ytaeablbcfkamjaa
