/-
  The parts SbC of the proof, in one file. Conditions: none.
-/
import Derived.Test.YtmcgjccheehehaaQsv49
namespace Go.Proofs.Ytmcgjccheehehaa
open Go.Eng
set_option linter.unusedVariables false
set_option linter.unusedSimpArgs false
set_option maxRecDepth 20000
set_option maxHeartbeats 1000000
abbrev xUser : ByteArray := ⟨#[85, 115, 101, 114]⟩
abbrev xQuery : ByteArray := ⟨#[81, 117, 101, 114, 121]⟩
abbrev xme : ByteArray := ⟨#[109, 101]⟩
abbrev xkid : ByteArray := ⟨#[95, 95, 107, 95, 105, 100]⟩
abbrev xname : ByteArray := ⟨#[110, 97, 109, 101]⟩
abbrev xid : ByteArray := ⟨#[105, 100]⟩
abbrev xa : ByteArray := ⟨#[97]⟩
abbrev xb : ByteArray := ⟨#[98]⟩
abbrev xone : ByteArray := ⟨#[49]⟩
abbrev xtwo : ByteArray := ⟨#[50]⟩
abbrev xString : ByteArray := ⟨#[83, 116, 114, 105, 110, 103]⟩
/-- A text. -/
abbrev txV (s : ByteArray) : Val := .mk 3 0 s [] []
/-- A user with one more field. -/
abbrev obV' (k : ByteArray) (v : Val) : Val := .mk 6 0 ⟨#[]⟩ [txV xUser, v] [ttN, k]
theorem ltext_ok (s : ByteArray) (hp : CH) (m : Nat) : MeetsF Try.prog 56 hp m [.s s] (vx (txV s)) := by
  refine meetsF Try.func56 (by kernel_rfl) cc56 cr56 rfl fun hf => ?_; unfold ck56
  simp only [go_sem, ↓reduceIte, Nat.reduceEqDiff, Nat.reduceBEq, Nat.reduceAdd, Nat.reduceLeDiff, Nat.reduceLT, reduceCtorEq, Nat.reduceMul, Nat.reduceSub, Int.reduceEq, Int.reduceLT, Int.reduceLE, Int.reduceToNat]
theorem lobject_ok (k : ByteArray) (v : Val) (hp : CH) (m : Nat) : MeetsF Try.prog 57 hp m [.s k, vx v] (vx (obV' k v)) := by
  refine meetsF Try.func57 (by kernel_rfl) cc57 cr57 rfl fun hf => ?_; unfold ck57
  simp only [go_sem, ↓reduceIte, Nat.reduceEqDiff, Nat.reduceBEq, Nat.reduceAdd, Nat.reduceLeDiff, Nat.reduceLT, reduceCtorEq, Nat.reduceMul, Nat.reduceSub, Int.reduceEq, Int.reduceLT, Int.reduceLE, Int.reduceToNat]
  refine dCallR.f (fun _ hp' _ => ltext_ok xUser hp' _) ?_
  simp only [go_sem, ↓reduceIte, Nat.reduceEqDiff, Nat.reduceBEq, Nat.reduceAdd, Nat.reduceLeDiff, Nat.reduceLT, reduceCtorEq, Nat.reduceMul, Nat.reduceSub, Int.reduceEq, Int.reduceLT, Int.reduceLE, Int.reduceToNat]
theorem kid_eq : (⟨#[95, 95, 107, 95]⟩ : ByteArray) ++ xid = xkid := by decide
abbrev exPk : Pk := .mk xname xUser xname [] xString [] ⟨#[]⟩ (-1) []
abbrev exF : Fet := .mk 1 2 [.mk xQuery xme] xUser [xid] 1 [exPk] []
abbrev exI : Val := .mk 2 7 ⟨#[]⟩ [] []
abbrev exT : Val := .mk 6 0 ⟨#[]⟩ [txV xQuery, obV' xkid exI] [ttN, xme]
abbrev exO : Val := .mk 6 0 ⟨#[]⟩ [txV xUser, exI, txV xa] [ttN, xkid, xname]
theorem ex_obj : objV exF.p exT = [obV' xkid exI] := by
  rw [objV_get]
  simp [Fet.p_mk, Hop.o_mk, Hop.k_mk, typT, getV, ix, Val.k_mk, Val.s_mk, Val.items_mk, Val.keys_mk]
  rw [objV_get]
  simp [Val.k_mk]
theorem ex_reps : repsV exF exT = [.mk 6 0 ⟨#[]⟩ [txV xUser, exI] [tnm, xid]] := by
  unfold repsV
  rw [ex_obj]
  simp [repsL, isT, Fet.t_mk, Fet.ks_mk, Fet.ky_mk, repV, repS, typT, getV, ix, knm, Val.k_mk, Val.s_mk, Val.items_mk, Val.keys_mk, inB, lfV, lfB, kid_eq]
theorem ex_join : joinV (obV' xkid exI) (obV' xname (txV xa)) = exO := by
  rw [joinV_eq]
  simp [typT, getV, ix, Val.k_mk, Val.s_mk, Val.items_mk, Val.keys_mk, joinO, joinF, joinI, szO, addF, inB]
  rw [joinV_eq]
  simp [Val.k_mk]
theorem ex_join2 : joinV (obV' xa (txV xone)) (obV' xb (txV xtwo)) = .mk 6 0 ⟨#[]⟩ [txV xUser, txV xone, txV xtwo] [ttN, xa, xb] := by
  rw [joinV_eq]
  simp [typT, getV, ix, Val.k_mk, Val.s_mk, Val.items_mk, Val.keys_mk, joinO, joinF, joinI, szO, addF, inB]
  rw [joinV_eq]
  simp [Val.k_mk]
theorem ex_merge : mergeV exF exT [obV' xname (txV xa)] = .mk 6 0 ⟨#[]⟩ [txV xQuery, exO] [ttN, xme] := by
  unfold mergeV
  rw [chg_eq]
  simp [Fet.p_mk, Hop.o_mk, Hop.k_mk, typT, getV, ix, Val.k_mk, Val.s_mk, Val.items_mk, Val.keys_mk, ixO, szO, chgN]
  rw [chg_eq]
  simp [Val.k_mk]
  unfold mgSt
  simp [Fet.t_mk, Fet.ks_mk, Fet.ky_mk, repV, repS, typT, getV, ix, knm, Val.k_mk, Val.s_mk, Val.items_mk, Val.keys_mk, inB, lfV, lfB, resO, kid_eq, Val.n_mk]
  exact ex_join
theorem ex_strip : stripV exO [exPk] = .mk 6 0 ⟨#[]⟩ [txV xUser, txV xa] [ttN, xname] := by
  rw [stripV_eq]
  simp [Val.k_mk, collV, onP, stripE, typT, getV, ix, Val.s_mk, Val.items_mk, Val.keys_mk, Pk.on, Pk.key]
  rw [stripV_eq]
  simp [Val.k_mk]
theorem ex_fail : collV xUser (fun _ => failV entN) [exPk] = .mk 6 0 ⟨#[]⟩ [txV xUser, failV entN] [ttN, xname] := by
  simp [collV, onP, Pk.on, Pk.key]
theorem exF_ok : FetOk exF exT := ⟨wtV_fit _ (by decide), by decide, by decide, by decide, by decide⟩
theorem ex36_ok (hp : CH) (m : Nat) : MeetsF Try.prog 24 hp m [] (.b true) := by
  have hR := fun hp m => reps_ok exF exT exF_ok hp m
  rw [ex_reps] at hR
  have hM := fun hp m => merge_ok exF exT [obV' xname (txV xa)] exF_ok (by decide) (by decide) hp m
  rw [ex_merge] at hM
  have hC := fun hp m => count_ok exF.p exT exF_ok.fit exF_ok.p exF_ok.w hp m
  rw [ex_obj] at hC
  have hS := fun hp m => strip_ok exO (by decide) [exPk] (by decide) hp m
  rw [ex_strip] at hS
  have hL := fun hp m => fail_ok [exPk] xUser entN (by decide) hp m
  rw [ex_fail] at hL
  have hJ := fun hp m => join_ok (obV' xa (txV xone)) (obV' xb (txV xtwo)) (by decide) (by decide) hp m
  rw [ex_join2] at hJ
  refine meetsF Try.func24 (by kernel_rfl) cc24 cr24 rfl fun hf => ?_; unfold ck24
  simp only [go_sem, ↓reduceIte, Nat.reduceEqDiff, Nat.reduceBEq, Nat.reduceAdd, Nat.reduceLeDiff, Nat.reduceLT, reduceCtorEq, Nat.reduceMul, Nat.reduceSub, Int.reduceEq, Int.reduceLT, Int.reduceLE, Int.reduceToNat]
  refine vcCall.f (ltext_ok _ _ _) ?_
  simp only [go_sem, ↓reduceIte, Nat.reduceEqDiff, Nat.reduceBEq, Nat.reduceAdd, Nat.reduceLeDiff, Nat.reduceLT, reduceCtorEq, Nat.reduceMul, Nat.reduceSub, Int.reduceEq, Int.reduceLT, Int.reduceLE, Int.reduceToNat]
  refine vcCall.q (args' := [.s xkid, vx exI]) (lobject_ok xkid exI _ _) (by simp only [go_sem, ↓reduceIte, Nat.reduceEqDiff, Nat.reduceBEq, Nat.reduceAdd, Nat.reduceLeDiff, Nat.reduceLT, reduceCtorEq, Nat.reduceMul, Nat.reduceSub, Int.reduceEq, Int.reduceLT, Int.reduceLE, Int.reduceToNat] <;> rfl) ?_
  simp only [go_sem, ↓reduceIte, Nat.reduceEqDiff, Nat.reduceBEq, Nat.reduceAdd, Nat.reduceLeDiff, Nat.reduceLT, reduceCtorEq, Nat.reduceMul, Nat.reduceSub, Int.reduceEq, Int.reduceLT, Int.reduceLE, Int.reduceToNat]
  refine vcCall.q (args' := [fx exF, vx exT]) (hR _ _) (by simp only [go_sem, ↓reduceIte, Nat.reduceEqDiff, Nat.reduceBEq, Nat.reduceAdd, Nat.reduceLeDiff, Nat.reduceLT, reduceCtorEq, Nat.reduceMul, Nat.reduceSub, Int.reduceEq, Int.reduceLT, Int.reduceLE, Int.reduceToNat] <;> rfl) ?_
  simp only [go_sem, ↓reduceIte, Nat.reduceEqDiff, Nat.reduceBEq, Nat.reduceAdd, Nat.reduceLeDiff, Nat.reduceLT, reduceCtorEq, Nat.reduceMul, Nat.reduceSub, Int.reduceEq, Int.reduceLT, Int.reduceLE, Int.reduceToNat]
  refine dCallR.f (fun _ hp' _ => ltext_ok xa _ _) ?_
  simp only [go_sem, ↓reduceIte, Nat.reduceEqDiff, Nat.reduceBEq, Nat.reduceAdd, Nat.reduceLeDiff, Nat.reduceLT, reduceCtorEq, Nat.reduceMul, Nat.reduceSub, Int.reduceEq, Int.reduceLT, Int.reduceLE, Int.reduceToNat]
  refine dCallR.f (fun _ hp' _ => lobject_ok xname (txV xa) _ _) ?_
  simp only [go_sem, ↓reduceIte, Nat.reduceEqDiff, Nat.reduceBEq, Nat.reduceAdd, Nat.reduceLeDiff, Nat.reduceLT, reduceCtorEq, Nat.reduceMul, Nat.reduceSub, Int.reduceEq, Int.reduceLT, Int.reduceLE, Int.reduceToNat]
  refine dCallR.f (fun _ hp' hh => MeetsF.cv (args' := [fx exF, vx exT, .ds (mapC valC [obV' xname (txV xa)])]) ?_ (hM _ _)) ?_
  · have e0 := hh m (.inl (by omega))
    have e1 := hh (m + 1) (.inl (by omega))
    have e2 := hh (m + 2) (.inl (by omega))
    have e4 := hh (m + 4) (.inl (by omega))
    have e5 := hh (m + 5) (.inl (by omega))
    simp [gc_cons] at e0 e1 e2 e4 e5
    simp only [e0, e1, e2, e4, e5, go_sem, ↓reduceIte, Nat.reduceEqDiff, Nat.reduceBEq, Nat.reduceAdd, Nat.reduceLeDiff, Nat.reduceLT, reduceCtorEq, Nat.reduceMul, Nat.reduceSub, Int.reduceEq, Int.reduceLT, Int.reduceLE, Int.reduceToNat]
    rfl
  simp only [go_sem, ↓reduceIte, Nat.reduceEqDiff, Nat.reduceBEq, Nat.reduceAdd, Nat.reduceLeDiff, Nat.reduceLT, reduceCtorEq, Nat.reduceMul, Nat.reduceSub, Int.reduceEq, Int.reduceLT, Int.reduceLE, Int.reduceToNat]
  refine gCall_t (vcCall.q (args' := [.ds (mapC hopC exF.p), vx exT]) (hC _ _) (by simp only [go_sem, ↓reduceIte, Nat.reduceEqDiff, Nat.reduceBEq, Nat.reduceAdd, Nat.reduceLeDiff, Nat.reduceLT, reduceCtorEq, Nat.reduceMul, Nat.reduceSub, Int.reduceEq, Int.reduceLT, Int.reduceLE, Int.reduceToNat] <;> rfl) ?_)
  simp only [go_sem, ↓reduceIte, Nat.reduceEqDiff, Nat.reduceBEq, Nat.reduceAdd, Nat.reduceLeDiff, Nat.reduceLT, reduceCtorEq, Nat.reduceMul, Nat.reduceSub, Int.reduceEq, Int.reduceLT, Int.reduceLE, Int.reduceToNat]
  refine vcCall.q (args' := [.ds (mapC pkC [exPk]), vx exO]) (hS _ _) (by simp only [go_sem, ↓reduceIte, Nat.reduceEqDiff, Nat.reduceBEq, Nat.reduceAdd, Nat.reduceLeDiff, Nat.reduceLT, reduceCtorEq, Nat.reduceMul, Nat.reduceSub, Int.reduceEq, Int.reduceLT, Int.reduceLE, Int.reduceToNat] <;> rfl) ?_
  simp only [go_sem, ↓reduceIte, Nat.reduceEqDiff, Nat.reduceBEq, Nat.reduceAdd, Nat.reduceLeDiff, Nat.reduceLT, reduceCtorEq, Nat.reduceMul, Nat.reduceSub, Int.reduceEq, Int.reduceLT, Int.reduceLE, Int.reduceToNat]
  refine vcCall.q (args' := [.ds (mapC pkC [exPk]), .s xUser, .s entN]) (hL _ _) (by simp only [go_sem, ↓reduceIte, Nat.reduceEqDiff, Nat.reduceBEq, Nat.reduceAdd, Nat.reduceLeDiff, Nat.reduceLT, reduceCtorEq, Nat.reduceMul, Nat.reduceSub, Int.reduceEq, Int.reduceLT, Int.reduceLE, Int.reduceToNat] <;> rfl) ?_
  simp only [go_sem, ↓reduceIte, Nat.reduceEqDiff, Nat.reduceBEq, Nat.reduceAdd, Nat.reduceLeDiff, Nat.reduceLT, reduceCtorEq, Nat.reduceMul, Nat.reduceSub, Int.reduceEq, Int.reduceLT, Int.reduceLE, Int.reduceToNat]
  refine vcCall.f (ltext_ok xone _ _) ?_
  simp only [go_sem, ↓reduceIte, Nat.reduceEqDiff, Nat.reduceBEq, Nat.reduceAdd, Nat.reduceLeDiff, Nat.reduceLT, reduceCtorEq, Nat.reduceMul, Nat.reduceSub, Int.reduceEq, Int.reduceLT, Int.reduceLE, Int.reduceToNat]
  refine vcCall.f (lobject_ok xa (txV xone) _ _) ?_
  simp only [go_sem, ↓reduceIte, Nat.reduceEqDiff, Nat.reduceBEq, Nat.reduceAdd, Nat.reduceLeDiff, Nat.reduceLT, reduceCtorEq, Nat.reduceMul, Nat.reduceSub, Int.reduceEq, Int.reduceLT, Int.reduceLE, Int.reduceToNat]
  refine vcCall.f (ltext_ok xtwo _ _) ?_
  simp only [go_sem, ↓reduceIte, Nat.reduceEqDiff, Nat.reduceBEq, Nat.reduceAdd, Nat.reduceLeDiff, Nat.reduceLT, reduceCtorEq, Nat.reduceMul, Nat.reduceSub, Int.reduceEq, Int.reduceLT, Int.reduceLE, Int.reduceToNat]
  refine vcCall.f (lobject_ok xb (txV xtwo) _ _) ?_
  simp only [go_sem, ↓reduceIte, Nat.reduceEqDiff, Nat.reduceBEq, Nat.reduceAdd, Nat.reduceLeDiff, Nat.reduceLT, reduceCtorEq, Nat.reduceMul, Nat.reduceSub, Int.reduceEq, Int.reduceLT, Int.reduceLE, Int.reduceToNat]
  refine vcCall.f (hJ _ _) ?_
  simp only [failV, Val.k_mk, go_sem, ↓reduceIte, Nat.reduceEqDiff, Nat.reduceBEq, Nat.reduceAdd, Nat.reduceLeDiff, Nat.reduceLT, reduceCtorEq, Nat.reduceMul, Nat.reduceSub, Int.reduceEq, Int.reduceLT, Int.reduceLE, Int.reduceToNat]
end Go.Proofs.Ytmcgjccheehehaa
