/-
  The parts DaD of the proof, in one file. Conditions: none.
-/
import Derived.Test.YtjalbhlahfgogaaQws41
namespace Go.Proofs.Ytjalbhlahfgogaa
open Go.Eng
set_option linter.unusedVariables false
set_option linter.unusedSimpArgs false
set_option maxRecDepth 20000
def txV (s : ByteArray) : Val := .mk 3 0 s [] []
theorem text_ok (s : ByteArray) (hp : CH) (m : Nat) : MeetsF Try.prog 30 hp m [.s s] (vx (txV s)) := by
  refine meetsF Try.func30 (by kernel_rfl) cc30 cr30 rfl fun hf => ?_; unfold ck30
  simp only [go_sem, ↓reduceIte, Nat.reduceEqDiff, Nat.reduceBEq, Nat.reduceAdd, Nat.reduceLeDiff, Nat.reduceLT, reduceCtorEq, Nat.reduceMul, Nat.reduceSub, Int.reduceEq, Int.reduceLT, Int.reduceLE, Int.reduceToNat]
  rfl
def exD : Dat := .mk [.mk ⟨#[85, 115, 101, 114]⟩ [.mk ⟨#[110, 97, 109, 101]⟩ ⟨#[]⟩ (txV ⟨#[65, 100, 97]⟩), .mk ⟨#[110, 97, 109, 101]⟩ ⟨#[115, 104, 111, 114, 116, 58, 32, 116, 114, 117, 101]⟩ (txV ⟨#[65]⟩)]] []
theorem tx_fit (s : ByteArray) : (txV s).Fit := .mk _ (by simp [txV, Val.items_mk]) (by simp [txV, Val.keys_mk]) (by simp [txV, Val.items_mk])
theorem exD_fit : exD.Fit := .mk _ (by decide) (by decide) (by simp [exD, Dat.i_mk, Itm.l_mk, Cel.v_mk, tx_fit]) (by simp [exD, Dat.w_mk])
theorem exD_right : rightD exD = true := by decide +kernel
theorem exD_root : fidx (fun x : Itm => decide (x.t = ⟨#[85, 115, 101, 114]⟩)) exD.i 0 = 0 := by decide +kernel
theorem exD_l1 : (lookV exD 0 ⟨#[110, 97, 109, 101]⟩ ⟨#[115, 104, 111, 114, 116, 58, 32, 116, 114, 117, 101]⟩).s = ⟨#[65]⟩ := by decide +kernel
theorem exD_l2 : (lookV exD 0 ⟨#[110, 97, 109, 101]⟩ ⟨#[120, 58, 32, 49]⟩).s = ⟨#[65, 100, 97]⟩ := by decide +kernel
theorem ex20_ok (hp : CH) (m : Nat) : MeetsF Try.prog 11 hp m [] (.b true) := by
  have hR := dRoot_ok exD exD_fit ⟨#[85, 115, 101, 114]⟩
  rw [exD_root] at hR
  have hV := dRight_ok exD exD_fit
  rw [exD_right] at hV
  have h1 := dLookup_ok exD exD_fit 0 ⟨#[110, 97, 109, 101]⟩ ⟨#[115, 104, 111, 114, 116, 58, 32, 116, 114, 117, 101]⟩
  have h2 := dLookup_ok exD exD_fit 0 ⟨#[110, 97, 109, 101]⟩ ⟨#[120, 58, 32, 49]⟩
  refine meetsF Try.func11 (by kernel_rfl) cc11 cr11 rfl fun hf => ?_; unfold ck11
  simp only [go_sem, ↓reduceIte, Nat.reduceEqDiff, Nat.reduceBEq, Nat.reduceAdd, Nat.reduceLeDiff, Nat.reduceLT, reduceCtorEq, Nat.reduceMul, Nat.reduceSub, Int.reduceEq, Int.reduceLT, Int.reduceLE, Int.reduceToNat]
  refine vcCall.f (text_ok _ _ _) ?_
  simp only [go_sem, ↓reduceIte, Nat.reduceEqDiff, Nat.reduceBEq, Nat.reduceAdd, Nat.reduceLeDiff, Nat.reduceLT, reduceCtorEq, Nat.reduceMul, Nat.reduceSub, Int.reduceEq, Int.reduceLT, Int.reduceLE, Int.reduceToNat]
  refine vcCall.f (text_ok _ _ _) ?_
  simp only [go_sem, ↓reduceIte, Nat.reduceEqDiff, Nat.reduceBEq, Nat.reduceAdd, Nat.reduceLeDiff, Nat.reduceLT, reduceCtorEq, Nat.reduceMul, Nat.reduceSub, Int.reduceEq, Int.reduceLT, Int.reduceLE, Int.reduceToNat]
  refine vcCall.q (args' := [dx exD, .s ⟨#[85, 115, 101, 114]⟩]) (hR _ _) (by simp only [go_sem, ↓reduceIte, Nat.reduceEqDiff, Nat.reduceBEq, Nat.reduceAdd, Nat.reduceLeDiff, Nat.reduceLT, reduceCtorEq, Nat.reduceMul, Nat.reduceSub, Int.reduceEq, Int.reduceLT, Int.reduceLE, Int.reduceToNat] <;> rfl) ?_
  simp only [go_sem, ↓reduceIte, Nat.reduceEqDiff, Nat.reduceBEq, Nat.reduceAdd, Nat.reduceLeDiff, Nat.reduceLT, reduceCtorEq, Nat.reduceMul, Nat.reduceSub, Int.reduceEq, Int.reduceLT, Int.reduceLE, Int.reduceToNat]
  refine gCall_t (vcCall.q (args' := [dx exD]) (hV _ _) (by simp only [go_sem, ↓reduceIte, Nat.reduceEqDiff, Nat.reduceBEq, Nat.reduceAdd, Nat.reduceLeDiff, Nat.reduceLT, reduceCtorEq, Nat.reduceMul, Nat.reduceSub, Int.reduceEq, Int.reduceLT, Int.reduceLE, Int.reduceToNat] <;> rfl) ?_)
  simp only [go_sem, ↓reduceIte, Nat.reduceEqDiff, Nat.reduceBEq, Nat.reduceAdd, Nat.reduceLeDiff, Nat.reduceLT, reduceCtorEq, Nat.reduceMul, Nat.reduceSub, Int.reduceEq, Int.reduceLT, Int.reduceLE, Int.reduceToNat]
  refine gCall_t (vcCall.q (args' := [dx exD, .i .i64 0, .s ⟨#[110, 97, 109, 101]⟩, .s ⟨#[115, 104, 111, 114, 116, 58, 32, 116, 114, 117, 101]⟩]) (h1 _ _) (by simp only [go_sem, ↓reduceIte, Nat.reduceEqDiff, Nat.reduceBEq, Nat.reduceAdd, Nat.reduceLeDiff, Nat.reduceLT, reduceCtorEq, Nat.reduceMul, Nat.reduceSub, Int.reduceEq, Int.reduceLT, Int.reduceLE, Int.reduceToNat] <;> rfl) ?_)
  simp only [exD_l1, go_sem, ↓reduceIte, Nat.reduceEqDiff, Nat.reduceBEq, Nat.reduceAdd, Nat.reduceLeDiff, Nat.reduceLT, reduceCtorEq, Nat.reduceMul, Nat.reduceSub, Int.reduceEq, Int.reduceLT, Int.reduceLE, Int.reduceToNat]
  refine gCall_t (vcCall.q (args' := [dx exD, .i .i64 0, .s ⟨#[110, 97, 109, 101]⟩, .s ⟨#[120, 58, 32, 49]⟩]) (h2 _ _) (by simp only [go_sem, ↓reduceIte, Nat.reduceEqDiff, Nat.reduceBEq, Nat.reduceAdd, Nat.reduceLeDiff, Nat.reduceLT, reduceCtorEq, Nat.reduceMul, Nat.reduceSub, Int.reduceEq, Int.reduceLT, Int.reduceLE, Int.reduceToNat] <;> rfl) ?_)
  simp only [exD_l2, go_sem, ↓reduceIte, Nat.reduceEqDiff, Nat.reduceBEq, Nat.reduceAdd, Nat.reduceLeDiff, Nat.reduceLT, reduceCtorEq, Nat.reduceMul, Nat.reduceSub, Int.reduceEq, Int.reduceLT, Int.reduceLE, Int.reduceToNat]
end Go.Proofs.Ytjalbhlahfgogaa
