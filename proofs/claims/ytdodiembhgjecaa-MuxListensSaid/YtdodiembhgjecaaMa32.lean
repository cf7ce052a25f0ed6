/-
  The parts MxE of the proof, in one file. Conditions: none.
-/
import Derived.Test.YtdodiembhgjecaaMa31
namespace Go.Proofs.Ytdodiembhgjecaa
open Go.Eng
set_option linter.unusedVariables false
set_option linter.unusedSimpArgs false
set_option maxRecDepth 20000
set_option maxHeartbeats 2000000
theorem sRecv_nil (f : Frm) (hp : CH) (m : Nat) : MeetsF Try.prog 14 hp m [.np, f.av] (.tp [.ds [], .i .i64 1]) := by
  refine meetsF Try.func14 (by kernel_rfl) cc14 cr14 rfl fun hf => ?_; unfold ck14
  simp only [go_sem, ↓reduceIte, Nat.reduceEqDiff, Nat.reduceBEq, Nat.reduceAdd, Nat.reduceLeDiff, Nat.reduceLT, reduceCtorEq, Nat.reduceMul, Nat.reduceSub, Int.reduceEq, Int.reduceLT, Int.reduceLE, Int.reduceToNat]
  try rfl
theorem sRecv_no (a b d e : AV) (c : Nat) (hp : CH) (hc : gc hp c = .bx [.i .i64 0, a, b, d, e]) (f : Frm) (m : Nat) : MeetsF Try.prog 14 hp m [.bx c 0, f.av] (.tp [.ds [], .i .i64 1]) := by
  refine meetsF Try.func14 (by kernel_rfl) cc14 cr14 rfl fun hf => ?_; unfold ck14
  have hlt := bx_lt' hf hc
  simp (disch := omega) only [ite_ne, hc, go_sem, ↓reduceIte, Nat.reduceEqDiff, Nat.reduceBEq, Nat.reduceAdd, Nat.reduceLeDiff, Nat.reduceLT, reduceCtorEq, Nat.reduceMul, Nat.reduceSub, Int.reduceEq, Int.reduceLT, Int.reduceLE, Int.reduceToNat]
  try rfl
theorem sSend_nil (f : Frm) (hp : CH) (m : Nat) : MeetsF Try.prog 32 hp m [.np, f.av] (.tp [.ds [], .i .i64 1]) := by
  refine meetsF Try.func32 (by kernel_rfl) cc32 cr32 rfl fun hf => ?_; unfold ck32
  simp only [go_sem, ↓reduceIte, Nat.reduceEqDiff, Nat.reduceBEq, Nat.reduceAdd, Nat.reduceLeDiff, Nat.reduceLT, reduceCtorEq, Nat.reduceMul, Nat.reduceSub, Int.reduceEq, Int.reduceLT, Int.reduceLE, Int.reduceToNat]
  try rfl
theorem sSend_no (a b d e : AV) (c : Nat) (hp : CH) (hc : gc hp c = .bx [.i .i64 0, a, b, d, e]) (f : Frm) (m : Nat) : MeetsF Try.prog 32 hp m [.bx c 0, f.av] (.tp [.ds [], .i .i64 1]) := by
  refine meetsF Try.func32 (by kernel_rfl) cc32 cr32 rfl fun hf => ?_; unfold ck32
  have hlt := bx_lt' hf hc
  simp (disch := omega) only [ite_ne, hc, go_sem, ↓reduceIte, Nat.reduceEqDiff, Nat.reduceBEq, Nat.reduceAdd, Nat.reduceLeDiff, Nat.reduceLT, reduceCtorEq, Nat.reduceMul, Nat.reduceSub, Int.reduceEq, Int.reduceLT, Int.reduceLE, Int.reduceToNat]
  try rfl
theorem sPub_nil (i : Int) (b : ByteArray) (hp : CH) (m : Nat) : MeetsF Try.prog 10 hp m [.np, .i .i64 i, .s b] (.tp [.ds [], .i .i64 1]) := by
  have h := sSend_nil (.mk 5 i 0 0 b)
  refine meetsF Try.func10 (by kernel_rfl) cc10 cr10 rfl fun hf => ?_; unfold ck10
  simp only [go_sem, ↓reduceIte, Nat.reduceEqDiff, Nat.reduceBEq, Nat.reduceAdd, Nat.reduceLeDiff, Nat.reduceLT, reduceCtorEq, Nat.reduceMul, Nat.reduceSub, Int.reduceEq, Int.reduceLT, Int.reduceLE, Int.reduceToNat]
  refine vcCall.f (h _ _) ?_
  simp only [go_sem, ↓reduceIte, Nat.reduceEqDiff, Nat.reduceBEq, Nat.reduceAdd, Nat.reduceLeDiff, Nat.reduceLT, reduceCtorEq, Nat.reduceMul, Nat.reduceSub, Int.reduceEq, Int.reduceLT, Int.reduceLE, Int.reduceToNat]
  try rfl
theorem sEnd_no (a b d e : AV) (c : Nat) (i : Int) (hp : CH) (hc : gc hp c = .bx [.i .i64 0, a, b, d, e]) (m : Nat) : MeetsF Try.prog 12 hp m [.bx c 0, .i .i64 i] (.tp [.ds [], .i .i64 1]) := by
  have h := sSend_no a b d e c hp hc (.mk 6 i 0 0 ⟨#[]⟩)
  refine meetsF Try.func12 (by kernel_rfl) cc12 cr12 rfl fun hf => ?_; unfold ck12
  simp only [go_sem, ↓reduceIte, Nat.reduceEqDiff, Nat.reduceBEq, Nat.reduceAdd, Nat.reduceLeDiff, Nat.reduceLT, reduceCtorEq, Nat.reduceMul, Nat.reduceSub, Int.reduceEq, Int.reduceLT, Int.reduceLE, Int.reduceToNat]
  refine vcCall.f (h _) ?_
  simp only [go_sem, ↓reduceIte, Nat.reduceEqDiff, Nat.reduceBEq, Nat.reduceAdd, Nat.reduceLeDiff, Nat.reduceLT, reduceCtorEq, Nat.reduceMul, Nat.reduceSub, Int.reduceEq, Int.reduceLT, Int.reduceLE, Int.reduceToNat]
  try rfl
theorem sLive_nil (hp : CH) (m : Nat) : MeetsF Try.prog 18 hp m [.np] (.ds []) := by
  refine meetsF Try.func18 (by kernel_rfl) cc18 cr18 rfl fun hf => ?_; unfold ck18
  simp only [go_sem, ↓reduceIte, Nat.reduceEqDiff, Nat.reduceBEq, Nat.reduceAdd, Nat.reduceLeDiff, Nat.reduceLT, reduceCtorEq, Nat.reduceMul, Nat.reduceSub, Int.reduceEq, Int.reduceLT, Int.reduceLE, Int.reduceToNat]
  try rfl
theorem sKept_nil (hp : CH) (m : Nat) : MeetsF Try.prog 20 hp m [.np] (.i .i64 0) := by
  refine meetsF Try.func20 (by kernel_rfl) cc20 cr20 rfl fun hf => ?_; unfold ck20
  simp only [go_sem, ↓reduceIte, Nat.reduceEqDiff, Nat.reduceBEq, Nat.reduceAdd, Nat.reduceLeDiff, Nat.reduceLT, reduceCtorEq, Nat.reduceMul, Nat.reduceSub, Int.reduceEq, Int.reduceLT, Int.reduceLE, Int.reduceToNat]
theorem sKept_0 (a b d L : AV) (c : Nat) (hp : CH) (hc : gc hp c = .bx [a, b, d, .e0, L]) (m : Nat) : MeetsF Try.prog 20 hp m [.bx c 0] (.i .i64 0) := by
  refine meetsF Try.func20 (by kernel_rfl) cc20 cr20 rfl fun hf => ?_; unfold ck20
  have hlt := bx_lt' hf hc
  simp (disch := omega) only [ite_ne, hc, go_sem, ↓reduceIte, Nat.reduceEqDiff, Nat.reduceBEq, Nat.reduceAdd, Nat.reduceLeDiff, Nat.reduceLT, reduceCtorEq, Nat.reduceMul, Nat.reduceSub, Int.reduceEq, Int.reduceLT, Int.reduceLE, Int.reduceToNat]
  try rfl
theorem cNew (hp : CH) (m : Nat) : Meets Try.prog 22 hp m [] fun hp' n' r => hp' = (m, .bx [.b true, .i .i64 0, .e0]) :: hp ∧ n' = m + 1 ∧ r = .bx m 0 := by
  refine meets Try.func22 (by kernel_rfl) cc22 cr22 rfl ?_; unfold ck22
  simp only [go_sem, ↓reduceIte, Nat.reduceEqDiff, Nat.reduceBEq, Nat.reduceAdd, Nat.reduceLeDiff, Nat.reduceLT, reduceCtorEq, Nat.reduceMul, Nat.reduceSub, Int.reduceEq, Int.reduceLT, Int.reduceLE, Int.reduceToNat]
theorem gNew (hp : CH) (m : Nat) : Meets Try.prog 23 hp m [] fun hp' n' r => hp' = (m, .bx [.i .i64 0, .e0, .b true]) :: hp ∧ n' = m + 1 ∧ r = .bx m 0 := by
  refine meets Try.func23 (by kernel_rfl) cc23 cr23 rfl ?_; unfold ck23
  simp only [go_sem, ↓reduceIte, Nat.reduceEqDiff, Nat.reduceBEq, Nat.reduceAdd, Nat.reduceLeDiff, Nat.reduceLT, reduceCtorEq, Nat.reduceMul, Nat.reduceSub, Int.reduceEq, Int.reduceLT, Int.reduceLE, Int.reduceToNat]
theorem lawNil (f : Frm) (hp : CH) (m : Nat) : MeetsF Try.prog 6 hp m [f.av] (.b true) := by
  have h1 := sRecv_nil f
  have h3 := sPub_nil f.i f.b
  have h5 := mRecv_nil f
  have o1 := mOpen_nil
  have e1 : Frm.av (akF 0 0) = .ag [.i .i64 0, .i .i64 0, .i .i64 0, .i .i64 0, .s ⟨#[]⟩] := rfl
  rw [e1] at o1
  refine meetsF Try.func6 (by kernel_rfl) cc6 cr6 rfl fun hf => ?_; unfold ck6
  simp only [go_sem, ↓reduceIte, Nat.reduceEqDiff, Nat.reduceBEq, Nat.reduceAdd, Nat.reduceLeDiff, Nat.reduceLT, reduceCtorEq, Nat.reduceMul, Nat.reduceSub, Int.reduceEq, Int.reduceLT, Int.reduceLE, Int.reduceToNat]
  refine vcCall.f (h1 _ _) ?_
  simp (disch := omega) only [ite_ne, go_sem, ↓reduceIte, Nat.reduceEqDiff, Nat.reduceBEq, Nat.reduceAdd, Nat.reduceLeDiff, Nat.reduceLT, reduceCtorEq, Nat.reduceMul, Nat.reduceSub, Int.reduceEq, Int.reduceLT, Int.reduceLE, Int.reduceToNat]
  refine vcCall.f (sRecv_no (.i .i64 0) (.i .i64 0) .e0 .e0 (m + 1) _ (by (simp (disch := omega) only [ite_ne, go_sem, ↓reduceIte, Nat.reduceEqDiff, Nat.reduceBEq, Nat.reduceAdd, Nat.reduceLeDiff, Nat.reduceLT, reduceCtorEq, Nat.reduceMul, Nat.reduceSub, Int.reduceEq, Int.reduceLT, Int.reduceLE, Int.reduceToNat])) f _) ?_
  simp (disch := omega) only [ite_ne, go_sem, ↓reduceIte, Nat.reduceEqDiff, Nat.reduceBEq, Nat.reduceAdd, Nat.reduceLeDiff, Nat.reduceLT, reduceCtorEq, Nat.reduceMul, Nat.reduceSub, Int.reduceEq, Int.reduceLT, Int.reduceLE, Int.reduceToNat]
  refine vcCall.f (h3 _ _) ?_
  simp (disch := omega) only [ite_ne, go_sem, ↓reduceIte, Nat.reduceEqDiff, Nat.reduceBEq, Nat.reduceAdd, Nat.reduceLeDiff, Nat.reduceLT, reduceCtorEq, Nat.reduceMul, Nat.reduceSub, Int.reduceEq, Int.reduceLT, Int.reduceLE, Int.reduceToNat]
  refine vcCall.f (sEnd_no (.i .i64 0) (.i .i64 0) .e0 .e0 (m + 1) f.i _ (by (simp (disch := omega) only [ite_ne, go_sem, ↓reduceIte, Nat.reduceEqDiff, Nat.reduceBEq, Nat.reduceAdd, Nat.reduceLeDiff, Nat.reduceLT, reduceCtorEq, Nat.reduceMul, Nat.reduceSub, Int.reduceEq, Int.reduceLT, Int.reduceLE, Int.reduceToNat])) _) ?_
  simp (disch := omega) only [ite_ne, go_sem, ↓reduceIte, Nat.reduceEqDiff, Nat.reduceBEq, Nat.reduceAdd, Nat.reduceLeDiff, Nat.reduceLT, reduceCtorEq, Nat.reduceMul, Nat.reduceSub, Int.reduceEq, Int.reduceLT, Int.reduceLE, Int.reduceToNat]
  refine vcCall.f (h5 _ _) ?_
  simp (disch := omega) only [ite_ne, go_sem, ↓reduceIte, Nat.reduceEqDiff, Nat.reduceBEq, Nat.reduceAdd, Nat.reduceLeDiff, Nat.reduceLT, reduceCtorEq, Nat.reduceMul, Nat.reduceSub, Int.reduceEq, Int.reduceLT, Int.reduceLE, Int.reduceToNat]
  refine vcCall.f (mRecv_no 0 .e0 (m + 2) _ (by (simp (disch := omega) only [ite_ne, go_sem, ↓reduceIte, Nat.reduceEqDiff, Nat.reduceBEq, Nat.reduceAdd, Nat.reduceLeDiff, Nat.reduceLT, reduceCtorEq, Nat.reduceMul, Nat.reduceSub, Int.reduceEq, Int.reduceLT, Int.reduceLE, Int.reduceToNat])) f _) ?_
  simp (disch := omega) only [ite_ne, go_sem, ↓reduceIte, Nat.reduceEqDiff, Nat.reduceBEq, Nat.reduceAdd, Nat.reduceLeDiff, Nat.reduceLT, reduceCtorEq, Nat.reduceMul, Nat.reduceSub, Int.reduceEq, Int.reduceLT, Int.reduceLE, Int.reduceToNat]
  refine vcCall.f (sLive_nil _ _) ?_
  simp (disch := omega) only [ite_ne, go_sem, ↓reduceIte, Nat.reduceEqDiff, Nat.reduceBEq, Nat.reduceAdd, Nat.reduceLeDiff, Nat.reduceLT, reduceCtorEq, Nat.reduceMul, Nat.reduceSub, Int.reduceEq, Int.reduceLT, Int.reduceLE, Int.reduceToNat]
  refine gCall.f (fun _ => sKept_0 (.i .i64 0) (.i .i64 0) (.i .i64 0) .e0 (m + 1) _ (by (simp (disch := omega) only [ite_ne, go_sem, ↓reduceIte, Nat.reduceEqDiff, Nat.reduceBEq, Nat.reduceAdd, Nat.reduceLeDiff, Nat.reduceLT, reduceCtorEq, Nat.reduceMul, Nat.reduceSub, Int.reduceEq, Int.reduceLT, Int.reduceLE, Int.reduceToNat])) _) ?_
  simp (disch := omega) only [ite_ne, go_sem, ↓reduceIte, Nat.reduceEqDiff, Nat.reduceBEq, Nat.reduceAdd, Nat.reduceLeDiff, Nat.reduceLT, reduceCtorEq, Nat.reduceMul, Nat.reduceSub, Int.reduceEq, Int.reduceLT, Int.reduceLE, Int.reduceToNat]
  refine gCall.f (fun _ => sKept_nil _ _) ?_
  simp (disch := omega) only [ite_ne, go_sem, ↓reduceIte, Nat.reduceEqDiff, Nat.reduceBEq, Nat.reduceAdd, Nat.reduceLeDiff, Nat.reduceLT, reduceCtorEq, Nat.reduceMul, Nat.reduceSub, Int.reduceEq, Int.reduceLT, Int.reduceLE, Int.reduceToNat]
  refine gCall.f (fun _ => o1 _ _) ?_
  simp (disch := omega) only [ite_ne, go_sem, ↓reduceIte, Nat.reduceEqDiff, Nat.reduceBEq, Nat.reduceAdd, Nat.reduceLeDiff, Nat.reduceLT, reduceCtorEq, Nat.reduceMul, Nat.reduceSub, Int.reduceEq, Int.reduceLT, Int.reduceLE, Int.reduceToNat]
  have o2 := mOpen_ok false 0 .e0 (m + 2)
  rw [if_neg (by simp), e1] at o2
  refine gCall.f (fun _ => o2 _ (by (simp (disch := omega) only [ite_ne, go_sem, ↓reduceIte, Nat.reduceEqDiff, Nat.reduceBEq, Nat.reduceAdd, Nat.reduceLeDiff, Nat.reduceLT, reduceCtorEq, Nat.reduceMul, Nat.reduceSub, Int.reduceEq, Int.reduceLT, Int.reduceLE, Int.reduceToNat])) _) ?_
  simp (disch := omega) only [ite_ne, go_sem, ↓reduceIte, Nat.reduceEqDiff, Nat.reduceBEq, Nat.reduceAdd, Nat.reduceLeDiff, Nat.reduceLT, reduceCtorEq, Nat.reduceMul, Nat.reduceSub, Int.reduceEq, Int.reduceLT, Int.reduceLE, Int.reduceToNat]
  refine gCall.f (fun _ => mGot_nil f.i _ _) ?_
  simp (disch := omega) only [ite_ne, go_sem, ↓reduceIte, Nat.reduceEqDiff, Nat.reduceBEq, Nat.reduceAdd, Nat.reduceLeDiff, Nat.reduceLT, reduceCtorEq, Nat.reduceMul, Nat.reduceSub, Int.reduceEq, Int.reduceLT, Int.reduceLE, Int.reduceToNat]
  refine gCall.f (fun _ => exh47_ok _ _) ?_
  simp (disch := omega) only [ite_ne, go_sem, ↓reduceIte, Nat.reduceEqDiff, Nat.reduceBEq, Nat.reduceAdd, Nat.reduceLeDiff, Nat.reduceLT, reduceCtorEq, Nat.reduceMul, Nat.reduceSub, Int.reduceEq, Int.reduceLT, Int.reduceLE, Int.reduceToNat]
end Go.Proofs.Ytdodiembhgjecaa
