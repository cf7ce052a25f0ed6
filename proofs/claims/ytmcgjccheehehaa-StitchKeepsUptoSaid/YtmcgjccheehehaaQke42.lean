/-
  The parts SaP of the proof, in one file. Conditions: none.
-/
import Derived.Test.YtmcgjccheehehaaQke41
namespace Go.Proofs.Ytmcgjccheehehaa
open Go.Eng
set_option linter.unusedVariables false
set_option linter.unusedSimpArgs false
set_option maxRecDepth 20000
set_option maxHeartbeats 2000000
def failV (s : ByteArray) : Val := .mk 9 0 s [] []
theorem fail1_ok (p : Pk) (s : ByteArray) (c : Nat) (hp : CH) (m : Nat) (hc : gc hp c = .bx [.s s]) (hcm : c < m) : MeetsF Try.prog 73 hp m [px p, .bx c 0] (vx (failV s)) := by
  have z1 : ¬ m = c := by omega
  have z2 : ¬ m + 1 = c := by omega
  unfold failV
  refine meetsF Try.func73 (by kernel_rfl) cc73 cr73 rfl fun hf => ?_; unfold ck73
  simp only [z1, z2, hc, go_sem, ↓reduceIte, Nat.reduceEqDiff, Nat.reduceBEq, Nat.reduceAdd, Nat.reduceLeDiff, Nat.reduceLT, reduceCtorEq, Nat.reduceMul, Nat.reduceSub, Int.reduceEq, Int.reduceLT, Int.reduceLE, Int.reduceToNat]
theorem fail_ok (l : List Pk) (on s : ByteArray) (hl : l.length ≤ 100000000000) (hp : CH) (m : Nat) : MeetsF Try.prog 39 hp m [.ds (mapC pkC l), .s on, .s s] (vx (collV on (fun _ => failV s) l)) := by
  have h1 := fun hp m => collect_ok l on (fun _ => failV s) 73 [.bx m 0] hl hp
  obtain ⟨R, hR⟩ : ∃ R, collV on (fun _ => failV s) l = R := ⟨_, rfl⟩
  rw [hR] at h1 ⊢
  refine meetsF Try.func39 (by kernel_rfl) cc39 cr39 rfl fun hf => ?_; unfold ck39
  simp only [go_sem, ↓reduceIte, Nat.reduceEqDiff, Nat.reduceBEq, Nat.reduceAdd, Nat.reduceLeDiff, Nat.reduceLT, reduceCtorEq, Nat.reduceMul, Nat.reduceSub, Int.reduceEq, Int.reduceLT, Int.reduceLE, Int.reduceToNat]
  refine vcCall.f (h1 _ m _ fun p hpm hp' n' hh hn => fail1_ok p s m hp' n' ?_ (by omega)) ?_
  · rw [hh m (by omega)]
    simp only [go_sem, ↓reduceIte, Nat.reduceEqDiff, Nat.reduceBEq, Nat.reduceAdd, Nat.reduceLeDiff, Nat.reduceLT, reduceCtorEq, Nat.reduceMul, Nat.reduceSub, Int.reduceEq, Int.reduceLT, Int.reduceLE, Int.reduceToNat]
  simp only [go_sem, ↓reduceIte, Nat.reduceEqDiff, Nat.reduceBEq, Nat.reduceAdd, Nat.reduceLeDiff, Nat.reduceLT, reduceCtorEq, Nat.reduceMul, Nat.reduceSub, Int.reduceEq, Int.reduceLT, Int.reduceLE, Int.reduceToNat]
end Go.Proofs.Ytmcgjccheehehaa
