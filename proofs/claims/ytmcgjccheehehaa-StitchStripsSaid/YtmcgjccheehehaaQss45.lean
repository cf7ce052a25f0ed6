/-
  The parts SaT of the proof, in one file. Conditions: none.
-/
import Derived.Test.YtmcgjccheehehaaQss44
namespace Go.Proofs.Ytmcgjccheehehaa
open Go.Eng
set_option linter.unusedVariables false
set_option linter.unusedSimpArgs false
set_option maxRecDepth 20000
set_option maxHeartbeats 1000000
noncomputable def mergeV (f : Fet) (v : Val) (r : List Val) : Val := (chg (mgSt f) f.p v r).1
theorem merge_ok (f : Fet) (v : Val) (r : List Val) (h : FetOk f v) (hpk : wtKs f.pk ≤ 100000000) (hr : ∀ x ∈ r, wtV x ≤ 100000000000) (hp : CH) (m : Nat) :
    MeetsF Try.prog 32 hp m [fx f, vx v, .ds (mapC valC r)] (vx (mergeV f v r)) := by
  have h1 := fun hp' m' hk => change_ok (mgA_ok f m (m + 2) (by omega) hpk h.k h.s) v h.fit h.w f.p r h.p hr hp' m' hk
  unfold mergeV
  rw [show (mgA f m (m + 2)).st = mgSt f from rfl] at h1
  obtain ⟨R, hR⟩ : ∃ R, chg (mgSt f) f.p v r = R := ⟨_, rfl⟩
  rw [hR] at h1 ⊢
  refine meetsF Try.func32 (by kernel_rfl) cc32 cr32 rfl fun hf => ?_; unfold ck32
  simp only [go_sem, ↓reduceIte, Nat.reduceEqDiff, Nat.reduceBEq, Nat.reduceAdd, Nat.reduceLeDiff, Nat.reduceLT, reduceCtorEq, Nat.reduceMul, Nat.reduceSub, Int.reduceEq, Int.reduceLT, Int.reduceLE, Int.reduceToNat]
  refine vcCall.x (h1 _ _ fun k hk => ?_) ?_
  · simp only [mgA, List.mem_cons, List.not_mem_nil, or_false] at hk ⊢
    rcases hk with rfl | rfl
    · refine ⟨by omega, ?_⟩
      simp only [gc_cons]
      simp
    · refine ⟨by omega, ?_⟩
      simp only [gc_cons]
      simp
  simp only [mgA, List.cons_append, List.nil_append]
  simp only [go_sem, ↓reduceIte, Nat.reduceEqDiff, Nat.reduceBEq, Nat.reduceAdd, Nat.reduceLeDiff, Nat.reduceLT, reduceCtorEq, Nat.reduceMul, Nat.reduceSub, Int.reduceEq, Int.reduceLT, Int.reduceLE, Int.reduceToNat]
end Go.Proofs.Ytmcgjccheehehaa
