/-
  The parts SaT SaV of the proof, in one file. Conditions: none.
-/
import Derived.Test.YtmcgjccheehehaaQsv43
namespace Go.Proofs.Ytmcgjccheehehaa
open Go.Eng
set_option linter.unusedVariables false
set_option linter.unusedSimpArgs false
set_option maxRecDepth 20000
set_option maxHeartbeats 1000000
noncomputable def mergeV (f : Fet) (v : Val) (r : List Val) : Val := (chg (mgSt f) f.p v r).1
theorem merge_ok (f : Fet) (v : Val) (r : List Val) (h : FetOk f v) (hpk : wtKs f.pk ≤ 100000000) (hr : ∀ x ∈ r, wtV x ≤ 100000000000) (hp : CH) (m : Nat) :
    MeetsF Try.prog 32 hp m [fx f, vx v, .ds (mapC valC r)] (vx (mergeV f v r)) := by
  have h1 := fun hp' m' hk => change_ok (mgA_ok f m (m + 2) (by omega) hpk h.k h.s) v h.fit h.w f.p r h.p hr hp' m' hk
  unfold mergeV
  rw [show (mgA f m (m + 2)).st = mgSt f from rfl] at h1
  obtain ⟨R, hR⟩ : ∃ R, chg (mgSt f) f.p v r = R := ⟨_, rfl⟩
  rw [hR] at h1 ⊢
  refine meetsF Try.func32 (by kernel_rfl) cc32 cr32 rfl fun hf => ?_; unfold ck32
  simp only [go_sem, ↓reduceIte, Nat.reduceEqDiff, Nat.reduceBEq, Nat.reduceAdd, Nat.reduceLeDiff, Nat.reduceLT, reduceCtorEq, Nat.reduceMul, Nat.reduceSub, Int.reduceEq, Int.reduceLT, Int.reduceLE, Int.reduceToNat]
  refine vcCall.x (h1 _ _ fun k hk => ?_) ?_
  · simp only [mgA, List.mem_cons, List.not_mem_nil, or_false] at hk ⊢
    rcases hk with rfl | rfl
    · refine ⟨by omega, ?_⟩
      simp only [gc_cons]
      simp
    · refine ⟨by omega, ?_⟩
      simp only [gc_cons]
      simp
  simp only [mgA, List.cons_append, List.nil_append]
  simp only [go_sem, ↓reduceIte, Nat.reduceEqDiff, Nat.reduceBEq, Nat.reduceAdd, Nat.reduceLeDiff, Nat.reduceLT, reduceCtorEq, Nat.reduceMul, Nat.reduceSub, Int.reduceEq, Int.reduceLT, Int.reduceLE, Int.reduceToNat]
end Go.Proofs.Ytmcgjccheehehaa
namespace Go.Proofs.Ytmcgjccheehehaa
open Go.Eng
set_option linter.unusedVariables false
set_option linter.unusedSimpArgs false
set_option maxRecDepth 20000
set_option maxHeartbeats 4000000
theorem ix_first (k : ByteArray) : ∀ (l : List ByteArray) (j i : Nat), l[i]? = some k → 0 ≤ ix k l j ∧ ix k l j ≤ (j + i : Nat)
  | [], j, i, h => by simp at h
  | x :: r, j, 0, h => by
    simp at h
    unfold ix
    rw [if_pos h.symm]
    omega
  | x :: r, j, i + 1, h => by
    have := ix_first k r (j + 1) i (by simpa using h)
    unfold ix
    split <;> omega
theorem ix_at (k : ByteArray) : ∀ (l : List ByteArray) (j : Nat), 0 ≤ ix k l j → l[(ix k l j - j).toNat]? = some k
  | [], j, h => by simp [ix] at h
  | x :: r, j, h => by
    unfold ix at h ⊢
    split
    · rename_i q
      rw [Int.sub_self, q]
      rfl
    · rename_i q
      rw [if_neg q] at h
      have h1 := ix_at k r (j + 1) h
      have h2 := ix_lt k r (j + 1)
      obtain ⟨z, hz⟩ : ∃ z : Nat, ix k r (j + 1) = (j + 1 + z : Nat) := ⟨(ix k r (j + 1) - (j + 1 : Nat)).toNat, by omega⟩
      rw [hz] at h1 ⊢
      rw [show (((j + 1 + z : Nat) : Int) - ((j + 1 : Nat) : Int)).toNat = z by omega] at h1
      rw [show (((j + 1 + z : Nat) : Int) - (j : Int)).toNat = z + 1 by omega, List.getElem?_cons_succ, h1]
end Go.Proofs.Ytmcgjccheehehaa
