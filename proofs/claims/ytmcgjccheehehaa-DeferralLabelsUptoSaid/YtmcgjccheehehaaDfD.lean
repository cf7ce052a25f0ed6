/-
  A patch is applied. Conditions: none.
-/
import Derived.Test.YtmcgjccheehehaaDfC
namespace Go.Proofs.Ytmcgjccheehehaa
open Go.Eng
set_option linter.unusedVariables false
set_option linter.unusedSimpArgs false
set_option maxRecDepth 20000
theorem stp_lt (v s : Val) : stp v s = -1 ∨ (0 ≤ stp v s ∧ stp v s < v.items.length) := by
  have := ix_lt s.s v.keys 0
  unfold stp
  split
  · split <;> omega
  · split <;> omega
theorem apply1_of (d s : Val) (p : List Val) (ih : ∀ v, wtV v + wtV d ≤ 1000000000000 → ∀ hp m, MeetsF Try.prog 48 hp m [vx v, .ds (mapC valC p), vx d] (resE (apV d p v))) (v : Val) (hw : wtV v + wtV d ≤ 1000000000000) (hp : CH) (m : Nat) :
    MeetsF Try.prog 48 hp m [vx v, .ds (mapC valC (s :: p)), vx d] (resE (apV d (s :: p) v)) := by
  have hv := wtV_fit v (by omega)
  have hd := wtV_fit d (by omega)
  have h1 := hv.i
  have hp0 : ((p.length + 1 : Nat) : Int) = 1 ↔ p.length = 0 := by omega
  obtain ⟨R, hR⟩ : ∃ R, apV d (s :: p) v = R := ⟨_, rfl⟩
  rw [hR]
  rw [apV] at hR
  refine meetsF Try.func48 (by kernel_rfl) cc48 cr48 rfl fun hf => ?_; unfold ck48
  simp only [go_sem, ↓reduceIte, Nat.reduceEqDiff, Nat.reduceBEq, Nat.reduceAdd, Nat.reduceLeDiff, Nat.reduceLT, reduceCtorEq, Nat.reduceMul, Nat.reduceSub, Int.reduceEq, Int.reduceLT, Int.reduceLE, Int.reduceToNat]
  have e0 : decide (((p.length + 1 : Nat) : Int) = 0) = false := by simp; omega
  rw [e0]
  simp only [e0, go_sem, ↓reduceIte, Nat.reduceEqDiff, Nat.reduceBEq, Nat.reduceAdd, Nat.reduceLeDiff, Nat.reduceLT, reduceCtorEq, Nat.reduceMul, Nat.reduceSub, Int.reduceEq, Int.reduceLT, Int.reduceLE, Int.reduceToNat]
  refine cdK_of (fun c => ?_) (fun c => ?_)
  · have c : p.length = 0 ∧ s.k = 2 ∧ v.k = 5 ∧ s.n = v.items.length := by
      simp only [Bool.and_eq_true, decide_eq_true_eq] at c
      exact ⟨by omega, c.1.1.2, c.1.2, c.2⟩
    have hw1 := wtL_len v.items
    have hw2 := wtV_eq v
    rw [if_pos c] at hR
    subst hR
    simp only [go_sem, ↓reduceIte, Nat.reduceEqDiff, Nat.reduceBEq, Nat.reduceAdd, Nat.reduceLeDiff, Nat.reduceLT, reduceCtorEq, Nat.reduceMul, Nat.reduceSub, Int.reduceEq, Int.reduceLT, Int.reduceLE, Int.reduceToNat]
    refine vcCall.x (copy_r v hv _ _) ?_
    simp only [go_sem, ↓reduceIte, Nat.reduceEqDiff, Nat.reduceBEq, Nat.reduceAdd, Nat.reduceLeDiff, Nat.reduceLT, reduceCtorEq, Nat.reduceMul, Nat.reduceSub, Int.reduceEq, Int.reduceLT, Int.reduceLE, Int.reduceToNat]
    first | refine dCallR.f (fun _ _ _ => copy_ok d hd _ _) ?_ | refine dCall.f (fun _ _ _ => copy_ok d hd _ _) ?_
    simp only [go_sem, ↓reduceIte, Nat.reduceEqDiff, Nat.reduceBEq, Nat.reduceAdd, Nat.reduceLeDiff, Nat.reduceLT, reduceCtorEq, Nat.reduceMul, Nat.reduceSub, Int.reduceEq, Int.reduceLT, Int.reduceLE, Int.reduceToNat]
    omega
  · have c : ¬ (p.length = 0 ∧ s.k = 2 ∧ v.k = 5 ∧ s.n = v.items.length) := fun h => by
      have : ((p.length + 1 : Nat) : Int) = 1 := by omega
      simp [this, h.2.1, h.2.2.1, h.2.2.2] at c
    have hs := stp_lt v s
    rw [if_neg c] at hR
    simp only [go_sem, ↓reduceIte, Nat.reduceEqDiff, Nat.reduceBEq, Nat.reduceAdd, Nat.reduceLeDiff, Nat.reduceLT, reduceCtorEq, Nat.reduceMul, Nat.reduceSub, Int.reduceEq, Int.reduceLT, Int.reduceLE, Int.reduceToNat]
    first | refine dCallR.f (fun _ _ _ => index1_ok v s hv _ _) ?_ | refine dCall.f (fun _ _ _ => index1_ok v s hv _ _) ?_
    simp only [go_sem, ↓reduceIte, Nat.reduceEqDiff, Nat.reduceBEq, Nat.reduceAdd, Nat.reduceLeDiff, Nat.reduceLT, reduceCtorEq, Nat.reduceMul, Nat.reduceSub, Int.reduceEq, Int.reduceLT, Int.reduceLE, Int.reduceToNat]
    refine cdK_of (fun c1 => ?_) (fun c1 => ?_)
    · have c1 : stp v s < 0 := of_decide_eq_true c1
      rw [if_pos c1] at hR
      subst hR
      simp only [go_sem, ↓reduceIte, Nat.reduceEqDiff, Nat.reduceBEq, Nat.reduceAdd, Nat.reduceLeDiff, Nat.reduceLT, reduceCtorEq, Nat.reduceMul, Nat.reduceSub, Int.reduceEq, Int.reduceLT, Int.reduceLE, Int.reduceToNat]
    have c1 : ¬ stp v s < 0 := of_decide_eq_false c1
    have c2 : (stp v s).toNat < v.items.length := by omega
    have c3 : 0 ≤ stp v s := by omega
    obtain ⟨x, ex⟩ : ∃ x, v.items[(stp v s).toNat]? = some x := ⟨_, List.getElem?_eq_getElem c2⟩
    have hx := hv.x (List.mem_of_getElem? ex)
    have hwx := wtL_mem (List.mem_of_getElem? ex)
    have hw2 := wtV_eq v
    simp only [if_neg c1, ex] at hR
    simp only [c2, c3, getK_s (mapC_get valC ex), go_sem, ↓reduceIte, Nat.reduceEqDiff, Nat.reduceBEq, Nat.reduceAdd, Nat.reduceLeDiff, Nat.reduceLT, reduceCtorEq, Nat.reduceMul, Nat.reduceSub, Int.reduceEq, Int.reduceLT, Int.reduceLE, Int.reduceToNat]
    refine ⟨⟨by omega, by omega⟩, ?_⟩
    first | refine dCallR.f (fun _ _ _ => ih x (by omega) _ _) ?_ | refine dCall.f (fun _ _ _ => ih x (by omega) _ _) ?_
    simp only [go_sem, ↓reduceIte, Nat.reduceEqDiff, Nat.reduceBEq, Nat.reduceAdd, Nat.reduceLeDiff, Nat.reduceLT, reduceCtorEq, Nat.reduceMul, Nat.reduceSub, Int.reduceEq, Int.reduceLT, Int.reduceLE, Int.reduceToNat]
    refine cdK_of (fun c4 => ?_) (fun c4 => ?_)
    · have c4 : ¬ (apV d p x).2 = 0 := by simpa using c4
      rw [if_neg c4] at hR
      subst hR
      simp only [go_sem, ↓reduceIte, Nat.reduceEqDiff, Nat.reduceBEq, Nat.reduceAdd, Nat.reduceLeDiff, Nat.reduceLT, reduceCtorEq, Nat.reduceMul, Nat.reduceSub, Int.reduceEq, Int.reduceLT, Int.reduceLE, Int.reduceToNat]
    · have c4 : (apV d p x).2 = 0 := by simpa using c4
      rw [if_pos c4] at hR
      subst hR
      simp only [go_sem, ↓reduceIte, Nat.reduceEqDiff, Nat.reduceBEq, Nat.reduceAdd, Nat.reduceLeDiff, Nat.reduceLT, reduceCtorEq, Nat.reduceMul, Nat.reduceSub, Int.reduceEq, Int.reduceLT, Int.reduceLE, Int.reduceToNat]
      refine vcCall.x (copy_r v hv _ _) ?_
      simp only [c2, c3, getK_s (mapC_get valC ex), go_sem, ↓reduceIte, Nat.reduceEqDiff, Nat.reduceBEq, Nat.reduceAdd, Nat.reduceLeDiff, Nat.reduceLT, reduceCtorEq, Nat.reduceMul, Nat.reduceSub, Int.reduceEq, Int.reduceLT, Int.reduceLE, Int.reduceToNat]
theorem apply1_ok (d : Val) : ∀ (p : List Val) (v : Val), wtV v + wtV d ≤ 1000000000000 → ∀ hp m, MeetsF Try.prog 48 hp m [vx v, .ds (mapC valC p), vx d] (resE (apV d p v))
  | s :: p, v, hw, hp, m => apply1_of d s p (apply1_ok d p) v hw hp m
  | [], v, hw, hp, m => by
    have hv := wtV_fit v (by omega)
    have hd := wtV_fit d (by omega)
    have w1 := wtV_eq v
    have w2 := wtV_eq d
    have w3 := wtL_len v.items
    have w4 := wtL_len d.items
    obtain ⟨R, hR⟩ : ∃ R, addV v d = R := ⟨_, rfl⟩
    rw [apV, hR]
    have h0 := add1_ok v d hv hd (by omega) (by omega)
    rw [hR] at h0
    refine meetsF Try.func48 (by kernel_rfl) cc48 cr48 rfl fun hf => ?_; unfold ck48
    simp only [go_sem, ↓reduceIte, Nat.reduceEqDiff, Nat.reduceBEq, Nat.reduceAdd, Nat.reduceLeDiff, Nat.reduceLT, reduceCtorEq, Nat.reduceMul, Nat.reduceSub, Int.reduceEq, Int.reduceLT, Int.reduceLE, Int.reduceToNat]
    refine vcCall.f (h0 _ _) ?_
    simp only [go_sem, ↓reduceIte, Nat.reduceEqDiff, Nat.reduceBEq, Nat.reduceAdd, Nat.reduceLeDiff, Nat.reduceLT, reduceCtorEq, Nat.reduceMul, Nat.reduceSub, Int.reduceEq, Int.reduceLT, Int.reduceLE, Int.reduceToNat]
end Go.Proofs.Ytmcgjccheehehaa
