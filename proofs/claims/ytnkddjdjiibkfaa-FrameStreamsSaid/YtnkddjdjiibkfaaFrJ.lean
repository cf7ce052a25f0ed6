/-
  The statement about streams returns true. Conditions: none.
-/
import Derived.Test.YtnkddjdjiibkfaaFrI
import Derived.Test.YtnkddjdjiibkfaaFrQ
namespace Go.Proofs.Ytnkddjdjiibkfaa
open Go.Eng
set_option linter.unusedVariables false
set_option linter.unusedSimpArgs false
set_option maxRecDepth 20000
theorem lawStreams (l : List Frm) (n : Int) (hp : CH) (m : Nat) : MeetsF Try.prog 7 hp m [.ds (mapC frC l), .i .i64 n] (.b true) := by
  refine meetsF Try.func7 (by kernel_rfl) cc7 cr7 rfl fun hf => ?_; unfold ck7
  simp only [go_sem, ↓reduceIte, Nat.reduceEqDiff, Nat.reduceAdd, Nat.reduceLeDiff, Nat.reduceLT, reduceCtorEq, Nat.reduceMul, Nat.reduceSub, Int.reduceEq, Int.reduceLT, Int.reduceLE, Int.reduceToNat]
  refine cdK_of (fun c1 => ?_) (fun c1 => ?_)
  · simp only [go_sem, ↓reduceIte, Nat.reduceEqDiff, Nat.reduceAdd, Nat.reduceLeDiff, Nat.reduceLT, reduceCtorEq, Nat.reduceMul, Nat.reduceSub, Int.reduceEq, Int.reduceLT, Int.reduceLE, Int.reduceToNat]
    refine vcCall.f (ex_ok _ _) ?_
    simp only [go_sem, ↓reduceIte, Nat.reduceEqDiff, Nat.reduceAdd, Nat.reduceLeDiff, Nat.reduceLT, reduceCtorEq, Nat.reduceMul, Nat.reduceSub, Int.reduceEq, Int.reduceLT, Int.reduceLE, Int.reduceToNat]
  have hl : l.length ≤ 20 := by grind
  simp only [go_sem, ↓reduceIte, Nat.reduceEqDiff, Nat.reduceAdd, Nat.reduceLeDiff, Nat.reduceLT, reduceCtorEq, Nat.reduceMul, Nat.reduceSub, Int.reduceEq, Int.reduceLT, Int.reduceLE, Int.reduceToNat]
  refine loop (fun p : (Nat × Nat × Nat) × (List UInt8 × List Frm × Nat) × Nat => ⟨[(0, .ds (mapC frC l)), (1, .i .i64 n), (5, .rw m p.1.1 p.2.1.1.length), (6, .rw (m + 1) p.1.2.1 p.2.1.2.1.length), (7, .i .i64 p.2.1.2.2), (8, .i .i64 p.1.2.2)],
      (m, .rw p.1.1 1 (byC p.2.1.1)) :: (m + 1, .rw p.1.2.1 5 (mapC frC p.2.1.2.1)) :: hp, p.2.2⟩)
    (fun p => p.1.2.2 ≤ l.length ∧ p.2.1.1.length ≤ 600 * p.1.2.2 ∧ p.2.1.2.1.length ≤ p.1.2.2 ∧ m + 2 ≤ p.2.2 ∧ Inv n p.2.1.1 p.2.1.2.1 p.2.1.2.2) (fun p => l.length - p.1.2.2) ((0, 0, 0), ([], [], 0), m + 2) ?_ ?_ (fun ⟨⟨ga, gw, j⟩, ⟨a, w, k⟩, N⟩ hj => ?_)
  · exact ⟨by simp, by simp, by simp, by simp, inv_nil n⟩
  · refine (weak_e0 (t := 5) (m := 1) ?_).trans ((weak_e0 (t := 6) (m := 5) ?_).trans (weak_ok ?_ (Sub.cons ?_ (Sub.cons ?_ (Sub.base hf ?_))) (Nat.le_refl _)))
    all_goals simp only [go_sem, ↓reduceIte, Nat.reduceEqDiff, Nat.reduceAdd, Nat.reduceLeDiff, Nat.reduceLT, reduceCtorEq, Nat.reduceMul, Nat.reduceSub, Int.reduceEq, Int.reduceLT, Int.reduceLE, Int.reduceToNat]
  dsimp only at hj
  have hne : N ≠ m := by omega
  have hne' : m ≠ N := by omega
  have hne1 : N ≠ m + 1 := by omega
  have hne1' : m + 1 ≠ N := by omega
  have hmn : m ≤ N := by omega
  simp only [hne, hne', hne1, hne1', go_sem, ↓reduceIte, Nat.reduceEqDiff, Nat.reduceAdd, Nat.reduceLeDiff, Nat.reduceLT, reduceCtorEq, Nat.reduceMul, Nat.reduceSub, Int.reduceEq, Int.reduceLT, Int.reduceLE, Int.reduceToNat]
  refine cdK_of (fun h0 => ?_) (fun h0 => ?_)
  · have h0 : j < l.length := by simpa using h0
    obtain ⟨f, ef⟩ : ∃ f, l[j]? = some f := ⟨l[j], by simp [h0]⟩
    simp only [hne, hne', hne1, hne1', hmn, h0, getK_s (mapC_get frC ef), go_sem, ↓reduceIte, Nat.reduceEqDiff, Nat.reduceAdd, Nat.reduceLeDiff, Nat.reduceLT, reduceCtorEq, Nat.reduceMul, Nat.reduceSub, Int.reduceEq, Int.reduceLT, Int.reduceLE, Int.reduceToNat]
    refine cdK_of (fun c2 => ?_) (fun c2 => ?_)
    · simp only [go_sem, ↓reduceIte, Nat.reduceEqDiff, Nat.reduceAdd, Nat.reduceLeDiff, Nat.reduceLT, reduceCtorEq, Nat.reduceMul, Nat.reduceSub, Int.reduceEq, Int.reduceLT, Int.reduceLE, Int.reduceToNat]
      refine vcCall.f (ex_ok _ _) ?_
      simp only [go_sem, ↓reduceIte, Nat.reduceEqDiff, Nat.reduceAdd, Nat.reduceLeDiff, Nat.reduceLT, reduceCtorEq, Nat.reduceMul, Nat.reduceSub, Int.reduceEq, Int.reduceLT, Int.reduceLE, Int.reduceToNat]
    have hb : f.b.size ≤ 500 := by simp at c2; omega
    have hs := puts_len2 f
    simp only [hne, hne', hne1, hne1', hmn, h0, getK_s (mapC_get frC ef), go_sem, ↓reduceIte, Nat.reduceEqDiff, Nat.reduceAdd, Nat.reduceLeDiff, Nat.reduceLT, reduceCtorEq, Nat.reduceMul, Nat.reduceSub, Int.reduceEq, Int.reduceLT, Int.reduceLE, Int.reduceToNat]
    refine vcCall.f (put_ok f (by omega) _ _) ?_
    simp only [go_sem, ↓reduceIte, Nat.reduceEqDiff, Nat.reduceAdd, Nat.reduceLeDiff, Nat.reduceLT, reduceCtorEq, Nat.reduceMul, Nat.reduceSub, Int.reduceEq, Int.reduceLT, Int.reduceLE, Int.reduceToNat]
    refine cdK_of (fun c3 => ?_) (fun c3 => ?_)
    · simp only [hne, hne', hne1, hne1', hmn, go_sem, ↓reduceIte, Nat.reduceEqDiff, Nat.reduceAdd, Nat.reduceLeDiff, Nat.reduceLT, reduceCtorEq, Nat.reduceMul, Nat.reduceSub, Int.reduceEq, Int.reduceLT, Int.reduceLE, Int.reduceToNat]
      refine ⟨((ga, gw, j + 1), (a, w, k), N), ?_, ?_, weak_ok ?_ (Sub.refl _) (Nat.le_refl _)⟩
      · grind
      · dsimp only; omega
      · simp only [wr64s j (by omega), go_sem, ↓reduceIte, Nat.reduceEqDiff, Nat.reduceAdd, Nat.reduceLeDiff, Nat.reduceLT, reduceCtorEq, Nat.reduceMul, Nat.reduceSub, Int.reduceEq, Int.reduceLT, Int.reduceLE, Int.reduceToNat]
    have c3 : chk f = 0 := by simpa using c3
    have hp1 : putS f = putB f := by simp [putS, c3]
    have hp2 : 17 ≤ (putB f).length := by simp [putB, n4]
    rw [hp1] at hs ⊢
    have hw : decide (((putB f).length : Int) < 17) = false := by simp; omega
    have hw2 : decide ((600 : Int) < (putB f).length) = false := by simp; omega
    simp only [hne, hne', hne1, hne1', hmn, h0, hw, hw2, getK_s (mapC_get frC ef), go_sem, ↓reduceIte, Nat.reduceEqDiff, Nat.reduceAdd, Nat.reduceLeDiff, Nat.reduceLT, reduceCtorEq, Nat.reduceMul, Nat.reduceSub, Int.reduceEq, Int.reduceLT, Int.reduceLE, Int.reduceToNat]
    refine ⟨by omega, by omega, ?_⟩
    refine cdK_of (fun c4 => ?_) (fun c4 => ?_)
    · have c4 : ((a.length + (putB f).length : Nat) : Int) ≤ n := by simpa using c4
      simp only [hne, hne', hne1, hne1', hmn, h0, getK_s (mapC_get frC ef), go_sem, ↓reduceIte, Nat.reduceEqDiff, Nat.reduceAdd, Nat.reduceLeDiff, Nat.reduceLT, reduceCtorEq, Nat.reduceMul, Nat.reduceSub, Int.reduceEq, Int.reduceLT, Int.reduceLE, Int.reduceToNat]
      refine ⟨by omega, by omega, ((ga + 1, gw + 1, j + 1), (a ++ putB f, w ++ [f], a.length + (putB f).length), N), ?_, ?_, weak_ok ?_ (Sub.cons ?_ (Sub.cons ?_ (Sub.base hf ?_))) (Nat.le_refl _)⟩
      · have := inv_yes hj.2.2.2.2 c3 c4
        exact ⟨by dsimp only; omega, by dsimp only; simp; omega, by dsimp only; simp; omega, by dsimp only; omega, this⟩
      · dsimp only; omega
      all_goals try simp only [go_sem, ↓reduceIte, Nat.reduceEqDiff, Nat.reduceAdd, Nat.reduceLeDiff, Nat.reduceLT, reduceCtorEq, Nat.reduceMul, Nat.reduceSub, Int.reduceEq, Int.reduceLT, Int.reduceLE, Int.reduceToNat]
      all_goals simp [wr64s j (by omega), mapC, frC]
    · have c4 : n < ((a.length + (putB f).length : Nat) : Int) := by simp at c4; omega
      simp only [hne, hne', hne1, hne1', hmn, h0, go_sem, ↓reduceIte, Nat.reduceEqDiff, Nat.reduceAdd, Nat.reduceLeDiff, Nat.reduceLT, reduceCtorEq, Nat.reduceMul, Nat.reduceSub, Int.reduceEq, Int.reduceLT, Int.reduceLE, Int.reduceToNat]
      refine ⟨((ga + 1, gw, j + 1), (a ++ putB f, w, k), N), ?_, ?_, weak_ok ?_ (Sub.cons ?_ (Sub.cons ?_ (Sub.base hf ?_))) (Nat.le_refl _)⟩
      · have := inv_no hj.2.2.2.2 c3 c4
        exact ⟨by dsimp only; omega, by dsimp only; simp; omega, by dsimp only; omega, by dsimp only; omega, this⟩
      · dsimp only; omega
      all_goals try simp only [go_sem, ↓reduceIte, Nat.reduceEqDiff, Nat.reduceAdd, Nat.reduceLeDiff, Nat.reduceLT, reduceCtorEq, Nat.reduceMul, Nat.reduceSub, Int.reduceEq, Int.reduceLT, Int.reduceLE, Int.reduceToNat]
      all_goals simp [wr64s j (by omega), mapC, frC]
  · have h0 : j = l.length := by simp at h0; omega
    simp only [hne, hne', hne1, hne1', hmn, go_sem, ↓reduceIte, Nat.reduceEqDiff, Nat.reduceAdd, Nat.reduceLeDiff, Nat.reduceLT, reduceCtorEq, Nat.reduceMul, Nat.reduceSub, Int.reduceEq, Int.reduceLT, Int.reduceLE, Int.reduceToNat]
    refine cdK_of (fun c2 => ?_) (fun c2 => ?_)
    · simp only [go_sem, ↓reduceIte, Nat.reduceEqDiff, Nat.reduceAdd, Nat.reduceLeDiff, Nat.reduceLT, reduceCtorEq, Nat.reduceMul, Nat.reduceSub, Int.reduceEq, Int.reduceLT, Int.reduceLE, Int.reduceToNat]
      refine vcCall.f (ex_ok _ _) ?_
      simp only [go_sem, ↓reduceIte, Nat.reduceEqDiff, Nat.reduceAdd, Nat.reduceLeDiff, Nat.reduceLT, reduceCtorEq, Nat.reduceMul, Nat.reduceSub, Int.reduceEq, Int.reduceLT, Int.reduceLE, Int.reduceToNat]
    have c2 : 0 ≤ n ∧ n ≤ (a.length : Int) := by simp at c2; omega
    obtain ⟨e1, e2⟩ := inv_end hj.2.2.2.2 c2.1 c2.2
    simp only [hne, hne', hne1, hne1', hmn, c2.1, c2.2, go_sem, ↓reduceIte, Nat.reduceEqDiff, Nat.reduceAdd, Nat.reduceLeDiff, Nat.reduceLT, reduceCtorEq, Nat.reduceMul, Nat.reduceSub, Int.reduceEq, Int.reduceLT, Int.reduceLE, Int.reduceToNat]
    refine ⟨byC_ones a, ?_⟩
    have h8 : n.toNat ≤ a.length := by omega
    refine vcCall.p (args' := [.ds (byC (a.take n.toNat))]) (all_ok (a.take n.toNat) (by simp; omega) _ _) (by simp only [go_sem, ↓reduceIte, Nat.reduceEqDiff, Nat.reduceAdd, Nat.reduceLeDiff, Nat.reduceLT, reduceCtorEq, Nat.reduceMul, Nat.reduceSub, Int.reduceEq, Int.reduceLT, Int.reduceLE, Int.reduceToNat]; simp [h8]) ?_
    rw [e2]
    simp only [hne, hne', hne1, hne1', hmn, c2.1, c2.2, go_sem, ↓reduceIte, Nat.reduceEqDiff, Nat.reduceAdd, Nat.reduceLeDiff, Nat.reduceLT, reduceCtorEq, Nat.reduceMul, Nat.reduceSub, Int.reduceEq, Int.reduceLT, Int.reduceLE, Int.reduceToNat]
    refine vcCall.p (args' := [.ds (mapC frC w), .ds (mapC frC w)]) (frames_ok w w (by omega) _ _) (by simp only [go_sem, ↓reduceIte, Nat.reduceEqDiff, Nat.reduceAdd, Nat.reduceLeDiff, Nat.reduceLT, reduceCtorEq, Nat.reduceMul, Nat.reduceSub, Int.reduceEq, Int.reduceLT, Int.reduceLE, Int.reduceToNat]) ?_
    simp only [hne, hne', hne1, hne1', hmn, c2.1, c2.2, e1, go_sem, ↓reduceIte, Nat.reduceEqDiff, Nat.reduceAdd, Nat.reduceLeDiff, Nat.reduceLT, reduceCtorEq, Nat.reduceMul, Nat.reduceSub, Int.reduceEq, Int.reduceLT, Int.reduceLE, Int.reduceToNat]
    refine ⟨byC_ones a, ?_⟩
    refine gCall.f (fun _ => same_ok _ _ (by simp; omega) _ _) ?_
    simp only [hne, hne', hne1, hne1', hmn, c2.1, c2.2, e1, go_sem, ↓reduceIte, Nat.reduceEqDiff, Nat.reduceAdd, Nat.reduceLeDiff, Nat.reduceLT, reduceCtorEq, Nat.reduceMul, Nat.reduceSub, Int.reduceEq, Int.reduceLT, Int.reduceLE, Int.reduceToNat]
    refine gCall.f (fun _ => ex_ok _ _) ?_
    simp only [go_sem, ↓reduceIte, Nat.reduceEqDiff, Nat.reduceAdd, Nat.reduceLeDiff, Nat.reduceLT, reduceCtorEq, Nat.reduceMul, Nat.reduceSub, Int.reduceEq, Int.reduceLT, Int.reduceLE, Int.reduceToNat]
end Go.Proofs.Ytnkddjdjiibkfaa
