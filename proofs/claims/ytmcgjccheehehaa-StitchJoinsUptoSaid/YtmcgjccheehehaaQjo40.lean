/-
  The parts SaM of the proof, in one file. Conditions: none.
-/
import Derived.Test.YtmcgjccheehehaaQjo39
namespace Go.Proofs.Ytmcgjccheehehaa
open Go.Eng
set_option linter.unusedVariables false
set_option linter.unusedSimpArgs false
set_option maxRecDepth 20000
set_option maxHeartbeats 2000000
theorem getV_out {K : List ByteArray} {I : List Val} (h : K.length = I.length) (k : ByteArray) : (getV (.mk 6 0 ⟨#[]⟩ I K) k).isSome = inB k K := by
  have h1 := ixO_out h k
  rw [getV_ix (by rfl)]
  by_cases c : inB k K = true
  · have h2 := h1.2 c
    obtain ⟨x, hx⟩ := ixO_at h2
    rw [if_pos h2, hx, c]
    rfl
  · rw [if_neg (fun q => c (h1.1 q))]
    simp only [Bool.not_eq_true] at c
    rw [c]
    rfl
theorem rget_rows (I : List Val) (K : List ByteArray) (hIK : K.length = I.length) (hI : I.length * 80 ≤ 140737488355327) (hF : ∀ x ∈ I, x.Fit) (k : ByteArray) (a b : Nat) (hp : CH) (m : Nat)
    (ham : a < m) (hbm : b < m) (ga : gc hp a = .rw I.length 5 (mapC valC I)) (gb : gc hp b = .rw K.length 1 (stC K)) :
    MeetsF Try.prog 72 hp m [.ag [.i .i64 6, .i .i64 0, .s ⟨#[]⟩, .rw a I.length I.length, .rw b K.length K.length], .s k] (resV (getV (.mk 6 0 ⟨#[]⟩ I K) k)) := by
  obtain ⟨R, hR⟩ : ∃ R, getV (.mk 6 0 ⟨#[]⟩ I K) k = R := ⟨_, rfl⟩
  have eR : (if 0 ≤ ix k K 0 then I[(ix k K 0).toNat]? else none) = R := by
    rw [← hR, getV, if_pos (show (Val.mk 6 0 ⟨#[]⟩ I K).k = 6 from rfl)]
    rfl
  rw [hR]
  have z1 : ¬ m = a := by omega
  have z2 : ¬ m = b := by omega
  have z3 : ¬ m + 1 = a := by omega
  have z4 : ¬ m + 1 = b := by omega
  refine meetsF Try.func72 (by kernel_rfl) cc72 cr72 rfl fun hf => ?_; unfold ck72
  simp only [z1, z2, z3, z4, go_sem, ↓reduceIte, Nat.reduceEqDiff, Nat.reduceBEq, Nat.reduceAdd, Nat.reduceLeDiff, Nat.reduceLT, reduceCtorEq, Nat.reduceMul, Nat.reduceSub, Int.reduceEq, Int.reduceLT, Int.reduceLE, Int.reduceToNat]
  refine loop (fun p : Nat × Nat => ⟨[(1, .s k), (2, .bx m 0), (4, .bx (m + 1) 0), (6, .i .i64 p.1)], (m + 1, .bx [.i .i64 0, .i .i64 0, .s ⟨#[]⟩, .e0, .e0]) :: (m, .bx [.i .i64 6, .i .i64 0, .s ⟨#[]⟩, .rw a I.length I.length, .rw b K.length K.length]) :: hp, p.2⟩)
    (fun p => p.1 ≤ K.length ∧ m + 2 ≤ p.2 ∧ ix k K 0 = ix k (K.drop p.1) p.1) (fun p => K.length - p.1) (0, m + 2) ?_ ?_ (fun ⟨j, n⟩ hj => ?_)
  · grind
  · refine weak_ok ?_ (Sub.refl _) (Nat.le_refl _)
    simp only [go_sem, ↓reduceIte, Nat.reduceEqDiff, Nat.reduceBEq, Nat.reduceAdd, Nat.reduceLeDiff, Nat.reduceLT, reduceCtorEq, Nat.reduceMul, Nat.reduceSub, Int.reduceEq, Int.reduceLT, Int.reduceLE, Int.reduceToNat]
  dsimp only at hj
  simp only [z1, z2, z3, z4, ga, gb, go_sem, ↓reduceIte, Nat.reduceEqDiff, Nat.reduceBEq, Nat.reduceAdd, Nat.reduceLeDiff, Nat.reduceLT, reduceCtorEq, Nat.reduceMul, Nat.reduceSub, Int.reduceEq, Int.reduceLT, Int.reduceLE, Int.reduceToNat]
  refine cdK_of (fun d => ?_) (fun d => ?_)
  · have d : j < K.length := by simpa using d
    obtain ⟨y, ey⟩ : ∃ y, K[j]? = some y := ⟨K[j], by simp [d]⟩
    have e := drop_at ey
    rw [e, ix] at hj
    simp only [z1, z2, z3, z4, ga, gb, d, getK_s (mapC_get st1 ey), go_sem, ↓reduceIte, Nat.reduceEqDiff, Nat.reduceBEq, Nat.reduceAdd, Nat.reduceLeDiff, Nat.reduceLT, reduceCtorEq, Nat.reduceMul, Nat.reduceSub, Int.reduceEq, Int.reduceLT, Int.reduceLE, Int.reduceToNat]
    refine cdK_of (fun d1 => ?_) (fun d1 => ?_)
    · have d1 : k = y := by simp at d1; exact d1.symm
      rw [if_pos d1] at hj
      rw [hj.2.2, if_pos (by omega), Int.toNat_natCast] at eR
      have d2 : j < I.length := by omega
      obtain ⟨x, ex⟩ : ∃ x, I[j]? = some x := ⟨I[j], by simp [d2]⟩
      rw [ex] at eR
      subst eR
      have hx := hF x (List.mem_of_getElem? ex)
      have d3 : ¬ (I.length : Int) ≤ (j : Int) := by omega
      simp only [z1, z2, z3, z4, ga, gb, d3, d2, getK_s (mapC_get valC ex), go_sem, ↓reduceIte, Nat.reduceEqDiff, Nat.reduceBEq, Nat.reduceAdd, Nat.reduceLeDiff, Nat.reduceLT, reduceCtorEq, Nat.reduceMul, Nat.reduceSub, Int.reduceEq, Int.reduceLT, Int.reduceLE, Int.reduceToNat]
      refine vcCall.f (rcopy_ok x hx _ _) ?_
      simp only [z1, z2, z3, z4, ga, gb, go_sem, ↓reduceIte, Nat.reduceEqDiff, Nat.reduceBEq, Nat.reduceAdd, Nat.reduceLeDiff, Nat.reduceLT, reduceCtorEq, Nat.reduceMul, Nat.reduceSub, Int.reduceEq, Int.reduceLT, Int.reduceLE, Int.reduceToNat]
    · have d1 : ¬ k = y := by simp at d1; exact fun e => d1 e.symm
      rw [if_neg d1] at hj
      simp only [z1, z2, z3, z4, ga, gb, go_sem, ↓reduceIte, Nat.reduceEqDiff, Nat.reduceBEq, Nat.reduceAdd, Nat.reduceLeDiff, Nat.reduceLT, reduceCtorEq, Nat.reduceMul, Nat.reduceSub, Int.reduceEq, Int.reduceLT, Int.reduceLE, Int.reduceToNat]
      refine ⟨(j + 1, n), by dsimp only; omega, by dsimp only; omega, weak_ok ?_ (Sub.refl _) (Nat.le_refl _)⟩
      simp only [wr64s j (by omega), go_sem, ↓reduceIte, Nat.reduceEqDiff, Nat.reduceBEq, Nat.reduceAdd, Nat.reduceLeDiff, Nat.reduceLT, reduceCtorEq, Nat.reduceMul, Nat.reduceSub, Int.reduceEq, Int.reduceLT, Int.reduceLE, Int.reduceToNat]
  · have d : j = K.length := by simp at d; omega
    subst d
    rw [List.drop_length, ix] at hj
    rw [hj.2.2, if_neg (by omega)] at eR
    subst eR
    simp only [z1, z2, z3, z4, ga, gb, go_sem, ↓reduceIte, Nat.reduceEqDiff, Nat.reduceBEq, Nat.reduceAdd, Nat.reduceLeDiff, Nat.reduceLT, reduceCtorEq, Nat.reduceMul, Nat.reduceSub, Int.reduceEq, Int.reduceLT, Int.reduceLE, Int.reduceToNat]
end Go.Proofs.Ytmcgjccheehehaa
