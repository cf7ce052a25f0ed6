/-
  Keys of datasets by the reference; the laws. Conditions: none.
-/
import Derived.Test.YtjalbhlahfgogaaDaH
import Derived.Test.YtjalbhlahfgogaaVaT
namespace Go.Proofs.Ytjalbhlahfgogaa
open Go.Eng
set_option linter.unusedVariables false
set_option linter.unusedSimpArgs false
set_option maxRecDepth 20000
theorem any_false_step {α : Type} {f : α → Bool} {l : List α} {j : Nat} {x : α} (h : l[j]? = some x) : (l.drop j).any f = (f x || (l.drop (j + 1)).any f) := by rw [drop_at h, List.any_cons]
theorem dup_at {d : Dat} {k : Ky} {j i : Nat} {l : List Val} (h : j < i) : ((List.range' j (i - j)).any fun q => decide (typD d q = k.t) && alk l (valsD d q k.l)) = (decide (typD d j = k.t) && alk l (valsD d j k.l) || (List.range' (j + 1) (i - (j + 1))).any fun q => decide (typD d q = k.t) && alk l (valsD d q k.l)) := by
  rw [show i - j = (i - (j + 1)) + 1 by omega, List.range'_succ, List.any_cons]
theorem rSound_ok (d : Dat) (hd : d.Fit) (K : List Ky) (hK : K.length ≤ 1000000000) (hkl : ∀ k ∈ K, k.l.length ≤ 1000000000) (hp : CH) (m : Nat) : MeetsF Try.prog 27 hp m [sx' K, dx d] (.b (sndD d K)) := by
  have hli := hd.li
  have hlw := hd.lw
  obtain ⟨R, hR⟩ : ∃ R, sndD d K = R := ⟨_, rfl⟩
  have e := hR
  rw [sndD] at e
  rw [hR]
  refine meetsF Try.func27 (by kernel_rfl) cc27 cr27 rfl fun hf => ?_; unfold ck27
  simp only [go_sem, ↓reduceIte, Nat.reduceEqDiff, Nat.reduceBEq, Nat.reduceAdd, Nat.reduceLeDiff, Nat.reduceLT, reduceCtorEq, Nat.reduceMul, Nat.reduceSub, Int.reduceEq, Int.reduceLT, Int.reduceLE, Int.reduceToNat]
  refine loop (fun p : Nat × Nat => ⟨[(2, .bx m 0), (3, .bx (m + 1) 0), (5, .i .i64 p.1)], (m + 1, .bx [.ds (mapC itC d.i), .ds (mapC wrC d.w)]) :: (m, .bx [.e0, .e0, .ds (mapC kyC K), .e0]) :: hp, p.2⟩)
    (fun p => p.1 ≤ d.w.length ∧ m + 2 ≤ p.2 ∧ d.w.any (mvW d K) = (d.w.drop p.1).any (mvW d K)) (fun p => d.w.length - p.1) (0, m + 2) ?_ ?_ (fun ⟨j, n⟩ hj => ?_)
  · exact ⟨by simp, by simp, rfl⟩
  · refine weak_ok ?_ (Sub.refl _) (Nat.le_refl _)
    simp only [go_sem, ↓reduceIte, Nat.reduceEqDiff, Nat.reduceBEq, Nat.reduceAdd, Nat.reduceLeDiff, Nat.reduceLT, reduceCtorEq, Nat.reduceMul, Nat.reduceSub, Int.reduceEq, Int.reduceLT, Int.reduceLE, Int.reduceToNat]
  dsimp only at hj
  obtain ⟨hj1, hj2, hj3⟩ := hj
  have z0 : ¬ m = n := by omega
  have z1 : ¬ m + 1 = n := by omega
  have z2 : ¬ n = m := by omega
  have z3 : ¬ n = m + 1 := by omega
  have z4 : m ≤ n := by omega
  simp only [z0, z1, z2, z3, z4, go_sem, ↓reduceIte, Nat.reduceEqDiff, Nat.reduceBEq, Nat.reduceAdd, Nat.reduceLeDiff, Nat.reduceLT, reduceCtorEq, Nat.reduceMul, Nat.reduceSub, Int.reduceEq, Int.reduceLT, Int.reduceLE, Int.reduceToNat]
  refine cdK_of (fun q => ?_) (fun q => ?_)
  · have q : j < d.w.length := by simpa using q
    obtain ⟨w, ew⟩ : ∃ w, d.w[j]? = some w := ⟨d.w[j], by simp [q]⟩
    rw [drop_at ew, List.any_cons] at hj3
    simp only [z0, z1, z2, z3, z4, q, getK_s (mapC_get wrC ew), go_sem, ↓reduceIte, Nat.reduceEqDiff, Nat.reduceBEq, Nat.reduceAdd, Nat.reduceLeDiff, Nat.reduceLT, reduceCtorEq, Nat.reduceMul, Nat.reduceSub, Int.reduceEq, Int.reduceLT, Int.reduceLE, Int.reduceToNat]
    refine dCallR.f (fun _ _ _ => rMoves_ok d hd K (by omega) (fun k hk => by have := hkl k hk; omega) w _ _) ?_
    simp only [z0, z1, z2, z3, z4, go_sem, ↓reduceIte, Nat.reduceEqDiff, Nat.reduceBEq, Nat.reduceAdd, Nat.reduceLeDiff, Nat.reduceLT, reduceCtorEq, Nat.reduceMul, Nat.reduceSub, Int.reduceEq, Int.reduceLT, Int.reduceLE, Int.reduceToNat]
    refine cdK_of (fun c => ?_) (fun c => ?_)
    · rw [c, Bool.true_or] at hj3
      rw [hj3] at e
      subst e
      simp only [z0, z1, z2, z3, z4, go_sem, ↓reduceIte, Nat.reduceEqDiff, Nat.reduceBEq, Nat.reduceAdd, Nat.reduceLeDiff, Nat.reduceLT, reduceCtorEq, Nat.reduceMul, Nat.reduceSub, Int.reduceEq, Int.reduceLT, Int.reduceLE, Int.reduceToNat]
    · rw [c, Bool.false_or] at hj3
      simp only [z0, z1, z2, z3, z4, go_sem, ↓reduceIte, Nat.reduceEqDiff, Nat.reduceBEq, Nat.reduceAdd, Nat.reduceLeDiff, Nat.reduceLT, reduceCtorEq, Nat.reduceMul, Nat.reduceSub, Int.reduceEq, Int.reduceLT, Int.reduceLE, Int.reduceToNat]
      refine ⟨(j + 1, _), ⟨by dsimp only; omega, by dsimp only; omega, hj3⟩, by dsimp only; omega, weak_ok ?_ (Sub.refl _) (Nat.le_refl _)⟩
      simp only [z0, z1, z2, z3, z4, wr64s j (by omega), go_sem, ↓reduceIte, Nat.reduceEqDiff, Nat.reduceBEq, Nat.reduceAdd, Nat.reduceLeDiff, Nat.reduceLT, reduceCtorEq, Nat.reduceMul, Nat.reduceSub, Int.reduceEq, Int.reduceLT, Int.reduceLE, Int.reduceToNat]
  have q : j = d.w.length := by simp at q; omega
  subst q
  rw [List.drop_length, List.any_nil] at hj3
  rw [hj3, Bool.not_false, Bool.true_and] at e
  simp only [z0, z1, z2, z3, z4, go_sem, ↓reduceIte, Nat.reduceEqDiff, Nat.reduceBEq, Nat.reduceAdd, Nat.reduceLeDiff, Nat.reduceLT, reduceCtorEq, Nat.reduceMul, Nat.reduceSub, Int.reduceEq, Int.reduceLT, Int.reduceLE, Int.reduceToNat]
  refine loop (fun p : Nat × Nat => ⟨[(2, .bx m 0), (3, .bx (m + 1) 0), (6, .i .i64 p.1)], (m + 1, .bx [.ds (mapC itC d.i), .ds (mapC wrC d.w)]) :: (m, .bx [.e0, .e0, .ds (mapC kyC K), .e0]) :: hp, p.2⟩)
    (fun p => p.1 ≤ K.length ∧ m + 2 ≤ p.2 ∧ R = (K.drop p.1).all fun k => sndF d k 0) (fun p => K.length - p.1) (0, n) ?_ ?_ (fun ⟨j, n⟩ hj => ?_)
  · exact ⟨by simp, hj2, e.symm⟩
  · refine weak_ok ?_ (Sub.refl _) (Nat.le_refl _)
    simp only [z0, z1, z2, z3, z4, go_sem, ↓reduceIte, Nat.reduceEqDiff, Nat.reduceBEq, Nat.reduceAdd, Nat.reduceLeDiff, Nat.reduceLT, reduceCtorEq, Nat.reduceMul, Nat.reduceSub, Int.reduceEq, Int.reduceLT, Int.reduceLE, Int.reduceToNat]
  dsimp only at hj
  obtain ⟨hj4, hj2, hj3⟩ := hj
  have z0 : ¬ m = n := by omega
  have z1 : ¬ m + 1 = n := by omega
  have z2 : ¬ n = m := by omega
  have z3 : ¬ n = m + 1 := by omega
  have z4 : m ≤ n := by omega
  simp only [z0, z1, z2, z3, z4, go_sem, ↓reduceIte, Nat.reduceEqDiff, Nat.reduceBEq, Nat.reduceAdd, Nat.reduceLeDiff, Nat.reduceLT, reduceCtorEq, Nat.reduceMul, Nat.reduceSub, Int.reduceEq, Int.reduceLT, Int.reduceLE, Int.reduceToNat]
  refine cdK_of (fun q => ?_) (fun q => ?_)
  · have q : j < K.length := by simpa using q
    obtain ⟨k, ek⟩ : ∃ k, K[j]? = some k := ⟨K[j], by simp [q]⟩
    have hk := hkl k (List.mem_of_getElem? ek)
    rw [drop_at ek, List.all_cons] at hj3
    simp only [z0, z1, z2, z3, z4, q, getK_s (mapC_get kyC ek), go_sem, ↓reduceIte, Nat.reduceEqDiff, Nat.reduceBEq, Nat.reduceAdd, Nat.reduceLeDiff, Nat.reduceLT, reduceCtorEq, Nat.reduceMul, Nat.reduceSub, Int.reduceEq, Int.reduceLT, Int.reduceLE, Int.reduceToNat]
    refine loop (fun p : Nat × Nat => ⟨[(2, .bx m 0), (3, .bx (m + 1) 0), (6, .i .i64 j), (7, .bx n 0), (8, .i .i64 p.1)], (n, .bx [.s k.t, .i .i64 k.g, .ds (stC k.l)]) :: (m + 1, .bx [.ds (mapC itC d.i), .ds (mapC wrC d.w)]) :: (m, .bx [.e0, .e0, .ds (mapC kyC K), .e0]) :: hp, p.2⟩)
      (fun p => p.1 ≤ d.i.length ∧ n + 1 ≤ p.2 ∧ sndF d k 0 = sndF d k p.1) (fun p => d.i.length - p.1) (0, n + 1) ?_ ?_ (fun ⟨i, n2⟩ hi => ?_)
    · exact ⟨by simp, by simp, rfl⟩
    · refine weak_ok ?_ (Sub.cons ?_ (Sub.cons ?_ (Sub.cons ?_ (Sub.base hf ?_)))) (Nat.le_refl _)
      all_goals
        simp only [z0, z1, z2, z3, z4, go_sem, ↓reduceIte, Nat.reduceEqDiff, Nat.reduceBEq, Nat.reduceAdd, Nat.reduceLeDiff, Nat.reduceLT, reduceCtorEq, Nat.reduceMul, Nat.reduceSub, Int.reduceEq, Int.reduceLT, Int.reduceLE, Int.reduceToNat]
    dsimp only at hi
    obtain ⟨hi1, hi2, hi4⟩ := hi
    have z0 : ¬ m = n := by omega
    have z1 : ¬ m + 1 = n := by omega
    have z2 : ¬ m = n2 := by omega
    have z3 : ¬ m + 1 = n2 := by omega
    have z4 : ¬ n = m := by omega
    have z5 : ¬ n = m + 1 := by omega
    have z6 : ¬ n = n2 := by omega
    have z7 : ¬ n2 = m := by omega
    have z8 : ¬ n2 = m + 1 := by omega
    have z9 : ¬ n2 = n := by omega
    have z10 : m ≤ n := by omega
    have z11 : m ≤ n2 := by omega
    simp only [z0, z1, z2, z3, z4, z5, z6, z7, z8, z9, z10, z11, go_sem, ↓reduceIte, Nat.reduceEqDiff, Nat.reduceBEq, Nat.reduceAdd, Nat.reduceLeDiff, Nat.reduceLT, reduceCtorEq, Nat.reduceMul, Nat.reduceSub, Int.reduceEq, Int.reduceLT, Int.reduceLE, Int.reduceToNat]
    refine cdK_of (fun q2 => ?_) (fun q2 => ?_)
    · have q2 : i < d.i.length := by simpa using q2
      obtain ⟨x, ex⟩ : ∃ x, d.i[i]? = some x := ⟨d.i[i], by simp [q2]⟩
      have et := typD_at ex
      rw [sndF_at q2, okK, et] at hi4
      simp only [z0, z1, z2, z3, z4, z5, z6, z7, z8, z9, z10, z11, q2, getK_s (mapC_get itC ex), go_sem, ↓reduceIte, Nat.reduceEqDiff, Nat.reduceBEq, Nat.reduceAdd, Nat.reduceLeDiff, Nat.reduceLT, reduceCtorEq, Nat.reduceMul, Nat.reduceSub, Int.reduceEq, Int.reduceLT, Int.reduceLE, Int.reduceToNat]
      refine cdK_of (fun c1 => ?_) (fun c1 => ?_)
      · have c1 : ¬ x.t = k.t := by simpa using c1
        rw [decide_eq_false c1, Bool.not_false, Bool.true_or, Bool.true_and] at hi4
        simp only [z0, z1, z2, z3, z4, z5, z6, z7, z8, z9, z10, z11, go_sem, ↓reduceIte, Nat.reduceEqDiff, Nat.reduceBEq, Nat.reduceAdd, Nat.reduceLeDiff, Nat.reduceLT, reduceCtorEq, Nat.reduceMul, Nat.reduceSub, Int.reduceEq, Int.reduceLT, Int.reduceLE, Int.reduceToNat]
        refine ⟨(i + 1, _), ⟨by dsimp only; omega, by dsimp only; omega, hi4⟩, by dsimp only; omega, weak_ok ?_ (Sub.refl _) (Nat.le_refl _)⟩
        simp only [z0, z1, z2, z3, z4, z5, z6, z7, z8, z9, z10, z11, wr64s i (by omega), go_sem, ↓reduceIte, Nat.reduceEqDiff, Nat.reduceBEq, Nat.reduceAdd, Nat.reduceLeDiff, Nat.reduceLT, reduceCtorEq, Nat.reduceMul, Nat.reduceSub, Int.reduceEq, Int.reduceLT, Int.reduceLE, Int.reduceToNat]
      have c1 : x.t = k.t := by simpa using c1
      rw [decide_eq_true c1, Bool.not_true, Bool.false_or] at hi4
      simp only [z0, z1, z2, z3, z4, z5, z6, z7, z8, z9, z10, z11, go_sem, ↓reduceIte, Nat.reduceEqDiff, Nat.reduceBEq, Nat.reduceAdd, Nat.reduceLeDiff, Nat.reduceLT, reduceCtorEq, Nat.reduceMul, Nat.reduceSub, Int.reduceEq, Int.reduceLT, Int.reduceLE, Int.reduceToNat]
      refine vcCall.f (rValues_ok d hd i k.l hk _ _) ?_
      simp only [z0, z1, z2, z3, z4, z5, z6, z7, z8, z9, z10, z11, go_sem, ↓reduceIte, Nat.reduceEqDiff, Nat.reduceBEq, Nat.reduceAdd, Nat.reduceLeDiff, Nat.reduceLT, reduceCtorEq, Nat.reduceMul, Nat.reduceSub, Int.reduceEq, Int.reduceLT, Int.reduceLE, Int.reduceToNat]
      have hLf := valsD_fit hd i k.l
      have hLl := valsD_len d i k.l
      obtain ⟨L, hL⟩ : ∃ L, valsD d i k.l = L := ⟨_, rfl⟩
      rw [hL] at hLf hLl hi4 ⊢
      refine loop (fun p : Nat × Nat => ⟨[(2, .bx m 0), (3, .bx (m + 1) 0), (6, .i .i64 j), (7, .bx n 0), (8, .i .i64 i), (9, .ds (mapC valC L)), (10, .i .i64 p.1)], (n, .bx [.s k.t, .i .i64 k.g, .ds (stC k.l)]) :: (m + 1, .bx [.ds (mapC itC d.i), .ds (mapC wrC d.w)]) :: (m, .bx [.e0, .e0, .ds (mapC kyC K), .e0]) :: hp, p.2⟩)
        (fun p => p.1 ≤ L.length ∧ n + 1 ≤ p.2 ∧ (L.any fun v => !leafV v) = ((L.drop p.1).any fun v => !leafV v)) (fun p => L.length - p.1) (0, n2 + 9) ?_ ?_ (fun ⟨g, n3⟩ hg => ?_)
      · exact ⟨by simp, by dsimp only; omega, rfl⟩
      · refine weak_ok ?_ (Sub.refl _) (Nat.le_refl _)
        simp only [z0, z1, z2, z3, z4, z5, z6, z7, z8, z9, z10, z11, go_sem, ↓reduceIte, Nat.reduceEqDiff, Nat.reduceBEq, Nat.reduceAdd, Nat.reduceLeDiff, Nat.reduceLT, reduceCtorEq, Nat.reduceMul, Nat.reduceSub, Int.reduceEq, Int.reduceLT, Int.reduceLE, Int.reduceToNat]
      dsimp only at hg
      obtain ⟨hg1, hg2, hg3⟩ := hg
      have z0 : ¬ m = n := by omega
      have z1 : ¬ m + 1 = n := by omega
      have z2 : ¬ m = n3 := by omega
      have z3 : ¬ m + 1 = n3 := by omega
      have z4 : ¬ n = m := by omega
      have z5 : ¬ n = m + 1 := by omega
      have z6 : ¬ n = n3 := by omega
      have z7 : ¬ n3 = m := by omega
      have z8 : ¬ n3 = m + 1 := by omega
      have z9 : ¬ n3 = n := by omega
      have z10 : m ≤ n := by omega
      have z11 : m ≤ n3 := by omega
      simp only [z0, z1, z2, z3, z4, z5, z6, z7, z8, z9, z10, z11, go_sem, ↓reduceIte, Nat.reduceEqDiff, Nat.reduceBEq, Nat.reduceAdd, Nat.reduceLeDiff, Nat.reduceLT, reduceCtorEq, Nat.reduceMul, Nat.reduceSub, Int.reduceEq, Int.reduceLT, Int.reduceLE, Int.reduceToNat]
      refine cdK_of (fun q3 => ?_) (fun q3 => ?_)
      · have q3 : g < L.length := by simpa using q3
        obtain ⟨y, ey⟩ : ∃ y, L[g]? = some y := ⟨L[g], by simp [q3]⟩
        rw [drop_at ey, List.any_cons] at hg3
        simp only [z0, z1, z2, z3, z4, z5, z6, z7, z8, z9, z10, z11, q3, getK_s (mapC_get valC ey), go_sem, ↓reduceIte, Nat.reduceEqDiff, Nat.reduceBEq, Nat.reduceAdd, Nat.reduceLeDiff, Nat.reduceLT, reduceCtorEq, Nat.reduceMul, Nat.reduceSub, Int.reduceEq, Int.reduceLT, Int.reduceLE, Int.reduceToNat]
        refine vcCall.f (rleaf_ok y (hLf y (List.mem_of_getElem? ey)) _ _) ?_
        simp only [z0, z1, z2, z3, z4, z5, z6, z7, z8, z9, z10, z11, go_sem, ↓reduceIte, Nat.reduceEqDiff, Nat.reduceBEq, Nat.reduceAdd, Nat.reduceLeDiff, Nat.reduceLT, reduceCtorEq, Nat.reduceMul, Nat.reduceSub, Int.reduceEq, Int.reduceLT, Int.reduceLE, Int.reduceToNat]
        refine cdK_of (fun c2 => ?_) (fun c2 => ?_)
        · rw [c2, Bool.true_or] at hg3
          rw [hg3, Bool.not_true, Bool.false_and, Bool.false_and] at hi4
          rw [hi4, Bool.false_and] at hj3
          subst hj3
          simp only [z0, z1, z2, z3, z4, z5, z6, z7, z8, z9, z10, z11, go_sem, ↓reduceIte, Nat.reduceEqDiff, Nat.reduceBEq, Nat.reduceAdd, Nat.reduceLeDiff, Nat.reduceLT, reduceCtorEq, Nat.reduceMul, Nat.reduceSub, Int.reduceEq, Int.reduceLT, Int.reduceLE, Int.reduceToNat]
        · rw [c2, Bool.false_or] at hg3
          simp only [z0, z1, z2, z3, z4, z5, z6, z7, z8, z9, z10, z11, go_sem, ↓reduceIte, Nat.reduceEqDiff, Nat.reduceBEq, Nat.reduceAdd, Nat.reduceLeDiff, Nat.reduceLT, reduceCtorEq, Nat.reduceMul, Nat.reduceSub, Int.reduceEq, Int.reduceLT, Int.reduceLE, Int.reduceToNat]
          refine ⟨(g + 1, _), ⟨by dsimp only; omega, by dsimp only; omega, hg3⟩, by dsimp only; omega, weak_ok ?_ (Sub.refl _) (Nat.le_refl _)⟩
          simp only [z0, z1, z2, z3, z4, z5, z6, z7, z8, z9, z10, z11, wr64s g (by omega), go_sem, ↓reduceIte, Nat.reduceEqDiff, Nat.reduceBEq, Nat.reduceAdd, Nat.reduceLeDiff, Nat.reduceLT, reduceCtorEq, Nat.reduceMul, Nat.reduceSub, Int.reduceEq, Int.reduceLT, Int.reduceLE, Int.reduceToNat]
      have q3 : g = L.length := by simp at q3; omega
      subst q3
      rw [List.drop_length, List.any_nil] at hg3
      rw [hg3, Bool.not_false, Bool.true_and, dupD, List.range_eq_range'] at hi4
      simp only [z0, z1, z2, z3, z4, z5, z6, z7, z8, z9, z10, z11, go_sem, ↓reduceIte, Nat.reduceEqDiff, Nat.reduceBEq, Nat.reduceAdd, Nat.reduceLeDiff, Nat.reduceLT, reduceCtorEq, Nat.reduceMul, Nat.reduceSub, Int.reduceEq, Int.reduceLT, Int.reduceLE, Int.reduceToNat]
      refine loop (fun p : Nat × Nat => ⟨[(2, .bx m 0), (3, .bx (m + 1) 0), (6, .i .i64 j), (7, .bx n 0), (8, .i .i64 i), (9, .ds (mapC valC L)), (11, .i .i64 p.1)], (n, .bx [.s k.t, .i .i64 k.g, .ds (stC k.l)]) :: (m + 1, .bx [.ds (mapC itC d.i), .ds (mapC wrC d.w)]) :: (m, .bx [.e0, .e0, .ds (mapC kyC K), .e0]) :: hp, p.2⟩)
        (fun p => p.1 ≤ i ∧ n + 1 ≤ p.2 ∧ ((List.range' 0 i).any fun q => decide (typD d q = k.t) && alk L (valsD d q k.l)) = ((List.range' p.1 (i - p.1)).any fun q => decide (typD d q = k.t) && alk L (valsD d q k.l))) (fun p => i - p.1) (0, n3) ?_ ?_ (fun ⟨g, n3⟩ hg => ?_)
      · exact ⟨by simp, hg2, rfl⟩
      · refine weak_ok ?_ (Sub.refl _) (Nat.le_refl _)
        simp only [z0, z1, z2, z3, z4, z5, z6, z7, z8, z9, z10, z11, go_sem, ↓reduceIte, Nat.reduceEqDiff, Nat.reduceBEq, Nat.reduceAdd, Nat.reduceLeDiff, Nat.reduceLT, reduceCtorEq, Nat.reduceMul, Nat.reduceSub, Int.reduceEq, Int.reduceLT, Int.reduceLE, Int.reduceToNat]
      dsimp only at hg
      obtain ⟨hg1, hg2, hg3⟩ := hg
      have z0 : ¬ m = n := by omega
      have z1 : ¬ m + 1 = n := by omega
      have z2 : ¬ m = n3 := by omega
      have z3 : ¬ m + 1 = n3 := by omega
      have z4 : ¬ n = m := by omega
      have z5 : ¬ n = m + 1 := by omega
      have z6 : ¬ n = n3 := by omega
      have z7 : ¬ n3 = m := by omega
      have z8 : ¬ n3 = m + 1 := by omega
      have z9 : ¬ n3 = n := by omega
      have z10 : m ≤ n := by omega
      have z11 : m ≤ n3 := by omega
      simp only [z0, z1, z2, z3, z4, z5, z6, z7, z8, z9, z10, z11, go_sem, ↓reduceIte, Nat.reduceEqDiff, Nat.reduceBEq, Nat.reduceAdd, Nat.reduceLeDiff, Nat.reduceLT, reduceCtorEq, Nat.reduceMul, Nat.reduceSub, Int.reduceEq, Int.reduceLT, Int.reduceLE, Int.reduceToNat]
      refine cdK_of (fun q3 => ?_) (fun q3 => ?_)
      · have q3 : g < i := by simpa using q3
        rw [dup_at q3] at hg3
        have q4 : g < d.i.length := by omega
        obtain ⟨y, ey⟩ : ∃ y, d.i[g]? = some y := ⟨d.i[g], by simp [q4]⟩
        have ety := typD_at ey
        rw [ety] at hg3
        by_cases c2 : y.t = k.t
        · rw [decide_eq_true c2, Bool.true_and] at hg3
          simp only [z0, z1, z2, z3, z4, z5, z6, z7, z8, z9, z10, z11, q4, getK_s (mapC_get itC ey), mapC_get itC ey, c2, go_sem, ↓reduceIte, Nat.reduceEqDiff, Nat.reduceBEq, Nat.reduceAdd, Nat.reduceLeDiff, Nat.reduceLT, reduceCtorEq, Nat.reduceMul, Nat.reduceSub, Int.reduceEq, Int.reduceLT, Int.reduceLE, Int.reduceToNat]
          first | refine dCallR.f (fun _ _ _ => rValues_ok d hd g k.l hk _ _) ?_ | refine dCall.f (fun _ _ _ => rValues_ok d hd g k.l hk _ _) ?_
          simp only [go_sem, ↓reduceIte, Nat.reduceEqDiff, Nat.reduceBEq, Nat.reduceAdd, Nat.reduceLeDiff, Nat.reduceLT, reduceCtorEq, Nat.reduceMul, Nat.reduceSub, Int.reduceEq, Int.reduceLT, Int.reduceLE, Int.reduceToNat]
          first | refine dCallR.f (fun _ _ _ => ralike_ok L (valsD d g k.l) (by rw [valsD_len, hLl]; omega) (by rw [valsD_len]; omega) hLf (valsD_fit hd _ _) _ _) ?_ | refine dCall.f (fun _ _ _ => ralike_ok L (valsD d g k.l) (by rw [valsD_len, hLl]; omega) (by rw [valsD_len]; omega) hLf (valsD_fit hd _ _) _ _) ?_
          simp only [go_sem, ↓reduceIte, Nat.reduceEqDiff, Nat.reduceBEq, Nat.reduceAdd, Nat.reduceLeDiff, Nat.reduceLT, reduceCtorEq, Nat.reduceMul, Nat.reduceSub, Int.reduceEq, Int.reduceLT, Int.reduceLE, Int.reduceToNat]
          refine cdK_of (fun c3 => ?_) (fun c3 => ?_)
          · rw [c3, Bool.true_or] at hg3
            rw [hg3, Bool.not_true, Bool.false_and] at hi4
            rw [hi4, Bool.false_and] at hj3
            subst hj3
            simp only [z0, z1, z2, z3, z4, z5, z6, z7, z8, z9, z10, z11, go_sem, ↓reduceIte, Nat.reduceEqDiff, Nat.reduceBEq, Nat.reduceAdd, Nat.reduceLeDiff, Nat.reduceLT, reduceCtorEq, Nat.reduceMul, Nat.reduceSub, Int.reduceEq, Int.reduceLT, Int.reduceLE, Int.reduceToNat]
          · rw [c3, Bool.false_or] at hg3
            simp only [z0, z1, z2, z3, z4, z5, z6, z7, z8, z9, z10, z11, go_sem, ↓reduceIte, Nat.reduceEqDiff, Nat.reduceBEq, Nat.reduceAdd, Nat.reduceLeDiff, Nat.reduceLT, reduceCtorEq, Nat.reduceMul, Nat.reduceSub, Int.reduceEq, Int.reduceLT, Int.reduceLE, Int.reduceToNat]
            refine ⟨(g + 1, _), ⟨by dsimp only; omega, by dsimp only; omega, hg3⟩, by dsimp only; omega, weak_ok ?_ (Sub.refl _) (Nat.le_refl _)⟩
            simp only [z0, z1, z2, z3, z4, z5, z6, z7, z8, z9, z10, z11, wr64s g (by omega), go_sem, ↓reduceIte, Nat.reduceEqDiff, Nat.reduceBEq, Nat.reduceAdd, Nat.reduceLeDiff, Nat.reduceLT, reduceCtorEq, Nat.reduceMul, Nat.reduceSub, Int.reduceEq, Int.reduceLT, Int.reduceLE, Int.reduceToNat]
        · rw [decide_eq_false c2, Bool.false_and, Bool.false_or] at hg3
          simp only [z0, z1, z2, z3, z4, z5, z6, z7, z8, z9, z10, z11, q4, getK_s (mapC_get itC ey), mapC_get itC ey, c2, go_sem, ↓reduceIte, Nat.reduceEqDiff, Nat.reduceBEq, Nat.reduceAdd, Nat.reduceLeDiff, Nat.reduceLT, reduceCtorEq, Nat.reduceMul, Nat.reduceSub, Int.reduceEq, Int.reduceLT, Int.reduceLE, Int.reduceToNat]
          refine dCall.no ?_
          simp only [go_sem, ↓reduceIte, Nat.reduceEqDiff, Nat.reduceBEq, Nat.reduceAdd, Nat.reduceLeDiff, Nat.reduceLT, reduceCtorEq, Nat.reduceMul, Nat.reduceSub, Int.reduceEq, Int.reduceLT, Int.reduceLE, Int.reduceToNat]
          refine dCall.no ?_
          simp only [z0, z1, z2, z3, z4, z5, z6, z7, z8, z9, z10, z11, go_sem, ↓reduceIte, Nat.reduceEqDiff, Nat.reduceBEq, Nat.reduceAdd, Nat.reduceLeDiff, Nat.reduceLT, reduceCtorEq, Nat.reduceMul, Nat.reduceSub, Int.reduceEq, Int.reduceLT, Int.reduceLE, Int.reduceToNat]
          refine ⟨(g + 1, _), ⟨by dsimp only; omega, by dsimp only; omega, hg3⟩, by dsimp only; omega, weak_ok ?_ (Sub.refl _) (Nat.le_refl _)⟩
          simp only [z0, z1, z2, z3, z4, z5, z6, z7, z8, z9, z10, z11, wr64s g (by omega), go_sem, ↓reduceIte, Nat.reduceEqDiff, Nat.reduceBEq, Nat.reduceAdd, Nat.reduceLeDiff, Nat.reduceLT, reduceCtorEq, Nat.reduceMul, Nat.reduceSub, Int.reduceEq, Int.reduceLT, Int.reduceLE, Int.reduceToNat]
      have q3 : g = i := by simp at q3; omega
      subst q3
      rw [Nat.sub_self] at hg3
      have hg3 : ((List.range' 0 g).any fun q => decide (typD d q = k.t) && alk L (valsD d q k.l)) = false := hg3
      rw [hg3, Bool.not_false, Bool.true_and] at hi4
      simp only [z0, z1, z2, z3, z4, z5, z6, z7, z8, z9, z10, z11, go_sem, ↓reduceIte, Nat.reduceEqDiff, Nat.reduceBEq, Nat.reduceAdd, Nat.reduceLeDiff, Nat.reduceLT, reduceCtorEq, Nat.reduceMul, Nat.reduceSub, Int.reduceEq, Int.reduceLT, Int.reduceLE, Int.reduceToNat]
      refine ⟨(g + 1, _), ⟨by dsimp only; omega, by dsimp only; omega, hi4⟩, by dsimp only; omega, weak_ok ?_ (Sub.refl _) (Nat.le_refl _)⟩
      simp only [z0, z1, z2, z3, z4, z5, z6, z7, z8, z9, z10, z11, wr64s g (by omega), go_sem, ↓reduceIte, Nat.reduceEqDiff, Nat.reduceBEq, Nat.reduceAdd, Nat.reduceLeDiff, Nat.reduceLT, reduceCtorEq, Nat.reduceMul, Nat.reduceSub, Int.reduceEq, Int.reduceLT, Int.reduceLE, Int.reduceToNat]
    have q2 : i = d.i.length := by simp at q2; omega
    subst q2
    rw [sndF_end] at hi4
    rw [hi4, Bool.true_and] at hj3
    simp only [z0, z1, z2, z3, z4, z5, z6, z7, z8, z9, z10, z11, go_sem, ↓reduceIte, Nat.reduceEqDiff, Nat.reduceBEq, Nat.reduceAdd, Nat.reduceLeDiff, Nat.reduceLT, reduceCtorEq, Nat.reduceMul, Nat.reduceSub, Int.reduceEq, Int.reduceLT, Int.reduceLE, Int.reduceToNat]
    refine ⟨(j + 1, _), ⟨by dsimp only; omega, by dsimp only; omega, hj3⟩, by dsimp only; omega, weak_ok ?_ (Sub.cons ?_ (Sub.cons ?_ (Sub.base hf ?_))) (Nat.le_refl _)⟩
    all_goals
      simp only [z0, z1, z2, z3, z4, z5, z6, z7, z8, z9, z10, z11, wr64s j (by omega), go_sem, ↓reduceIte, Nat.reduceEqDiff, Nat.reduceBEq, Nat.reduceAdd, Nat.reduceLeDiff, Nat.reduceLT, reduceCtorEq, Nat.reduceMul, Nat.reduceSub, Int.reduceEq, Int.reduceLT, Int.reduceLE, Int.reduceToNat]
  · have q : j = K.length := by simp at q; omega
    subst q
    rw [List.drop_length, List.all_nil] at hj3
    simp only [z0, z1, z2, z3, z4, hj3, go_sem, ↓reduceIte, Nat.reduceEqDiff, Nat.reduceBEq, Nat.reduceAdd, Nat.reduceLeDiff, Nat.reduceLT, reduceCtorEq, Nat.reduceMul, Nat.reduceSub, Int.reduceEq, Int.reduceLT, Int.reduceLE, Int.reduceToNat]
theorem smK_alk (d : Dat) (q i : Int) (ks : List ByteArray) : smK d q ks (valsD d i ks) = alk (valsD d q ks) (valsD d i ks) := by
  induction ks with
  | nil => rw [valsD, List.map_nil, smK]; rw [valsD, List.map_nil, alk_nil]; intro _ _ _ _ h; cases h
  | cons k ks ih =>
    have e : ∀ q, valsD d q (k :: ks) = lookV d q k ⟨#[]⟩ :: valsD d q ks := fun q => rfl
    rw [e, e, smK, alk, ih]
theorem alk_refl (a : List Val) : alk a a = true := by
  induction a with
  | nil => exact alk_nil _
  | cons x a ih => rw [alk, ih, cmpV_refl]; rfl
theorem alk_symm : ∀ a b : List Val, a.length = b.length → alk a b = alk b a
  | [], [], _ => rfl
  | x :: a, y :: b, h => by
    rw [alk, alk, alk_symm a b (by simpa using h), cmpV_anti x y]
    congr 1
    rw [decide_eq_decide]
    omega
/-- If keys identify items, each is found by its key. -/
theorem fnd_at (q : Nat → Itm → Bool) : ∀ (l : List Itm) (j i : Nat) (x : Itm), l[i]? = some x → q (j + i) x = true → (∀ i' y, i' < i → l[i']? = some y → q (j + i') y = false) → fnd q l j = ((j + i : Nat) : Int)
  | [], j, i, x, h, _, _ => by simp at h
  | y :: l, j, 0, x, h, h2, _ => by
    simp at h
    subst h
    rw [fnd, if_pos (by simpa using h2)]
    rfl
  | y :: l, j, i + 1, x, h, h2, h3 => by
    rw [fnd, if_neg (by rw [show q j y = false from h3 0 y (by omega) rfl]; simp), fnd_at q l (j + 1) i x (by simpa using h) (by rw [show j + 1 + i = j + (i + 1) by omega]; exact h2)
      (fun i' z hi hz => by rw [show j + 1 + i' = j + (i' + 1) by omega]; exact h3 (i' + 1) z (by omega) (by simpa using hz))]
    congr 1
    omega
theorem sound_find {d : Dat} {K : List Ky} (h : sndD d K = true) {k : Ky} (hk : k ∈ K) {i : Nat} {x : Itm} (hx : d.i[i]? = some x) (ht : k.t = x.t) : findD d x.t k.l (valsD d i k.l) = i := by
  rw [sndD, Bool.and_eq_true, List.all_eq_true] at h
  have h2 := h.2 k hk
  have hi : i < d.i.length := (List.getElem?_eq_some_iff.1 hx).1
  rw [sndF, Nat.sub_zero, List.all_eq_true] at h2
  have h3 := h2 i (by simp [hi])
  rw [okK, typD_at hx, decide_eq_true ht.symm, Bool.not_true, Bool.false_or, Bool.and_eq_true] at h3
  have h4 : dupD d k i (valsD d i k.l) = false := by simpa using h3.2
  rw [findD, if_neg (by simp [valsD_len])]
  have := fnd_at (fun q y => decide (y.t = x.t) && smK d q k.l (valsD d i k.l)) d.i 0 i x hx (by
    rw [Nat.zero_add, smK_alk, alk_refl]
    simp) (fun q y hq hy => by
    rw [Nat.zero_add, smK_alk]
    by_cases c : y.t = x.t
    · rw [decide_eq_true c, Bool.true_and, alk_symm _ _ (by rw [valsD_len, valsD_len])]
      rw [dupD, List.any_eq_false] at h4
      have h5 := h4 q (by simpa using hq)
      rw [typD_at hy, decide_eq_true (by rw [c, ht]), Bool.true_and] at h5
      simpa using h5
    · rw [decide_eq_false c, Bool.false_and])
  rw [this, Nat.zero_add]
theorem lawSounds (d : Dat) (hd : d.Fit) (K : List Ky) (hK : K.length ≤ 1000000000) (hkl : ∀ k ∈ K, k.l.length ≤ 1000000000) (hp : CH) (m : Nat) : MeetsF Try.prog 9 hp m [.ds (mapC kyC K), dx d] (.b true) := by
  have h1 := dSound_ok d hd K hK hkl
  have h2 := rSound_ok d hd K hK hkl
  have hli := hd.li
  obtain ⟨S, hS⟩ : ∃ S, sndD d K = S := ⟨_, rfl⟩
  rw [hS] at h1 h2
  refine meetsF Try.func9 (by kernel_rfl) cc9 cr9 rfl fun hf => ?_; unfold ck9
  simp only [go_sem, ↓reduceIte, Nat.reduceEqDiff, Nat.reduceBEq, Nat.reduceAdd, Nat.reduceLeDiff, Nat.reduceLT, reduceCtorEq, Nat.reduceMul, Nat.reduceSub, Int.reduceEq, Int.reduceLT, Int.reduceLE, Int.reduceToNat]
  refine vcCall.f (large_ok d hd _ _) ?_
  simp only [go_sem, ↓reduceIte, Nat.reduceEqDiff, Nat.reduceBEq, Nat.reduceAdd, Nat.reduceLeDiff, Nat.reduceLT, reduceCtorEq, Nat.reduceMul, Nat.reduceSub, Int.reduceEq, Int.reduceLT, Int.reduceLE, Int.reduceToNat]
  refine cdK_of (fun c => ?_) (fun c => ?_)
  · simp only [go_sem, ↓reduceIte, Nat.reduceEqDiff, Nat.reduceBEq, Nat.reduceAdd, Nat.reduceLeDiff, Nat.reduceLT, reduceCtorEq, Nat.reduceMul, Nat.reduceSub, Int.reduceEq, Int.reduceLT, Int.reduceLE, Int.reduceToNat]
    refine vcCall.f (ex20_ok _ _) ?_
    simp only [go_sem, ↓reduceIte, Nat.reduceEqDiff, Nat.reduceBEq, Nat.reduceAdd, Nat.reduceLeDiff, Nat.reduceLT, reduceCtorEq, Nat.reduceMul, Nat.reduceSub, Int.reduceEq, Int.reduceLT, Int.reduceLE, Int.reduceToNat]
  simp only [go_sem, ↓reduceIte, Nat.reduceEqDiff, Nat.reduceBEq, Nat.reduceAdd, Nat.reduceLeDiff, Nat.reduceLT, reduceCtorEq, Nat.reduceMul, Nat.reduceSub, Int.reduceEq, Int.reduceLT, Int.reduceLE, Int.reduceToNat]
  refine loop (fun p : Nat × Nat => ⟨[(0, .ds (mapC kyC K)), (3, .bx m 0), (5, .i .i64 p.1)], (m, .bx [.ds (mapC itC d.i), .ds (mapC wrC d.w)]) :: hp, p.2⟩)
    (fun p => p.1 ≤ K.length ∧ m + 1 ≤ p.2) (fun p => K.length - p.1) (0, m + 1) ?_ ?_ (fun ⟨j, n⟩ hj => ?_)
  · exact ⟨by simp, by simp⟩
  · refine weak_ok ?_ (Sub.refl _) (Nat.le_refl _)
    simp only [go_sem, ↓reduceIte, Nat.reduceEqDiff, Nat.reduceBEq, Nat.reduceAdd, Nat.reduceLeDiff, Nat.reduceLT, reduceCtorEq, Nat.reduceMul, Nat.reduceSub, Int.reduceEq, Int.reduceLT, Int.reduceLE, Int.reduceToNat]
  dsimp only at hj
  obtain ⟨hj1, hj2⟩ := hj
  have z1 : ¬ n = m := by omega
  have z2 : m ≤ n := by omega
  have z3 : ¬ m = n := by omega
  simp only [z1, z2, go_sem, ↓reduceIte, Nat.reduceEqDiff, Nat.reduceBEq, Nat.reduceAdd, Nat.reduceLeDiff, Nat.reduceLT, reduceCtorEq, Nat.reduceMul, Nat.reduceSub, Int.reduceEq, Int.reduceLT, Int.reduceLE, Int.reduceToNat]
  refine cdK_of (fun q => ?_) (fun q => ?_)
  · have q : j < K.length := by simpa using q
    obtain ⟨k, ek⟩ : ∃ k, K[j]? = some k := ⟨K[j], by simp [q]⟩
    simp only [z1, z2, q, getK_s (mapC_get kyC ek), go_sem, ↓reduceIte, Nat.reduceEqDiff, Nat.reduceBEq, Nat.reduceAdd, Nat.reduceLeDiff, Nat.reduceLT, reduceCtorEq, Nat.reduceMul, Nat.reduceSub, Int.reduceEq, Int.reduceLT, Int.reduceLE, Int.reduceToNat]
    refine cdK_of (fun c => ?_) (fun c => ?_)
    · simp only [z1, z2, go_sem, ↓reduceIte, Nat.reduceEqDiff, Nat.reduceBEq, Nat.reduceAdd, Nat.reduceLeDiff, Nat.reduceLT, reduceCtorEq, Nat.reduceMul, Nat.reduceSub, Int.reduceEq, Int.reduceLT, Int.reduceLE, Int.reduceToNat]
      refine vcCall.f (ex20_ok _ _) ?_
      simp only [z1, z2, go_sem, ↓reduceIte, Nat.reduceEqDiff, Nat.reduceBEq, Nat.reduceAdd, Nat.reduceLeDiff, Nat.reduceLT, reduceCtorEq, Nat.reduceMul, Nat.reduceSub, Int.reduceEq, Int.reduceLT, Int.reduceLE, Int.reduceToNat]
    · simp only [z1, z2, go_sem, ↓reduceIte, Nat.reduceEqDiff, Nat.reduceBEq, Nat.reduceAdd, Nat.reduceLeDiff, Nat.reduceLT, reduceCtorEq, Nat.reduceMul, Nat.reduceSub, Int.reduceEq, Int.reduceLT, Int.reduceLE, Int.reduceToNat]
      refine ⟨(j + 1, _), ⟨by dsimp only; omega, by dsimp only; omega⟩, by dsimp only; omega, weak_ok ?_ (Sub.refl _) (Nat.le_refl _)⟩
      simp only [z1, z2, wr64s j (by omega), go_sem, ↓reduceIte, Nat.reduceEqDiff, Nat.reduceBEq, Nat.reduceAdd, Nat.reduceLeDiff, Nat.reduceLT, reduceCtorEq, Nat.reduceMul, Nat.reduceSub, Int.reduceEq, Int.reduceLT, Int.reduceLE, Int.reduceToNat]
  simp only [z1, z2, z3, go_sem, ↓reduceIte, Nat.reduceEqDiff, Nat.reduceBEq, Nat.reduceAdd, Nat.reduceLeDiff, Nat.reduceLT, reduceCtorEq, Nat.reduceMul, Nat.reduceSub, Int.reduceEq, Int.reduceLT, Int.reduceLE, Int.reduceToNat]
  refine vcCall.f (h1 _ _) ?_
  simp only [z1, z2, z3, go_sem, ↓reduceIte, Nat.reduceEqDiff, Nat.reduceBEq, Nat.reduceAdd, Nat.reduceLeDiff, Nat.reduceLT, reduceCtorEq, Nat.reduceMul, Nat.reduceSub, Int.reduceEq, Int.reduceLT, Int.reduceLE, Int.reduceToNat]
  refine vcCall.f (h2 _ _) ?_
  simp only [z1, z2, z3, beq_self_eq_true, go_sem, ↓reduceIte, Nat.reduceEqDiff, Nat.reduceBEq, Nat.reduceAdd, Nat.reduceLeDiff, Nat.reduceLT, reduceCtorEq, Nat.reduceMul, Nat.reduceSub, Int.reduceEq, Int.reduceLT, Int.reduceLE, Int.reduceToNat]
  have ss : S = true → ∀ k ∈ K, ∀ (i : Nat) (x : Itm), d.i[i]? = some x → k.t = x.t → findD d x.t k.l (valsD d i k.l) = i := fun h k hk i x hx ht => sound_find (hS.trans h) hk hx ht
  refine loop (fun p : Nat × Nat => ⟨[(0, .ds (mapC kyC K)), (3, .bx m 0), (7, .b S), (8, .i .i64 p.1)], (m, .bx [.ds (mapC itC d.i), .ds (mapC wrC d.w)]) :: hp, p.2⟩)
    (fun p => p.1 ≤ d.i.length ∧ m + 1 ≤ p.2) (fun p => d.i.length - p.1) (0, n + 1) ?_ ?_ (fun ⟨i, n⟩ hi => ?_)
  · exact ⟨by simp, by dsimp only; omega⟩
  · refine weak_ok ?_ (Sub.cons ?_ (Sub.base hf ?_)) (Nat.le_refl _)
    all_goals
      simp only [z1, z2, z3, go_sem, ↓reduceIte, Nat.reduceEqDiff, Nat.reduceBEq, Nat.reduceAdd, Nat.reduceLeDiff, Nat.reduceLT, reduceCtorEq, Nat.reduceMul, Nat.reduceSub, Int.reduceEq, Int.reduceLT, Int.reduceLE, Int.reduceToNat]
  dsimp only at hi
  obtain ⟨hi1, hi2⟩ := hi
  have z1 : ¬ n = m := by omega
  have z2 : m ≤ n := by omega
  have z3 : ¬ m = n := by omega
  simp only [z1, z2, go_sem, ↓reduceIte, Nat.reduceEqDiff, Nat.reduceBEq, Nat.reduceAdd, Nat.reduceLeDiff, Nat.reduceLT, reduceCtorEq, Nat.reduceMul, Nat.reduceSub, Int.reduceEq, Int.reduceLT, Int.reduceLE, Int.reduceToNat]
  refine cdK_of (fun q => ?_) (fun q => ?_)
  · simp only [Bool.and_eq_true, decide_eq_true_eq] at q
    obtain ⟨q1, q2⟩ := q
    have q1 : i < d.i.length := by omega
    have ss := ss q2
    obtain ⟨x, ex⟩ : ∃ x, d.i[i]? = some x := ⟨d.i[i], by simp [q1]⟩
    simp only [z1, z2, go_sem, ↓reduceIte, Nat.reduceEqDiff, Nat.reduceBEq, Nat.reduceAdd, Nat.reduceLeDiff, Nat.reduceLT, reduceCtorEq, Nat.reduceMul, Nat.reduceSub, Int.reduceEq, Int.reduceLT, Int.reduceLE, Int.reduceToNat]
    refine loop (fun p : Nat × Nat => ⟨[(0, .ds (mapC kyC K)), (3, .bx m 0), (7, .b S), (8, .i .i64 i), (9, .i .i64 p.1)], (m, .bx [.ds (mapC itC d.i), .ds (mapC wrC d.w)]) :: hp, p.2⟩)
      (fun p => p.1 ≤ K.length ∧ m + 1 ≤ p.2) (fun p => K.length - p.1) (0, n) ?_ ?_ (fun ⟨j, n⟩ hj => ?_)
    · exact ⟨by simp, by dsimp only; omega⟩
    · refine weak_ok ?_ (Sub.refl _) (Nat.le_refl _)
      simp only [z1, z2, go_sem, ↓reduceIte, Nat.reduceEqDiff, Nat.reduceBEq, Nat.reduceAdd, Nat.reduceLeDiff, Nat.reduceLT, reduceCtorEq, Nat.reduceMul, Nat.reduceSub, Int.reduceEq, Int.reduceLT, Int.reduceLE, Int.reduceToNat]
    dsimp only at hj
    obtain ⟨hj1, hj2⟩ := hj
    have z1 : ¬ n = m := by omega
    have z2 : m ≤ n := by omega
    have z3 : ¬ m = n := by omega
    simp only [z1, z2, go_sem, ↓reduceIte, Nat.reduceEqDiff, Nat.reduceBEq, Nat.reduceAdd, Nat.reduceLeDiff, Nat.reduceLT, reduceCtorEq, Nat.reduceMul, Nat.reduceSub, Int.reduceEq, Int.reduceLT, Int.reduceLE, Int.reduceToNat]
    refine cdK_of (fun q3 => ?_) (fun q3 => ?_)
    · have q3 : j < K.length := by simpa using q3
      obtain ⟨k, ek⟩ : ∃ k, K[j]? = some k := ⟨K[j], by simp [q3]⟩
      have hkm := List.mem_of_getElem? ek
      have hkl2 := hkl k hkm
      simp only [z1, z2, q1, q3, getK_s (mapC_get kyC ek), getK_s (mapC_get itC ex), mapC_get kyC ek, mapC_get itC ex, go_sem, ↓reduceIte, Nat.reduceEqDiff, Nat.reduceBEq, Nat.reduceAdd, Nat.reduceLeDiff, Nat.reduceLT, reduceCtorEq, Nat.reduceMul, Nat.reduceSub, Int.reduceEq, Int.reduceLT, Int.reduceLE, Int.reduceToNat]
      first | refine dCallR.f (fun _ _ _ => rValues_ok d hd _ _ hkl2 _ _) ?_ | refine dCall.f (fun _ _ _ => rValues_ok d hd _ _ hkl2 _ _) ?_
      simp only [go_sem, ↓reduceIte, Nat.reduceEqDiff, Nat.reduceBEq, Nat.reduceAdd, Nat.reduceLeDiff, Nat.reduceLT, reduceCtorEq, Nat.reduceMul, Nat.reduceSub, Int.reduceEq, Int.reduceLT, Int.reduceLE, Int.reduceToNat]
      first | refine dCallR.f (fun _ _ _ => dFind_ok d hd _ _ _ (by rw [valsD_len]; omega) (valsD_fit hd _ _) _ _) ?_ | refine dCall.f (fun _ _ _ => dFind_ok d hd _ _ _ (by rw [valsD_len]; omega) (valsD_fit hd _ _) _ _) ?_
      simp only [go_sem, ↓reduceIte, Nat.reduceEqDiff, Nat.reduceBEq, Nat.reduceAdd, Nat.reduceLeDiff, Nat.reduceLT, reduceCtorEq, Nat.reduceMul, Nat.reduceSub, Int.reduceEq, Int.reduceLT, Int.reduceLE, Int.reduceToNat]
      by_cases c : k.t = x.t
      · have hF := ss k hkm i x ex c
        simp only [hF, z1, z2, q1, q3, getK_s (mapC_get kyC ek), getK_s (mapC_get itC ex), mapC_get kyC ek, mapC_get itC ex, c, go_sem, ↓reduceIte, Nat.reduceEqDiff, Nat.reduceBEq, Nat.reduceAdd, Nat.reduceLeDiff, Nat.reduceLT, reduceCtorEq, Nat.reduceMul, Nat.reduceSub, Int.reduceEq, Int.reduceLT, Int.reduceLE, Int.reduceToNat]
        refine ⟨(j + 1, _), ⟨by dsimp only; omega, by dsimp only; omega⟩, by dsimp only; omega, weak_ok ?_ (Sub.refl _) (Nat.le_refl _)⟩
        simp only [wr64s j (by omega), go_sem, ↓reduceIte, Nat.reduceEqDiff, Nat.reduceBEq, Nat.reduceAdd, Nat.reduceLeDiff, Nat.reduceLT, reduceCtorEq, Nat.reduceMul, Nat.reduceSub, Int.reduceEq, Int.reduceLT, Int.reduceLE, Int.reduceToNat]
      · simp only [z1, z2, q1, q3, getK_s (mapC_get kyC ek), getK_s (mapC_get itC ex), mapC_get kyC ek, mapC_get itC ex, c, go_sem, ↓reduceIte, Nat.reduceEqDiff, Nat.reduceBEq, Nat.reduceAdd, Nat.reduceLeDiff, Nat.reduceLT, reduceCtorEq, Nat.reduceMul, Nat.reduceSub, Int.reduceEq, Int.reduceLT, Int.reduceLE, Int.reduceToNat]
        refine ⟨(j + 1, _), ⟨by dsimp only; omega, by dsimp only; omega⟩, by dsimp only; omega, weak_ok ?_ (Sub.refl _) (Nat.le_refl _)⟩
        simp only [wr64s j (by omega), go_sem, ↓reduceIte, Nat.reduceEqDiff, Nat.reduceBEq, Nat.reduceAdd, Nat.reduceLeDiff, Nat.reduceLT, reduceCtorEq, Nat.reduceMul, Nat.reduceSub, Int.reduceEq, Int.reduceLT, Int.reduceLE, Int.reduceToNat]
    · simp only [z1, z2, go_sem, ↓reduceIte, Nat.reduceEqDiff, Nat.reduceBEq, Nat.reduceAdd, Nat.reduceLeDiff, Nat.reduceLT, reduceCtorEq, Nat.reduceMul, Nat.reduceSub, Int.reduceEq, Int.reduceLT, Int.reduceLE, Int.reduceToNat]
      refine ⟨(i + 1, _), ⟨by dsimp only; omega, by dsimp only; omega⟩, by dsimp only; omega, weak_ok ?_ (Sub.refl _) (Nat.le_refl _)⟩
      simp only [z1, z2, wr64s i (by omega), go_sem, ↓reduceIte, Nat.reduceEqDiff, Nat.reduceBEq, Nat.reduceAdd, Nat.reduceLeDiff, Nat.reduceLT, reduceCtorEq, Nat.reduceMul, Nat.reduceSub, Int.reduceEq, Int.reduceLT, Int.reduceLE, Int.reduceToNat]
  · simp only [z1, z2, go_sem, ↓reduceIte, Nat.reduceEqDiff, Nat.reduceBEq, Nat.reduceAdd, Nat.reduceLeDiff, Nat.reduceLT, reduceCtorEq, Nat.reduceMul, Nat.reduceSub, Int.reduceEq, Int.reduceLT, Int.reduceLE, Int.reduceToNat]
    refine vcCall.f (ex20_ok _ _) ?_
    simp only [z1, z2, go_sem, ↓reduceIte, Nat.reduceEqDiff, Nat.reduceBEq, Nat.reduceAdd, Nat.reduceLeDiff, Nat.reduceLT, reduceCtorEq, Nat.reduceMul, Nat.reduceSub, Int.reduceEq, Int.reduceLT, Int.reduceLE, Int.reduceToNat]
end Go.Proofs.Ytjalbhlahfgogaa
