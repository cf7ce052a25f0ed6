/-
  The parts SaR of the proof, in one file. Conditions: none.
-/
import Derived.Test.YtmcgjccheehehaaQsv41
namespace Go.Proofs.Ytmcgjccheehehaa
open Go.Eng
set_option linter.unusedVariables false
set_option linter.unusedSimpArgs false
set_option maxRecDepth 20000
set_option maxHeartbeats 2000000
theorem rstrip_of (v : Val) (hw : wtV v ≤ 100000000000) (ih : ∀ x ∈ v.items, ∀ (l : List Pk), wtKs l ≤ 100000000000 → ∀ hp m, MeetsF Try.prog 38 hp m [.ds (mapC pkC l), vx x] (vx (stripV x l)))
    (l : List Pk) (hlw : wtKs l ≤ 100000000000) (hp : CH) (m : Nat) : MeetsF Try.prog 38 hp m [.ds (mapC pkC l), vx v] (vx (stripV v l)) := by
  have fv : v.Fit := wtV_fit v (by omega)
  have lv : v.items.length ≤ 100000000000 := by have := wtL_len v.items; have := wtV_eq v; omega
  have hl : l.length ≤ 100000000000 := by have := wtKs_len l; omega
  have e := stripV_eq v l
  have hty := rtypeOf_ok v fv
  obtain ⟨R, hR⟩ : ∃ R, stripV v l = R := ⟨_, rfl⟩
  rw [hR] at e ⊢
  refine meetsF Try.func38 (by kernel_rfl) cc38 cr38 rfl fun hf => ?_; unfold ck38
  simp only [go_sem, ↓reduceIte, Nat.reduceEqDiff, Nat.reduceBEq, Nat.reduceAdd, Nat.reduceLeDiff, Nat.reduceLT, reduceCtorEq, Nat.reduceMul, Nat.reduceSub, Int.reduceEq, Int.reduceLT, Int.reduceLE, Int.reduceToNat]
  refine cdK_of (fun c => ?_) (fun c => ?_)
  · have c : v.k = 5 := by simpa using c
    rw [if_pos c] at e
    subst e
    simp only [go_sem, ↓reduceIte, Nat.reduceEqDiff, Nat.reduceBEq, Nat.reduceAdd, Nat.reduceLeDiff, Nat.reduceLT, reduceCtorEq, Nat.reduceMul, Nat.reduceSub, Int.reduceEq, Int.reduceLT, Int.reduceLE, Int.reduceToNat]
    refine loop (fun p : Nat × Nat => ⟨[(0, .ds (mapC pkC l)), (3, .bx m 0), (4, .bx (m + 1) 0), (5, .bx (m + 2) 0), (6, .i .i64 p.1)],
        (m + 2, .bx [.i .i64 5, .i .i64 0, .s ⟨#[]⟩, .rw (m + 3) p.1 p.1, .e0]) :: (m + 3, .rw p.1 5 (mapC valC ((v.items.take p.1).map fun x => stripV x l))) ::
        (m + 1, .bx [.i .i64 0, .i .i64 0, .s ⟨#[]⟩, .e0, .e0]) :: (m, .bx [.i .i64 v.k, .i .i64 v.n, .s v.s, .ds (mapC valC v.items), .ds (stC v.keys)]) :: hp, p.2⟩)
      (fun p => p.1 ≤ v.items.length ∧ m + 4 ≤ p.2) (fun p => v.items.length - p.1) (0, m + 4) ?_ ?_ (fun ⟨j, n⟩ hj => ?_)
    · exact ⟨Nat.zero_le _, Nat.le_refl _⟩
    · refine (weak_b0 (c := m + 2) (i := 3) (m := 5) (cs := [.i .i64 5, .i .i64 0, .s ⟨#[]⟩, .e0, .e0]) gc_cons_same rfl).trans (weak_ok ?_ (Sub.cons ?_ (Sub.cons ?_ (Sub.cons ?_ (Sub.cons ?_ (Sub.base hf ?_))))) (Nat.le_refl _))
      all_goals first | (simp only [go_sem, ↓reduceIte, Nat.reduceEqDiff, Nat.reduceBEq, Nat.reduceAdd, Nat.reduceLeDiff, Nat.reduceLT, reduceCtorEq, Nat.reduceMul, Nat.reduceSub, Int.reduceEq, Int.reduceLT, Int.reduceLE, Int.reduceToNat]; done) | exact gc_cons_same | (simp only [List.take_zero, List.map_nil]; simp only [go_sem, ↓reduceIte, Nat.reduceEqDiff, Nat.reduceBEq, Nat.reduceAdd, Nat.reduceLeDiff, Nat.reduceLT, reduceCtorEq, Nat.reduceMul, Nat.reduceSub, Int.reduceEq, Int.reduceLT, Int.reduceLE, Int.reduceToNat]; done) | trace_state
    dsimp only at hj
    obtain ⟨hj1, hj2⟩ := hj
    have p0 : ¬ n = m := by omega
    have q0 : ¬ m = n := by omega
    have r0 : m ≤ n := by omega
    have p1 : ¬ n + 1 = m := by omega
    have q1 : ¬ m = n + 1 := by omega
    have r1 : m ≤ n + 1 := by omega
    have p2 : ¬ n + 2 = m := by omega
    have q2 : ¬ m = n + 2 := by omega
    have r2 : m ≤ n + 2 := by omega
    have p3 : ¬ n + 3 = m := by omega
    have q3 : ¬ m = n + 3 := by omega
    have r3 : m ≤ n + 3 := by omega
    have p4 : ¬ n + 4 = m := by omega
    have q4 : ¬ m = n + 4 := by omega
    have r4 : m ≤ n + 4 := by omega
    have p5 : ¬ n + 5 = m := by omega
    have q5 : ¬ m = n + 5 := by omega
    have r5 : m ≤ n + 5 := by omega
    have p6 : ¬ n + 6 = m := by omega
    have q6 : ¬ m = n + 6 := by omega
    have r6 : m ≤ n + 6 := by omega
    have p7 : ¬ n + 7 = m := by omega
    have q7 : ¬ m = n + 7 := by omega
    have r7 : m ≤ n + 7 := by omega
    have p8 : ¬ n + 8 = m := by omega
    have q8 : ¬ m = n + 8 := by omega
    have r8 : m ≤ n + 8 := by omega
    have p9 : ¬ n + 9 = m := by omega
    have q9 : ¬ m = n + 9 := by omega
    have r9 : m ≤ n + 9 := by omega
    have p10 : ¬ n + 10 = m := by omega
    have q10 : ¬ m = n + 10 := by omega
    have r10 : m ≤ n + 10 := by omega
    have p11 : ¬ n + 11 = m := by omega
    have q11 : ¬ m = n + 11 := by omega
    have r11 : m ≤ n + 11 := by omega
    have p12 : ¬ n + 12 = m := by omega
    have q12 : ¬ m = n + 12 := by omega
    have r12 : m ≤ n + 12 := by omega
    have p13 : ¬ n + 13 = m := by omega
    have q13 : ¬ m = n + 13 := by omega
    have r13 : m ≤ n + 13 := by omega
    have p14 : ¬ n + 14 = m := by omega
    have q14 : ¬ m = n + 14 := by omega
    have r14 : m ≤ n + 14 := by omega
    have p15 : ¬ n + 15 = m := by omega
    have q15 : ¬ m = n + 15 := by omega
    have r15 : m ≤ n + 15 := by omega
    have p16 : ¬ n + 16 = m := by omega
    have q16 : ¬ m = n + 16 := by omega
    have r16 : m ≤ n + 16 := by omega
    have u1 : ¬ n = m + 1 := by omega
    have v1 : ¬ m + 1 = n := by omega
    have u2 : ¬ n = m + 2 := by omega
    have v2 : ¬ m + 2 = n := by omega
    have u3 : ¬ n = m + 3 := by omega
    have v3 : ¬ m + 3 = n := by omega
    obtain ⟨Y, hY⟩ : ∃ Y, (v.items.take j).map (fun x => stripV x l) = Y := ⟨_, rfl⟩
    have hYl : Y.length = j := by rw [← hY, List.length_map, List.length_take]; omega
    rw [hY]
    simp only [p0, q0, r0, p1, q1, r1, p2, q2, r2, p3, q3, r3, p4, q4, r4, p5, q5, r5, p6, q6, r6, p7, q7, r7, p8, q8, r8, p9, q9, r9, p10, q10, r10, p11, q11, r11, p12, q12, r12, p13, q13, r13, p14, q14, r14, p15, q15, r15, p16, q16, r16, u1, v1, u2, v2, u3, v3, go_sem, ↓reduceIte, Nat.reduceEqDiff, Nat.reduceBEq, Nat.reduceAdd, Nat.reduceLeDiff, Nat.reduceLT, reduceCtorEq, Nat.reduceMul, Nat.reduceSub, Int.reduceEq, Int.reduceLT, Int.reduceLE, Int.reduceToNat]
    refine cdK_of (fun d => ?_) (fun d => ?_)
    · have d : j < v.items.length := by simpa using d
      obtain ⟨x, ex⟩ : ∃ x, v.items[j]? = some x := ⟨v.items[j]'(by omega), by simp⟩
      have hx := ih x (List.mem_of_getElem? ex) l hlw
      obtain ⟨S, hS⟩ : ∃ S, stripV x l = S := ⟨_, rfl⟩
      have hsn : (v.items.take (j + 1)).map (fun x => stripV x l) = Y ++ [S] := by rw [← take_snoc ex, List.map_append, hY, ← hS]; rfl
      rw [hS] at hx
      have k2 : (j + 1) * 80 ≤ 140737488355328 := by omega
      have k4 : j ≤ 9223372036854775806 := by omega
      have k5 : v.items.length - (j + 1) < v.items.length - j := by omega
      have k6 : j < 9223372036854775807 := by omega
      simp only [p0, q0, r0, p1, q1, r1, p2, q2, r2, p3, q3, r3, p4, q4, r4, p5, q5, r5, p6, q6, r6, p7, q7, r7, p8, q8, r8, p9, q9, r9, p10, q10, r10, p11, q11, r11, p12, q12, r12, p13, q13, r13, p14, q14, r14, p15, q15, r15, p16, q16, r16, u1, v1, u2, v2, u3, v3, d, getK_s (mapC_get valC ex), go_sem, ↓reduceIte, Nat.reduceEqDiff, Nat.reduceBEq, Nat.reduceAdd, Nat.reduceLeDiff, Nat.reduceLT, reduceCtorEq, Nat.reduceMul, Nat.reduceSub, Int.reduceEq, Int.reduceLT, Int.reduceLE, Int.reduceToNat]
      refine vcCall.f (hx _ _) ?_
      simp only [p0, q0, r0, p1, q1, r1, p2, q2, r2, p3, q3, r3, p4, q4, r4, p5, q5, r5, p6, q6, r6, p7, q7, r7, p8, q8, r8, p9, q9, r9, p10, q10, r10, p11, q11, r11, p12, q12, r12, p13, q13, r13, p14, q14, r14, p15, q15, r15, p16, q16, r16, u1, v1, u2, v2, u3, v3, hYl, k2, k4, go_sem, ↓reduceIte, Nat.reduceEqDiff, Nat.reduceBEq, Nat.reduceAdd, Nat.reduceLeDiff, Nat.reduceLT, reduceCtorEq, Nat.reduceMul, Nat.reduceSub, Int.reduceEq, Int.reduceLT, Int.reduceLE, Int.reduceToNat]
      refine ⟨(j + 1, _), ⟨d, ?_⟩, k5, weak_ok ?_ (Sub.cons ?_ (Sub.cons ?_ (Sub.cons ?_ (Sub.cons ?_ (Sub.base hf ?_))))) (Nat.le_refl _)⟩
      all_goals first | ((simp only [p0, q0, r0, p1, q1, r1, p2, q2, r2, p3, q3, r3, p4, q4, r4, p5, q5, r5, p6, q6, r6, p7, q7, r7, p8, q8, r8, p9, q9, r9, p10, q10, r10, p11, q11, r11, p12, q12, r12, p13, q13, r13, p14, q14, r14, p15, q15, r15, p16, q16, r16, u1, v1, u2, v2, u3, v3, wr64s j k6, hsn, go_sem, ↓reduceIte, Nat.reduceEqDiff, Nat.reduceBEq, Nat.reduceAdd, Nat.reduceLeDiff, Nat.reduceLT, reduceCtorEq, Nat.reduceMul, Nat.reduceSub, Int.reduceEq, Int.reduceLT, Int.reduceLE, Int.reduceToNat]); done) | (dsimp only; omega) | trace_state
    · have d : j = v.items.length := by simp at d; omega
      subst d
      rw [List.take_length] at hY
      rw [hY]
      have ht : Y.take v.items.length = Y := List.take_of_length_le (by omega)
      simp only [p0, q0, r0, p1, q1, r1, p2, q2, r2, p3, q3, r3, p4, q4, r4, p5, q5, r5, p6, q6, r6, p7, q7, r7, p8, q8, r8, p9, q9, r9, p10, q10, r10, p11, q11, r11, p12, q12, r12, p13, q13, r13, p14, q14, r14, p15, q15, r15, p16, q16, r16, u1, v1, u2, v2, u3, v3, hYl, ht, go_sem, ↓reduceIte, Nat.reduceEqDiff, Nat.reduceBEq, Nat.reduceAdd, Nat.reduceLeDiff, Nat.reduceLT, reduceCtorEq, Nat.reduceMul, Nat.reduceSub, Int.reduceEq, Int.reduceLT, Int.reduceLE, Int.reduceToNat]
  have c : ¬ v.k = 5 := by simpa using c
  rw [if_neg c] at e
  simp only [go_sem, ↓reduceIte, Nat.reduceEqDiff, Nat.reduceBEq, Nat.reduceAdd, Nat.reduceLeDiff, Nat.reduceLT, reduceCtorEq, Nat.reduceMul, Nat.reduceSub, Int.reduceEq, Int.reduceLT, Int.reduceLE, Int.reduceToNat]
  refine cdK_of (fun c1 => ?_) (fun c1 => ?_)
  · have c1 : ¬ v.k = 6 := by simpa using c1
    rw [if_neg c1] at e
    subst e
    simp only [go_sem, ↓reduceIte, Nat.reduceEqDiff, Nat.reduceBEq, Nat.reduceAdd, Nat.reduceLeDiff, Nat.reduceLT, reduceCtorEq, Nat.reduceMul, Nat.reduceSub, Int.reduceEq, Int.reduceLT, Int.reduceLE, Int.reduceToNat]
  have c1 : v.k = 6 := by simpa using c1
  rw [if_pos c1, collV] at e
  subst e
  simp only [go_sem, ↓reduceIte, Nat.reduceEqDiff, Nat.reduceBEq, Nat.reduceAdd, Nat.reduceLeDiff, Nat.reduceLT, reduceCtorEq, Nat.reduceMul, Nat.reduceSub, Int.reduceEq, Int.reduceLT, Int.reduceLE, Int.reduceToNat]
  refine vcCall.f (hty _ _) ?_
  simp only [go_sem, ↓reduceIte, Nat.reduceEqDiff, Nat.reduceBEq, Nat.reduceAdd, Nat.reduceLeDiff, Nat.reduceLT, reduceCtorEq, Nat.reduceMul, Nat.reduceSub, Int.reduceEq, Int.reduceLT, Int.reduceLE, Int.reduceToNat]
  refine vcCall.f (rtext_ok _ _ _) ?_
  simp only [go_sem, ↓reduceIte, Nat.reduceEqDiff, Nat.reduceBEq, Nat.reduceAdd, Nat.reduceLeDiff, Nat.reduceLT, reduceCtorEq, Nat.reduceMul, Nat.reduceSub, Int.reduceEq, Int.reduceLT, Int.reduceLE, Int.reduceToNat]
  refine loop (fun p : Nat × Nat => ⟨[(0, .ds (mapC pkC l)), (3, .bx m 0), (4, .bx (m + 1) 0), (8, .s (typT v)), (9, .bx (m + 4) 0), (10, .i .i64 p.1)],
      (m + 4, .bx [.i .i64 6, .i .i64 0, .s ⟨#[]⟩, .rw (m + 3) (onP (typT v) (l.take p.1)).length ((onP (typT v) (l.take p.1)).length + 1), .rw (m + 2) (onP (typT v) (l.take p.1)).length ((onP (typT v) (l.take p.1)).length + 1)]) ::
      (m + 3, .rw (onP (typT v) (l.take p.1)).length 5 (mapC valC (.mk 3 0 (typT v) [] [] :: (onP (typT v) (l.take p.1)).map (stripE v)))) :: (m + 2, .rw (onP (typT v) (l.take p.1)).length 1 (stC (ttN :: (onP (typT v) (l.take p.1)).map Pk.key))) ::
      (m + 1, .bx [.i .i64 0, .i .i64 0, .s ⟨#[]⟩, .e0, .e0]) :: (m, .bx [.i .i64 v.k, .i .i64 v.n, .s v.s, .ds (mapC valC v.items), .ds (stC v.keys)]) :: hp, p.2⟩)
    (fun p => p.1 ≤ l.length ∧ m + 5 ≤ p.2) (fun p => l.length - p.1) (0, m + 5) ?_ ?_ (fun ⟨j, o⟩ hj => ?_)
  · exact ⟨Nat.zero_le _, Nat.le_refl _⟩
  · have h0 : onP (typT v) [] = [] := rfl
    refine weak_ok ?_ (Sub.cons ?_ (Sub.cons ?_ (Sub.cons ?_ (Sub.cons ?_ (Sub.cons ?_ (Sub.base hf ?_)))))) (Nat.le_refl _)
    all_goals first | (simp only [go_sem, ↓reduceIte, Nat.reduceEqDiff, Nat.reduceBEq, Nat.reduceAdd, Nat.reduceLeDiff, Nat.reduceLT, reduceCtorEq, Nat.reduceMul, Nat.reduceSub, Int.reduceEq, Int.reduceLT, Int.reduceLE, Int.reduceToNat]; done) | (simp only [List.take_zero, h0, List.map_nil, List.length_nil]; simp only [go_sem, ↓reduceIte, Nat.reduceEqDiff, Nat.reduceBEq, Nat.reduceAdd, Nat.reduceLeDiff, Nat.reduceLT, reduceCtorEq, Nat.reduceMul, Nat.reduceSub, Int.reduceEq, Int.reduceLT, Int.reduceLE, Int.reduceToNat]; done) | (simp only [List.take_zero, h0, List.map_nil, List.length_nil]; simp only [go_sem, ↓reduceIte, Nat.reduceEqDiff, Nat.reduceBEq, Nat.reduceAdd, Nat.reduceLeDiff, Nat.reduceLT, reduceCtorEq, Nat.reduceMul, Nat.reduceSub, Int.reduceEq, Int.reduceLT, Int.reduceLE, Int.reduceToNat]; rfl) | trace_state
  dsimp only at hj
  obtain ⟨hj1, hj2⟩ := hj
  have p0 : ¬ o = m := by omega
  have q0 : ¬ m = o := by omega
  have r0 : m ≤ o := by omega
  have p1 : ¬ o + 1 = m := by omega
  have q1 : ¬ m = o + 1 := by omega
  have r1 : m ≤ o + 1 := by omega
  have p2 : ¬ o + 2 = m := by omega
  have q2 : ¬ m = o + 2 := by omega
  have r2 : m ≤ o + 2 := by omega
  have p3 : ¬ o + 3 = m := by omega
  have q3 : ¬ m = o + 3 := by omega
  have r3 : m ≤ o + 3 := by omega
  have p4 : ¬ o + 4 = m := by omega
  have q4 : ¬ m = o + 4 := by omega
  have r4 : m ≤ o + 4 := by omega
  have p5 : ¬ o + 5 = m := by omega
  have q5 : ¬ m = o + 5 := by omega
  have r5 : m ≤ o + 5 := by omega
  have p6 : ¬ o + 6 = m := by omega
  have q6 : ¬ m = o + 6 := by omega
  have r6 : m ≤ o + 6 := by omega
  have p7 : ¬ o + 7 = m := by omega
  have q7 : ¬ m = o + 7 := by omega
  have r7 : m ≤ o + 7 := by omega
  have p8 : ¬ o + 8 = m := by omega
  have q8 : ¬ m = o + 8 := by omega
  have r8 : m ≤ o + 8 := by omega
  have p9 : ¬ o + 9 = m := by omega
  have q9 : ¬ m = o + 9 := by omega
  have r9 : m ≤ o + 9 := by omega
  have p10 : ¬ o + 10 = m := by omega
  have q10 : ¬ m = o + 10 := by omega
  have r10 : m ≤ o + 10 := by omega
  have p11 : ¬ o + 11 = m := by omega
  have q11 : ¬ m = o + 11 := by omega
  have r11 : m ≤ o + 11 := by omega
  have p12 : ¬ o + 12 = m := by omega
  have q12 : ¬ m = o + 12 := by omega
  have r12 : m ≤ o + 12 := by omega
  have p13 : ¬ o + 13 = m := by omega
  have q13 : ¬ m = o + 13 := by omega
  have r13 : m ≤ o + 13 := by omega
  have p14 : ¬ o + 14 = m := by omega
  have q14 : ¬ m = o + 14 := by omega
  have r14 : m ≤ o + 14 := by omega
  have p15 : ¬ o + 15 = m := by omega
  have q15 : ¬ m = o + 15 := by omega
  have r15 : m ≤ o + 15 := by omega
  have p16 : ¬ o + 16 = m := by omega
  have q16 : ¬ m = o + 16 := by omega
  have r16 : m ≤ o + 16 := by omega
  have p17 : ¬ o + 17 = m := by omega
  have q17 : ¬ m = o + 17 := by omega
  have r17 : m ≤ o + 17 := by omega
  have p18 : ¬ o + 18 = m := by omega
  have q18 : ¬ m = o + 18 := by omega
  have r18 : m ≤ o + 18 := by omega
  have p19 : ¬ o + 19 = m := by omega
  have q19 : ¬ m = o + 19 := by omega
  have r19 : m ≤ o + 19 := by omega
  have p20 : ¬ o + 20 = m := by omega
  have q20 : ¬ m = o + 20 := by omega
  have r20 : m ≤ o + 20 := by omega
  have p21 : ¬ o + 21 = m := by omega
  have q21 : ¬ m = o + 21 := by omega
  have r21 : m ≤ o + 21 := by omega
  have p22 : ¬ o + 22 = m := by omega
  have q22 : ¬ m = o + 22 := by omega
  have r22 : m ≤ o + 22 := by omega
  have p23 : ¬ o + 23 = m := by omega
  have q23 : ¬ m = o + 23 := by omega
  have r23 : m ≤ o + 23 := by omega
  have p24 : ¬ o + 24 = m := by omega
  have q24 : ¬ m = o + 24 := by omega
  have r24 : m ≤ o + 24 := by omega
  have u1 : ¬ o = m + 1 := by omega
  have v1 : ¬ m + 1 = o := by omega
  have u2 : ¬ o = m + 2 := by omega
  have v2 : ¬ m + 2 = o := by omega
  have u3 : ¬ o = m + 3 := by omega
  have v3 : ¬ m + 3 = o := by omega
  have u4 : ¬ o = m + 4 := by omega
  have v4 : ¬ m + 4 = o := by omega
  obtain ⟨Y, hY⟩ : ∃ Y, onP (typT v) (l.take j) = Y := ⟨_, rfl⟩
  have hYl := onP_len (typT v) (l.take j)
  rw [hY, List.length_take] at hYl
  rw [hY]
  obtain ⟨K, hK⟩ : ∃ K, Y.map Pk.key = K := ⟨_, rfl⟩
  obtain ⟨I, hI⟩ : ∃ I, Y.map (stripE v) = I := ⟨_, rfl⟩
  obtain ⟨c, hc⟩ : ∃ c, Y.length = c := ⟨_, rfl⟩
  have hKl : K.length = c := by rw [← hK, List.length_map, hc]
  have hIl : I.length = c := by rw [← hI, List.length_map, hc]
  rw [hK, hI, hc]
  rw [hc] at hYl
  simp only [p0, q0, r0, p1, q1, r1, p2, q2, r2, p3, q3, r3, p4, q4, r4, p5, q5, r5, p6, q6, r6, p7, q7, r7, p8, q8, r8, p9, q9, r9, p10, q10, r10, p11, q11, r11, p12, q12, r12, p13, q13, r13, p14, q14, r14, p15, q15, r15, p16, q16, r16, p17, q17, r17, p18, q18, r18, p19, q19, r19, p20, q20, r20, p21, q21, r21, p22, q22, r22, p23, q23, r23, p24, q24, r24, u1, v1, u2, v2, u3, v3, u4, v4, hKl, hIl, go_sem, ↓reduceIte, Nat.reduceEqDiff, Nat.reduceBEq, Nat.reduceAdd, Nat.reduceLeDiff, Nat.reduceLT, reduceCtorEq, Nat.reduceMul, Nat.reduceSub, Int.reduceEq, Int.reduceLT, Int.reduceLE, Int.reduceToNat]
  refine cdK_of (fun d => ?_) (fun d => ?_)
  · have d : j < l.length := by simpa using d
    obtain ⟨p, ep⟩ : ∃ p, l[j]? = some p := ⟨l[j]'(by omega), by simp⟩
    have hpm := List.mem_of_getElem? ep
    have hsn := onP_snoc (typT v) (l.take j) p
    rw [take_snoc ep, hY] at hsn
    have k2 : (c + 2) * 80 ≤ 140737488355328 := by omega
    have k3 : (c + 2) * 16 ≤ 140737488355328 := by omega
    have k4 : c ≤ 9223372036854775805 := by omega
    have k5 : l.length - (j + 1) < l.length - j := by omega
    have k6 : j < 9223372036854775807 := by omega
    simp only [p0, q0, r0, p1, q1, r1, p2, q2, r2, p3, q3, r3, p4, q4, r4, p5, q5, r5, p6, q6, r6, p7, q7, r7, p8, q8, r8, p9, q9, r9, p10, q10, r10, p11, q11, r11, p12, q12, r12, p13, q13, r13, p14, q14, r14, p15, q15, r15, p16, q16, r16, p17, q17, r17, p18, q18, r18, p19, q19, r19, p20, q20, r20, p21, q21, r21, p22, q22, r22, p23, q23, r23, p24, q24, r24, u1, v1, u2, v2, u3, v3, u4, v4, d, getK_s (mapC_get pkC ep), hKl, hIl, go_sem, ↓reduceIte, Nat.reduceEqDiff, Nat.reduceBEq, Nat.reduceAdd, Nat.reduceLeDiff, Nat.reduceLT, reduceCtorEq, Nat.reduceMul, Nat.reduceSub, Int.reduceEq, Int.reduceLT, Int.reduceLE, Int.reduceToNat]
    refine cdK_of (fun d1 => ?_) (fun d1 => ?_)
    · have d1 : ¬ p.on = typT v := by simpa using d1
      rw [if_neg d1] at hsn
      simp only [p0, q0, r0, p1, q1, r1, p2, q2, r2, p3, q3, r3, p4, q4, r4, p5, q5, r5, p6, q6, r6, p7, q7, r7, p8, q8, r8, p9, q9, r9, p10, q10, r10, p11, q11, r11, p12, q12, r12, p13, q13, r13, p14, q14, r14, p15, q15, r15, p16, q16, r16, p17, q17, r17, p18, q18, r18, p19, q19, r19, p20, q20, r20, p21, q21, r21, p22, q22, r22, p23, q23, r23, p24, q24, r24, u1, v1, u2, v2, u3, v3, u4, v4, hKl, hIl, go_sem, ↓reduceIte, Nat.reduceEqDiff, Nat.reduceBEq, Nat.reduceAdd, Nat.reduceLeDiff, Nat.reduceLT, reduceCtorEq, Nat.reduceMul, Nat.reduceSub, Int.reduceEq, Int.reduceLT, Int.reduceLE, Int.reduceToNat]
      refine ⟨(j + 1, _), ⟨d, ?_⟩, k5, weak_ok ?_ (Sub.cons ?_ (Sub.cons ?_ (Sub.cons ?_ (Sub.cons ?_ (Sub.cons ?_ (Sub.base hf ?_)))))) (Nat.le_refl _)⟩
      all_goals first | ((simp only [p0, q0, r0, p1, q1, r1, p2, q2, r2, p3, q3, r3, p4, q4, r4, p5, q5, r5, p6, q6, r6, p7, q7, r7, p8, q8, r8, p9, q9, r9, p10, q10, r10, p11, q11, r11, p12, q12, r12, p13, q13, r13, p14, q14, r14, p15, q15, r15, p16, q16, r16, p17, q17, r17, p18, q18, r18, p19, q19, r19, p20, q20, r20, p21, q21, r21, p22, q22, r22, p23, q23, r23, p24, q24, r24, u1, v1, u2, v2, u3, v3, u4, v4, wr64s j k6, hsn, hK, hI, hc, go_sem, ↓reduceIte, Nat.reduceEqDiff, Nat.reduceBEq, Nat.reduceAdd, Nat.reduceLeDiff, Nat.reduceLT, reduceCtorEq, Nat.reduceMul, Nat.reduceSub, Int.reduceEq, Int.reduceLT, Int.reduceLE, Int.reduceToNat]); done) | (dsimp only; omega) | trace_state
    · have d1 : p.on = typT v := by simpa using d1
      rw [if_pos d1] at hsn
      simp only [p0, q0, r0, p1, q1, r1, p2, q2, r2, p3, q3, r3, p4, q4, r4, p5, q5, r5, p6, q6, r6, p7, q7, r7, p8, q8, r8, p9, q9, r9, p10, q10, r10, p11, q11, r11, p12, q12, r12, p13, q13, r13, p14, q14, r14, p15, q15, r15, p16, q16, r16, p17, q17, r17, p18, q18, r18, p19, q19, r19, p20, q20, r20, p21, q21, r21, p22, q22, r22, p23, q23, r23, p24, q24, r24, u1, v1, u2, v2, u3, v3, u4, v4, hKl, hIl, d, getK_s (mapC_get pkC ep), go_sem, ↓reduceIte, Nat.reduceEqDiff, Nat.reduceBEq, Nat.reduceAdd, Nat.reduceLeDiff, Nat.reduceLT, reduceCtorEq, Nat.reduceMul, Nat.reduceSub, Int.reduceEq, Int.reduceLT, Int.reduceLE, Int.reduceToNat]
      have hg := rget_ok v fv p.key
      have hpl : wtKs p.picks ≤ 100000000000 := by have := wtKs_mem hpm; have := wtK_eq p; omega
      obtain ⟨G, hG⟩ : ∃ G, getV v p.key = G := ⟨_, rfl⟩
      have hE : stripE v p = G.elim (failV svN) (fun x => stripV x p.picks) := by unfold stripE; rw [hG]; cases G <;> rfl
      rw [hG] at hg
      have e1 : (Y ++ [p]).map Pk.key = K ++ [p.key] := by rw [List.map_append, hK]; rfl
      have e2 : (Y ++ [p]).map (stripE v) = I ++ [stripE v p] := by rw [List.map_append, hI]; rfl
      have e3 : (Y ++ [p]).length = c + 1 := by rw [List.length_append, hc]; rfl
      rw [hE] at e2
      refine dCallR.f (fun _ hp' _ => hg hp' _) ?_
      cases G with
      | none =>
        dsimp only [Option.elim] at e2
        have kz : mapC valC (I ++ [failV svN]) = mapC valC I ++ [[.i .i64 9, .i .i64 0, .s svN, .ds [], .ds []]] := by simp [mapC]; rfl
        simp only [p0, q0, r0, p1, q1, r1, p2, q2, r2, p3, q3, r3, p4, q4, r4, p5, q5, r5, p6, q6, r6, p7, q7, r7, p8, q8, r8, p9, q9, r9, p10, q10, r10, p11, q11, r11, p12, q12, r12, p13, q13, r13, p14, q14, r14, p15, q15, r15, p16, q16, r16, p17, q17, r17, p18, q18, r18, p19, q19, r19, p20, q20, r20, p21, q21, r21, p22, q22, r22, p23, q23, r23, p24, q24, r24, u1, v1, u2, v2, u3, v3, u4, v4, d, getK_s (mapC_get pkC ep), hKl, hIl, k2, k3, k4, go_sem, ↓reduceIte, Nat.reduceEqDiff, Nat.reduceBEq, Nat.reduceAdd, Nat.reduceLeDiff, Nat.reduceLT, reduceCtorEq, Nat.reduceMul, Nat.reduceSub, Int.reduceEq, Int.reduceLT, Int.reduceLE, Int.reduceToNat]
        refine ⟨(j + 1, _), ⟨d, ?_⟩, k5, weak_ok ?_ (Sub.cons ?_ (Sub.cons ?_ (Sub.cons ?_ (Sub.cons ?_ (Sub.cons ?_ (Sub.base hf ?_)))))) (Nat.le_refl _)⟩
        all_goals first | ((simp only [p0, q0, r0, p1, q1, r1, p2, q2, r2, p3, q3, r3, p4, q4, r4, p5, q5, r5, p6, q6, r6, p7, q7, r7, p8, q8, r8, p9, q9, r9, p10, q10, r10, p11, q11, r11, p12, q12, r12, p13, q13, r13, p14, q14, r14, p15, q15, r15, p16, q16, r16, p17, q17, r17, p18, q18, r18, p19, q19, r19, p20, q20, r20, p21, q21, r21, p22, q22, r22, p23, q23, r23, p24, q24, r24, u1, v1, u2, v2, u3, v3, u4, v4, wr64s j k6, hsn, e1, e2, e3, go_sem, ↓reduceIte, Nat.reduceEqDiff, Nat.reduceBEq, Nat.reduceAdd, Nat.reduceLeDiff, Nat.reduceLT, reduceCtorEq, Nat.reduceMul, Nat.reduceSub, Int.reduceEq, Int.reduceLT, Int.reduceLE, Int.reduceToNat]); done) | (dsimp only; omega) | ((simp only [p0, q0, r0, p1, q1, r1, p2, q2, r2, p3, q3, r3, p4, q4, r4, p5, q5, r5, p6, q6, r6, p7, q7, r7, p8, q8, r8, p9, q9, r9, p10, q10, r10, p11, q11, r11, p12, q12, r12, p13, q13, r13, p14, q14, r14, p15, q15, r15, p16, q16, r16, p17, q17, r17, p18, q18, r18, p19, q19, r19, p20, q20, r20, p21, q21, r21, p22, q22, r22, p23, q23, r23, p24, q24, r24, u1, v1, u2, v2, u3, v3, u4, v4, hsn, e1, e2, e3, go_sem, ↓reduceIte, Nat.reduceEqDiff, Nat.reduceBEq, Nat.reduceAdd, Nat.reduceLeDiff, Nat.reduceLT, reduceCtorEq, Nat.reduceMul, Nat.reduceSub, Int.reduceEq, Int.reduceLT, Int.reduceLE, Int.reduceToNat]); exact congrArg (fun l => Chunk.rw (c + 1) 5 ([.i .i64 3, .i .i64 0, .s (typT v), .ds [], .ds []] :: l)) kz.symm) | trace_state
      | some x =>
        dsimp only [Option.elim] at e2
        have hs := ih x (getV_mem hG) p.picks hpl
        obtain ⟨S, hS⟩ : ∃ S, stripV x p.picks = S := ⟨_, rfl⟩
        rw [hS] at hs e2
        simp only [p0, q0, r0, p1, q1, r1, p2, q2, r2, p3, q3, r3, p4, q4, r4, p5, q5, r5, p6, q6, r6, p7, q7, r7, p8, q8, r8, p9, q9, r9, p10, q10, r10, p11, q11, r11, p12, q12, r12, p13, q13, r13, p14, q14, r14, p15, q15, r15, p16, q16, r16, p17, q17, r17, p18, q18, r18, p19, q19, r19, p20, q20, r20, p21, q21, r21, p22, q22, r22, p23, q23, r23, p24, q24, r24, u1, v1, u2, v2, u3, v3, u4, v4, d, getK_s (mapC_get pkC ep), hKl, hIl, k2, k3, k4, go_sem, ↓reduceIte, Nat.reduceEqDiff, Nat.reduceBEq, Nat.reduceAdd, Nat.reduceLeDiff, Nat.reduceLT, reduceCtorEq, Nat.reduceMul, Nat.reduceSub, Int.reduceEq, Int.reduceLT, Int.reduceLE, Int.reduceToNat]
        refine dCallR.f (fun _ hp' _ => hs hp' _) ?_
        simp only [p0, q0, r0, p1, q1, r1, p2, q2, r2, p3, q3, r3, p4, q4, r4, p5, q5, r5, p6, q6, r6, p7, q7, r7, p8, q8, r8, p9, q9, r9, p10, q10, r10, p11, q11, r11, p12, q12, r12, p13, q13, r13, p14, q14, r14, p15, q15, r15, p16, q16, r16, p17, q17, r17, p18, q18, r18, p19, q19, r19, p20, q20, r20, p21, q21, r21, p22, q22, r22, p23, q23, r23, p24, q24, r24, u1, v1, u2, v2, u3, v3, u4, v4, d, getK_s (mapC_get pkC ep), hKl, hIl, k2, k3, k4, go_sem, ↓reduceIte, Nat.reduceEqDiff, Nat.reduceBEq, Nat.reduceAdd, Nat.reduceLeDiff, Nat.reduceLT, reduceCtorEq, Nat.reduceMul, Nat.reduceSub, Int.reduceEq, Int.reduceLT, Int.reduceLE, Int.reduceToNat]
        refine ⟨(j + 1, _), ⟨d, ?_⟩, k5, weak_ok ?_ (Sub.cons ?_ (Sub.cons ?_ (Sub.cons ?_ (Sub.cons ?_ (Sub.cons ?_ (Sub.base hf ?_)))))) (Nat.le_refl _)⟩
        all_goals first | ((simp only [p0, q0, r0, p1, q1, r1, p2, q2, r2, p3, q3, r3, p4, q4, r4, p5, q5, r5, p6, q6, r6, p7, q7, r7, p8, q8, r8, p9, q9, r9, p10, q10, r10, p11, q11, r11, p12, q12, r12, p13, q13, r13, p14, q14, r14, p15, q15, r15, p16, q16, r16, p17, q17, r17, p18, q18, r18, p19, q19, r19, p20, q20, r20, p21, q21, r21, p22, q22, r22, p23, q23, r23, p24, q24, r24, u1, v1, u2, v2, u3, v3, u4, v4, wr64s j k6, hsn, e1, e2, e3, go_sem, ↓reduceIte, Nat.reduceEqDiff, Nat.reduceBEq, Nat.reduceAdd, Nat.reduceLeDiff, Nat.reduceLT, reduceCtorEq, Nat.reduceMul, Nat.reduceSub, Int.reduceEq, Int.reduceLT, Int.reduceLE, Int.reduceToNat]); done) | (dsimp only; omega) | trace_state
  · have d : j = l.length := by simp at d; omega
    subst d
    rw [List.take_length] at hY
    rw [hY, hK, hI]
    have t1 : K.take c = K := List.take_of_length_le (by omega)
    have t2 : I.take c = I := List.take_of_length_le (by omega)
    simp only [p0, q0, r0, p1, q1, r1, p2, q2, r2, p3, q3, r3, p4, q4, r4, p5, q5, r5, p6, q6, r6, p7, q7, r7, p8, q8, r8, p9, q9, r9, p10, q10, r10, p11, q11, r11, p12, q12, r12, p13, q13, r13, p14, q14, r14, p15, q15, r15, p16, q16, r16, p17, q17, r17, p18, q18, r18, p19, q19, r19, p20, q20, r20, p21, q21, r21, p22, q22, r22, p23, q23, r23, p24, q24, r24, u1, v1, u2, v2, u3, v3, u4, v4, hKl, hIl, t1, t2, go_sem, ↓reduceIte, Nat.reduceEqDiff, Nat.reduceBEq, Nat.reduceAdd, Nat.reduceLeDiff, Nat.reduceLT, reduceCtorEq, Nat.reduceMul, Nat.reduceSub, Int.reduceEq, Int.reduceLT, Int.reduceLE, Int.reduceToNat]
theorem rstrip_ok (v : Val) : wtV v ≤ 100000000000 → ∀ (l : List Pk), wtKs l ≤ 100000000000 → ∀ hp m, MeetsF Try.prog 38 hp m [.ds (mapC pkC l), vx v] (vx (stripV v l)) :=
  Val.ind (Q := fun v => wtV v ≤ 100000000000 → ∀ (l : List Pk), wtKs l ≤ 100000000000 → ∀ hp m, MeetsF Try.prog 38 hp m [.ds (mapC pkC l), vx v] (vx (stripV v l)))
    (fun v ih hw l hl hp m => rstrip_of v hw (fun x hx l hl => ih x hx (by have := wt_mem hx; omega) l hl) l hl hp m) v
end Go.Proofs.Ytmcgjccheehehaa
