/-
  The parts SaK of the proof, in one file. Conditions: none.
-/
import Derived.Test.YtmcgjccheehehaaQsv37
namespace Go.Proofs.Ytmcgjccheehehaa
open Go.Eng
set_option linter.unusedVariables false
set_option linter.unusedSimpArgs false
set_option maxRecDepth 20000
set_option maxHeartbeats 2000000
/-- Two small values, or a value and itself. -/
def Jr (a b : Val) : Prop := (wtV a ≤ 100000000000 ∧ wtV b ≤ 100000000000) ∨ (a = b ∧ Sf a)
theorem join_okS (a : Val) : ∀ b, Jr a b → ∀ hp m, MeetsF Try.prog 34 hp m [vx a, vx b] (vx (joinV a b)) := by
  refine Val.ind (Q := fun a => ∀ b, Jr a b → ∀ hp m, MeetsF Try.prog 34 hp m [vx a, vx b] (vx (joinV a b))) (fun a ih b J hp m => ?_) a
  have fa : a.Fit := by
    rcases J with ⟨ha, hb⟩ | ⟨rfl, h⟩
    · exact wtV_fit a (by omega)
    · exact h.f
  have fb : b.Fit := by
    rcases J with ⟨ha, hb⟩ | ⟨rfl, h⟩
    · exact wtV_fit b (by omega)
    · exact h.f
  have la : a.items.length ≤ 1759218604441 := by have := fa.i; omega
  have lb : b.items.length ≤ 1759218604441 := by have := fb.i; omega
  have hc1 := copy_ok a fa
  have hc2 := copy_ok b fb
  have e := joinV_eq a b
  have hob := fun h6 : b.k = 6 => jobj_of a b fa fb (by
      rcases J with ⟨ha, hb⟩ | ⟨rfl, h⟩
      · exact .inl ⟨by have := wtL_len a.items; have := wtV_eq a; omega, by have := wtL_len b.items; have := wtV_eq b; omega⟩
      · exact .inr ⟨h.n, (h.o h6).2⟩) h6 (fun j x k y ex ek ey hp m => ih x (List.mem_of_getElem? ex) y (by
      rcases J with ⟨ha, hb⟩ | ⟨rfl, h⟩
      · exact .inl ⟨by have := wt_mem (List.mem_of_getElem? ex); omega, by have := wt_mem (List.mem_of_getElem? ey); omega⟩
      · exact .inr ⟨((h.o h6).1 j x k y ex ek ey).symm, h.x x (List.mem_of_getElem? ex)⟩) hp m)
  obtain ⟨R, hR⟩ : ∃ R, joinV a b = R := ⟨_, rfl⟩
  rw [hR] at e ⊢
  refine meetsF Try.func34 (by kernel_rfl) cc34 cr34 rfl fun hf => ?_; unfold ck34
  simp only [go_sem, ↓reduceIte, Nat.reduceEqDiff, Nat.reduceBEq, Nat.reduceAdd, Nat.reduceLeDiff, Nat.reduceLT, reduceCtorEq, Nat.reduceMul, Nat.reduceSub, Int.reduceEq, Int.reduceLT, Int.reduceLE, Int.reduceToNat]
  refine cdK_of (fun c => ?_) (fun c => ?_)
  · have c : b.k = 9 := by simpa using c
    rw [if_pos c] at e
    subst e
    simp only [go_sem, ↓reduceIte, Nat.reduceEqDiff, Nat.reduceBEq, Nat.reduceAdd, Nat.reduceLeDiff, Nat.reduceLT, reduceCtorEq, Nat.reduceMul, Nat.reduceSub, Int.reduceEq, Int.reduceLT, Int.reduceLE, Int.reduceToNat]
    refine vcCall.f (hc1 _ _) ?_
    simp only [go_sem, ↓reduceIte, Nat.reduceEqDiff, Nat.reduceBEq, Nat.reduceAdd, Nat.reduceLeDiff, Nat.reduceLT, reduceCtorEq, Nat.reduceMul, Nat.reduceSub, Int.reduceEq, Int.reduceLT, Int.reduceLE, Int.reduceToNat]
  have c : ¬ b.k = 9 := by simpa using c
  rw [if_neg c] at e
  simp only [go_sem, ↓reduceIte, Nat.reduceEqDiff, Nat.reduceBEq, Nat.reduceAdd, Nat.reduceLeDiff, Nat.reduceLT, reduceCtorEq, Nat.reduceMul, Nat.reduceSub, Int.reduceEq, Int.reduceLT, Int.reduceLE, Int.reduceToNat]
  refine cdK_of (fun c1 => ?_) (fun c1 => ?_)
  · have c1 : a.k = 9 ∨ a.k = 0 := by simpa using c1
    rw [if_pos c1] at e
    subst e
    simp only [go_sem, ↓reduceIte, Nat.reduceEqDiff, Nat.reduceBEq, Nat.reduceAdd, Nat.reduceLeDiff, Nat.reduceLT, reduceCtorEq, Nat.reduceMul, Nat.reduceSub, Int.reduceEq, Int.reduceLT, Int.reduceLE, Int.reduceToNat]
    refine vcCall.f (hc2 _ _) ?_
    simp only [go_sem, ↓reduceIte, Nat.reduceEqDiff, Nat.reduceBEq, Nat.reduceAdd, Nat.reduceLeDiff, Nat.reduceLT, reduceCtorEq, Nat.reduceMul, Nat.reduceSub, Int.reduceEq, Int.reduceLT, Int.reduceLE, Int.reduceToNat]
  have c1 : ¬ (a.k = 9 ∨ a.k = 0) := by simpa using c1
  rw [if_neg c1] at e
  simp only [go_sem, ↓reduceIte, Nat.reduceEqDiff, Nat.reduceBEq, Nat.reduceAdd, Nat.reduceLeDiff, Nat.reduceLT, reduceCtorEq, Nat.reduceMul, Nat.reduceSub, Int.reduceEq, Int.reduceLT, Int.reduceLE, Int.reduceToNat]
  refine dCall.f (fun _ hp' _ => stypeOf_ok a fa hp' _) ?_
  simp only [go_sem, ↓reduceIte, Nat.reduceEqDiff, Nat.reduceBEq, Nat.reduceAdd, Nat.reduceLeDiff, Nat.reduceLT, reduceCtorEq, Nat.reduceMul, Nat.reduceSub, Int.reduceEq, Int.reduceLT, Int.reduceLE, Int.reduceToNat]
  refine dCall.f (fun _ hp' _ => stypeOf_ok b fb hp' _) ?_
  simp only [go_sem, ↓reduceIte, Nat.reduceEqDiff, Nat.reduceBEq, Nat.reduceAdd, Nat.reduceLeDiff, Nat.reduceLT, reduceCtorEq, Nat.reduceMul, Nat.reduceSub, Int.reduceEq, Int.reduceLT, Int.reduceLE, Int.reduceToNat]
  refine cdK_of (fun c2 => ?_) (fun c2 => ?_)
  · have c2 : (a.k = 6 ∧ b.k = 6) ∧ typT a = typT b := by simpa using c2
    rw [if_pos c2] at e
    subst e
    simp only [go_sem, ↓reduceIte, Nat.reduceEqDiff, Nat.reduceBEq, Nat.reduceAdd, Nat.reduceLeDiff, Nat.reduceLT, reduceCtorEq, Nat.reduceMul, Nat.reduceSub, Int.reduceEq, Int.reduceLT, Int.reduceLE, Int.reduceToNat]
    refine vcCall.f (hob c2.1.2 _ _) ?_
    simp only [go_sem, ↓reduceIte, Nat.reduceEqDiff, Nat.reduceBEq, Nat.reduceAdd, Nat.reduceLeDiff, Nat.reduceLT, reduceCtorEq, Nat.reduceMul, Nat.reduceSub, Int.reduceEq, Int.reduceLT, Int.reduceLE, Int.reduceToNat]
  have c2 : ¬ ((a.k = 6 ∧ b.k = 6) ∧ typT a = typT b) := by
    intro q
    simp [q.1.1, q.1.2, q.2] at c2
  rw [if_neg c2] at e
  simp only [go_sem, ↓reduceIte, Nat.reduceEqDiff, Nat.reduceBEq, Nat.reduceAdd, Nat.reduceLeDiff, Nat.reduceLT, reduceCtorEq, Nat.reduceMul, Nat.reduceSub, Int.reduceEq, Int.reduceLT, Int.reduceLE, Int.reduceToNat]
  refine cdK_of (fun c3 => ?_) (fun c3 => ?_)
  · have c3 : (a.k = 5 ∧ b.k = 5) ∧ a.items.length = b.items.length := by
      simp only [Bool.and_eq_true, decide_eq_true_eq] at c3
      exact ⟨c3.1, by have := c3.2; omega⟩
    rw [if_pos c3] at e
    subst e
    simp only [go_sem, ↓reduceIte, Nat.reduceEqDiff, Nat.reduceBEq, Nat.reduceAdd, Nat.reduceLeDiff, Nat.reduceLT, reduceCtorEq, Nat.reduceMul, Nat.reduceSub, Int.reduceEq, Int.reduceLT, Int.reduceLE, Int.reduceToNat]
    have hIl : ∀ j, j ≤ a.items.length → (joinL (a.items.take j) (b.items.take j)).length = j := fun j hj => by rw [joinL_len, List.length_take, List.length_take]; omega
    refine loop (fun p : Nat × Nat => ⟨[(3, .bx (m + 1) 0), (4, .bx (m + 2) 0), (5, .bx (m + 19) 0), (64, .ds (mapC valC a.items)), (65, .i .i64 a.items.length), (66, .i .i64 p.1)],
        (m + 19, .bx [.i .i64 5, .i .i64 0, .s ⟨#[]⟩, .rw (m + 20) p.1 p.1, .e0]) :: (m + 20, .rw p.1 5 (mapC valC (joinL (a.items.take p.1) (b.items.take p.1)))) ::
        (m + 2, .bx [.i .i64 0, .i .i64 0, .s ⟨#[]⟩, .e0, .e0]) :: (m + 1, .bx [.i .i64 b.k, .i .i64 b.n, .s b.s, .ds (mapC valC b.items), .ds (stC b.keys)]) :: hp, p.2⟩)
      (fun p => p.1 ≤ a.items.length ∧ m + 21 ≤ p.2) (fun p => a.items.length - p.1) (0, m + 21) ?_ ?_ (fun ⟨j, n⟩ hj => ?_)
    · exact ⟨Nat.zero_le _, Nat.le_refl _⟩
    · refine (weak_b0 (c := m + 19) (i := 3) (m := 5) (cs := [.i .i64 5, .i .i64 0, .s ⟨#[]⟩, .e0, .e0]) gc_cons_same rfl).trans (weak_ok ?_ (Sub.cons ?_ (Sub.cons ?_ (Sub.cons ?_ (Sub.cons ?_ (Sub.base hf ?_))))) (Nat.le_refl _))
      all_goals first | (simp only [go_sem, ↓reduceIte, Nat.reduceEqDiff, Nat.reduceBEq, Nat.reduceAdd, Nat.reduceLeDiff, Nat.reduceLT, reduceCtorEq, Nat.reduceMul, Nat.reduceSub, Int.reduceEq, Int.reduceLT, Int.reduceLE, Int.reduceToNat]; done) | exact gc_cons_same | (simp only [List.take_zero, joinL]; simp only [go_sem, ↓reduceIte, Nat.reduceEqDiff, Nat.reduceBEq, Nat.reduceAdd, Nat.reduceLeDiff, Nat.reduceLT, reduceCtorEq, Nat.reduceMul, Nat.reduceSub, Int.reduceEq, Int.reduceLT, Int.reduceLE, Int.reduceToNat]; done) | trace_state
    dsimp only at hj
    obtain ⟨hj1, hj2⟩ := hj
    have p0 : ¬ n = m := by omega
    have q0 : ¬ m = n := by omega
    have r0 : m ≤ n := by omega
    have p1 : ¬ n + 1 = m := by omega
    have q1 : ¬ m = n + 1 := by omega
    have r1 : m ≤ n + 1 := by omega
    have p2 : ¬ n + 2 = m := by omega
    have q2 : ¬ m = n + 2 := by omega
    have r2 : m ≤ n + 2 := by omega
    have p3 : ¬ n + 3 = m := by omega
    have q3 : ¬ m = n + 3 := by omega
    have r3 : m ≤ n + 3 := by omega
    have p4 : ¬ n + 4 = m := by omega
    have q4 : ¬ m = n + 4 := by omega
    have r4 : m ≤ n + 4 := by omega
    have p5 : ¬ n + 5 = m := by omega
    have q5 : ¬ m = n + 5 := by omega
    have r5 : m ≤ n + 5 := by omega
    have p6 : ¬ n + 6 = m := by omega
    have q6 : ¬ m = n + 6 := by omega
    have r6 : m ≤ n + 6 := by omega
    have p7 : ¬ n + 7 = m := by omega
    have q7 : ¬ m = n + 7 := by omega
    have r7 : m ≤ n + 7 := by omega
    have p8 : ¬ n + 8 = m := by omega
    have q8 : ¬ m = n + 8 := by omega
    have r8 : m ≤ n + 8 := by omega
    have p9 : ¬ n + 9 = m := by omega
    have q9 : ¬ m = n + 9 := by omega
    have r9 : m ≤ n + 9 := by omega
    have p10 : ¬ n + 10 = m := by omega
    have q10 : ¬ m = n + 10 := by omega
    have r10 : m ≤ n + 10 := by omega
    have p11 : ¬ n + 11 = m := by omega
    have q11 : ¬ m = n + 11 := by omega
    have r11 : m ≤ n + 11 := by omega
    have p12 : ¬ n + 12 = m := by omega
    have q12 : ¬ m = n + 12 := by omega
    have r12 : m ≤ n + 12 := by omega
    have p13 : ¬ n + 13 = m := by omega
    have q13 : ¬ m = n + 13 := by omega
    have r13 : m ≤ n + 13 := by omega
    have p14 : ¬ n + 14 = m := by omega
    have q14 : ¬ m = n + 14 := by omega
    have r14 : m ≤ n + 14 := by omega
    have p15 : ¬ n + 15 = m := by omega
    have q15 : ¬ m = n + 15 := by omega
    have r15 : m ≤ n + 15 := by omega
    have p16 : ¬ n + 16 = m := by omega
    have q16 : ¬ m = n + 16 := by omega
    have r16 : m ≤ n + 16 := by omega
    have p17 : ¬ n + 17 = m := by omega
    have q17 : ¬ m = n + 17 := by omega
    have r17 : m ≤ n + 17 := by omega
    have p18 : ¬ n + 18 = m := by omega
    have q18 : ¬ m = n + 18 := by omega
    have r18 : m ≤ n + 18 := by omega
    have p19 : ¬ n + 19 = m := by omega
    have q19 : ¬ m = n + 19 := by omega
    have r19 : m ≤ n + 19 := by omega
    have p20 : ¬ n + 20 = m := by omega
    have q20 : ¬ m = n + 20 := by omega
    have r20 : m ≤ n + 20 := by omega
    have u1 : ¬ n = m + 1 := by omega
    have v1 : ¬ m + 1 = n := by omega
    have u2 : ¬ n = m + 2 := by omega
    have v2 : ¬ m + 2 = n := by omega
    have u3 : ¬ n = m + 3 := by omega
    have v3 : ¬ m + 3 = n := by omega
    have u4 : ¬ n = m + 4 := by omega
    have v4 : ¬ m + 4 = n := by omega
    have u5 : ¬ n = m + 5 := by omega
    have v5 : ¬ m + 5 = n := by omega
    have u6 : ¬ n = m + 6 := by omega
    have v6 : ¬ m + 6 = n := by omega
    have u7 : ¬ n = m + 7 := by omega
    have v7 : ¬ m + 7 = n := by omega
    have u8 : ¬ n = m + 8 := by omega
    have v8 : ¬ m + 8 = n := by omega
    have u9 : ¬ n = m + 9 := by omega
    have v9 : ¬ m + 9 = n := by omega
    have u10 : ¬ n = m + 10 := by omega
    have v10 : ¬ m + 10 = n := by omega
    have u11 : ¬ n = m + 11 := by omega
    have v11 : ¬ m + 11 = n := by omega
    have u12 : ¬ n = m + 12 := by omega
    have v12 : ¬ m + 12 = n := by omega
    have u13 : ¬ n = m + 13 := by omega
    have v13 : ¬ m + 13 = n := by omega
    have u14 : ¬ n = m + 14 := by omega
    have v14 : ¬ m + 14 = n := by omega
    have u15 : ¬ n = m + 15 := by omega
    have v15 : ¬ m + 15 = n := by omega
    have u16 : ¬ n = m + 16 := by omega
    have v16 : ¬ m + 16 = n := by omega
    have u17 : ¬ n = m + 17 := by omega
    have v17 : ¬ m + 17 = n := by omega
    have u18 : ¬ n = m + 18 := by omega
    have v18 : ¬ m + 18 = n := by omega
    have u19 : ¬ n = m + 19 := by omega
    have v19 : ¬ m + 19 = n := by omega
    have u20 : ¬ n = m + 20 := by omega
    have v20 : ¬ m + 20 = n := by omega
    obtain ⟨Y, hY⟩ : ∃ Y, joinL (a.items.take j) (b.items.take j) = Y := ⟨_, rfl⟩
    have hYl := hIl j hj1
    rw [hY] at hYl ⊢
    simp only [p0, q0, r0, p1, q1, r1, p2, q2, r2, p3, q3, r3, p4, q4, r4, p5, q5, r5, p6, q6, r6, p7, q7, r7, p8, q8, r8, p9, q9, r9, p10, q10, r10, p11, q11, r11, p12, q12, r12, p13, q13, r13, p14, q14, r14, p15, q15, r15, p16, q16, r16, p17, q17, r17, p18, q18, r18, p19, q19, r19, p20, q20, r20, u1, v1, u2, v2, u3, v3, u4, v4, u5, v5, u6, v6, u7, v7, u8, v8, u9, v9, u10, v10, u11, v11, u12, v12, u13, v13, u14, v14, u15, v15, u16, v16, u17, v17, u18, v18, u19, v19, u20, v20, go_sem, ↓reduceIte, Nat.reduceEqDiff, Nat.reduceBEq, Nat.reduceAdd, Nat.reduceLeDiff, Nat.reduceLT, reduceCtorEq, Nat.reduceMul, Nat.reduceSub, Int.reduceEq, Int.reduceLT, Int.reduceLE, Int.reduceToNat]
    refine cdK_of (fun d => ?_) (fun d => ?_)
    · have d : j < a.items.length := by simpa using d
      obtain ⟨x, ex⟩ : ∃ x, a.items[j]? = some x := ⟨a.items[j]'(by omega), by simp⟩
      obtain ⟨y, ey⟩ : ∃ y, b.items[j]? = some y := ⟨b.items[j]'(by omega), by simp⟩
      have hxm := List.mem_of_getElem? ex
      have hxy := ih x hxm y (by
        rcases J with ⟨ha, hb⟩ | ⟨rfl, h⟩
        · exact .inl ⟨by have := wt_mem hxm; omega, by have := wt_mem (List.mem_of_getElem? ey); omega⟩
        · rw [ex] at ey
          cases ey
          exact .inr ⟨rfl, h.x x hxm⟩)
      have hsn := joinL_snoc a.items b.items j ex ey
      rw [hY] at hsn
      have k1 : j < b.items.length := by omega
      have k2 : (j + 1) * 80 ≤ 140737488355328 := by omega
      have k4 : j ≤ 9223372036854775806 := by omega
      have k5 : a.items.length - (j + 1) < a.items.length - j := by omega
      have k6 : j < 9223372036854775807 := by omega
      simp only [p0, q0, r0, p1, q1, r1, p2, q2, r2, p3, q3, r3, p4, q4, r4, p5, q5, r5, p6, q6, r6, p7, q7, r7, p8, q8, r8, p9, q9, r9, p10, q10, r10, p11, q11, r11, p12, q12, r12, p13, q13, r13, p14, q14, r14, p15, q15, r15, p16, q16, r16, p17, q17, r17, p18, q18, r18, p19, q19, r19, p20, q20, r20, u1, v1, u2, v2, u3, v3, u4, v4, u5, v5, u6, v6, u7, v7, u8, v8, u9, v9, u10, v10, u11, v11, u12, v12, u13, v13, u14, v14, u15, v15, u16, v16, u17, v17, u18, v18, u19, v19, u20, v20, d, k1, getK_s (mapC_get valC ex), getK_s (mapC_get valC ey), go_sem, ↓reduceIte, Nat.reduceEqDiff, Nat.reduceBEq, Nat.reduceAdd, Nat.reduceLeDiff, Nat.reduceLT, reduceCtorEq, Nat.reduceMul, Nat.reduceSub, Int.reduceEq, Int.reduceLT, Int.reduceLE, Int.reduceToNat]
      refine dCallR.f (fun _ hp' _ => hxy hp' _) ?_
      simp only [p0, q0, r0, p1, q1, r1, p2, q2, r2, p3, q3, r3, p4, q4, r4, p5, q5, r5, p6, q6, r6, p7, q7, r7, p8, q8, r8, p9, q9, r9, p10, q10, r10, p11, q11, r11, p12, q12, r12, p13, q13, r13, p14, q14, r14, p15, q15, r15, p16, q16, r16, p17, q17, r17, p18, q18, r18, p19, q19, r19, p20, q20, r20, u1, v1, u2, v2, u3, v3, u4, v4, u5, v5, u6, v6, u7, v7, u8, v8, u9, v9, u10, v10, u11, v11, u12, v12, u13, v13, u14, v14, u15, v15, u16, v16, u17, v17, u18, v18, u19, v19, u20, v20, hYl, k2, k4, go_sem, ↓reduceIte, Nat.reduceEqDiff, Nat.reduceBEq, Nat.reduceAdd, Nat.reduceLeDiff, Nat.reduceLT, reduceCtorEq, Nat.reduceMul, Nat.reduceSub, Int.reduceEq, Int.reduceLT, Int.reduceLE, Int.reduceToNat]
      refine ⟨(j + 1, _), ⟨d, ?_⟩, k5, weak_ok ?_ (Sub.cons ?_ (Sub.cons ?_ (Sub.cons ?_ (Sub.cons ?_ (Sub.base hf ?_))))) (Nat.le_refl _)⟩
      all_goals first | ((simp only [p0, q0, r0, p1, q1, r1, p2, q2, r2, p3, q3, r3, p4, q4, r4, p5, q5, r5, p6, q6, r6, p7, q7, r7, p8, q8, r8, p9, q9, r9, p10, q10, r10, p11, q11, r11, p12, q12, r12, p13, q13, r13, p14, q14, r14, p15, q15, r15, p16, q16, r16, p17, q17, r17, p18, q18, r18, p19, q19, r19, p20, q20, r20, u1, v1, u2, v2, u3, v3, u4, v4, u5, v5, u6, v6, u7, v7, u8, v8, u9, v9, u10, v10, u11, v11, u12, v12, u13, v13, u14, v14, u15, v15, u16, v16, u17, v17, u18, v18, u19, v19, u20, v20, wr64s j k6, hsn, go_sem, ↓reduceIte, Nat.reduceEqDiff, Nat.reduceBEq, Nat.reduceAdd, Nat.reduceLeDiff, Nat.reduceLT, reduceCtorEq, Nat.reduceMul, Nat.reduceSub, Int.reduceEq, Int.reduceLT, Int.reduceLE, Int.reduceToNat]); done) | (dsimp only; omega) | trace_state
    · have d : j = a.items.length := by simp at d; omega
      subst d
      rw [List.take_length, c3.2, List.take_length] at hY
      rw [hY]
      have ht : Y.take a.items.length = Y := List.take_of_length_le (by omega)
      simp only [p0, q0, r0, p1, q1, r1, p2, q2, r2, p3, q3, r3, p4, q4, r4, p5, q5, r5, p6, q6, r6, p7, q7, r7, p8, q8, r8, p9, q9, r9, p10, q10, r10, p11, q11, r11, p12, q12, r12, p13, q13, r13, p14, q14, r14, p15, q15, r15, p16, q16, r16, p17, q17, r17, p18, q18, r18, p19, q19, r19, p20, q20, r20, u1, v1, u2, v2, u3, v3, u4, v4, u5, v5, u6, v6, u7, v7, u8, v8, u9, v9, u10, v10, u11, v11, u12, v12, u13, v13, u14, v14, u15, v15, u16, v16, u17, v17, u18, v18, u19, v19, u20, v20, hYl, ht, go_sem, ↓reduceIte, Nat.reduceEqDiff, Nat.reduceBEq, Nat.reduceAdd, Nat.reduceLeDiff, Nat.reduceLT, reduceCtorEq, Nat.reduceMul, Nat.reduceSub, Int.reduceEq, Int.reduceLT, Int.reduceLE, Int.reduceToNat]
  have c3 : ¬ ((a.k = 5 ∧ b.k = 5) ∧ a.items.length = b.items.length) := by
    intro q
    simp [q.1.1, q.1.2, q.2] at c3
  rw [if_neg c3] at e
  subst e
  simp only [go_sem, ↓reduceIte, Nat.reduceEqDiff, Nat.reduceBEq, Nat.reduceAdd, Nat.reduceLeDiff, Nat.reduceLT, reduceCtorEq, Nat.reduceMul, Nat.reduceSub, Int.reduceEq, Int.reduceLT, Int.reduceLE, Int.reduceToNat]
  refine vcCall.f (hc1 _ _) ?_
  simp only [go_sem, ↓reduceIte, Nat.reduceEqDiff, Nat.reduceBEq, Nat.reduceAdd, Nat.reduceLeDiff, Nat.reduceLT, reduceCtorEq, Nat.reduceMul, Nat.reduceSub, Int.reduceEq, Int.reduceLT, Int.reduceLE, Int.reduceToNat]
theorem join_ok (a b : Val) (ha : wtV a ≤ 100000000000) (hb : wtV b ≤ 100000000000) (hp : CH) (m : Nat) : MeetsF Try.prog 34 hp m [vx a, vx b] (vx (joinV a b)) := join_okS a b (.inl ⟨ha, hb⟩) hp m
end Go.Proofs.Ytmcgjccheehehaa
