/-
  The parts SaL of the proof, in one file. Conditions: none.
-/
import Derived.Test.YtmcgjccheehehaaQjo40
namespace Go.Proofs.Ytmcgjccheehehaa
open Go.Eng
set_option linter.unusedVariables false
set_option linter.unusedSimpArgs false
set_option maxRecDepth 20000
set_option maxHeartbeats 2000000
theorem rjobj_of (a b : Val) (ha : wtV a ≤ 100000000000) (hb : wtV b ≤ 100000000000) (hb6 : b.k = 6)
    (ih : ∀ x ∈ a.items, ∀ y, wtV y ≤ 100000000000 → ∀ hp m, MeetsF Try.prog 35 hp m [vx x, vx y] (vx (joinV x y))) (hp : CH) (m : Nat) :
    MeetsF Try.prog 67 hp m [vx a, vx b] (vx (joinO a b)) := by
  have la : a.items.length ≤ 100000000000 := by have := wtL_len a.items; have := wtV_eq a; omega
  have lb : b.items.length ≤ 100000000000 := by have := wtL_len b.items; have := wtV_eq b; omega
  have fa : a.Fit := wtV_fit a (by omega)
  have fb : b.Fit := wtV_fit b (by omega)
  have hs1 := rfields_ok a
  have hs2 := rfields_ok b
  have sa := szO_le a
  have sb := szO_le b
  obtain ⟨Za, hZa⟩ : ∃ Z, szO a = Z := ⟨_, rfl⟩
  obtain ⟨Zb, hZb⟩ : ∃ Z, szO b = Z := ⟨_, rfl⟩
  obtain ⟨R, hR⟩ : ∃ R, joinF a b = R := ⟨_, rfl⟩
  have eR := hR
  unfold joinO
  rw [hR]
  unfold joinF at eR
  rw [hZa] at hs1 sa eR
  rw [hZb] at hs2 sb
  refine meetsF Try.func67 (by kernel_rfl) cc67 cr67 rfl fun hf => ?_; unfold ck67
  simp only [go_sem, ↓reduceIte, Nat.reduceEqDiff, Nat.reduceBEq, Nat.reduceAdd, Nat.reduceLeDiff, Nat.reduceLT, reduceCtorEq, Nat.reduceMul, Nat.reduceSub, Int.reduceEq, Int.reduceLT, Int.reduceLE, Int.reduceToNat]
  have hIl : ∀ j, j ≤ Za → (joinI (a.items.take j) (a.keys.take j) b).length = j := fun j hj => by rw [joinI_len, List.length_take, List.length_take]; omega
  have hKl : ∀ j, j ≤ Za → (a.keys.take j).length = j := fun j hj => by rw [List.length_take]; omega
  refine loop (fun p : Nat × Nat => ⟨[(2, .bx m 0), (3, .bx (m + 1) 0), (4, .bx (m + 2) 0), (5, .bx (m + 3) 0), (6, .i .i64 p.1)],
      (m + 3, .bx [.i .i64 6, .i .i64 0, .s ⟨#[]⟩, .rw (m + 4) p.1 p.1, .rw (m + 5) p.1 p.1]) :: (m + 4, .rw p.1 5 (mapC valC (joinI (a.items.take p.1) (a.keys.take p.1) b))) :: (m + 5, .rw p.1 1 (stC (a.keys.take p.1))) ::
      (m + 2, .bx [.i .i64 0, .i .i64 0, .s ⟨#[]⟩, .e0, .e0]) :: (m + 1, .bx [.i .i64 b.k, .i .i64 b.n, .s b.s, .ds (mapC valC b.items), .ds (stC b.keys)]) ::
      (m, .bx [.i .i64 a.k, .i .i64 a.n, .s a.s, .ds (mapC valC a.items), .ds (stC a.keys)]) :: hp, p.2⟩)
    (fun p => p.1 ≤ Za ∧ m + 6 ≤ p.2) (fun p => Za - p.1) (0, m + 6) ?_ ?_ (fun ⟨j, n⟩ hj => ?_)
  · exact ⟨Nat.zero_le _, Nat.le_refl _⟩
  · refine (weak_b0 (c := m + 3) (i := 3) (m := 5) (cs := [.i .i64 6, .i .i64 0, .s ⟨#[]⟩, .e0, .e0]) gc_cons_same rfl).trans ((weak_b0 (c := m + 3) (i := 4) (m := 1) (cs := [.i .i64 6, .i .i64 0, .s ⟨#[]⟩, .rw (m + 4) 0 0, .e0]) gc_cons_same rfl).trans (weak_ok ?_ (Sub.cons ?_ (Sub.cons ?_ (Sub.cons ?_ (Sub.cons ?_ (Sub.cons ?_ (Sub.cons ?_ (Sub.base hf ?_))))))) (Nat.le_refl _)))
    all_goals first | (simp only [go_sem, ↓reduceIte, Nat.reduceEqDiff, Nat.reduceBEq, Nat.reduceAdd, Nat.reduceLeDiff, Nat.reduceLT, reduceCtorEq, Nat.reduceMul, Nat.reduceSub, Int.reduceEq, Int.reduceLT, Int.reduceLE, Int.reduceToNat]; done) | exact gc_cons_same | (simp only [List.take_zero, joinI]; simp only [go_sem, ↓reduceIte, Nat.reduceEqDiff, Nat.reduceBEq, Nat.reduceAdd, Nat.reduceLeDiff, Nat.reduceLT, reduceCtorEq, Nat.reduceMul, Nat.reduceSub, Int.reduceEq, Int.reduceLT, Int.reduceLE, Int.reduceToNat]; done) | trace_state
  dsimp only at hj
  obtain ⟨hj1, hj2⟩ := hj
  have p0 : ¬ n = m := by omega
  have q0 : ¬ m = n := by omega
  have r0 : m ≤ n := by omega
  have p1 : ¬ n + 1 = m := by omega
  have q1 : ¬ m = n + 1 := by omega
  have r1 : m ≤ n + 1 := by omega
  have p2 : ¬ n + 2 = m := by omega
  have q2 : ¬ m = n + 2 := by omega
  have r2 : m ≤ n + 2 := by omega
  have p3 : ¬ n + 3 = m := by omega
  have q3 : ¬ m = n + 3 := by omega
  have r3 : m ≤ n + 3 := by omega
  have p4 : ¬ n + 4 = m := by omega
  have q4 : ¬ m = n + 4 := by omega
  have r4 : m ≤ n + 4 := by omega
  have p5 : ¬ n + 5 = m := by omega
  have q5 : ¬ m = n + 5 := by omega
  have r5 : m ≤ n + 5 := by omega
  have p6 : ¬ n + 6 = m := by omega
  have q6 : ¬ m = n + 6 := by omega
  have r6 : m ≤ n + 6 := by omega
  have p7 : ¬ n + 7 = m := by omega
  have q7 : ¬ m = n + 7 := by omega
  have r7 : m ≤ n + 7 := by omega
  have p8 : ¬ n + 8 = m := by omega
  have q8 : ¬ m = n + 8 := by omega
  have r8 : m ≤ n + 8 := by omega
  have p9 : ¬ n + 9 = m := by omega
  have q9 : ¬ m = n + 9 := by omega
  have r9 : m ≤ n + 9 := by omega
  have p10 : ¬ n + 10 = m := by omega
  have q10 : ¬ m = n + 10 := by omega
  have r10 : m ≤ n + 10 := by omega
  have p11 : ¬ n + 11 = m := by omega
  have q11 : ¬ m = n + 11 := by omega
  have r11 : m ≤ n + 11 := by omega
  have p12 : ¬ n + 12 = m := by omega
  have q12 : ¬ m = n + 12 := by omega
  have r12 : m ≤ n + 12 := by omega
  have p13 : ¬ n + 13 = m := by omega
  have q13 : ¬ m = n + 13 := by omega
  have r13 : m ≤ n + 13 := by omega
  have p14 : ¬ n + 14 = m := by omega
  have q14 : ¬ m = n + 14 := by omega
  have r14 : m ≤ n + 14 := by omega
  have p15 : ¬ n + 15 = m := by omega
  have q15 : ¬ m = n + 15 := by omega
  have r15 : m ≤ n + 15 := by omega
  have p16 : ¬ n + 16 = m := by omega
  have q16 : ¬ m = n + 16 := by omega
  have r16 : m ≤ n + 16 := by omega
  have p17 : ¬ n + 17 = m := by omega
  have q17 : ¬ m = n + 17 := by omega
  have r17 : m ≤ n + 17 := by omega
  have p18 : ¬ n + 18 = m := by omega
  have q18 : ¬ m = n + 18 := by omega
  have r18 : m ≤ n + 18 := by omega
  have p19 : ¬ n + 19 = m := by omega
  have q19 : ¬ m = n + 19 := by omega
  have r19 : m ≤ n + 19 := by omega
  have p20 : ¬ n + 20 = m := by omega
  have q20 : ¬ m = n + 20 := by omega
  have r20 : m ≤ n + 20 := by omega
  have p21 : ¬ n + 21 = m := by omega
  have q21 : ¬ m = n + 21 := by omega
  have r21 : m ≤ n + 21 := by omega
  have p22 : ¬ n + 22 = m := by omega
  have q22 : ¬ m = n + 22 := by omega
  have r22 : m ≤ n + 22 := by omega
  have p23 : ¬ n + 23 = m := by omega
  have q23 : ¬ m = n + 23 := by omega
  have r23 : m ≤ n + 23 := by omega
  have p24 : ¬ n + 24 = m := by omega
  have q24 : ¬ m = n + 24 := by omega
  have r24 : m ≤ n + 24 := by omega
  have u1 : ¬ n = m + 1 := by omega
  have v1 : ¬ m + 1 = n := by omega
  have u2 : ¬ n = m + 2 := by omega
  have v2 : ¬ m + 2 = n := by omega
  have u3 : ¬ n = m + 3 := by omega
  have v3 : ¬ m + 3 = n := by omega
  have u4 : ¬ n = m + 4 := by omega
  have v4 : ¬ m + 4 = n := by omega
  have u5 : ¬ n = m + 5 := by omega
  have v5 : ¬ m + 5 = n := by omega
  obtain ⟨Y, hY⟩ : ∃ Y, joinI (a.items.take j) (a.keys.take j) b = Y := ⟨_, rfl⟩
  have hYl := hIl j hj1
  have hKj := hKl j hj1
  rw [hY] at hYl ⊢
  simp only [p0, q0, r0, p1, q1, r1, p2, q2, r2, p3, q3, r3, p4, q4, r4, p5, q5, r5, p6, q6, r6, p7, q7, r7, p8, q8, r8, p9, q9, r9, p10, q10, r10, p11, q11, r11, p12, q12, r12, p13, q13, r13, p14, q14, r14, p15, q15, r15, p16, q16, r16, p17, q17, r17, p18, q18, r18, p19, q19, r19, p20, q20, r20, p21, q21, r21, p22, q22, r22, p23, q23, r23, p24, q24, r24, u1, v1, u2, v2, u3, v3, u4, v4, u5, v5, go_sem, ↓reduceIte, Nat.reduceEqDiff, Nat.reduceBEq, Nat.reduceAdd, Nat.reduceLeDiff, Nat.reduceLT, reduceCtorEq, Nat.reduceMul, Nat.reduceSub, Int.reduceEq, Int.reduceLT, Int.reduceLE, Int.reduceToNat]
  refine vcCall.f (hs1 _ _) ?_
  simp only [p0, q0, r0, p1, q1, r1, p2, q2, r2, p3, q3, r3, p4, q4, r4, p5, q5, r5, p6, q6, r6, p7, q7, r7, p8, q8, r8, p9, q9, r9, p10, q10, r10, p11, q11, r11, p12, q12, r12, p13, q13, r13, p14, q14, r14, p15, q15, r15, p16, q16, r16, p17, q17, r17, p18, q18, r18, p19, q19, r19, p20, q20, r20, p21, q21, r21, p22, q22, r22, p23, q23, r23, p24, q24, r24, u1, v1, u2, v2, u3, v3, u4, v4, u5, v5, go_sem, ↓reduceIte, Nat.reduceEqDiff, Nat.reduceBEq, Nat.reduceAdd, Nat.reduceLeDiff, Nat.reduceLT, reduceCtorEq, Nat.reduceMul, Nat.reduceSub, Int.reduceEq, Int.reduceLT, Int.reduceLE, Int.reduceToNat]
  refine cdK_of (fun c => ?_) (fun c => ?_)
  · have c : j < Za := by simpa using c
    obtain ⟨x, ex⟩ : ∃ x, a.items[j]? = some x := ⟨a.items[j]'(by omega), by simp⟩
    obtain ⟨k, ek⟩ : ∃ k, a.keys[j]? = some k := ⟨a.keys[j]'(by omega), by simp⟩
    have hxm := List.mem_of_getElem? ex
    have fx := fa.x hxm
    have hsn := joinI_snoc b a.items a.keys j ex ek
    rw [hY] at hsn
    have hsk := take_snoc ek
    have hgt := rget_ok b fb k
    have k1 : j < a.items.length := by omega
    have k0 : j < a.keys.length := by omega
    have k2 : (j + 1) * 80 ≤ 140737488355328 := by omega
    have k3 : (j + 1) * 16 ≤ 140737488355328 := by omega
    have k4 : j ≤ 9223372036854775806 := by omega
    have k5 : Za - (j + 1) < Za - j := by omega
    have k6 : j < 9223372036854775807 := by omega
    obtain ⟨G, hG⟩ : ∃ G, getV b k = G := ⟨_, rfl⟩
    rw [hG] at hgt
    have hE : joinE x k b = G.elim x (fun y => joinV x y) := by unfold joinE; rw [hG]; cases G <;> rfl
    simp only [p0, q0, r0, p1, q1, r1, p2, q2, r2, p3, q3, r3, p4, q4, r4, p5, q5, r5, p6, q6, r6, p7, q7, r7, p8, q8, r8, p9, q9, r9, p10, q10, r10, p11, q11, r11, p12, q12, r12, p13, q13, r13, p14, q14, r14, p15, q15, r15, p16, q16, r16, p17, q17, r17, p18, q18, r18, p19, q19, r19, p20, q20, r20, p21, q21, r21, p22, q22, r22, p23, q23, r23, p24, q24, r24, u1, v1, u2, v2, u3, v3, u4, v4, u5, v5, k0, k1, getK_s (mapC_get st1 ek), getK_s (mapC_get valC ex), go_sem, ↓reduceIte, Nat.reduceEqDiff, Nat.reduceBEq, Nat.reduceAdd, Nat.reduceLeDiff, Nat.reduceLT, reduceCtorEq, Nat.reduceMul, Nat.reduceSub, Int.reduceEq, Int.reduceLT, Int.reduceLE, Int.reduceToNat]
    refine dCallR.f (fun _ hp' _ => hgt hp' _) ?_
    cases G with
    | none =>
      dsimp only [Option.elim] at hE
      rw [hE] at hsn
      simp only [p0, q0, r0, p1, q1, r1, p2, q2, r2, p3, q3, r3, p4, q4, r4, p5, q5, r5, p6, q6, r6, p7, q7, r7, p8, q8, r8, p9, q9, r9, p10, q10, r10, p11, q11, r11, p12, q12, r12, p13, q13, r13, p14, q14, r14, p15, q15, r15, p16, q16, r16, p17, q17, r17, p18, q18, r18, p19, q19, r19, p20, q20, r20, p21, q21, r21, p22, q22, r22, p23, q23, r23, p24, q24, r24, u1, v1, u2, v2, u3, v3, u4, v4, u5, v5, hKj, hYl, k0, getK_s (mapC_get st1 ek), k2, k3, k4, go_sem, ↓reduceIte, Nat.reduceEqDiff, Nat.reduceBEq, Nat.reduceAdd, Nat.reduceLeDiff, Nat.reduceLT, reduceCtorEq, Nat.reduceMul, Nat.reduceSub, Int.reduceEq, Int.reduceLT, Int.reduceLE, Int.reduceToNat]
      refine ⟨(j + 1, _), ⟨c, ?_⟩, k5, weak_ok ?_ (Sub.cons ?_ (Sub.cons ?_ (Sub.cons ?_ (Sub.cons ?_ (Sub.cons ?_ (Sub.cons ?_ (Sub.base hf ?_))))))) (Nat.le_refl _)⟩
      all_goals first | ((simp only [p0, q0, r0, p1, q1, r1, p2, q2, r2, p3, q3, r3, p4, q4, r4, p5, q5, r5, p6, q6, r6, p7, q7, r7, p8, q8, r8, p9, q9, r9, p10, q10, r10, p11, q11, r11, p12, q12, r12, p13, q13, r13, p14, q14, r14, p15, q15, r15, p16, q16, r16, p17, q17, r17, p18, q18, r18, p19, q19, r19, p20, q20, r20, p21, q21, r21, p22, q22, r22, p23, q23, r23, p24, q24, r24, u1, v1, u2, v2, u3, v3, u4, v4, u5, v5, wr64s j k6, hsn, hsk, go_sem, ↓reduceIte, Nat.reduceEqDiff, Nat.reduceBEq, Nat.reduceAdd, Nat.reduceLeDiff, Nat.reduceLT, reduceCtorEq, Nat.reduceMul, Nat.reduceSub, Int.reduceEq, Int.reduceLT, Int.reduceLE, Int.reduceToNat]); done) | (dsimp only; omega) | trace_state
    | some y =>
      dsimp only [Option.elim] at hE
      rw [hE] at hsn
      have hwy : wtV y ≤ 100000000000 := by have := wt_mem (getV_mem hG); omega
      simp only [p0, q0, r0, p1, q1, r1, p2, q2, r2, p3, q3, r3, p4, q4, r4, p5, q5, r5, p6, q6, r6, p7, q7, r7, p8, q8, r8, p9, q9, r9, p10, q10, r10, p11, q11, r11, p12, q12, r12, p13, q13, r13, p14, q14, r14, p15, q15, r15, p16, q16, r16, p17, q17, r17, p18, q18, r18, p19, q19, r19, p20, q20, r20, p21, q21, r21, p22, q22, r22, p23, q23, r23, p24, q24, r24, u1, v1, u2, v2, u3, v3, u4, v4, u5, v5, go_sem, ↓reduceIte, Nat.reduceEqDiff, Nat.reduceBEq, Nat.reduceAdd, Nat.reduceLeDiff, Nat.reduceLT, reduceCtorEq, Nat.reduceMul, Nat.reduceSub, Int.reduceEq, Int.reduceLT, Int.reduceLE, Int.reduceToNat]
      refine vcCall.f (ih x hxm y hwy _ _) ?_
      simp only [p0, q0, r0, p1, q1, r1, p2, q2, r2, p3, q3, r3, p4, q4, r4, p5, q5, r5, p6, q6, r6, p7, q7, r7, p8, q8, r8, p9, q9, r9, p10, q10, r10, p11, q11, r11, p12, q12, r12, p13, q13, r13, p14, q14, r14, p15, q15, r15, p16, q16, r16, p17, q17, r17, p18, q18, r18, p19, q19, r19, p20, q20, r20, p21, q21, r21, p22, q22, r22, p23, q23, r23, p24, q24, r24, u1, v1, u2, v2, u3, v3, u4, v4, u5, v5, hKj, hYl, k0, getK_s (mapC_get st1 ek), k2, k3, k4, go_sem, ↓reduceIte, Nat.reduceEqDiff, Nat.reduceBEq, Nat.reduceAdd, Nat.reduceLeDiff, Nat.reduceLT, reduceCtorEq, Nat.reduceMul, Nat.reduceSub, Int.reduceEq, Int.reduceLT, Int.reduceLE, Int.reduceToNat]
      refine ⟨(j + 1, _), ⟨c, ?_⟩, k5, weak_ok ?_ (Sub.cons ?_ (Sub.cons ?_ (Sub.cons ?_ (Sub.cons ?_ (Sub.cons ?_ (Sub.cons ?_ (Sub.base hf ?_))))))) (Nat.le_refl _)⟩
      all_goals first | ((simp only [p0, q0, r0, p1, q1, r1, p2, q2, r2, p3, q3, r3, p4, q4, r4, p5, q5, r5, p6, q6, r6, p7, q7, r7, p8, q8, r8, p9, q9, r9, p10, q10, r10, p11, q11, r11, p12, q12, r12, p13, q13, r13, p14, q14, r14, p15, q15, r15, p16, q16, r16, p17, q17, r17, p18, q18, r18, p19, q19, r19, p20, q20, r20, p21, q21, r21, p22, q22, r22, p23, q23, r23, p24, q24, r24, u1, v1, u2, v2, u3, v3, u4, v4, u5, v5, wr64s j k6, hsn, hsk, go_sem, ↓reduceIte, Nat.reduceEqDiff, Nat.reduceBEq, Nat.reduceAdd, Nat.reduceLeDiff, Nat.reduceLT, reduceCtorEq, Nat.reduceMul, Nat.reduceSub, Int.reduceEq, Int.reduceLT, Int.reduceLE, Int.reduceToNat]); done) | (dsimp only; omega) | trace_state
  · have c : j = Za := by simp at c; omega
    subst c
    have hI0 : joinI (a.items.take j) (a.keys.take j) b = joinI a.items a.keys b := by
      have h := joinI_take b a.items a.keys
      rw [show min a.keys.length a.items.length = j from hZa] at h
      exact h
    rw [hI0] at hY
    rw [hY] at eR
    have eR0 := eR
    simp only [p0, q0, r0, p1, q1, r1, p2, q2, r2, p3, q3, r3, p4, q4, r4, p5, q5, r5, p6, q6, r6, p7, q7, r7, p8, q8, r8, p9, q9, r9, p10, q10, r10, p11, q11, r11, p12, q12, r12, p13, q13, r13, p14, q14, r14, p15, q15, r15, p16, q16, r16, p17, q17, r17, p18, q18, r18, p19, q19, r19, p20, q20, r20, p21, q21, r21, p22, q22, r22, p23, q23, r23, p24, q24, r24, u1, v1, u2, v2, u3, v3, u4, v4, u5, v5, go_sem, ↓reduceIte, Nat.reduceEqDiff, Nat.reduceBEq, Nat.reduceAdd, Nat.reduceLeDiff, Nat.reduceLT, reduceCtorEq, Nat.reduceMul, Nat.reduceSub, Int.reduceEq, Int.reduceLT, Int.reduceLE, Int.reduceToNat]
    refine loop (fun p : Nat × List ByteArray × List Val × Nat => ⟨[(3, .bx (m + 1) 0), (4, .bx (m + 2) 0), (5, .bx (m + 3) 0), (10, .i .i64 p.1)],
        (m + 3, .bx [.i .i64 6, .i .i64 0, .s ⟨#[]⟩, .rw (m + 4) p.2.2.1.length p.2.2.1.length, .rw (m + 5) p.2.1.length p.2.1.length]) :: (m + 4, .rw p.2.2.1.length 5 (mapC valC p.2.2.1)) :: (m + 5, .rw p.2.1.length 1 (stC p.2.1)) ::
        (m + 2, .bx [.i .i64 0, .i .i64 0, .s ⟨#[]⟩, .e0, .e0]) :: (m + 1, .bx [.i .i64 b.k, .i .i64 b.n, .s b.s, .ds (mapC valC b.items), .ds (stC b.keys)]) :: hp, p.2.2.2⟩)
      (fun p => p.1 ≤ Zb ∧ m + 6 ≤ p.2.2.2 ∧ p.2.1.length = p.2.2.1.length ∧ p.2.1.length ≤ j + p.1 ∧ addF (a.keys.take j) Y b.keys b.items = addF p.2.1 p.2.2.1 (b.keys.drop p.1) (b.items.drop p.1) ∧ (∀ x ∈ p.2.2.1, x.Fit)) (fun p => Zb - p.1) (0, a.keys.take j, Y, n) ?_ ?_ (fun ⟨i, K, I, o⟩ hi => ?_)
    · refine ⟨Nat.zero_le _, by dsimp only; omega, by dsimp only; omega, by dsimp only; omega, rfl, fun x hx => ?_⟩
      dsimp only at hx
      rw [← hY] at hx
      obtain ⟨z, hz, q | ⟨k, y, hy, q⟩⟩ := joinI_mem b _ _ hx
      · rw [q]
        exact fa.x hz
      · rw [q]
        exact joinV_fit z y (by have := wt_mem hz; omega) (by have := wt_mem (getV_mem hy); omega)
    · refine weak_ok ?_ (Sub.cons ?_ (Sub.cons ?_ (Sub.cons ?_ (Sub.cons ?_ (Sub.cons ?_ (Sub.base hf ?_)))))) (Nat.le_refl _)
      all_goals first | ((simp only [p0, q0, r0, p1, q1, r1, p2, q2, r2, p3, q3, r3, p4, q4, r4, p5, q5, r5, p6, q6, r6, p7, q7, r7, p8, q8, r8, p9, q9, r9, p10, q10, r10, p11, q11, r11, p12, q12, r12, p13, q13, r13, p14, q14, r14, p15, q15, r15, p16, q16, r16, p17, q17, r17, p18, q18, r18, p19, q19, r19, p20, q20, r20, p21, q21, r21, p22, q22, r22, p23, q23, r23, p24, q24, r24, u1, v1, u2, v2, u3, v3, u4, v4, u5, v5, hYl, hKj, go_sem, ↓reduceIte, Nat.reduceEqDiff, Nat.reduceBEq, Nat.reduceAdd, Nat.reduceLeDiff, Nat.reduceLT, reduceCtorEq, Nat.reduceMul, Nat.reduceSub, Int.reduceEq, Int.reduceLT, Int.reduceLE, Int.reduceToNat]); done) | trace_state
    dsimp only at hi
    obtain ⟨hi1, hi2, hi3, hi4, hi5, hi6⟩ := hi
    rw [hi5] at eR
    have op0 : ¬ o = m := by omega
    have oq0 : ¬ m = o := by omega
    have or0 : m ≤ o := by omega
    have op1 : ¬ o + 1 = m := by omega
    have oq1 : ¬ m = o + 1 := by omega
    have or1 : m ≤ o + 1 := by omega
    have op2 : ¬ o + 2 = m := by omega
    have oq2 : ¬ m = o + 2 := by omega
    have or2 : m ≤ o + 2 := by omega
    have op3 : ¬ o + 3 = m := by omega
    have oq3 : ¬ m = o + 3 := by omega
    have or3 : m ≤ o + 3 := by omega
    have op4 : ¬ o + 4 = m := by omega
    have oq4 : ¬ m = o + 4 := by omega
    have or4 : m ≤ o + 4 := by omega
    have op5 : ¬ o + 5 = m := by omega
    have oq5 : ¬ m = o + 5 := by omega
    have or5 : m ≤ o + 5 := by omega
    have op6 : ¬ o + 6 = m := by omega
    have oq6 : ¬ m = o + 6 := by omega
    have or6 : m ≤ o + 6 := by omega
    have op7 : ¬ o + 7 = m := by omega
    have oq7 : ¬ m = o + 7 := by omega
    have or7 : m ≤ o + 7 := by omega
    have op8 : ¬ o + 8 = m := by omega
    have oq8 : ¬ m = o + 8 := by omega
    have or8 : m ≤ o + 8 := by omega
    have op9 : ¬ o + 9 = m := by omega
    have oq9 : ¬ m = o + 9 := by omega
    have or9 : m ≤ o + 9 := by omega
    have op10 : ¬ o + 10 = m := by omega
    have oq10 : ¬ m = o + 10 := by omega
    have or10 : m ≤ o + 10 := by omega
    have op11 : ¬ o + 11 = m := by omega
    have oq11 : ¬ m = o + 11 := by omega
    have or11 : m ≤ o + 11 := by omega
    have op12 : ¬ o + 12 = m := by omega
    have oq12 : ¬ m = o + 12 := by omega
    have or12 : m ≤ o + 12 := by omega
    have op13 : ¬ o + 13 = m := by omega
    have oq13 : ¬ m = o + 13 := by omega
    have or13 : m ≤ o + 13 := by omega
    have op14 : ¬ o + 14 = m := by omega
    have oq14 : ¬ m = o + 14 := by omega
    have or14 : m ≤ o + 14 := by omega
    have op15 : ¬ o + 15 = m := by omega
    have oq15 : ¬ m = o + 15 := by omega
    have or15 : m ≤ o + 15 := by omega
    have op16 : ¬ o + 16 = m := by omega
    have oq16 : ¬ m = o + 16 := by omega
    have or16 : m ≤ o + 16 := by omega
    have op17 : ¬ o + 17 = m := by omega
    have oq17 : ¬ m = o + 17 := by omega
    have or17 : m ≤ o + 17 := by omega
    have op18 : ¬ o + 18 = m := by omega
    have oq18 : ¬ m = o + 18 := by omega
    have or18 : m ≤ o + 18 := by omega
    have op19 : ¬ o + 19 = m := by omega
    have oq19 : ¬ m = o + 19 := by omega
    have or19 : m ≤ o + 19 := by omega
    have op20 : ¬ o + 20 = m := by omega
    have oq20 : ¬ m = o + 20 := by omega
    have or20 : m ≤ o + 20 := by omega
    have op21 : ¬ o + 21 = m := by omega
    have oq21 : ¬ m = o + 21 := by omega
    have or21 : m ≤ o + 21 := by omega
    have op22 : ¬ o + 22 = m := by omega
    have oq22 : ¬ m = o + 22 := by omega
    have or22 : m ≤ o + 22 := by omega
    have op23 : ¬ o + 23 = m := by omega
    have oq23 : ¬ m = o + 23 := by omega
    have or23 : m ≤ o + 23 := by omega
    have op24 : ¬ o + 24 = m := by omega
    have oq24 : ¬ m = o + 24 := by omega
    have or24 : m ≤ o + 24 := by omega
    have ou1 : ¬ o = m + 1 := by omega
    have ov1 : ¬ m + 1 = o := by omega
    have ou2 : ¬ o = m + 2 := by omega
    have ov2 : ¬ m + 2 = o := by omega
    have ou3 : ¬ o = m + 3 := by omega
    have ov3 : ¬ m + 3 = o := by omega
    have ou4 : ¬ o = m + 4 := by omega
    have ov4 : ¬ m + 4 = o := by omega
    have ou5 : ¬ o = m + 5 := by omega
    have ov5 : ¬ m + 5 = o := by omega
    simp only [op0, oq0, or0, op1, oq1, or1, op2, oq2, or2, op3, oq3, or3, op4, oq4, or4, op5, oq5, or5, op6, oq6, or6, op7, oq7, or7, op8, oq8, or8, op9, oq9, or9, op10, oq10, or10, op11, oq11, or11, op12, oq12, or12, op13, oq13, or13, op14, oq14, or14, op15, oq15, or15, op16, oq16, or16, op17, oq17, or17, op18, oq18, or18, op19, oq19, or19, op20, oq20, or20, op21, oq21, or21, op22, oq22, or22, op23, oq23, or23, op24, oq24, or24, ou1, ov1, ou2, ov2, ou3, ov3, ou4, ov4, ou5, ov5, go_sem, ↓reduceIte, Nat.reduceEqDiff, Nat.reduceBEq, Nat.reduceAdd, Nat.reduceLeDiff, Nat.reduceLT, reduceCtorEq, Nat.reduceMul, Nat.reduceSub, Int.reduceEq, Int.reduceLT, Int.reduceLE, Int.reduceToNat]
    refine vcCall.f (hs2 _ _) ?_
    simp only [op0, oq0, or0, op1, oq1, or1, op2, oq2, or2, op3, oq3, or3, op4, oq4, or4, op5, oq5, or5, op6, oq6, or6, op7, oq7, or7, op8, oq8, or8, op9, oq9, or9, op10, oq10, or10, op11, oq11, or11, op12, oq12, or12, op13, oq13, or13, op14, oq14, or14, op15, oq15, or15, op16, oq16, or16, op17, oq17, or17, op18, oq18, or18, op19, oq19, or19, op20, oq20, or20, op21, oq21, or21, op22, oq22, or22, op23, oq23, or23, op24, oq24, or24, ou1, ov1, ou2, ov2, ou3, ov3, ou4, ov4, ou5, ov5, go_sem, ↓reduceIte, Nat.reduceEqDiff, Nat.reduceBEq, Nat.reduceAdd, Nat.reduceLeDiff, Nat.reduceLT, reduceCtorEq, Nat.reduceMul, Nat.reduceSub, Int.reduceEq, Int.reduceLT, Int.reduceLE, Int.reduceToNat]
    refine cdK_of (fun c => ?_) (fun c => ?_)
    · have c : i < Zb := by simpa using c
      obtain ⟨y, ey⟩ : ∃ y, b.items[i]? = some y := ⟨b.items[i]'(by omega), by simp⟩
      obtain ⟨k, ek⟩ : ∃ k, b.keys[i]? = some k := ⟨b.keys[i]'(by omega), by simp⟩
      have hst := addF_step (K := K) (I := I) (ks := b.keys.drop (i + 1)) (r := b.items.drop (i + 1)) (k := k) (y := y)
      rw [← drop_at ek, ← drop_at ey] at hst
      have hgt := rget_rows I K hi3 (by omega) hi6 k (m + 4) (m + 5)
      have hio := getV_out hi3 k
      obtain ⟨X, hX⟩ : ∃ X, getV (.mk 6 0 ⟨#[]⟩ I K) k = X := ⟨_, rfl⟩
      rw [hX] at hgt hio
      have k0 : i < b.keys.length := by omega
      have k1 : i < b.items.length := by omega
      have k2 : (I.length + 1) * 80 ≤ 140737488355328 := by omega
      have k3 : (I.length + 1) * 16 ≤ 140737488355328 := by omega
      have k4 : I.length ≤ 9223372036854775806 := by omega
      have k5 : Zb - (i + 1) < Zb - i := by omega
      have k6 : i < 9223372036854775807 := by omega
      simp only [op0, oq0, or0, op1, oq1, or1, op2, oq2, or2, op3, oq3, or3, op4, oq4, or4, op5, oq5, or5, op6, oq6, or6, op7, oq7, or7, op8, oq8, or8, op9, oq9, or9, op10, oq10, or10, op11, oq11, or11, op12, oq12, or12, op13, oq13, or13, op14, oq14, or14, op15, oq15, or15, op16, oq16, or16, op17, oq17, or17, op18, oq18, or18, op19, oq19, or19, op20, oq20, or20, op21, oq21, or21, op22, oq22, or22, op23, oq23, or23, op24, oq24, or24, ou1, ov1, ou2, ov2, ou3, ov3, ou4, ov4, ou5, ov5, c, k0, getK_s (mapC_get st1 ek), getK_s (mapC_get valC ey), go_sem, ↓reduceIte, Nat.reduceEqDiff, Nat.reduceBEq, Nat.reduceAdd, Nat.reduceLeDiff, Nat.reduceLT, reduceCtorEq, Nat.reduceMul, Nat.reduceSub, Int.reduceEq, Int.reduceLT, Int.reduceLE, Int.reduceToNat]
      refine dCallR.f (fun _ hp' hh => hgt hp' _ (by omega) (by omega) ?_ ?_) ?_
      · rw [hh (m + 4) (.inl (by omega))]
        simp only [op0, oq0, or0, op1, oq1, or1, op2, oq2, or2, op3, oq3, or3, op4, oq4, or4, op5, oq5, or5, op6, oq6, or6, op7, oq7, or7, op8, oq8, or8, op9, oq9, or9, op10, oq10, or10, op11, oq11, or11, op12, oq12, or12, op13, oq13, or13, op14, oq14, or14, op15, oq15, or15, op16, oq16, or16, op17, oq17, or17, op18, oq18, or18, op19, oq19, or19, op20, oq20, or20, op21, oq21, or21, op22, oq22, or22, op23, oq23, or23, op24, oq24, or24, ou1, ov1, ou2, ov2, ou3, ov3, ou4, ov4, ou5, ov5, go_sem, ↓reduceIte, Nat.reduceEqDiff, Nat.reduceBEq, Nat.reduceAdd, Nat.reduceLeDiff, Nat.reduceLT, reduceCtorEq, Nat.reduceMul, Nat.reduceSub, Int.reduceEq, Int.reduceLT, Int.reduceLE, Int.reduceToNat]
      · rw [hh (m + 5) (.inl (by omega))]
        simp only [op0, oq0, or0, op1, oq1, or1, op2, oq2, or2, op3, oq3, or3, op4, oq4, or4, op5, oq5, or5, op6, oq6, or6, op7, oq7, or7, op8, oq8, or8, op9, oq9, or9, op10, oq10, or10, op11, oq11, or11, op12, oq12, or12, op13, oq13, or13, op14, oq14, or14, op15, oq15, or15, op16, oq16, or16, op17, oq17, or17, op18, oq18, or18, op19, oq19, or19, op20, oq20, or20, op21, oq21, or21, op22, oq22, or22, op23, oq23, or23, op24, oq24, or24, ou1, ov1, ou2, ov2, ou3, ov3, ou4, ov4, ou5, ov5, go_sem, ↓reduceIte, Nat.reduceEqDiff, Nat.reduceBEq, Nat.reduceAdd, Nat.reduceLeDiff, Nat.reduceLT, reduceCtorEq, Nat.reduceMul, Nat.reduceSub, Int.reduceEq, Int.reduceLT, Int.reduceLE, Int.reduceToNat]
      rw [← hi3]
      cases X with
      | some z =>
        have hB : inB k K = true := hio.symm
        rw [if_pos hB] at hst
        simp only [op0, oq0, or0, op1, oq1, or1, op2, oq2, or2, op3, oq3, or3, op4, oq4, or4, op5, oq5, or5, op6, oq6, or6, op7, oq7, or7, op8, oq8, or8, op9, oq9, or9, op10, oq10, or10, op11, oq11, or11, op12, oq12, or12, op13, oq13, or13, op14, oq14, or14, op15, oq15, or15, op16, oq16, or16, op17, oq17, or17, op18, oq18, or18, op19, oq19, or19, op20, oq20, or20, op21, oq21, or21, op22, oq22, or22, op23, oq23, or23, op24, oq24, or24, ou1, ov1, ou2, ov2, ou3, ov3, ou4, ov4, ou5, ov5, go_sem, ↓reduceIte, Nat.reduceEqDiff, Nat.reduceBEq, Nat.reduceAdd, Nat.reduceLeDiff, Nat.reduceLT, reduceCtorEq, Nat.reduceMul, Nat.reduceSub, Int.reduceEq, Int.reduceLT, Int.reduceLE, Int.reduceToNat]
        refine ⟨(i + 1, K, I, _), ⟨c, ?_, hi3, ?_, hi5.trans hst, hi6⟩, k5, weak_ok ?_ (Sub.cons ?_ (Sub.cons ?_ (Sub.cons ?_ (Sub.cons ?_ (Sub.cons ?_ (Sub.base hf ?_)))))) (Nat.le_refl _)⟩
        all_goals first | ((simp only [op0, oq0, or0, op1, oq1, or1, op2, oq2, or2, op3, oq3, or3, op4, oq4, or4, op5, oq5, or5, op6, oq6, or6, op7, oq7, or7, op8, oq8, or8, op9, oq9, or9, op10, oq10, or10, op11, oq11, or11, op12, oq12, or12, op13, oq13, or13, op14, oq14, or14, op15, oq15, or15, op16, oq16, or16, op17, oq17, or17, op18, oq18, or18, op19, oq19, or19, op20, oq20, or20, op21, oq21, or21, op22, oq22, or22, op23, oq23, or23, op24, oq24, or24, ou1, ov1, ou2, ov2, ou3, ov3, ou4, ov4, ou5, ov5, wr64s i k6, hi3, go_sem, ↓reduceIte, Nat.reduceEqDiff, Nat.reduceBEq, Nat.reduceAdd, Nat.reduceLeDiff, Nat.reduceLT, reduceCtorEq, Nat.reduceMul, Nat.reduceSub, Int.reduceEq, Int.reduceLT, Int.reduceLE, Int.reduceToNat]); done) | (dsimp only; omega) | trace_state
      | none =>
        have hB : inB k K = false := hio.symm
        rw [if_neg (by rw [hB]; simp)] at hst
        simp only [op0, oq0, or0, op1, oq1, or1, op2, oq2, or2, op3, oq3, or3, op4, oq4, or4, op5, oq5, or5, op6, oq6, or6, op7, oq7, or7, op8, oq8, or8, op9, oq9, or9, op10, oq10, or10, op11, oq11, or11, op12, oq12, or12, op13, oq13, or13, op14, oq14, or14, op15, oq15, or15, op16, oq16, or16, op17, oq17, or17, op18, oq18, or18, op19, oq19, or19, op20, oq20, or20, op21, oq21, or21, op22, oq22, or22, op23, oq23, or23, op24, oq24, or24, ou1, ov1, ou2, ov2, ou3, ov3, ou4, ov4, ou5, ov5, hi3, k0, k1, k2, k3, k4, getK_s (mapC_get st1 ek), getK_s (mapC_get valC ey), go_sem, ↓reduceIte, Nat.reduceEqDiff, Nat.reduceBEq, Nat.reduceAdd, Nat.reduceLeDiff, Nat.reduceLT, reduceCtorEq, Nat.reduceMul, Nat.reduceSub, Int.reduceEq, Int.reduceLT, Int.reduceLE, Int.reduceToNat]
        refine ⟨(i + 1, K ++ [k], I ++ [y], _), ⟨c, ?_, ?_, ?_, hi5.trans hst, ?_⟩, k5, weak_ok ?_ (Sub.cons ?_ (Sub.cons ?_ (Sub.cons ?_ (Sub.cons ?_ (Sub.cons ?_ (Sub.base hf ?_)))))) (Nat.le_refl _)⟩
        all_goals first | ((simp only [op0, oq0, or0, op1, oq1, or1, op2, oq2, or2, op3, oq3, or3, op4, oq4, or4, op5, oq5, or5, op6, oq6, or6, op7, oq7, or7, op8, oq8, or8, op9, oq9, or9, op10, oq10, or10, op11, oq11, or11, op12, oq12, or12, op13, oq13, or13, op14, oq14, or14, op15, oq15, or15, op16, oq16, or16, op17, oq17, or17, op18, oq18, or18, op19, oq19, or19, op20, oq20, or20, op21, oq21, or21, op22, oq22, or22, op23, oq23, or23, op24, oq24, or24, ou1, ov1, ou2, ov2, ou3, ov3, ou4, ov4, ou5, ov5, wr64s i k6, List.length_append, List.length_singleton, hi3, and_self, go_sem, ↓reduceIte, Nat.reduceEqDiff, Nat.reduceBEq, Nat.reduceAdd, Nat.reduceLeDiff, Nat.reduceLT, reduceCtorEq, Nat.reduceMul, Nat.reduceSub, Int.reduceEq, Int.reduceLT, Int.reduceLE, Int.reduceToNat]); done) | (dsimp only; omega) | (simp only [List.length_append, List.length_singleton]; omega) | skip
        intro x hx
        rcases List.mem_append.1 hx with q | q
        · exact hi6 x q
        · rw [List.mem_singleton.1 q]
          exact fb.x (List.mem_of_getElem? ey)
    · have c : i = Zb := by simp at c; omega
      subst c
      rw [addF_end (by rw [List.drop_eq_nil_iff, List.drop_eq_nil_iff]; have := hZb; unfold szO at this; omega)] at eR
      subst eR
      simp only [op0, oq0, or0, op1, oq1, or1, op2, oq2, or2, op3, oq3, or3, op4, oq4, or4, op5, oq5, or5, op6, oq6, or6, op7, oq7, or7, op8, oq8, or8, op9, oq9, or9, op10, oq10, or10, op11, oq11, or11, op12, oq12, or12, op13, oq13, or13, op14, oq14, or14, op15, oq15, or15, op16, oq16, or16, op17, oq17, or17, op18, oq18, or18, op19, oq19, or19, op20, oq20, or20, op21, oq21, or21, op22, oq22, or22, op23, oq23, or23, op24, oq24, or24, ou1, ov1, ou2, ov2, ou3, ov3, ou4, ov4, ou5, ov5, go_sem, ↓reduceIte, Nat.reduceEqDiff, Nat.reduceBEq, Nat.reduceAdd, Nat.reduceLeDiff, Nat.reduceLT, reduceCtorEq, Nat.reduceMul, Nat.reduceSub, Int.reduceEq, Int.reduceLT, Int.reduceLE, Int.reduceToNat]
end Go.Proofs.Ytmcgjccheehehaa
