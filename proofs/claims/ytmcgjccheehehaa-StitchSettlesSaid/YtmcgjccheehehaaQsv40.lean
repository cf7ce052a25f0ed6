/-
  The parts SaP of the proof, in one file. Conditions: none.
-/
import Derived.Test.YtmcgjccheehehaaQsv39
namespace Go.Proofs.Ytmcgjccheehehaa
open Go.Eng
set_option linter.unusedVariables false
set_option linter.unusedSimpArgs false
set_option maxRecDepth 20000
set_option maxHeartbeats 2000000
def failV (s : ByteArray) : Val := .mk 9 0 s [] []
theorem fail1_ok (p : Pk) (s : ByteArray) (c : Nat) (hp : CH) (m : Nat) (hc : gc hp c = .bx [.s s]) (hcm : c < m) : MeetsF Try.prog 73 hp m [px p, .bx c 0] (vx (failV s)) := by
  have z1 : ¬ m = c := by omega
  have z2 : ¬ m + 1 = c := by omega
  unfold failV
  refine meetsF Try.func73 (by kernel_rfl) cc73 cr73 rfl fun hf => ?_; unfold ck73
  simp only [z1, z2, hc, go_sem, ↓reduceIte, Nat.reduceEqDiff, Nat.reduceBEq, Nat.reduceAdd, Nat.reduceLeDiff, Nat.reduceLT, reduceCtorEq, Nat.reduceMul, Nat.reduceSub, Int.reduceEq, Int.reduceLT, Int.reduceLE, Int.reduceToNat]
theorem fail_ok (l : List Pk) (on s : ByteArray) (hl : l.length ≤ 879609302220) (hp : CH) (m : Nat) : MeetsF Try.prog 39 hp m [.ds (mapC pkC l), .s on, .s s] (vx (collV on (fun _ => failV s) l)) := by
  have h1 := fun hp m => collect_ok l on (fun _ => failV s) 73 [.bx m 0] hl hp
  obtain ⟨R, hR⟩ : ∃ R, collV on (fun _ => failV s) l = R := ⟨_, rfl⟩
  rw [hR] at h1 ⊢
  refine meetsF Try.func39 (by kernel_rfl) cc39 cr39 rfl fun hf => ?_; unfold ck39
  simp only [go_sem, ↓reduceIte, Nat.reduceEqDiff, Nat.reduceBEq, Nat.reduceAdd, Nat.reduceLeDiff, Nat.reduceLT, reduceCtorEq, Nat.reduceMul, Nat.reduceSub, Int.reduceEq, Int.reduceLT, Int.reduceLE, Int.reduceToNat]
  refine vcCall.f (h1 _ m _ fun p hpm hp' n' hh hn => fail1_ok p s m hp' n' ?_ (by omega)) ?_
  · rw [hh m (by omega)]
    simp only [go_sem, ↓reduceIte, Nat.reduceEqDiff, Nat.reduceBEq, Nat.reduceAdd, Nat.reduceLeDiff, Nat.reduceLT, reduceCtorEq, Nat.reduceMul, Nat.reduceSub, Int.reduceEq, Int.reduceLT, Int.reduceLE, Int.reduceToNat]
  simp only [go_sem, ↓reduceIte, Nat.reduceEqDiff, Nat.reduceBEq, Nat.reduceAdd, Nat.reduceLeDiff, Nat.reduceLT, reduceCtorEq, Nat.reduceMul, Nat.reduceSub, Int.reduceEq, Int.reduceLT, Int.reduceLE, Int.reduceToNat]
theorem rfail_ok (l : List Pk) (on s : ByteArray) (hl : l.length ≤ 879609302220) (hp : CH) (m : Nat) : MeetsF Try.prog 40 hp m [.ds (mapC pkC l), .s on, .s s] (vx (collV on (fun _ => failV s) l)) := by
  unfold collV
  refine meetsF Try.func40 (by kernel_rfl) cc40 cr40 rfl fun hf => ?_; unfold ck40
  simp only [go_sem, ↓reduceIte, Nat.reduceEqDiff, Nat.reduceBEq, Nat.reduceAdd, Nat.reduceLeDiff, Nat.reduceLT, reduceCtorEq, Nat.reduceMul, Nat.reduceSub, Int.reduceEq, Int.reduceLT, Int.reduceLE, Int.reduceToNat]
  refine vcCall.f (rtext_ok _ _ _) ?_
  simp only [go_sem, ↓reduceIte, Nat.reduceEqDiff, Nat.reduceBEq, Nat.reduceAdd, Nat.reduceLeDiff, Nat.reduceLT, reduceCtorEq, Nat.reduceMul, Nat.reduceSub, Int.reduceEq, Int.reduceLT, Int.reduceLE, Int.reduceToNat]
  refine loop (fun p : Nat × Nat => ⟨[(0, .ds (mapC pkC l)), (1, .s on), (2, .s s), (6, .bx m 0), (7, .bx (m + 3) 0), (8, .i .i64 p.1)],
      (m + 3, .bx [.i .i64 6, .i .i64 0, .s ⟨#[]⟩, .rw (m + 2) (onP on (l.take p.1)).length ((onP on (l.take p.1)).length + 1), .rw (m + 1) (onP on (l.take p.1)).length ((onP on (l.take p.1)).length + 1)]) ::
      (m + 2, .rw (onP on (l.take p.1)).length 5 (mapC valC (.mk 3 0 on [] [] :: (onP on (l.take p.1)).map (fun _ => failV s)))) :: (m + 1, .rw (onP on (l.take p.1)).length 1 (stC (ttN :: (onP on (l.take p.1)).map Pk.key))) ::
      (m, .bx [.i .i64 0, .i .i64 0, .s ⟨#[]⟩, .e0, .e0]) :: hp, p.2⟩)
    (fun p => p.1 ≤ l.length ∧ m + 4 ≤ p.2) (fun p => l.length - p.1) (0, m + 4) ?_ ?_ (fun ⟨j, n⟩ hj => ?_)
  · exact ⟨Nat.zero_le _, Nat.le_refl _⟩
  · have h0 : onP on [] = [] := rfl
    refine weak_ok ?_ (Sub.cons ?_ (Sub.cons ?_ (Sub.cons ?_ (Sub.cons ?_ (Sub.base hf ?_))))) (Nat.le_refl _)
    all_goals first | (simp only [go_sem, ↓reduceIte, Nat.reduceEqDiff, Nat.reduceBEq, Nat.reduceAdd, Nat.reduceLeDiff, Nat.reduceLT, reduceCtorEq, Nat.reduceMul, Nat.reduceSub, Int.reduceEq, Int.reduceLT, Int.reduceLE, Int.reduceToNat]; done) | (simp only [List.take_zero, h0, List.map_nil, List.length_nil]; simp only [go_sem, ↓reduceIte, Nat.reduceEqDiff, Nat.reduceBEq, Nat.reduceAdd, Nat.reduceLeDiff, Nat.reduceLT, reduceCtorEq, Nat.reduceMul, Nat.reduceSub, Int.reduceEq, Int.reduceLT, Int.reduceLE, Int.reduceToNat]; done) | (simp only [List.take_zero, h0, List.map_nil, List.length_nil]; simp only [go_sem, ↓reduceIte, Nat.reduceEqDiff, Nat.reduceBEq, Nat.reduceAdd, Nat.reduceLeDiff, Nat.reduceLT, reduceCtorEq, Nat.reduceMul, Nat.reduceSub, Int.reduceEq, Int.reduceLT, Int.reduceLE, Int.reduceToNat]; rfl) | trace_state
  dsimp only at hj
  obtain ⟨hj1, hj2⟩ := hj
  have p0 : ¬ n = m := by omega
  have q0 : ¬ m = n := by omega
  have r0 : m ≤ n := by omega
  have p1 : ¬ n + 1 = m := by omega
  have q1 : ¬ m = n + 1 := by omega
  have r1 : m ≤ n + 1 := by omega
  have p2 : ¬ n + 2 = m := by omega
  have q2 : ¬ m = n + 2 := by omega
  have r2 : m ≤ n + 2 := by omega
  have p3 : ¬ n + 3 = m := by omega
  have q3 : ¬ m = n + 3 := by omega
  have r3 : m ≤ n + 3 := by omega
  have p4 : ¬ n + 4 = m := by omega
  have q4 : ¬ m = n + 4 := by omega
  have r4 : m ≤ n + 4 := by omega
  have p5 : ¬ n + 5 = m := by omega
  have q5 : ¬ m = n + 5 := by omega
  have r5 : m ≤ n + 5 := by omega
  have p6 : ¬ n + 6 = m := by omega
  have q6 : ¬ m = n + 6 := by omega
  have r6 : m ≤ n + 6 := by omega
  have p7 : ¬ n + 7 = m := by omega
  have q7 : ¬ m = n + 7 := by omega
  have r7 : m ≤ n + 7 := by omega
  have p8 : ¬ n + 8 = m := by omega
  have q8 : ¬ m = n + 8 := by omega
  have r8 : m ≤ n + 8 := by omega
  have p9 : ¬ n + 9 = m := by omega
  have q9 : ¬ m = n + 9 := by omega
  have r9 : m ≤ n + 9 := by omega
  have p10 : ¬ n + 10 = m := by omega
  have q10 : ¬ m = n + 10 := by omega
  have r10 : m ≤ n + 10 := by omega
  have p11 : ¬ n + 11 = m := by omega
  have q11 : ¬ m = n + 11 := by omega
  have r11 : m ≤ n + 11 := by omega
  have p12 : ¬ n + 12 = m := by omega
  have q12 : ¬ m = n + 12 := by omega
  have r12 : m ≤ n + 12 := by omega
  have p13 : ¬ n + 13 = m := by omega
  have q13 : ¬ m = n + 13 := by omega
  have r13 : m ≤ n + 13 := by omega
  have p14 : ¬ n + 14 = m := by omega
  have q14 : ¬ m = n + 14 := by omega
  have r14 : m ≤ n + 14 := by omega
  have p15 : ¬ n + 15 = m := by omega
  have q15 : ¬ m = n + 15 := by omega
  have r15 : m ≤ n + 15 := by omega
  have p16 : ¬ n + 16 = m := by omega
  have q16 : ¬ m = n + 16 := by omega
  have r16 : m ≤ n + 16 := by omega
  have p17 : ¬ n + 17 = m := by omega
  have q17 : ¬ m = n + 17 := by omega
  have r17 : m ≤ n + 17 := by omega
  have p18 : ¬ n + 18 = m := by omega
  have q18 : ¬ m = n + 18 := by omega
  have r18 : m ≤ n + 18 := by omega
  have p19 : ¬ n + 19 = m := by omega
  have q19 : ¬ m = n + 19 := by omega
  have r19 : m ≤ n + 19 := by omega
  have p20 : ¬ n + 20 = m := by omega
  have q20 : ¬ m = n + 20 := by omega
  have r20 : m ≤ n + 20 := by omega
  have p21 : ¬ n + 21 = m := by omega
  have q21 : ¬ m = n + 21 := by omega
  have r21 : m ≤ n + 21 := by omega
  have p22 : ¬ n + 22 = m := by omega
  have q22 : ¬ m = n + 22 := by omega
  have r22 : m ≤ n + 22 := by omega
  have p23 : ¬ n + 23 = m := by omega
  have q23 : ¬ m = n + 23 := by omega
  have r23 : m ≤ n + 23 := by omega
  have p24 : ¬ n + 24 = m := by omega
  have q24 : ¬ m = n + 24 := by omega
  have r24 : m ≤ n + 24 := by omega
  have u1 : ¬ n = m + 1 := by omega
  have v1 : ¬ m + 1 = n := by omega
  have u2 : ¬ n = m + 2 := by omega
  have v2 : ¬ m + 2 = n := by omega
  have u3 : ¬ n = m + 3 := by omega
  have v3 : ¬ m + 3 = n := by omega
  obtain ⟨Y, hY⟩ : ∃ Y, onP on (l.take j) = Y := ⟨_, rfl⟩
  have hYl := onP_len on (l.take j)
  rw [hY, List.length_take] at hYl
  rw [hY]
  obtain ⟨K, hK⟩ : ∃ K, Y.map Pk.key = K := ⟨_, rfl⟩
  obtain ⟨I, hI⟩ : ∃ I, Y.map (fun _ => failV s) = I := ⟨_, rfl⟩
  obtain ⟨c, hc⟩ : ∃ c, Y.length = c := ⟨_, rfl⟩
  have hKl : K.length = c := by rw [← hK, List.length_map, hc]
  have hIl : I.length = c := by rw [← hI, List.length_map, hc]
  rw [hK, hI, hc]
  rw [hc] at hYl
  simp only [p0, q0, r0, p1, q1, r1, p2, q2, r2, p3, q3, r3, p4, q4, r4, p5, q5, r5, p6, q6, r6, p7, q7, r7, p8, q8, r8, p9, q9, r9, p10, q10, r10, p11, q11, r11, p12, q12, r12, p13, q13, r13, p14, q14, r14, p15, q15, r15, p16, q16, r16, p17, q17, r17, p18, q18, r18, p19, q19, r19, p20, q20, r20, p21, q21, r21, p22, q22, r22, p23, q23, r23, p24, q24, r24, u1, v1, u2, v2, u3, v3, hKl, hIl, go_sem, ↓reduceIte, Nat.reduceEqDiff, Nat.reduceBEq, Nat.reduceAdd, Nat.reduceLeDiff, Nat.reduceLT, reduceCtorEq, Nat.reduceMul, Nat.reduceSub, Int.reduceEq, Int.reduceLT, Int.reduceLE, Int.reduceToNat]
  refine cdK_of (fun d => ?_) (fun d => ?_)
  · have d : j < l.length := by simpa using d
    obtain ⟨p, ep⟩ : ∃ p, l[j]? = some p := ⟨l[j]'(by omega), by simp⟩
    have hpm := List.mem_of_getElem? ep
    have hsn := onP_snoc on (l.take j) p
    rw [take_snoc ep, hY] at hsn
    have k2 : (c + 2) * 80 ≤ 140737488355328 := by omega
    have k3 : (c + 2) * 16 ≤ 140737488355328 := by omega
    have k4 : c ≤ 9223372036854775805 := by omega
    have k5 : l.length - (j + 1) < l.length - j := by omega
    have k6 : j < 9223372036854775807 := by omega
    simp only [p0, q0, r0, p1, q1, r1, p2, q2, r2, p3, q3, r3, p4, q4, r4, p5, q5, r5, p6, q6, r6, p7, q7, r7, p8, q8, r8, p9, q9, r9, p10, q10, r10, p11, q11, r11, p12, q12, r12, p13, q13, r13, p14, q14, r14, p15, q15, r15, p16, q16, r16, p17, q17, r17, p18, q18, r18, p19, q19, r19, p20, q20, r20, p21, q21, r21, p22, q22, r22, p23, q23, r23, p24, q24, r24, u1, v1, u2, v2, u3, v3, d, getK_s (mapC_get pkC ep), hKl, hIl, go_sem, ↓reduceIte, Nat.reduceEqDiff, Nat.reduceBEq, Nat.reduceAdd, Nat.reduceLeDiff, Nat.reduceLT, reduceCtorEq, Nat.reduceMul, Nat.reduceSub, Int.reduceEq, Int.reduceLT, Int.reduceLE, Int.reduceToNat]
    refine cdK_of (fun d1 => ?_) (fun d1 => ?_)
    · have d1 : p.on = on := by simpa using d1
      rw [if_pos d1] at hsn
      simp only [p0, q0, r0, p1, q1, r1, p2, q2, r2, p3, q3, r3, p4, q4, r4, p5, q5, r5, p6, q6, r6, p7, q7, r7, p8, q8, r8, p9, q9, r9, p10, q10, r10, p11, q11, r11, p12, q12, r12, p13, q13, r13, p14, q14, r14, p15, q15, r15, p16, q16, r16, p17, q17, r17, p18, q18, r18, p19, q19, r19, p20, q20, r20, p21, q21, r21, p22, q22, r22, p23, q23, r23, p24, q24, r24, u1, v1, u2, v2, u3, v3, d, getK_s (mapC_get pkC ep), hKl, hIl, k2, k3, k4, go_sem, ↓reduceIte, Nat.reduceEqDiff, Nat.reduceBEq, Nat.reduceAdd, Nat.reduceLeDiff, Nat.reduceLT, reduceCtorEq, Nat.reduceMul, Nat.reduceSub, Int.reduceEq, Int.reduceLT, Int.reduceLE, Int.reduceToNat]
      have kz : mapC valC (I ++ [failV s]) = mapC valC I ++ [[.i .i64 9, .i .i64 0, .s s, .ds [], .ds []]] := by simp [mapC]; rfl
      have e1 : (Y ++ [p]).map Pk.key = K ++ [p.key] := by rw [List.map_append, hK]; rfl
      have e2 : (Y ++ [p]).map (fun _ => failV s) = I ++ [failV s] := by rw [List.map_append, hI]; rfl
      have e3 : (Y ++ [p]).length = c + 1 := by rw [List.length_append, hc]; rfl
      refine ⟨(j + 1, _), ⟨d, ?_⟩, k5, weak_ok ?_ (Sub.cons ?_ (Sub.cons ?_ (Sub.cons ?_ (Sub.cons ?_ (Sub.base hf ?_))))) (Nat.le_refl _)⟩
      all_goals first | ((simp only [p0, q0, r0, p1, q1, r1, p2, q2, r2, p3, q3, r3, p4, q4, r4, p5, q5, r5, p6, q6, r6, p7, q7, r7, p8, q8, r8, p9, q9, r9, p10, q10, r10, p11, q11, r11, p12, q12, r12, p13, q13, r13, p14, q14, r14, p15, q15, r15, p16, q16, r16, p17, q17, r17, p18, q18, r18, p19, q19, r19, p20, q20, r20, p21, q21, r21, p22, q22, r22, p23, q23, r23, p24, q24, r24, u1, v1, u2, v2, u3, v3, wr64s j k6, hsn, e1, e2, e3, go_sem, ↓reduceIte, Nat.reduceEqDiff, Nat.reduceBEq, Nat.reduceAdd, Nat.reduceLeDiff, Nat.reduceLT, reduceCtorEq, Nat.reduceMul, Nat.reduceSub, Int.reduceEq, Int.reduceLT, Int.reduceLE, Int.reduceToNat]); done) | (dsimp only; omega) | ((simp only [p0, q0, r0, p1, q1, r1, p2, q2, r2, p3, q3, r3, p4, q4, r4, p5, q5, r5, p6, q6, r6, p7, q7, r7, p8, q8, r8, p9, q9, r9, p10, q10, r10, p11, q11, r11, p12, q12, r12, p13, q13, r13, p14, q14, r14, p15, q15, r15, p16, q16, r16, p17, q17, r17, p18, q18, r18, p19, q19, r19, p20, q20, r20, p21, q21, r21, p22, q22, r22, p23, q23, r23, p24, q24, r24, u1, v1, u2, v2, u3, v3, hsn, e1, e2, e3, go_sem, ↓reduceIte, Nat.reduceEqDiff, Nat.reduceBEq, Nat.reduceAdd, Nat.reduceLeDiff, Nat.reduceLT, reduceCtorEq, Nat.reduceMul, Nat.reduceSub, Int.reduceEq, Int.reduceLT, Int.reduceLE, Int.reduceToNat]); exact congrArg (fun l => Chunk.rw (c + 1) 5 ([.i .i64 3, .i .i64 0, .s on, .ds [], .ds []] :: l)) kz.symm) | trace_state
    · have d1 : ¬ p.on = on := by simpa using d1
      rw [if_neg d1] at hsn
      simp only [p0, q0, r0, p1, q1, r1, p2, q2, r2, p3, q3, r3, p4, q4, r4, p5, q5, r5, p6, q6, r6, p7, q7, r7, p8, q8, r8, p9, q9, r9, p10, q10, r10, p11, q11, r11, p12, q12, r12, p13, q13, r13, p14, q14, r14, p15, q15, r15, p16, q16, r16, p17, q17, r17, p18, q18, r18, p19, q19, r19, p20, q20, r20, p21, q21, r21, p22, q22, r22, p23, q23, r23, p24, q24, r24, u1, v1, u2, v2, u3, v3, hKl, hIl, go_sem, ↓reduceIte, Nat.reduceEqDiff, Nat.reduceBEq, Nat.reduceAdd, Nat.reduceLeDiff, Nat.reduceLT, reduceCtorEq, Nat.reduceMul, Nat.reduceSub, Int.reduceEq, Int.reduceLT, Int.reduceLE, Int.reduceToNat]
      refine ⟨(j + 1, _), ⟨d, ?_⟩, k5, weak_ok ?_ (Sub.cons ?_ (Sub.cons ?_ (Sub.cons ?_ (Sub.cons ?_ (Sub.base hf ?_))))) (Nat.le_refl _)⟩
      all_goals first | ((simp only [p0, q0, r0, p1, q1, r1, p2, q2, r2, p3, q3, r3, p4, q4, r4, p5, q5, r5, p6, q6, r6, p7, q7, r7, p8, q8, r8, p9, q9, r9, p10, q10, r10, p11, q11, r11, p12, q12, r12, p13, q13, r13, p14, q14, r14, p15, q15, r15, p16, q16, r16, p17, q17, r17, p18, q18, r18, p19, q19, r19, p20, q20, r20, p21, q21, r21, p22, q22, r22, p23, q23, r23, p24, q24, r24, u1, v1, u2, v2, u3, v3, wr64s j k6, hsn, hK, hI, hc, go_sem, ↓reduceIte, Nat.reduceEqDiff, Nat.reduceBEq, Nat.reduceAdd, Nat.reduceLeDiff, Nat.reduceLT, reduceCtorEq, Nat.reduceMul, Nat.reduceSub, Int.reduceEq, Int.reduceLT, Int.reduceLE, Int.reduceToNat]); done) | (dsimp only; omega) | trace_state
  · have d : j = l.length := by simp at d; omega
    subst d
    rw [List.take_length] at hY
    rw [hY, hK, hI]
    have t1 : K.take c = K := List.take_of_length_le (by omega)
    have t2 : I.take c = I := List.take_of_length_le (by omega)
    simp only [p0, q0, r0, p1, q1, r1, p2, q2, r2, p3, q3, r3, p4, q4, r4, p5, q5, r5, p6, q6, r6, p7, q7, r7, p8, q8, r8, p9, q9, r9, p10, q10, r10, p11, q11, r11, p12, q12, r12, p13, q13, r13, p14, q14, r14, p15, q15, r15, p16, q16, r16, p17, q17, r17, p18, q18, r18, p19, q19, r19, p20, q20, r20, p21, q21, r21, p22, q22, r22, p23, q23, r23, p24, q24, r24, u1, v1, u2, v2, u3, v3, hKl, hIl, t1, t2, go_sem, ↓reduceIte, Nat.reduceEqDiff, Nat.reduceBEq, Nat.reduceAdd, Nat.reduceLeDiff, Nat.reduceLT, reduceCtorEq, Nat.reduceMul, Nat.reduceSub, Int.reduceEq, Int.reduceLT, Int.reduceLE, Int.reduceToNat]
end Go.Proofs.Ytmcgjccheehehaa
