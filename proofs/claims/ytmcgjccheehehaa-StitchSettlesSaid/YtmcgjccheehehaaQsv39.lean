/-
  The parts SaO of the proof, in one file. Conditions: none.
-/
import Derived.Test.YtmcgjccheehehaaQsv38
namespace Go.Proofs.Ytmcgjccheehehaa
open Go.Eng
set_option linter.unusedVariables false
set_option linter.unusedSimpArgs false
set_option maxRecDepth 20000
set_option maxHeartbeats 2000000
abbrev px (p : Pk) : AV := .ag [.s p.key, .s p.on, .s p.name, .ds (mapC argC p.args), .s p.tn, .ds (mapC in1 p.tw), .s p.label, .i .i64 p.initial, .ds (mapC pkC p.picks)]
/-- The picks of a type. -/
def onP (on : ByteArray) (l : List Pk) : List Pk := l.filter fun p => decide (p.on = on)
theorem onP_snoc (on : ByteArray) (l : List Pk) (p : Pk) : onP on (l ++ [p]) = if p.on = on then onP on l ++ [p] else onP on l := by
  unfold onP
  rw [List.filter_append]
  split <;> rename_i h <;> simp [h]
theorem onP_len (on : ByteArray) (l : List Pk) : (onP on l).length ≤ l.length := List.length_filter_le _ _
abbrev ttN : ByteArray := ⟨#[95, 95, 116]⟩
/-- An object with a value for each pick of a type. -/
noncomputable def collV (on : ByteArray) (one : Pk → Val) (l : List Pk) : Val := .mk 6 0 ⟨#[]⟩ (.mk 3 0 on [] [] :: (onP on l).map one) (ttN :: (onP on l).map Pk.key)
theorem collect_ok (l : List Pk) (on : ByteArray) (one : Pk → Val) (g : FuncId) (caps : List AV) (hl : l.length ≤ 879609302220) (hp : CH) (m : Nat)
    (hone : ∀ p ∈ l, ∀ hp' n', (∀ k, k < m → gc hp' k = gc hp k) → m ≤ n' → MeetsF Try.prog g hp' n' (px p :: caps) (vx (one p))) :
    MeetsF Try.prog 68 hp m [.ds (mapC pkC l), .s on, .fn g caps] (vx (collV on one l)) := by
  unfold collV
  refine meetsF Try.func68 (by kernel_rfl) cc68 cr68 rfl fun hf => ?_; unfold ck68
  simp only [go_sem, ↓reduceIte, Nat.reduceEqDiff, Nat.reduceBEq, Nat.reduceAdd, Nat.reduceLeDiff, Nat.reduceLT, reduceCtorEq, Nat.reduceMul, Nat.reduceSub, Int.reduceEq, Int.reduceLT, Int.reduceLE, Int.reduceToNat]
  refine vcCall.f (text_ok _ _ _) ?_
  simp only [go_sem, ↓reduceIte, Nat.reduceEqDiff, Nat.reduceBEq, Nat.reduceAdd, Nat.reduceLeDiff, Nat.reduceLT, reduceCtorEq, Nat.reduceMul, Nat.reduceSub, Int.reduceEq, Int.reduceLT, Int.reduceLE, Int.reduceToNat]
  refine loop (fun p : Nat × Nat => ⟨[(1, .s on), (2, .fn g caps), (6, .bx m 0), (7, .bx (m + 3) 0), (15, .ds (mapC pkC l)), (16, .i .i64 l.length), (17, .i .i64 p.1)],
      (m + 3, .bx [.i .i64 6, .i .i64 0, .s ⟨#[]⟩, .rw (m + 2) (onP on (l.take p.1)).length ((onP on (l.take p.1)).length + 1), .rw (m + 1) (onP on (l.take p.1)).length ((onP on (l.take p.1)).length + 1)]) ::
      (m + 2, .rw (onP on (l.take p.1)).length 5 (mapC valC (.mk 3 0 on [] [] :: (onP on (l.take p.1)).map one))) :: (m + 1, .rw (onP on (l.take p.1)).length 1 (stC (ttN :: (onP on (l.take p.1)).map Pk.key))) ::
      (m, .bx [.i .i64 0, .i .i64 0, .s ⟨#[]⟩, .e0, .e0]) :: hp, p.2⟩)
    (fun p => p.1 ≤ l.length ∧ m + 4 ≤ p.2) (fun p => l.length - p.1) (0, m + 4) ?_ ?_ (fun ⟨j, n⟩ hj => ?_)
  · exact ⟨Nat.zero_le _, Nat.le_refl _⟩
  · have h0 : onP on [] = [] := rfl
    refine weak_ok ?_ (Sub.cons ?_ (Sub.cons ?_ (Sub.cons ?_ (Sub.cons ?_ (Sub.base hf ?_))))) (Nat.le_refl _)
    all_goals first | (simp only [go_sem, ↓reduceIte, Nat.reduceEqDiff, Nat.reduceBEq, Nat.reduceAdd, Nat.reduceLeDiff, Nat.reduceLT, reduceCtorEq, Nat.reduceMul, Nat.reduceSub, Int.reduceEq, Int.reduceLT, Int.reduceLE, Int.reduceToNat]; done) | (simp only [List.take_zero, h0, List.map_nil, List.length_nil]; simp only [go_sem, ↓reduceIte, Nat.reduceEqDiff, Nat.reduceBEq, Nat.reduceAdd, Nat.reduceLeDiff, Nat.reduceLT, reduceCtorEq, Nat.reduceMul, Nat.reduceSub, Int.reduceEq, Int.reduceLT, Int.reduceLE, Int.reduceToNat]; done) | (simp only [List.take_zero, h0, List.map_nil, List.length_nil]; simp only [go_sem, ↓reduceIte, Nat.reduceEqDiff, Nat.reduceBEq, Nat.reduceAdd, Nat.reduceLeDiff, Nat.reduceLT, reduceCtorEq, Nat.reduceMul, Nat.reduceSub, Int.reduceEq, Int.reduceLT, Int.reduceLE, Int.reduceToNat]; rfl) | trace_state
  dsimp only at hj
  obtain ⟨hj1, hj2⟩ := hj
  have p0 : ¬ n = m := by omega
  have q0 : ¬ m = n := by omega
  have r0 : m ≤ n := by omega
  have p1 : ¬ n + 1 = m := by omega
  have q1 : ¬ m = n + 1 := by omega
  have r1 : m ≤ n + 1 := by omega
  have p2 : ¬ n + 2 = m := by omega
  have q2 : ¬ m = n + 2 := by omega
  have r2 : m ≤ n + 2 := by omega
  have p3 : ¬ n + 3 = m := by omega
  have q3 : ¬ m = n + 3 := by omega
  have r3 : m ≤ n + 3 := by omega
  have p4 : ¬ n + 4 = m := by omega
  have q4 : ¬ m = n + 4 := by omega
  have r4 : m ≤ n + 4 := by omega
  have p5 : ¬ n + 5 = m := by omega
  have q5 : ¬ m = n + 5 := by omega
  have r5 : m ≤ n + 5 := by omega
  have p6 : ¬ n + 6 = m := by omega
  have q6 : ¬ m = n + 6 := by omega
  have r6 : m ≤ n + 6 := by omega
  have p7 : ¬ n + 7 = m := by omega
  have q7 : ¬ m = n + 7 := by omega
  have r7 : m ≤ n + 7 := by omega
  have p8 : ¬ n + 8 = m := by omega
  have q8 : ¬ m = n + 8 := by omega
  have r8 : m ≤ n + 8 := by omega
  have p9 : ¬ n + 9 = m := by omega
  have q9 : ¬ m = n + 9 := by omega
  have r9 : m ≤ n + 9 := by omega
  have p10 : ¬ n + 10 = m := by omega
  have q10 : ¬ m = n + 10 := by omega
  have r10 : m ≤ n + 10 := by omega
  have p11 : ¬ n + 11 = m := by omega
  have q11 : ¬ m = n + 11 := by omega
  have r11 : m ≤ n + 11 := by omega
  have p12 : ¬ n + 12 = m := by omega
  have q12 : ¬ m = n + 12 := by omega
  have r12 : m ≤ n + 12 := by omega
  have p13 : ¬ n + 13 = m := by omega
  have q13 : ¬ m = n + 13 := by omega
  have r13 : m ≤ n + 13 := by omega
  have p14 : ¬ n + 14 = m := by omega
  have q14 : ¬ m = n + 14 := by omega
  have r14 : m ≤ n + 14 := by omega
  have p15 : ¬ n + 15 = m := by omega
  have q15 : ¬ m = n + 15 := by omega
  have r15 : m ≤ n + 15 := by omega
  have p16 : ¬ n + 16 = m := by omega
  have q16 : ¬ m = n + 16 := by omega
  have r16 : m ≤ n + 16 := by omega
  have u1 : ¬ n = m + 1 := by omega
  have v1 : ¬ m + 1 = n := by omega
  have u2 : ¬ n = m + 2 := by omega
  have v2 : ¬ m + 2 = n := by omega
  have u3 : ¬ n = m + 3 := by omega
  have v3 : ¬ m + 3 = n := by omega
  obtain ⟨Y, hY⟩ : ∃ Y, onP on (l.take j) = Y := ⟨_, rfl⟩
  have hYl := onP_len on (l.take j)
  rw [hY, List.length_take] at hYl
  rw [hY]
  obtain ⟨K, hK⟩ : ∃ K, Y.map Pk.key = K := ⟨_, rfl⟩
  obtain ⟨I, hI⟩ : ∃ I, Y.map one = I := ⟨_, rfl⟩
  obtain ⟨c, hc⟩ : ∃ c, Y.length = c := ⟨_, rfl⟩
  have hKl : K.length = c := by rw [← hK, List.length_map, hc]
  have hIl : I.length = c := by rw [← hI, List.length_map, hc]
  rw [hK, hI, hc]
  rw [hc] at hYl
  simp only [p0, q0, r0, p1, q1, r1, p2, q2, r2, p3, q3, r3, p4, q4, r4, p5, q5, r5, p6, q6, r6, p7, q7, r7, p8, q8, r8, p9, q9, r9, p10, q10, r10, p11, q11, r11, p12, q12, r12, p13, q13, r13, p14, q14, r14, p15, q15, r15, p16, q16, r16, u1, v1, u2, v2, u3, v3, hKl, hIl, go_sem, ↓reduceIte, Nat.reduceEqDiff, Nat.reduceBEq, Nat.reduceAdd, Nat.reduceLeDiff, Nat.reduceLT, reduceCtorEq, Nat.reduceMul, Nat.reduceSub, Int.reduceEq, Int.reduceLT, Int.reduceLE, Int.reduceToNat]
  refine cdK_of (fun d => ?_) (fun d => ?_)
  · have d : j < l.length := by simpa using d
    obtain ⟨p, ep⟩ : ∃ p, l[j]? = some p := ⟨l[j]'(by omega), by simp⟩
    have hpm := List.mem_of_getElem? ep
    have hsn := onP_snoc on (l.take j) p
    rw [take_snoc ep, hY] at hsn
    have k2 : (c + 2) * 80 ≤ 140737488355328 := by omega
    have k3 : (c + 2) * 16 ≤ 140737488355328 := by omega
    have k4 : c ≤ 9223372036854775805 := by omega
    have k5 : l.length - (j + 1) < l.length - j := by omega
    have k6 : j < 9223372036854775807 := by omega
    simp only [p0, q0, r0, p1, q1, r1, p2, q2, r2, p3, q3, r3, p4, q4, r4, p5, q5, r5, p6, q6, r6, p7, q7, r7, p8, q8, r8, p9, q9, r9, p10, q10, r10, p11, q11, r11, p12, q12, r12, p13, q13, r13, p14, q14, r14, p15, q15, r15, p16, q16, r16, u1, v1, u2, v2, u3, v3, d, getK_s (mapC_get pkC ep), hKl, hIl, go_sem, ↓reduceIte, Nat.reduceEqDiff, Nat.reduceBEq, Nat.reduceAdd, Nat.reduceLeDiff, Nat.reduceLT, reduceCtorEq, Nat.reduceMul, Nat.reduceSub, Int.reduceEq, Int.reduceLT, Int.reduceLE, Int.reduceToNat]
    refine cdK_of (fun d1 => ?_) (fun d1 => ?_)
    · have d1 : p.on = on := by simpa using d1
      rw [if_pos d1] at hsn
      simp only [p0, q0, r0, p1, q1, r1, p2, q2, r2, p3, q3, r3, p4, q4, r4, p5, q5, r5, p6, q6, r6, p7, q7, r7, p8, q8, r8, p9, q9, r9, p10, q10, r10, p11, q11, r11, p12, q12, r12, p13, q13, r13, p14, q14, r14, p15, q15, r15, p16, q16, r16, u1, v1, u2, v2, u3, v3, hKl, hIl, k2, k3, k4, go_sem, ↓reduceIte, Nat.reduceEqDiff, Nat.reduceBEq, Nat.reduceAdd, Nat.reduceLeDiff, Nat.reduceLT, reduceCtorEq, Nat.reduceMul, Nat.reduceSub, Int.reduceEq, Int.reduceLT, Int.reduceLE, Int.reduceToNat]
      refine dCall.f (fun _ hp' hh => hone p hpm hp' _ (fun k hk => ?_) ?_) ?_
      · rw [hh k (.inl (by omega))]
        simp only [gc_cons]
        repeat rw [if_neg (by omega)]
      · omega
      simp only [p0, q0, r0, p1, q1, r1, p2, q2, r2, p3, q3, r3, p4, q4, r4, p5, q5, r5, p6, q6, r6, p7, q7, r7, p8, q8, r8, p9, q9, r9, p10, q10, r10, p11, q11, r11, p12, q12, r12, p13, q13, r13, p14, q14, r14, p15, q15, r15, p16, q16, r16, u1, v1, u2, v2, u3, v3, hKl, hIl, k2, k3, k4, go_sem, ↓reduceIte, Nat.reduceEqDiff, Nat.reduceBEq, Nat.reduceAdd, Nat.reduceLeDiff, Nat.reduceLT, reduceCtorEq, Nat.reduceMul, Nat.reduceSub, Int.reduceEq, Int.reduceLT, Int.reduceLE, Int.reduceToNat]
      have e1 : (Y ++ [p]).map Pk.key = K ++ [p.key] := by rw [List.map_append, hK]; rfl
      have e2 : (Y ++ [p]).map one = I ++ [one p] := by rw [List.map_append, hI]; rfl
      have e3 : (Y ++ [p]).length = c + 1 := by rw [List.length_append, hc]; rfl
      refine ⟨(j + 1, _), ⟨d, ?_⟩, k5, weak_ok ?_ (Sub.cons ?_ (Sub.cons ?_ (Sub.cons ?_ (Sub.cons ?_ (Sub.base hf ?_))))) (Nat.le_refl _)⟩
      all_goals first | ((simp only [p0, q0, r0, p1, q1, r1, p2, q2, r2, p3, q3, r3, p4, q4, r4, p5, q5, r5, p6, q6, r6, p7, q7, r7, p8, q8, r8, p9, q9, r9, p10, q10, r10, p11, q11, r11, p12, q12, r12, p13, q13, r13, p14, q14, r14, p15, q15, r15, p16, q16, r16, u1, v1, u2, v2, u3, v3, wr64s j k6, hsn, e1, e2, e3, go_sem, ↓reduceIte, Nat.reduceEqDiff, Nat.reduceBEq, Nat.reduceAdd, Nat.reduceLeDiff, Nat.reduceLT, reduceCtorEq, Nat.reduceMul, Nat.reduceSub, Int.reduceEq, Int.reduceLT, Int.reduceLE, Int.reduceToNat]); done) | (dsimp only; omega) | trace_state
    · have d1 : ¬ p.on = on := by simpa using d1
      rw [if_neg d1] at hsn
      simp only [p0, q0, r0, p1, q1, r1, p2, q2, r2, p3, q3, r3, p4, q4, r4, p5, q5, r5, p6, q6, r6, p7, q7, r7, p8, q8, r8, p9, q9, r9, p10, q10, r10, p11, q11, r11, p12, q12, r12, p13, q13, r13, p14, q14, r14, p15, q15, r15, p16, q16, r16, u1, v1, u2, v2, u3, v3, hKl, hIl, go_sem, ↓reduceIte, Nat.reduceEqDiff, Nat.reduceBEq, Nat.reduceAdd, Nat.reduceLeDiff, Nat.reduceLT, reduceCtorEq, Nat.reduceMul, Nat.reduceSub, Int.reduceEq, Int.reduceLT, Int.reduceLE, Int.reduceToNat]
      refine ⟨(j + 1, _), ⟨d, ?_⟩, k5, weak_ok ?_ (Sub.cons ?_ (Sub.cons ?_ (Sub.cons ?_ (Sub.cons ?_ (Sub.base hf ?_))))) (Nat.le_refl _)⟩
      all_goals first | ((simp only [p0, q0, r0, p1, q1, r1, p2, q2, r2, p3, q3, r3, p4, q4, r4, p5, q5, r5, p6, q6, r6, p7, q7, r7, p8, q8, r8, p9, q9, r9, p10, q10, r10, p11, q11, r11, p12, q12, r12, p13, q13, r13, p14, q14, r14, p15, q15, r15, p16, q16, r16, u1, v1, u2, v2, u3, v3, wr64s j k6, hsn, hK, hI, hc, go_sem, ↓reduceIte, Nat.reduceEqDiff, Nat.reduceBEq, Nat.reduceAdd, Nat.reduceLeDiff, Nat.reduceLT, reduceCtorEq, Nat.reduceMul, Nat.reduceSub, Int.reduceEq, Int.reduceLT, Int.reduceLE, Int.reduceToNat]); done) | (dsimp only; omega) | trace_state
  · have d : j = l.length := by simp at d; omega
    subst d
    rw [List.take_length] at hY
    rw [hY, hK, hI]
    have t1 : K.take c = K := List.take_of_length_le (by omega)
    have t2 : I.take c = I := List.take_of_length_le (by omega)
    simp only [p0, q0, r0, p1, q1, r1, p2, q2, r2, p3, q3, r3, p4, q4, r4, p5, q5, r5, p6, q6, r6, p7, q7, r7, p8, q8, r8, p9, q9, r9, p10, q10, r10, p11, q11, r11, p12, q12, r12, p13, q13, r13, p14, q14, r14, p15, q15, r15, p16, q16, r16, u1, v1, u2, v2, u3, v3, hKl, hIl, t1, t2, go_sem, ↓reduceIte, Nat.reduceEqDiff, Nat.reduceBEq, Nat.reduceAdd, Nat.reduceLeDiff, Nat.reduceLT, reduceCtorEq, Nat.reduceMul, Nat.reduceSub, Int.reduceEq, Int.reduceLT, Int.reduceLE, Int.reduceToNat]
end Go.Proofs.Ytmcgjccheehehaa
