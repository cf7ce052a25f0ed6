/-
  The parts SaG of the proof, in one file. Conditions: none.
-/
import Derived.Test.YtmcgjccheehehaaQke34
namespace Go.Proofs.Ytmcgjccheehehaa
open Go.Eng
set_option linter.unusedVariables false
set_option linter.unusedSimpArgs false
set_option maxRecDepth 20000
theorem inB_snoc (s x : ByteArray) (l : List ByteArray) : inB s (l ++ [x]) = (inB s l || decide (x = s)) := by simp [inB]
set_option maxHeartbeats 2000000 in
theorem rrep_ok (f : Fet) (v : Val) (hv : v.Fit) (hl : f.ks.length * 80 ≤ 100000000000000) (hs : ∀ s ∈ f.ks, s.size ≤ 100000000000000) (hp : CH) (m : Nat) : MeetsF Try.prog 62 hp m [fx f, vx v] (vx (repV f v)) := by
  obtain ⟨R, hR⟩ : ∃ R, repV f v = R := ⟨_, rfl⟩
  have e := hR
  unfold repV at e
  rw [hR]
  refine meetsF Try.func62 (by kernel_rfl) cc62 cr62 rfl fun hf => ?_; unfold ck62
  simp only [go_sem, ↓reduceIte, Nat.reduceEqDiff, Nat.reduceBEq, Nat.reduceAdd, Nat.reduceLeDiff, Nat.reduceLT, reduceCtorEq, Nat.reduceMul, Nat.reduceSub, Int.reduceEq, Int.reduceLT, Int.reduceLE, Int.reduceToNat]
  refine vcCall.f (rtext_ok _ _ _) ?_
  simp only [go_sem, ↓reduceIte, Nat.reduceEqDiff, Nat.reduceBEq, Nat.reduceAdd, Nat.reduceLeDiff, Nat.reduceLT, reduceCtorEq, Nat.reduceMul, Nat.reduceSub, Int.reduceEq, Int.reduceLT, Int.reduceLE, Int.reduceToNat]
  refine loop (fun p : Nat × List ByteArray × List Val × Nat => ⟨[(2, .bx m 0), (3, .bx (m + 1) 0), (4, .bx (m + 2) 0), (5, .bx (m + 5) 0), (6, .i .i64 p.1)],
      (m + 5, .bx [.i .i64 6, .i .i64 0, .s ⟨#[]⟩, .rw (m + 4) p.2.2.1.length (p.2.2.1.length + 1), .rw (m + 3) p.2.1.length (p.2.1.length + 1)]) ::
      (m + 4, .rw p.2.2.1.length 5 (mapC valC (.mk 3 0 f.t [] [] :: p.2.2.1))) :: (m + 3, .rw p.2.1.length 1 (stC (tnm :: p.2.1))) ::
      (m + 2, .bx [.i .i64 0, .i .i64 0, .s ⟨#[]⟩, .e0, .e0]) :: (m + 1, .bx [.i .i64 v.k, .i .i64 v.n, .s v.s, .ds (mapC valC v.items), .ds (stC v.keys)]) ::
      (m, .bx [.i .i64 f.g, .i .i64 f.d, .ds (mapC hopC f.p), .s f.t, .ds (stC f.ks), .i .i64 f.ky, .ds (mapC pkC f.pk), .ds (mapC in1 f.af)]) :: hp, p.2.2.2⟩)
    (fun p => p.1 ≤ f.ks.length ∧ m + 6 ≤ p.2.2.2 ∧ p.2.1.length = p.2.2.1.length ∧ p.2.1.length ≤ p.1 ∧ repS v f.ky 0 f.ks [] [] = repS v f.ky p.1 (f.ks.drop p.1) p.2.1 p.2.2.1 ∧ (∀ s, inB s p.2.1 = inB s (f.ks.take p.1)))
    (fun p => f.ks.length - p.1) (0, [], [], m + 6) ?_ ?_ (fun ⟨j, K, I, n⟩ hj => ?_)
  · exact ⟨by simp, by simp, rfl, by simp, rfl, fun s => rfl⟩
  · refine weak_ok ?_ (Sub.cons ?_ (Sub.cons ?_ (Sub.cons ?_ (Sub.cons ?_ (Sub.cons ?_ (Sub.cons ?_ (Sub.base hf ?_))))))) (Nat.le_refl _)
    all_goals
      simp only [go_sem, ↓reduceIte, Nat.reduceEqDiff, Nat.reduceBEq, Nat.reduceAdd, Nat.reduceLeDiff, Nat.reduceLT, reduceCtorEq, Nat.reduceMul, Nat.reduceSub, Int.reduceEq, Int.reduceLT, Int.reduceLE, Int.reduceToNat]
    all_goals rfl
  dsimp only at hj
  obtain ⟨hj1, hj2, hj3, hj4, hj5, hj6⟩ := hj
  have hne : ∀ i, i ≤ 5 → ¬ n = m + i := fun i hi => by omega
  have z0 : ¬ n = m := by omega
  have z1 := hne 1 (by omega)
  have z2 := hne 2 (by omega)
  have z3 := hne 3 (by omega)
  have z4 := hne 4 (by omega)
  have z5 := hne 5 (by omega)
  have z7 : m ≤ n := by omega
  have y0 : ¬ m = n := by omega
  have y1 : ¬ m + 1 = n := by omega
  have y2 : ¬ m + 2 = n := by omega
  have y3 : ¬ m + 3 = n := by omega
  have y4 : ¬ m + 4 = n := by omega
  have y5 : ¬ m + 5 = n := by omega
  have p1 : ¬ n + 1 = m := by omega
  have q1 : ¬ m = n + 1 := by omega
  have p2 : ¬ n + 2 = m := by omega
  have q2 : ¬ m = n + 2 := by omega
  have p3 : ¬ n + 3 = m := by omega
  have q3 : ¬ m = n + 3 := by omega
  have p4 : ¬ n + 4 = m := by omega
  have q4 : ¬ m = n + 4 := by omega
  have p5 : ¬ n + 5 = m := by omega
  have q5 : ¬ m = n + 5 := by omega
  have p6 : ¬ n + 6 = m := by omega
  have q6 : ¬ m = n + 6 := by omega
  have p7 : ¬ n + 7 = m := by omega
  have q7 : ¬ m = n + 7 := by omega
  have p8 : ¬ n + 8 = m := by omega
  have q8 : ¬ m = n + 8 := by omega
  have p9 : ¬ n + 9 = m := by omega
  have q9 : ¬ m = n + 9 := by omega
  have p10 : ¬ n + 10 = m := by omega
  have q10 : ¬ m = n + 10 := by omega
  have p11 : ¬ n + 11 = m := by omega
  have q11 : ¬ m = n + 11 := by omega
  have p12 : ¬ n + 12 = m := by omega
  have q12 : ¬ m = n + 12 := by omega
  have p0 : m ≤ n + 11 := by omega
  rw [hj5] at e
  simp only [z0, z1, z2, z3, z4, z5, z7, y0, y1, y2, y3, y4, y5, go_sem, ↓reduceIte, Nat.reduceEqDiff, Nat.reduceBEq, Nat.reduceAdd, Nat.reduceLeDiff, Nat.reduceLT, reduceCtorEq, Nat.reduceMul, Nat.reduceSub, Int.reduceEq, Int.reduceLT, Int.reduceLE, Int.reduceToNat]
  refine cdK_of (fun c => ?_) (fun c => ?_)
  · have c : j < f.ks.length := by simpa using c
    obtain ⟨x, ex⟩ : ∃ x, f.ks[j]? = some x := ⟨f.ks[j], by simp⟩
    have hxs := hs x (List.mem_of_getElem? ex)
    have hsz : (⟨#[95, 95, 107, 95]⟩ : ByteArray).size + x.size ≤ 9223372036854775807 := by rw [show (⟨#[95, 95, 107, 95]⟩ : ByteArray).size = 4 from rfl]; omega
    have hear := earlier_ok f.ks j x (by omega) ex
    rw [drop_at ex, repS] at e
    have hg := rget_ok v hv (knm x)
    obtain ⟨G, hG⟩ : ∃ G, getV v (knm x) = G := ⟨_, rfl⟩
    rw [hG] at hg e
    simp only [z0, z1, z2, z3, z4, z5, z7, y0, y1, y2, y3, y4, y5, c, getK_s (mapC_get st1 ex), go_sem, ↓reduceIte, Nat.reduceEqDiff, Nat.reduceBEq, Nat.reduceAdd, Nat.reduceLeDiff, Nat.reduceLT, reduceCtorEq, Nat.reduceMul, Nat.reduceSub, Int.reduceEq, Int.reduceLT, Int.reduceLE, Int.reduceToNat]
    refine ⟨hsz, ?_⟩
    refine dCallR.f (fun _ hp' hh => hg hp' _) ?_
    cases G with
    | none =>
      dsimp only at e
      subst e
      simp only [z0, z1, z2, z3, z4, z5, z7, y0, y1, y2, y3, y4, y5, p1, q1, p2, q2, p3, q3, p4, q4, p5, q5, p6, q6, p7, q7, p8, q8, p9, q9, p10, q10, p11, q11, p12, q12, p0, go_sem, ↓reduceIte, Nat.reduceEqDiff, Nat.reduceBEq, Nat.reduceAdd, Nat.reduceLeDiff, Nat.reduceLT, reduceCtorEq, Nat.reduceMul, Nat.reduceSub, Int.reduceEq, Int.reduceLT, Int.reduceLE, Int.reduceToNat]
      refine gCall.f (r := .b false) (fun h => by cases h) ?_
      simp only [z0, z1, z2, z3, z4, z5, z7, y0, y1, y2, y3, y4, y5, p1, q1, p2, q2, p3, q3, p4, q4, p5, q5, p6, q6, p7, q7, p8, q8, p9, q9, p10, q10, p11, q11, p12, q12, p0, go_sem, ↓reduceIte, Nat.reduceEqDiff, Nat.reduceBEq, Nat.reduceAdd, Nat.reduceLeDiff, Nat.reduceLT, reduceCtorEq, Nat.reduceMul, Nat.reduceSub, Int.reduceEq, Int.reduceLT, Int.reduceLE, Int.reduceToNat]
    | some y =>
      dsimp only at e
      have k1 : (K.length + 2) * 16 ≤ 140737488355328 := by omega
      have k2 : K.length ≤ 9223372036854775805 := by omega
      have k3 : (I.length + 2) * 80 ≤ 140737488355328 := by omega
      have k4 : I.length ≤ 9223372036854775805 := by omega
      have k5 : ∀ z, (K ++ [x]).length = (I ++ [z]).length := fun z => by simp [hj3]
      have k6 : (K ++ [x]).length ≤ j + 1 := by simp; omega
      have k7 : f.ks.length - (j + 1) < f.ks.length - j := by omega
      have k8 : j < 9223372036854775807 := by omega
      have kz : mapC valC (I ++ [zVal]) = mapC valC I ++ [[.i .i64 0, .i .i64 0, .s ⟨#[]⟩, .ds [], .ds []]] := by simp [mapC]; rfl
      have hBn : ∀ s, inB s (f.ks.take (j + 1)) = (inB s (f.ks.take j) || decide (x = s)) := fun s => by rw [← take_snoc ex, inB_snoc]
      simp only [z0, z1, z2, z3, z4, z5, z7, y0, y1, y2, y3, y4, y5, p1, q1, p2, q2, p3, q3, p4, q4, p5, q5, p6, q6, p7, q7, p8, q8, p9, q9, p10, q10, p11, q11, p12, q12, p0, go_sem, ↓reduceIte, Nat.reduceEqDiff, Nat.reduceBEq, Nat.reduceAdd, Nat.reduceLeDiff, Nat.reduceLT, reduceCtorEq, Nat.reduceMul, Nat.reduceSub, Int.reduceEq, Int.reduceLT, Int.reduceLE, Int.reduceToNat]
      refine gCall.f (fun h => rleaf_ok y _ _) ?_
      simp only [z0, z1, z2, z3, z4, z5, z7, y0, y1, y2, y3, y4, y5, p1, q1, p2, q2, p3, q3, p4, q4, p5, q5, p6, q6, p7, q7, p8, q8, p9, q9, p10, q10, p11, q11, p12, q12, p0, go_sem, ↓reduceIte, Nat.reduceEqDiff, Nat.reduceBEq, Nat.reduceAdd, Nat.reduceLeDiff, Nat.reduceLT, reduceCtorEq, Nat.reduceMul, Nat.reduceSub, Int.reduceEq, Int.reduceLT, Int.reduceLE, Int.reduceToNat]
      refine cdK_of (fun d => ?_) (fun d => ?_)
      · have d : y.k = 9 ∨ ((j : Int) < f.ky ∧ lfB y = false) := by simpa using d
        rw [if_pos d] at e
        dsimp only at e
        subst e
        simp only [z0, z1, z2, z3, z4, z5, z7, y0, y1, y2, y3, y4, y5, p1, q1, p2, q2, p3, q3, p4, q4, p5, q5, p6, q6, p7, q7, p8, q8, p9, q9, p10, q10, p11, q11, p12, q12, p0, go_sem, ↓reduceIte, Nat.reduceEqDiff, Nat.reduceBEq, Nat.reduceAdd, Nat.reduceLeDiff, Nat.reduceLT, reduceCtorEq, Nat.reduceMul, Nat.reduceSub, Int.reduceEq, Int.reduceLT, Int.reduceLE, Int.reduceToNat]
      · have d : ¬ (y.k = 9 ∨ ((j : Int) < f.ky ∧ lfB y = false)) := by
          intro q
          rcases q with q | ⟨q1, q2⟩
          · simp [q] at d
          · simp [q1, q2] at d
        rw [if_neg d] at e
        simp only [z0, z1, z2, z3, z4, z5, z7, y0, y1, y2, y3, y4, y5, p1, q1, p2, q2, p3, q3, p4, q4, p5, q5, p6, q6, p7, q7, p8, q8, p9, q9, p10, q10, p11, q11, p12, q12, p0, go_sem, ↓reduceIte, Nat.reduceEqDiff, Nat.reduceBEq, Nat.reduceAdd, Nat.reduceLeDiff, Nat.reduceLT, reduceCtorEq, Nat.reduceMul, Nat.reduceSub, Int.reduceEq, Int.reduceLT, Int.reduceLE, Int.reduceToNat]
        refine vcCall.f (hear _ _) ?_
        rw [show ((f.ks.take j).any fun y => decide (y = x)) = inB x K from (hj6 x).symm]
        cases hx : inB x K with
        | true =>
          simp only [z0, z1, z2, z3, z4, z5, z7, y0, y1, y2, y3, y4, y5, p1, q1, p2, q2, p3, q3, p4, q4, p5, q5, p6, q6, p7, q7, p8, q8, p9, q9, p10, q10, p11, q11, p12, q12, p0, go_sem, ↓reduceIte, Nat.reduceEqDiff, Nat.reduceBEq, Nat.reduceAdd, Nat.reduceLeDiff, Nat.reduceLT, reduceCtorEq, Nat.reduceMul, Nat.reduceSub, Int.reduceEq, Int.reduceLT, Int.reduceLE, Int.reduceToNat]
          refine ⟨(j + 1, K, I, _), ⟨c, ?_, hj3, ?_, hj5.trans (by rw [drop_at ex, repS, hG]; dsimp only; rw [if_neg d, if_pos hx]), ?_⟩, k7, weak_ok ?_ (Sub.cons ?_ (Sub.cons ?_ (Sub.cons ?_ (Sub.cons ?_ (Sub.cons ?_ (Sub.cons ?_ (Sub.base hf ?_))))))) (Nat.le_refl _)⟩
          · dsimp only; omega
          · dsimp only; omega
          · intro s
            dsimp only
            rw [hBn, ← hj6 s]
            by_cases q : x = s
            · subst q
              rw [hx]
              rfl
            · simp [q]
          all_goals first | ((simp only [z0, z1, z2, z3, z4, z5, z7, y0, y1, y2, y3, y4, y5, p1, q1, p2, q2, p3, q3, p4, q4, p5, q5, p6, q6, p7, q7, p8, q8, p9, q9, p10, q10, p11, q11, p12, q12, p0, wr64s j k8, go_sem, ↓reduceIte, Nat.reduceEqDiff, Nat.reduceBEq, Nat.reduceAdd, Nat.reduceLeDiff, Nat.reduceLT, reduceCtorEq, Nat.reduceMul, Nat.reduceSub, Int.reduceEq, Int.reduceLT, Int.reduceLE, Int.reduceToNat]); done) | trace_state
        | false =>
          have hn : repS v f.ky j (f.ks.drop j) K I = repS v f.ky (j + 1) (f.ks.drop (j + 1)) (K ++ [x]) (I ++ [lfV y]) := by
            rw [drop_at ex, repS, hG]
            dsimp only
            rw [if_neg d, if_neg (by rw [hx]; simp)]
          have hB : ∀ s, inB s (K ++ [x]) = inB s (f.ks.take (j + 1)) := fun s => by rw [hBn, inB_snoc, hj6 s]
          simp only [z0, z1, z2, z3, z4, z5, z7, y0, y1, y2, y3, y4, y5, p1, q1, p2, q2, p3, q3, p4, q4, p5, q5, p6, q6, p7, q7, p8, q8, p9, q9, p10, q10, p11, q11, p12, q12, p0, go_sem, ↓reduceIte, Nat.reduceEqDiff, Nat.reduceBEq, Nat.reduceAdd, Nat.reduceLeDiff, Nat.reduceLT, reduceCtorEq, Nat.reduceMul, Nat.reduceSub, Int.reduceEq, Int.reduceLT, Int.reduceLE, Int.reduceToNat]
          refine vcCall.f (rleaf_ok y _ _) ?_
          simp only [z0, z1, z2, z3, z4, z5, z7, y0, y1, y2, y3, y4, y5, p1, q1, p2, q2, p3, q3, p4, q4, p5, q5, p6, q6, p7, q7, p8, q8, p9, q9, p10, q10, p11, q11, p12, q12, p0, go_sem, ↓reduceIte, Nat.reduceEqDiff, Nat.reduceBEq, Nat.reduceAdd, Nat.reduceLeDiff, Nat.reduceLT, reduceCtorEq, Nat.reduceMul, Nat.reduceSub, Int.reduceEq, Int.reduceLT, Int.reduceLE, Int.reduceToNat]
          cases hL : lfB y with
          | false =>
            have hlf : lfV y = zVal := by unfold lfV; rw [hL]; rfl
            rw [hlf] at hn
            refine cdK_of (fun q => ?_) (fun q => by cases q)
            simp only [z0, z1, z2, z3, z4, z5, z7, y0, y1, y2, y3, y4, y5, p1, q1, p2, q2, p3, q3, p4, q4, p5, q5, p6, q6, p7, q7, p8, q8, p9, q9, p10, q10, p11, q11, p12, q12, p0, c, getK_s (mapC_get st1 ex), go_sem, ↓reduceIte, Nat.reduceEqDiff, Nat.reduceBEq, Nat.reduceAdd, Nat.reduceLeDiff, Nat.reduceLT, reduceCtorEq, Nat.reduceMul, Nat.reduceSub, Int.reduceEq, Int.reduceLT, Int.reduceLE, Int.reduceToNat]
            refine ⟨⟨k1, k2⟩, ?_⟩
            refine ⟨k3, k4, ?_⟩
            refine ⟨(j + 1, K ++ [x], I ++ [zVal], _), ⟨c, ?_, k5 _, k6, hj5.trans hn, hB⟩, k7, weak_ok ?_ (Sub.cons ?_ (Sub.cons ?_ (Sub.cons ?_ (Sub.cons ?_ (Sub.cons ?_ (Sub.cons ?_ (Sub.base hf ?_))))))) (Nat.le_refl _)⟩
            all_goals first | ((simp only [z0, z1, z2, z3, z4, z5, z7, y0, y1, y2, y3, y4, y5, p1, q1, p2, q2, p3, q3, p4, q4, p5, q5, p6, q6, p7, q7, p8, q8, p9, q9, p10, q10, p11, q11, p12, q12, p0, wr64s j k8, List.length_append, List.length_singleton, and_self, go_sem, ↓reduceIte, Nat.reduceEqDiff, Nat.reduceBEq, Nat.reduceAdd, Nat.reduceLeDiff, Nat.reduceLT, reduceCtorEq, Nat.reduceMul, Nat.reduceSub, Int.reduceEq, Int.reduceLT, Int.reduceLE, Int.reduceToNat]); done) | (dsimp only; omega) | ((simp only [z0, z1, z2, z3, z4, z5, z7, y0, y1, y2, y3, y4, y5, p1, q1, p2, q2, p3, q3, p4, q4, p5, q5, p6, q6, p7, q7, p8, q8, p9, q9, p10, q10, p11, q11, p12, q12, p0, List.length_append, List.length_singleton, go_sem, ↓reduceIte, Nat.reduceEqDiff, Nat.reduceBEq, Nat.reduceAdd, Nat.reduceLeDiff, Nat.reduceLT, reduceCtorEq, Nat.reduceMul, Nat.reduceSub, Int.reduceEq, Int.reduceLT, Int.reduceLE, Int.reduceToNat]); exact congrArg (fun l => Chunk.rw (I.length + 1) 5 ([.i .i64 3, .i .i64 0, .s f.t, .ds [], .ds []] :: l)) kz.symm) | trace_state
          | true =>
            have hlf : lfV y = y := by unfold lfV; rw [hL]; rfl
            rw [hlf] at hn
            refine cdK_of (fun q => by cases q) (fun q => ?_)
            simp only [z0, z1, z2, z3, z4, z5, z7, y0, y1, y2, y3, y4, y5, p1, q1, p2, q2, p3, q3, p4, q4, p5, q5, p6, q6, p7, q7, p8, q8, p9, q9, p10, q10, p11, q11, p12, q12, p0, c, getK_s (mapC_get st1 ex), go_sem, ↓reduceIte, Nat.reduceEqDiff, Nat.reduceBEq, Nat.reduceAdd, Nat.reduceLeDiff, Nat.reduceLT, reduceCtorEq, Nat.reduceMul, Nat.reduceSub, Int.reduceEq, Int.reduceLT, Int.reduceLE, Int.reduceToNat]
            refine ⟨⟨k1, k2⟩, ?_⟩
            refine ⟨k3, k4, ?_⟩
            refine ⟨(j + 1, K ++ [x], I ++ [y], _), ⟨c, ?_, k5 _, k6, hj5.trans hn, hB⟩, k7, weak_ok ?_ (Sub.cons ?_ (Sub.cons ?_ (Sub.cons ?_ (Sub.cons ?_ (Sub.cons ?_ (Sub.cons ?_ (Sub.base hf ?_))))))) (Nat.le_refl _)⟩
            all_goals first | ((simp only [z0, z1, z2, z3, z4, z5, z7, y0, y1, y2, y3, y4, y5, p1, q1, p2, q2, p3, q3, p4, q4, p5, q5, p6, q6, p7, q7, p8, q8, p9, q9, p10, q10, p11, q11, p12, q12, p0, wr64s j k8, List.length_append, List.length_singleton, and_self, go_sem, ↓reduceIte, Nat.reduceEqDiff, Nat.reduceBEq, Nat.reduceAdd, Nat.reduceLeDiff, Nat.reduceLT, reduceCtorEq, Nat.reduceMul, Nat.reduceSub, Int.reduceEq, Int.reduceLT, Int.reduceLE, Int.reduceToNat]); done) | (dsimp only; omega) | ((simp only [z0, z1, z2, z3, z4, z5, z7, y0, y1, y2, y3, y4, y5, p1, q1, p2, q2, p3, q3, p4, q4, p5, q5, p6, q6, p7, q7, p8, q8, p9, q9, p10, q10, p11, q11, p12, q12, p0, List.length_append, List.length_singleton, go_sem, ↓reduceIte, Nat.reduceEqDiff, Nat.reduceBEq, Nat.reduceAdd, Nat.reduceLeDiff, Nat.reduceLT, reduceCtorEq, Nat.reduceMul, Nat.reduceSub, Int.reduceEq, Int.reduceLT, Int.reduceLE, Int.reduceToNat]); exact congrArg (fun l => Chunk.rw (I.length + 1) 5 ([.i .i64 3, .i .i64 0, .s f.t, .ds [], .ds []] :: l)) kz.symm) | trace_state
  · have c : j = f.ks.length := by simp at c; omega
    subst c
    rw [List.drop_length, repS] at e
    dsimp only at e
    subst e
    simp only [z0, z1, z2, z3, z4, z5, z7, y0, y1, y2, y3, y4, y5, go_sem, ↓reduceIte, Nat.reduceEqDiff, Nat.reduceBEq, Nat.reduceAdd, Nat.reduceLeDiff, Nat.reduceLT, reduceCtorEq, Nat.reduceMul, Nat.reduceSub, Int.reduceEq, Int.reduceLT, Int.reduceLE, Int.reduceToNat]
end Go.Proofs.Ytmcgjccheehehaa
