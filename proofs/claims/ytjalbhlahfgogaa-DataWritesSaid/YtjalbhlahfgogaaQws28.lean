/-
  The parts VaF of the proof, in one file. Conditions: none.
-/
import Derived.Test.YtjalbhlahfgogaaQws27
namespace Go.Proofs.Ytjalbhlahfgogaa
open Go.Eng
set_option linter.unusedVariables false
set_option linter.unusedSimpArgs false
set_option maxRecDepth 20000
def chL (c : Int) : Bool := decide (65 ≤ c) && decide (c ≤ 90) || decide (97 ≤ c) && decide (c ≤ 122) || decide (c = 95)
def chD (c : Int) : Bool := decide (48 ≤ c) && decide (c ≤ 57)
def nmL (l : List UInt8) : Bool := l.all fun c => chL c.toNat || chD c.toNat
theorem nmL_cons (x : UInt8) (l : List UInt8) : nmL (x :: l) = ((chL x.toNat || chD x.toNat) && nmL l) := rfl
/-- A name. -/
def nmS (s : ByteArray) : Bool := decide (0 < s.size) && decide (s.size ≤ 64) && !chD ((bs s).getD 0 0).toNat && nmL (bs s)
theorem letter_ok (c : Int) (hp : CH) (m : Nat) : MeetsF Try.prog 69 hp m [.i .u8 c] (.b (chL c)) := by
  refine meetsF Try.func69 (by kernel_rfl) cc69 cr69 rfl fun hf => ?_; unfold ck69
  simp only [go_sem, ↓reduceIte, Nat.reduceEqDiff, Nat.reduceBEq, Nat.reduceAdd, Nat.reduceLeDiff, Nat.reduceLT, reduceCtorEq, Nat.reduceMul, Nat.reduceSub, Int.reduceEq, Int.reduceLT, Int.reduceLE, Int.reduceToNat]
  rfl
theorem digit_ok (c : Int) (hp : CH) (m : Nat) : MeetsF Try.prog 70 hp m [.i .u8 c] (.b (chD c)) := by
  refine meetsF Try.func70 (by kernel_rfl) cc70 cr70 rfl fun hf => ?_; unfold ck70
  simp only [go_sem, ↓reduceIte, Nat.reduceEqDiff, Nat.reduceBEq, Nat.reduceAdd, Nat.reduceLeDiff, Nat.reduceLT, reduceCtorEq, Nat.reduceMul, Nat.reduceSub, Int.reduceEq, Int.reduceLT, Int.reduceLE, Int.reduceToNat]
  rfl
theorem size_bs (s : ByteArray) : (bs s).length = s.size := bs_len s
theorem size_zero {s : ByteArray} (h : ¬ s = ⟨#[]⟩) : 0 < s.size := by
  rcases Nat.eq_zero_or_pos s.size with e | e
  · exact absurd (ByteArray.ext (Array.eq_empty_of_size_eq_zero e)) h
  · exact e
theorem Name_ok (s : ByteArray) (hp : CH) (m : Nat) : MeetsF Try.prog 31 hp m [.s s] (.b (nmS s)) := by
  refine meetsF Try.func31 (by kernel_rfl) cc31 cr31 rfl fun hf => ?_; unfold ck31
  simp only [go_sem, ↓reduceIte, Nat.reduceEqDiff, Nat.reduceBEq, Nat.reduceAdd, Nat.reduceLeDiff, Nat.reduceLT, reduceCtorEq, Nat.reduceMul, Nat.reduceSub, Int.reduceEq, Int.reduceLT, Int.reduceLE, Int.reduceToNat]
  refine ⟨fun h => size_zero (by simp at h; exact h.1), fun h => size_zero (by simp at h; exact h.1.1), cdK_of (fun c => ?_) (fun c => ?_)⟩
  · simp only [go_sem, ↓reduceIte, Nat.reduceEqDiff, Nat.reduceBEq, Nat.reduceAdd, Nat.reduceLeDiff, Nat.reduceLT, reduceCtorEq, Nat.reduceMul, Nat.reduceSub, Int.reduceEq, Int.reduceLT, Int.reduceLE, Int.reduceToNat]
    simp only [Bool.or_eq_true, Bool.and_eq_true, decide_eq_true_eq] at c
    have : nmS s = false := by
      rw [Bool.eq_false_iff]
      intro h
      simp only [nmS, chD, Bool.and_eq_true, Bool.not_eq_true', Bool.and_eq_false_iff, decide_eq_true_eq, decide_eq_false_iff_not] at h
      rcases c with (c | c) | c
      · subst c
        exact absurd h.1.1.1 (by decide)
      · omega
      · omega
    rw [this]
  simp only [Bool.or_eq_false_iff, decide_eq_false_iff_not] at c
  obtain ⟨⟨c1, c2⟩, c3⟩ := c
  have hz := size_zero c1
  have e0 : nmS s = nmL (bs s) := by
    rw [nmS, chD, c3]
    simp [hz]
    omega
  rw [e0]
  simp only [go_sem, ↓reduceIte, Nat.reduceEqDiff, Nat.reduceBEq, Nat.reduceAdd, Nat.reduceLeDiff, Nat.reduceLT, reduceCtorEq, Nat.reduceMul, Nat.reduceSub, Int.reduceEq, Int.reduceLT, Int.reduceLE, Int.reduceToNat]
  refine loop (fun p : Nat × Nat => ⟨[(0, .s s), (23, .i .i64 s.size), (24, .i .i64 p.1)], hp, p.2⟩) (fun p => p.1 ≤ s.size ∧ nmL (bs s) = nmL ((bs s).drop p.1)) (fun p => s.size - p.1) (0, m) ?_ ?_ (fun ⟨j, n⟩ hj => ?_)
  · exact ⟨by simp, rfl⟩
  · refine weak_ok ?_ (Sub.refl _) (Nat.le_refl _)
    simp only [go_sem, ↓reduceIte, Nat.reduceEqDiff, Nat.reduceBEq, Nat.reduceAdd, Nat.reduceLeDiff, Nat.reduceLT, reduceCtorEq, Nat.reduceMul, Nat.reduceSub, Int.reduceEq, Int.reduceLT, Int.reduceLE, Int.reduceToNat]
  dsimp only at hj
  obtain ⟨hj1, hj2⟩ := hj
  simp only [go_sem, ↓reduceIte, Nat.reduceEqDiff, Nat.reduceBEq, Nat.reduceAdd, Nat.reduceLeDiff, Nat.reduceLT, reduceCtorEq, Nat.reduceMul, Nat.reduceSub, Int.reduceEq, Int.reduceLT, Int.reduceLE, Int.reduceToNat]
  refine cdK_of (fun d => ?_) (fun d => ?_)
  · have d : j < s.size := by simpa using d
    obtain ⟨x, ex⟩ : ∃ x, (bs s)[j]? = some x := ⟨(bs s)[j]'(by rw [size_bs]; exact d), by simp [size_bs, d]⟩
    have eg : (bs s).getD j 0 = x := by rw [List.getD, ex]; rfl
    rw [drop_at ex, nmL_cons] at hj2
    simp only [d, eg, go_sem, ↓reduceIte, Nat.reduceEqDiff, Nat.reduceBEq, Nat.reduceAdd, Nat.reduceLeDiff, Nat.reduceLT, reduceCtorEq, Nat.reduceMul, Nat.reduceSub, Int.reduceEq, Int.reduceLT, Int.reduceLE, Int.reduceToNat]
    refine cdK_of (fun q => ?_) (fun q => ?_)
    · simp only [go_sem, ↓reduceIte, Nat.reduceEqDiff, Nat.reduceBEq, Nat.reduceAdd, Nat.reduceLeDiff, Nat.reduceLT, reduceCtorEq, Nat.reduceMul, Nat.reduceSub, Int.reduceEq, Int.reduceLT, Int.reduceLE, Int.reduceToNat]
      have q : (chL x.toNat || chD x.toNat) = false := by
        rw [Bool.eq_false_iff]
        intro h
        revert q h
        simp only [chL, chD, Bool.or_eq_true, Bool.and_eq_true, decide_eq_true_eq, Bool.not_eq_true', Bool.or_eq_false_iff, Bool.and_eq_false_iff, decide_eq_false_iff_not]
        omega
      rw [hj2, q, Bool.false_and]
    · have q : (chL x.toNat || chD x.toNat) = true := by
        rw [← Bool.not_eq_false]
        intro h
        revert q h
        simp only [chL, chD, Bool.or_eq_true, Bool.and_eq_true, decide_eq_true_eq, Bool.not_eq_true', Bool.or_eq_false_iff, Bool.and_eq_false_iff, decide_eq_false_iff_not, Bool.not_eq_false']
        omega
      rw [q, Bool.true_and] at hj2
      simp only [go_sem, ↓reduceIte, Nat.reduceEqDiff, Nat.reduceBEq, Nat.reduceAdd, Nat.reduceLeDiff, Nat.reduceLT, reduceCtorEq, Nat.reduceMul, Nat.reduceSub, Int.reduceEq, Int.reduceLT, Int.reduceLE, Int.reduceToNat]
      refine ⟨(j + 1, n), ⟨by dsimp only; omega, hj2⟩, by dsimp only; omega, weak_ok ?_ (Sub.refl _) (Nat.le_refl _)⟩
      simp only [wr64s j (by omega), go_sem, ↓reduceIte, Nat.reduceEqDiff, Nat.reduceBEq, Nat.reduceAdd, Nat.reduceLeDiff, Nat.reduceLT, reduceCtorEq, Nat.reduceMul, Nat.reduceSub, Int.reduceEq, Int.reduceLT, Int.reduceLE, Int.reduceToNat]
  · have d : j = s.size := by simp at d; omega
    rw [d, ← size_bs, List.drop_length] at hj2
    rw [hj2]
    simp only [go_sem, ↓reduceIte, Nat.reduceEqDiff, Nat.reduceBEq, Nat.reduceAdd, Nat.reduceLeDiff, Nat.reduceLT, reduceCtorEq, Nat.reduceMul, Nat.reduceSub, Int.reduceEq, Int.reduceLT, Int.reduceLE, Int.reduceToNat]
    rfl
theorem nb1 (a b c : Bool) (h : (!a && (c || !b)) = true) : (a || b && !c) = false := by cases a <;> cases b <;> cases c <;> simp_all
theorem nb3 (a b c : Bool) (h : ¬ (a = true ∧ b = true)) : (true && true && !b && ((a || b) && c)) = ((a || b && !decide (0 = 0)) && c) := by cases a <;> cases b <;> cases c <;> simp_all
theorem nb2 (a b c : Bool) (h : (!a && (c || !b)) = false) : (a || b && !c) = true := by cases a <;> cases b <;> cases c <;> simp_all
theorem Name2_ok (s : ByteArray) (hp : CH) (m : Nat) : MeetsF Try.prog 37 hp m [.s s] (.b (nmS s)) := by
  refine meetsF Try.func37 (by kernel_rfl) cc37 cr37 rfl fun hf => ?_; unfold ck37
  simp only [go_sem, ↓reduceIte, Nat.reduceEqDiff, Nat.reduceBEq, Nat.reduceAdd, Nat.reduceLeDiff, Nat.reduceLT, reduceCtorEq, Nat.reduceMul, Nat.reduceSub, Int.reduceEq, Int.reduceLT, Int.reduceLE, Int.reduceToNat]
  refine cdK_of (fun c => ?_) (fun c => ?_)
  · simp only [go_sem, ↓reduceIte, Nat.reduceEqDiff, Nat.reduceBEq, Nat.reduceAdd, Nat.reduceLeDiff, Nat.reduceLT, reduceCtorEq, Nat.reduceMul, Nat.reduceSub, Int.reduceEq, Int.reduceLT, Int.reduceLE, Int.reduceToNat]
    simp only [Bool.or_eq_true, decide_eq_true_eq] at c
    have : nmS s = false := by
      rw [Bool.eq_false_iff]
      intro h
      simp only [nmS, Bool.and_eq_true, decide_eq_true_eq] at h
      omega
    rw [this]
  simp only [Bool.or_eq_false_iff, decide_eq_false_iff_not] at c
  obtain ⟨c1, c2⟩ := c
  simp only [go_sem, ↓reduceIte, Nat.reduceEqDiff, Nat.reduceBEq, Nat.reduceAdd, Nat.reduceLeDiff, Nat.reduceLT, reduceCtorEq, Nat.reduceMul, Nat.reduceSub, Int.reduceEq, Int.reduceLT, Int.reduceLE, Int.reduceToNat]
  refine loop (fun p : Nat × Nat => ⟨[(0, .s s), (3, .i .i64 p.1)], hp, p.2⟩) (fun p => p.1 ≤ s.size ∧ (0 < p.1 → nmS s = nmL ((bs s).drop p.1))) (fun p => s.size - p.1) (0, m) ?_ ?_ (fun ⟨j, n⟩ hj => ?_)
  · exact ⟨by simp, fun h => absurd h (by simp)⟩
  · refine weak_ok ?_ (Sub.refl _) (Nat.le_refl _)
    simp only [go_sem, ↓reduceIte, Nat.reduceEqDiff, Nat.reduceBEq, Nat.reduceAdd, Nat.reduceLeDiff, Nat.reduceLT, reduceCtorEq, Nat.reduceMul, Nat.reduceSub, Int.reduceEq, Int.reduceLT, Int.reduceLE, Int.reduceToNat]
  dsimp only at hj
  obtain ⟨hj1, hj2⟩ := hj
  simp only [go_sem, ↓reduceIte, Nat.reduceEqDiff, Nat.reduceBEq, Nat.reduceAdd, Nat.reduceLeDiff, Nat.reduceLT, reduceCtorEq, Nat.reduceMul, Nat.reduceSub, Int.reduceEq, Int.reduceLT, Int.reduceLE, Int.reduceToNat]
  refine cdK_of (fun d => ?_) (fun d => ?_)
  · have d : j < s.size := by simpa using d
    obtain ⟨x, ex⟩ : ∃ x, (bs s)[j]? = some x := ⟨(bs s)[j]'(by rw [size_bs]; exact d), by simp [size_bs, d]⟩
    have eg : (bs s).getD j 0 = x := by rw [List.getD, ex]; rfl
    have e2 : nmS s = ((chL x.toNat || chD x.toNat && !decide (j = 0)) && nmL ((bs s).drop (j + 1))) := by
      rcases Nat.eq_zero_or_pos j with h0 | h0
      · subst h0
        rw [nmS, eg]
        have hb := drop_at ex
        rw [List.drop_zero] at hb
        rw [hb, nmL_cons]
        have h64 : s.size ≤ 64 := by omega
        have hh : ¬ (chL x.toNat = true ∧ chD x.toNat = true) := by simp only [chL, chD, Bool.or_eq_true, Bool.and_eq_true, decide_eq_true_eq]; omega
        rw [decide_eq_true d, decide_eq_true h64]
        exact nb3 _ _ _ hh
      · rw [hj2 h0, drop_at ex, nmL_cons]
        have : ¬ j = 0 := by omega
        simp [this]
    simp only [d, eg, go_sem, ↓reduceIte, Nat.reduceEqDiff, Nat.reduceBEq, Nat.reduceAdd, Nat.reduceLeDiff, Nat.reduceLT, reduceCtorEq, Nat.reduceMul, Nat.reduceSub, Int.reduceEq, Int.reduceLT, Int.reduceLE, Int.reduceToNat]
    refine vcCall.f (letter_ok _ _ _) ?_
    simp only [go_sem, ↓reduceIte, Nat.reduceEqDiff, Nat.reduceBEq, Nat.reduceAdd, Nat.reduceLeDiff, Nat.reduceLT, reduceCtorEq, Nat.reduceMul, Nat.reduceSub, Int.reduceEq, Int.reduceLT, Int.reduceLE, Int.reduceToNat]
    refine ⟨fun _ => d, gCall.f (fun _ => digit_ok _ _ _) ?_⟩
    simp only [d, eg, go_sem, ↓reduceIte, Nat.reduceEqDiff, Nat.reduceBEq, Nat.reduceAdd, Nat.reduceLeDiff, Nat.reduceLT, reduceCtorEq, Nat.reduceMul, Nat.reduceSub, Int.reduceEq, Int.reduceLT, Int.reduceLE, Int.reduceToNat]
    refine cdK_of (fun q => ?_) (fun q => ?_)
    · have q : (chL x.toNat || chD x.toNat && !decide (j = 0)) = false := by
        have e3 : decide ((j : Int) = 0) = decide (j = 0) := by congr 1; simp
        rw [e3] at q
        exact nb1 _ _ _ q
      rw [e2, q, Bool.false_and]
      simp only [go_sem, ↓reduceIte, Nat.reduceEqDiff, Nat.reduceBEq, Nat.reduceAdd, Nat.reduceLeDiff, Nat.reduceLT, reduceCtorEq, Nat.reduceMul, Nat.reduceSub, Int.reduceEq, Int.reduceLT, Int.reduceLE, Int.reduceToNat]
    · have q : (chL x.toNat || chD x.toNat && !decide (j = 0)) = true := by
        have e3 : decide ((j : Int) = 0) = decide (j = 0) := by congr 1; simp
        rw [e3] at q
        exact nb2 _ _ _ q
      rw [q, Bool.true_and] at e2
      simp only [go_sem, ↓reduceIte, Nat.reduceEqDiff, Nat.reduceBEq, Nat.reduceAdd, Nat.reduceLeDiff, Nat.reduceLT, reduceCtorEq, Nat.reduceMul, Nat.reduceSub, Int.reduceEq, Int.reduceLT, Int.reduceLE, Int.reduceToNat]
      refine ⟨(j + 1, n), ⟨by dsimp only; omega, fun _ => e2⟩, by dsimp only; omega, weak_ok ?_ (Sub.refl _) (Nat.le_refl _)⟩
      simp only [wr64s j (by omega), go_sem, ↓reduceIte, Nat.reduceEqDiff, Nat.reduceBEq, Nat.reduceAdd, Nat.reduceLeDiff, Nat.reduceLT, reduceCtorEq, Nat.reduceMul, Nat.reduceSub, Int.reduceEq, Int.reduceLT, Int.reduceLE, Int.reduceToNat]
  · have d : j = s.size := by simp at d; omega
    have hj2 := hj2 (by omega)
    rw [d, ← size_bs, List.drop_length] at hj2
    rw [hj2]
    simp only [go_sem, ↓reduceIte, Nat.reduceEqDiff, Nat.reduceBEq, Nat.reduceAdd, Nat.reduceLeDiff, Nat.reduceLT, reduceCtorEq, Nat.reduceMul, Nat.reduceSub, Int.reduceEq, Int.reduceLT, Int.reduceLE, Int.reduceToNat]
    rfl
end Go.Proofs.Ytjalbhlahfgogaa
