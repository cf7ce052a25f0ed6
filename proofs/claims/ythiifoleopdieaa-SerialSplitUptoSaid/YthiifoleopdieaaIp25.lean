/-
  The parts VaF VaH of the proof, in one file. Conditions: none.
-/
import Derived.Test.YthiifoleopdieaaIp24
namespace Go.Proofs.Ythiifoleopdieaa
open Go.Eng
set_option linter.unusedVariables false
set_option linter.unusedSimpArgs false
set_option maxRecDepth 20000
def chL (c : Int) : Bool := decide (65 ≤ c) && decide (c ≤ 90) || decide (97 ≤ c) && decide (c ≤ 122) || decide (c = 95)
def chD (c : Int) : Bool := decide (48 ≤ c) && decide (c ≤ 57)
def nmL (l : List UInt8) : Bool := l.all fun c => chL c.toNat || chD c.toNat
theorem nmL_cons (x : UInt8) (l : List UInt8) : nmL (x :: l) = ((chL x.toNat || chD x.toNat) && nmL l) := rfl
/-- A name. -/
def nmS (s : ByteArray) : Bool := decide (0 < s.size) && decide (s.size ≤ 64) && !chD ((bs s).getD 0 0).toNat && nmL (bs s)
theorem letter_ok (c : Int) (hp : CH) (m : Nat) : MeetsF Try.prog 109 hp m [.i .u8 c] (.b (chL c)) := by
  refine meetsF Try.func109 (by kernel_rfl) cc109 cr109 rfl fun hf => ?_; unfold ck109
  simp only [go_sem, ↓reduceIte, Nat.reduceEqDiff, Nat.reduceBEq, Nat.reduceAdd, Nat.reduceLeDiff, Nat.reduceLT, reduceCtorEq, Nat.reduceMul, Nat.reduceSub, Int.reduceEq, Int.reduceLT, Int.reduceLE, Int.reduceToNat]
  rfl
theorem digit_ok (c : Int) (hp : CH) (m : Nat) : MeetsF Try.prog 110 hp m [.i .u8 c] (.b (chD c)) := by
  refine meetsF Try.func110 (by kernel_rfl) cc110 cr110 rfl fun hf => ?_; unfold ck110
  simp only [go_sem, ↓reduceIte, Nat.reduceEqDiff, Nat.reduceBEq, Nat.reduceAdd, Nat.reduceLeDiff, Nat.reduceLT, reduceCtorEq, Nat.reduceMul, Nat.reduceSub, Int.reduceEq, Int.reduceLT, Int.reduceLE, Int.reduceToNat]
  rfl
theorem size_bs (s : ByteArray) : (bs s).length = s.size := bs_len s
theorem nb1 (a b c : Bool) (h : (!a && (c || !b)) = true) : (a || b && !c) = false := by cases a <;> cases b <;> cases c <;> simp_all
theorem nb3 (a b c : Bool) (h : ¬ (a = true ∧ b = true)) : (true && true && !b && ((a || b) && c)) = ((a || b && !decide (0 = 0)) && c) := by cases a <;> cases b <;> cases c <;> simp_all
theorem nb2 (a b c : Bool) (h : (!a && (c || !b)) = false) : (a || b && !c) = true := by cases a <;> cases b <;> cases c <;> simp_all
theorem Name2_ok (s : ByteArray) (hp : CH) (m : Nat) : MeetsF Try.prog 106 hp m [.s s] (.b (nmS s)) := by
  refine meetsF Try.func106 (by kernel_rfl) cc106 cr106 rfl fun hf => ?_; unfold ck106
  simp only [go_sem, ↓reduceIte, Nat.reduceEqDiff, Nat.reduceBEq, Nat.reduceAdd, Nat.reduceLeDiff, Nat.reduceLT, reduceCtorEq, Nat.reduceMul, Nat.reduceSub, Int.reduceEq, Int.reduceLT, Int.reduceLE, Int.reduceToNat]
  refine cdK_of (fun c => ?_) (fun c => ?_)
  · simp only [go_sem, ↓reduceIte, Nat.reduceEqDiff, Nat.reduceBEq, Nat.reduceAdd, Nat.reduceLeDiff, Nat.reduceLT, reduceCtorEq, Nat.reduceMul, Nat.reduceSub, Int.reduceEq, Int.reduceLT, Int.reduceLE, Int.reduceToNat]
    simp only [Bool.or_eq_true, decide_eq_true_eq] at c
    have : nmS s = false := by
      rw [Bool.eq_false_iff]
      intro h
      simp only [nmS, Bool.and_eq_true, decide_eq_true_eq] at h
      omega
    rw [this]
  simp only [Bool.or_eq_false_iff, decide_eq_false_iff_not] at c
  obtain ⟨c1, c2⟩ := c
  simp only [go_sem, ↓reduceIte, Nat.reduceEqDiff, Nat.reduceBEq, Nat.reduceAdd, Nat.reduceLeDiff, Nat.reduceLT, reduceCtorEq, Nat.reduceMul, Nat.reduceSub, Int.reduceEq, Int.reduceLT, Int.reduceLE, Int.reduceToNat]
  refine loop (fun p : Nat × Nat => ⟨[(0, .s s), (3, .i .i64 p.1)], hp, p.2⟩) (fun p => p.1 ≤ s.size ∧ (0 < p.1 → nmS s = nmL ((bs s).drop p.1))) (fun p => s.size - p.1) (0, m) ?_ ?_ (fun ⟨j, n⟩ hj => ?_)
  · exact ⟨by simp, fun h => absurd h (by simp)⟩
  · refine weak_ok ?_ (Sub.refl _) (Nat.le_refl _)
    simp only [go_sem, ↓reduceIte, Nat.reduceEqDiff, Nat.reduceBEq, Nat.reduceAdd, Nat.reduceLeDiff, Nat.reduceLT, reduceCtorEq, Nat.reduceMul, Nat.reduceSub, Int.reduceEq, Int.reduceLT, Int.reduceLE, Int.reduceToNat]
  dsimp only at hj
  obtain ⟨hj1, hj2⟩ := hj
  simp only [go_sem, ↓reduceIte, Nat.reduceEqDiff, Nat.reduceBEq, Nat.reduceAdd, Nat.reduceLeDiff, Nat.reduceLT, reduceCtorEq, Nat.reduceMul, Nat.reduceSub, Int.reduceEq, Int.reduceLT, Int.reduceLE, Int.reduceToNat]
  refine cdK_of (fun d => ?_) (fun d => ?_)
  · have d : j < s.size := by simpa using d
    obtain ⟨x, ex⟩ : ∃ x, (bs s)[j]? = some x := ⟨(bs s)[j]'(by rw [size_bs]; exact d), by simp [size_bs, d]⟩
    have eg : (bs s).getD j 0 = x := by rw [List.getD, ex]; rfl
    have e2 : nmS s = ((chL x.toNat || chD x.toNat && !decide (j = 0)) && nmL ((bs s).drop (j + 1))) := by
      rcases Nat.eq_zero_or_pos j with h0 | h0
      · subst h0
        rw [nmS, eg]
        have hb := drop_at ex
        rw [List.drop_zero] at hb
        rw [hb, nmL_cons]
        have h64 : s.size ≤ 64 := by omega
        have hh : ¬ (chL x.toNat = true ∧ chD x.toNat = true) := by simp only [chL, chD, Bool.or_eq_true, Bool.and_eq_true, decide_eq_true_eq]; omega
        rw [decide_eq_true d, decide_eq_true h64]
        exact nb3 _ _ _ hh
      · rw [hj2 h0, drop_at ex, nmL_cons]
        have : ¬ j = 0 := by omega
        simp [this]
    simp only [d, eg, go_sem, ↓reduceIte, Nat.reduceEqDiff, Nat.reduceBEq, Nat.reduceAdd, Nat.reduceLeDiff, Nat.reduceLT, reduceCtorEq, Nat.reduceMul, Nat.reduceSub, Int.reduceEq, Int.reduceLT, Int.reduceLE, Int.reduceToNat]
    refine vcCall.f (letter_ok _ _ _) ?_
    simp only [go_sem, ↓reduceIte, Nat.reduceEqDiff, Nat.reduceBEq, Nat.reduceAdd, Nat.reduceLeDiff, Nat.reduceLT, reduceCtorEq, Nat.reduceMul, Nat.reduceSub, Int.reduceEq, Int.reduceLT, Int.reduceLE, Int.reduceToNat]
    refine ⟨fun _ => d, gCall.f (fun _ => digit_ok _ _ _) ?_⟩
    simp only [d, eg, go_sem, ↓reduceIte, Nat.reduceEqDiff, Nat.reduceBEq, Nat.reduceAdd, Nat.reduceLeDiff, Nat.reduceLT, reduceCtorEq, Nat.reduceMul, Nat.reduceSub, Int.reduceEq, Int.reduceLT, Int.reduceLE, Int.reduceToNat]
    refine cdK_of (fun q => ?_) (fun q => ?_)
    · have q : (chL x.toNat || chD x.toNat && !decide (j = 0)) = false := by
        have e3 : decide ((j : Int) = 0) = decide (j = 0) := by congr 1; simp
        rw [e3] at q
        exact nb1 _ _ _ q
      rw [e2, q, Bool.false_and]
      simp only [go_sem, ↓reduceIte, Nat.reduceEqDiff, Nat.reduceBEq, Nat.reduceAdd, Nat.reduceLeDiff, Nat.reduceLT, reduceCtorEq, Nat.reduceMul, Nat.reduceSub, Int.reduceEq, Int.reduceLT, Int.reduceLE, Int.reduceToNat]
    · have q : (chL x.toNat || chD x.toNat && !decide (j = 0)) = true := by
        have e3 : decide ((j : Int) = 0) = decide (j = 0) := by congr 1; simp
        rw [e3] at q
        exact nb2 _ _ _ q
      rw [q, Bool.true_and] at e2
      simp only [go_sem, ↓reduceIte, Nat.reduceEqDiff, Nat.reduceBEq, Nat.reduceAdd, Nat.reduceLeDiff, Nat.reduceLT, reduceCtorEq, Nat.reduceMul, Nat.reduceSub, Int.reduceEq, Int.reduceLT, Int.reduceLE, Int.reduceToNat]
      refine ⟨(j + 1, n), ⟨by dsimp only; omega, fun _ => e2⟩, by dsimp only; omega, weak_ok ?_ (Sub.refl _) (Nat.le_refl _)⟩
      simp only [wr64s j (by omega), go_sem, ↓reduceIte, Nat.reduceEqDiff, Nat.reduceBEq, Nat.reduceAdd, Nat.reduceLeDiff, Nat.reduceLT, reduceCtorEq, Nat.reduceMul, Nat.reduceSub, Int.reduceEq, Int.reduceLT, Int.reduceLE, Int.reduceToNat]
  · have d : j = s.size := by simp at d; omega
    have hj2 := hj2 (by omega)
    rw [d, ← size_bs, List.drop_length] at hj2
    rw [hj2]
    simp only [go_sem, ↓reduceIte, Nat.reduceEqDiff, Nat.reduceBEq, Nat.reduceAdd, Nat.reduceLeDiff, Nat.reduceLT, reduceCtorEq, Nat.reduceMul, Nat.reduceSub, Int.reduceEq, Int.reduceLT, Int.reduceLE, Int.reduceToNat]
    rfl
end Go.Proofs.Ythiifoleopdieaa
namespace Go.Proofs.Ythiifoleopdieaa
open Go.Eng
set_option linter.unusedVariables false
set_option linter.unusedSimpArgs false
set_option maxRecDepth 20000
def fidx {α : Type} (q : α → Bool) : List α → Nat → Int
  | [], _ => -1
  | x :: r, j => if q x = true then j else fidx q r (j + 1)
theorem fidx_any {α : Type} (q : α → Bool) : ∀ (l : List α) (j : Nat), decide (0 ≤ fidx q l j) = l.any q
  | [], j => rfl
  | x :: r, j => by
    rw [fidx, List.any_cons]
    cases h : q x
    · rw [if_neg (by simp), fidx_any q r (j + 1), Bool.false_or]
    · rw [if_pos rfl]; simp
attribute [go_sem] st1
abbrev sx (s : ByteArray) : AV := .s s
/-- Whether a string occurs twice. -/
noncomputable def tw (l : List ByteArray) : Bool := !decide l.Nodup
theorem nodup_snoc {l : List ByteArray} {x : ByteArray} (h : l.Nodup) (hx : x ∉ l) : (l ++ [x]).Nodup := by
  rw [List.nodup_append]
  exact ⟨h, by simp, fun a ha b hb e => by simp at hb; subst hb; subst e; exact hx ha⟩
theorem tw_at {l : List ByteArray} {j : Nat} {x : ByteArray} (ex : l[j]? = some x) (h : x ∈ l.take j) : tw l = true := by
  simp only [tw, Bool.not_eq_true', decide_eq_false_iff_not]
  intro hn
  have e : l = l.take j ++ x :: l.drop (j + 1) := by rw [← drop_at ex, List.take_append_drop]
  rw [e, List.nodup_append] at hn
  exact hn.2.2 x h x (by simp) rfl
theorem twice2_ok (l : List ByteArray) (hl : l.length ≤ 9223372036854775806) (hp : CH) (m : Nat) : MeetsF Try.prog 108 hp m [.ds (stC l)] (.b (tw l)) := by
  refine meetsF Try.func108 (by kernel_rfl) cc108 cr108 rfl fun hf => ?_; unfold ck108
  simp only [go_sem, ↓reduceIte, Nat.reduceEqDiff, Nat.reduceBEq, Nat.reduceAdd, Nat.reduceLeDiff, Nat.reduceLT, reduceCtorEq, Nat.reduceMul, Nat.reduceSub, Int.reduceEq, Int.reduceLT, Int.reduceLE, Int.reduceToNat]
  refine loop (fun p : Nat × Nat => ⟨[(0, .ds (stC l)), (3, .i .i64 p.1)], hp, p.2⟩) (fun p => p.1 ≤ l.length ∧ m ≤ p.2 ∧ (l.take p.1).Nodup) (fun p => l.length - p.1) (0, m) ?_ ?_ (fun ⟨j, n⟩ hj => ?_)
  · exact ⟨by simp, by simp, by simp⟩
  · refine weak_ok ?_ (Sub.refl _) (Nat.le_refl _)
    simp only [go_sem, ↓reduceIte, Nat.reduceEqDiff, Nat.reduceBEq, Nat.reduceAdd, Nat.reduceLeDiff, Nat.reduceLT, reduceCtorEq, Nat.reduceMul, Nat.reduceSub, Int.reduceEq, Int.reduceLT, Int.reduceLE, Int.reduceToNat]
  dsimp only at hj
  obtain ⟨hj1, hj2, hj3⟩ := hj
  simp only [go_sem, ↓reduceIte, Nat.reduceEqDiff, Nat.reduceBEq, Nat.reduceAdd, Nat.reduceLeDiff, Nat.reduceLT, reduceCtorEq, Nat.reduceMul, Nat.reduceSub, Int.reduceEq, Int.reduceLT, Int.reduceLE, Int.reduceToNat]
  refine cdK_of (fun c => ?_) (fun c => ?_)
  · have c : j < l.length := by simpa using c
    obtain ⟨x, ex⟩ : ∃ x, l[j]? = some x := ⟨l[j], by simp [c]⟩
    simp only [go_sem, ↓reduceIte, Nat.reduceEqDiff, Nat.reduceBEq, Nat.reduceAdd, Nat.reduceLeDiff, Nat.reduceLT, reduceCtorEq, Nat.reduceMul, Nat.reduceSub, Int.reduceEq, Int.reduceLT, Int.reduceLE, Int.reduceToNat]
    refine loop (fun p : Nat × Nat => ⟨[(0, .ds (stC l)), (3, .i .i64 j), (4, .i .i64 p.1)], hp, p.2⟩) (fun p => p.1 ≤ j ∧ m ≤ p.2 ∧ x ∉ l.take p.1) (fun p => j - p.1) (0, n) ?_ ?_ (fun ⟨i, n2⟩ hi => ?_)
    · exact ⟨by simp, hj2, by simp⟩
    · refine weak_ok ?_ (Sub.refl _) (Nat.le_refl _)
      simp only [go_sem, ↓reduceIte, Nat.reduceEqDiff, Nat.reduceBEq, Nat.reduceAdd, Nat.reduceLeDiff, Nat.reduceLT, reduceCtorEq, Nat.reduceMul, Nat.reduceSub, Int.reduceEq, Int.reduceLT, Int.reduceLE, Int.reduceToNat]
    dsimp only at hi
    obtain ⟨hi1, hi2, hi3⟩ := hi
    simp only [go_sem, ↓reduceIte, Nat.reduceEqDiff, Nat.reduceBEq, Nat.reduceAdd, Nat.reduceLeDiff, Nat.reduceLT, reduceCtorEq, Nat.reduceMul, Nat.reduceSub, Int.reduceEq, Int.reduceLT, Int.reduceLE, Int.reduceToNat]
    refine cdK_of (fun d => ?_) (fun d => ?_)
    · have d : i < j := by simpa using d
      obtain ⟨y, ey⟩ : ∃ y, l[i]? = some y := ⟨l[i], by simp⟩
      have hil : i < l.length := by omega
      simp only [c, d, hil, getK_s (mapC_get st1 ex), getK_s (mapC_get st1 ey), go_sem, ↓reduceIte, Nat.reduceEqDiff, Nat.reduceBEq, Nat.reduceAdd, Nat.reduceLeDiff, Nat.reduceLT, reduceCtorEq, Nat.reduceMul, Nat.reduceSub, Int.reduceEq, Int.reduceLT, Int.reduceLE, Int.reduceToNat]
      refine cdK_of (fun q => ?_) (fun q => ?_)
      · have q : x = y := by simpa using q
        subst q
        have := tw_at ex (List.mem_of_getElem? (i := i) (by rw [List.getElem?_take, if_pos d]; exact ey))
        rw [this]
        simp only [go_sem, ↓reduceIte, Nat.reduceEqDiff, Nat.reduceBEq, Nat.reduceAdd, Nat.reduceLeDiff, Nat.reduceLT, reduceCtorEq, Nat.reduceMul, Nat.reduceSub, Int.reduceEq, Int.reduceLT, Int.reduceLE, Int.reduceToNat]
      · have q : ¬ x = y := by simpa using q
        simp only [go_sem, ↓reduceIte, Nat.reduceEqDiff, Nat.reduceBEq, Nat.reduceAdd, Nat.reduceLeDiff, Nat.reduceLT, reduceCtorEq, Nat.reduceMul, Nat.reduceSub, Int.reduceEq, Int.reduceLT, Int.reduceLE, Int.reduceToNat]
        refine ⟨(i + 1, _), ⟨by dsimp only; omega, by dsimp only; omega, ?_⟩, by dsimp only; omega, weak_ok ?_ (Sub.refl _) (Nat.le_refl _)⟩
        · dsimp only
          rw [← take_snoc ey]
          simp [hi3, q]
        · simp only [wr64s i (by omega), go_sem, ↓reduceIte, Nat.reduceEqDiff, Nat.reduceBEq, Nat.reduceAdd, Nat.reduceLeDiff, Nat.reduceLT, reduceCtorEq, Nat.reduceMul, Nat.reduceSub, Int.reduceEq, Int.reduceLT, Int.reduceLE, Int.reduceToNat]
    · have d : i = j := by simp at d; omega
      subst d
      simp only [go_sem, ↓reduceIte, Nat.reduceEqDiff, Nat.reduceBEq, Nat.reduceAdd, Nat.reduceLeDiff, Nat.reduceLT, reduceCtorEq, Nat.reduceMul, Nat.reduceSub, Int.reduceEq, Int.reduceLT, Int.reduceLE, Int.reduceToNat]
      refine ⟨(i + 1, n2), ⟨by dsimp only; omega, by dsimp only; omega, by dsimp only; rw [← take_snoc ex]; exact nodup_snoc hj3 hi3⟩, by dsimp only; omega, weak_ok ?_ (Sub.refl _) (Nat.le_refl _)⟩
      simp only [wr64s i (by omega), go_sem, ↓reduceIte, Nat.reduceEqDiff, Nat.reduceBEq, Nat.reduceAdd, Nat.reduceLeDiff, Nat.reduceLT, reduceCtorEq, Nat.reduceMul, Nat.reduceSub, Int.reduceEq, Int.reduceLT, Int.reduceLE, Int.reduceToNat]
  · have c : j = l.length := by simp at c; omega
    subst c
    rw [List.take_length] at hj3
    have : tw l = false := by simp [tw, hj3]
    rw [this]
    simp only [go_sem, ↓reduceIte, Nat.reduceEqDiff, Nat.reduceBEq, Nat.reduceAdd, Nat.reduceLeDiff, Nat.reduceLT, reduceCtorEq, Nat.reduceMul, Nat.reduceSub, Int.reduceEq, Int.reduceLT, Int.reduceLE, Int.reduceToNat]
end Go.Proofs.Ythiifoleopdieaa
