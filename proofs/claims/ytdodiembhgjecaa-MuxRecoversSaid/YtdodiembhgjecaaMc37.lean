/-
  The parts MxJ of the proof, in one file. Conditions: none.
-/
import Derived.Test.YtdodiembhgjecaaMc36
namespace Go.Proofs.Ytdodiembhgjecaa
open Go.Eng
set_option linter.unusedVariables false
set_option linter.unusedSimpArgs false
set_option maxRecDepth 20000
set_option maxHeartbeats 1000000
theorem half_eq (i j : Nat) (h : i + j ≤ 4000000000000) : IntKind.i64.wrap (shrI .u64 (IntKind.u64.wrap (IntKind.i64.wrap ((i : Int) + (j : Int)))) 1) = (((i + j) / 2 : Nat) : Int) := by
  have e0 : IntKind.i64.wrap ((i : Int) + (j : Int)) = (i : Int) + (j : Int) := wr64 (by omega)
  rw [e0]
  have e : IntKind.u64.wrap ((i : Int) + (j : Int)) = ((i + j : Nat) : Int) := by simp [IntKind.wrap, IntKind.bits, IntKind.signed]; omega
  rw [e]
  have e2 : shrI .u64 ((i + j : Nat) : Int) 1 = (((i + j) / 2 : Nat) : Int) := by
    unfold shrI
    rw [show min ((1 : Int)).toNat IntKind.u64.bits = 1 by decide, Int.fdiv_eq_ediv_of_nonneg _ (by decide)]
    omega
  rw [e2, wr64 (by omega)]
/-- The place of a number in an ascending list. -/
def posI (x : Int) : List Int → Nat
  | [] => 0
  | y :: L => if y < x then posI x L + 1 else 0
theorem posI_le (x : Int) : ∀ L : List Int, posI x L ≤ L.length
  | [] => Nat.le_refl _
  | y :: L => by
    have := posI_le x L
    unfold posI
    split <;> simp <;> omega
abbrev Asc (L : List Int) : Prop := L.Pairwise (· < ·)
theorem posI_lt (x : Int) : ∀ (L : List Int), Asc L → ∀ (j : Nat) y, L[j]? = some y → (y < x ↔ j < posI x L)
  | [], _, j, y, h => by simp at h
  | z :: L, hs, j, y, h => by
    obtain ⟨h1, h2⟩ := List.pairwise_cons.1 hs
    unfold posI
    cases j with
    | zero =>
      cases h
      split
      · rename_i q; simp [q]
      · rename_i q; simp [q]
    | succ j =>
      rw [List.getElem?_cons_succ] at h
      have ih := posI_lt x L h2 j y h
      split
      · rename_i q; rw [ih]; omega
      · rename_i q
        have := h1 y (List.mem_of_getElem? h)
        constructor
        · intro _; omega
        · intro _; omega
def hasI (x : Int) (L : List Int) : Bool := decide (L[posI x L]? = some x)
theorem less_ok (x y : Int) (hp : CH) (m : Nat) : MeetsF Try.prog 48 hp m [.i .i64 x, .i .i64 y] (.b (decide (x < y))) := by
  have hN : ∀ z hp m, MeetsF Try.prog 56 hp m [.i .i64 z] (.b false) := fun z hp m => by
    refine meetsF Try.func56 (by kernel_rfl) cc56 cr56 rfl fun hf => ?_; unfold ck56
    simp only [go_sem, ↓reduceIte, Nat.reduceEqDiff, Nat.reduceBEq, Nat.reduceAdd, Nat.reduceLeDiff, Nat.reduceLT, reduceCtorEq, Nat.reduceMul, Nat.reduceSub, Int.reduceEq, Int.reduceLT, Int.reduceLE, Int.reduceToNat]
    try simp
  refine meetsF Try.func48 (by kernel_rfl) cc48 cr48 rfl fun hf => ?_; unfold ck48
  simp only [go_sem, ↓reduceIte, Nat.reduceEqDiff, Nat.reduceBEq, Nat.reduceAdd, Nat.reduceLeDiff, Nat.reduceLT, reduceCtorEq, Nat.reduceMul, Nat.reduceSub, Int.reduceEq, Int.reduceLT, Int.reduceLE, Int.reduceToNat]
  refine vcCall.f (hN _ _ _) ?_
  simp only [go_sem, ↓reduceIte, Nat.reduceEqDiff, Nat.reduceBEq, Nat.reduceAdd, Nat.reduceLeDiff, Nat.reduceLT, reduceCtorEq, Nat.reduceMul, Nat.reduceSub, Int.reduceEq, Int.reduceLT, Int.reduceLE, Int.reduceToNat]
  refine gCall_f ?_
  simp only [go_sem, ↓reduceIte, Nat.reduceEqDiff, Nat.reduceBEq, Nat.reduceAdd, Nat.reduceLeDiff, Nat.reduceLT, reduceCtorEq, Nat.reduceMul, Nat.reduceSub, Int.reduceEq, Int.reduceLT, Int.reduceLE, Int.reduceToNat]
theorem nan_ok (z : Int) (hp : CH) (m : Nat) : MeetsF Try.prog 49 hp m [.i .i64 z] (.b false) := by
  refine meetsF Try.func49 (by kernel_rfl) cc49 cr49 rfl fun hf => ?_; unfold ck49
  simp only [go_sem, ↓reduceIte, Nat.reduceEqDiff, Nat.reduceBEq, Nat.reduceAdd, Nat.reduceLeDiff, Nat.reduceLT, reduceCtorEq, Nat.reduceMul, Nat.reduceSub, Int.reduceEq, Int.reduceLT, Int.reduceLE, Int.reduceToNat]
  try simp
theorem bs_ok (x : Int) (L : List Int) (hs : Asc L) (hl : L.length ≤ 1000000) (hp : CH) (m : Nat) : MeetsF Try.prog 38 hp m [.ds (mapC in1 L), .i .i64 x] (.tp [.i .i64 (posI x L), .b (hasI x L)]) := by
  have hLl : (mapC in1 L).length = L.length := mapC_len _ _
  have hpl := posI_le x L
  have hpo := posI_lt x L hs
  have hhas : hasI x L = decide (L[posI x L]? = some x) := rfl
  obtain ⟨p, hp'⟩ : ∃ p, posI x L = p := ⟨_, rfl⟩
  obtain ⟨hb, hb'⟩ : ∃ hb, hasI x L = hb := ⟨_, rfl⟩
  rw [hb'] at hhas ⊢
  rw [hp'] at hpl hpo hhas ⊢
  have hless := less_ok
  have hnan := nan_ok
  refine meetsF Try.func38 (by kernel_rfl) cc38 cr38 rfl fun hf => ?_; unfold ck38
  simp (disch := omega) only [ite_ne, hLl, go_sem, ↓reduceIte, Nat.reduceEqDiff, Nat.reduceBEq, Nat.reduceAdd, Nat.reduceLeDiff, Nat.reduceLT, reduceCtorEq, Nat.reduceMul, Nat.reduceSub, Int.reduceEq, Int.reduceLT, Int.reduceLE, Int.reduceToNat]
  refine loop (fun q : Nat × Nat × Nat => ⟨[(0, .ds (mapC in1 L)), (1, .i .i64 x), (6, .i .i64 L.length), (7, .i .i64 q.1), (8, .i .i64 q.2.1)], hp, q.2.2⟩) (fun q => q.1 ≤ p ∧ p ≤ q.2.1 ∧ q.2.1 ≤ L.length) (fun q => q.2.1 - q.1) (0, L.length, m) ?_ ?_ (fun ⟨i, j, n⟩ hj => ?_)
  · exact ⟨Nat.zero_le _, hpl, Nat.le_refl _⟩
  · refine weak_ok ?_ (Sub.refl _) (Nat.le_refl _)
    simp (disch := omega) only [ite_ne, hLl, go_sem, ↓reduceIte, Nat.reduceEqDiff, Nat.reduceBEq, Nat.reduceAdd, Nat.reduceLeDiff, Nat.reduceLT, reduceCtorEq, Nat.reduceMul, Nat.reduceSub, Int.reduceEq, Int.reduceLT, Int.reduceLE, Int.reduceToNat]
  dsimp only at hj
  obtain ⟨hj1, hj2, hj3⟩ := hj
  simp (disch := omega) only [ite_ne, go_sem, ↓reduceIte, Nat.reduceEqDiff, Nat.reduceBEq, Nat.reduceAdd, Nat.reduceLeDiff, Nat.reduceLT, reduceCtorEq, Nat.reduceMul, Nat.reduceSub, Int.reduceEq, Int.reduceLT, Int.reduceLE, Int.reduceToNat]
  refine cdK_of (fun q => ?_) (fun q => ?_)
  · have q : i < j := by simpa using q
    have hz := half_eq i j (by omega)
    obtain ⟨t, ht⟩ : ∃ t, (i + j) / 2 = t := ⟨_, rfl⟩
    have ht1 : i ≤ t := by omega
    have ht2 : t < j := by omega
    have ht3 : t < L.length := by omega
    rw [ht] at hz
    obtain ⟨y, ey⟩ : ∃ y, L[t]? = some y := ⟨L[t]'(by omega), by simp⟩
    have hty := hpo t y ey
    have w1 : IntKind.i64.wrap ((t : Int) + 1) = ((t + 1 : Nat) : Int) := by rw [IntKind.wrap_i64]; omega
    have u1 : t + 1 ≤ p ∨ ¬ y < x := by
      by_cases c : y < x
      · have := hty.1 c; left; omega
      · right; exact c
    have u2 : p ≤ t ∨ y < x := by
      by_cases c : y < x
      · right; exact c
      · left
        have : ¬ t < p := fun z => c (hty.2 z)
        omega
    simp (disch := omega) only [ite_ne, q, hz, ht3, getK_s (mapC_get in1 ey), go_sem, ↓reduceIte, Nat.reduceEqDiff, Nat.reduceBEq, Nat.reduceAdd, Nat.reduceLeDiff, Nat.reduceLT, reduceCtorEq, Nat.reduceMul, Nat.reduceSub, Int.reduceEq, Int.reduceLT, Int.reduceLE, Int.reduceToNat]
    refine vcCall.f (hless _ _ _ _) ?_
    simp (disch := omega) only [ite_ne, q, hz, go_sem, ↓reduceIte, Nat.reduceEqDiff, Nat.reduceBEq, Nat.reduceAdd, Nat.reduceLeDiff, Nat.reduceLT, reduceCtorEq, Nat.reduceMul, Nat.reduceSub, Int.reduceEq, Int.reduceLT, Int.reduceLE, Int.reduceToNat]
    refine cdK_of (fun c => ?_) (fun c => ?_)
    · have c : y < x := by simpa using c
      have u3 : t + 1 ≤ p := u1.resolve_right (fun z => z c)
      simp (disch := omega) only [ite_ne, q, hz, w1, go_sem, ↓reduceIte, Nat.reduceEqDiff, Nat.reduceBEq, Nat.reduceAdd, Nat.reduceLeDiff, Nat.reduceLT, reduceCtorEq, Nat.reduceMul, Nat.reduceSub, Int.reduceEq, Int.reduceLT, Int.reduceLE, Int.reduceToNat]
      refine ⟨(t + 1, j, _), ⟨u3, hj2, hj3⟩, by dsimp only; omega, weak_ok ?_ (Sub.refl _) (Nat.le_refl _)⟩
      simp (disch := omega) only [ite_ne, w1, go_sem, ↓reduceIte, Nat.reduceEqDiff, Nat.reduceBEq, Nat.reduceAdd, Nat.reduceLeDiff, Nat.reduceLT, reduceCtorEq, Nat.reduceMul, Nat.reduceSub, Int.reduceEq, Int.reduceLT, Int.reduceLE, Int.reduceToNat]
    · have c : ¬ y < x := by simpa using c
      have u3 : p ≤ t := u2.resolve_right c
      have u4 : t ≤ L.length := by omega
      simp (disch := omega) only [ite_ne, q, hz, w1, go_sem, ↓reduceIte, Nat.reduceEqDiff, Nat.reduceBEq, Nat.reduceAdd, Nat.reduceLeDiff, Nat.reduceLT, reduceCtorEq, Nat.reduceMul, Nat.reduceSub, Int.reduceEq, Int.reduceLT, Int.reduceLE, Int.reduceToNat]
      refine ⟨(i, t, _), ⟨hj1, u3, u4⟩, by dsimp only; omega, weak_ok ?_ (Sub.refl _) (Nat.le_refl _)⟩
      simp (disch := omega) only [ite_ne, w1, go_sem, ↓reduceIte, Nat.reduceEqDiff, Nat.reduceBEq, Nat.reduceAdd, Nat.reduceLeDiff, Nat.reduceLT, reduceCtorEq, Nat.reduceMul, Nat.reduceSub, Int.reduceEq, Int.reduceLT, Int.reduceLE, Int.reduceToNat]
  · have q : ¬ i < j := by simpa using q
    obtain rfl : i = p := by omega
    cases hg : L[i]? with
    | none =>
      have hge : L.length ≤ i := by simpa using hg
      have hd : decide ((i : Int) < (L.length : Int)) = false := by simp; omega
      rw [hg] at hhas
      obtain rfl : hb = false := by rw [hhas]; rfl
      simp (disch := omega) only [ite_ne, hd, go_sem, ↓reduceIte, Nat.reduceEqDiff, Nat.reduceBEq, Nat.reduceAdd, Nat.reduceLeDiff, Nat.reduceLT, reduceCtorEq, Nat.reduceMul, Nat.reduceSub, Int.reduceEq, Int.reduceLT, Int.reduceLE, Int.reduceToNat]
      repeat' (refine gCall_f ?_; simp only [go_sem, ↓reduceIte, Nat.reduceEqDiff, Nat.reduceBEq, Nat.reduceAdd, Nat.reduceLeDiff, Nat.reduceLT, reduceCtorEq, Nat.reduceMul, Nat.reduceSub, Int.reduceEq, Int.reduceLT, Int.reduceLE, Int.reduceToNat])
    | some y =>
      have hlt : i < L.length := (List.getElem?_eq_some_iff.1 hg).1
      have hd : decide ((i : Int) < (L.length : Int)) = true := by simp; omega
      rw [hg] at hhas
      by_cases c : y = x
      · have c2 : decide (y = x) = true := decide_eq_true c
        obtain rfl : hb = true := by rw [hhas]; simp [c]
        simp (disch := omega) only [ite_ne, hd, hlt, getK_s (mapC_get in1 hg), c2, go_sem, ↓reduceIte, Nat.reduceEqDiff, Nat.reduceBEq, Nat.reduceAdd, Nat.reduceLeDiff, Nat.reduceLT, reduceCtorEq, Nat.reduceMul, Nat.reduceSub, Int.reduceEq, Int.reduceLT, Int.reduceLE, Int.reduceToNat]
        repeat' (refine gCall_f ?_; simp only [go_sem, ↓reduceIte, Nat.reduceEqDiff, Nat.reduceBEq, Nat.reduceAdd, Nat.reduceLeDiff, Nat.reduceLT, reduceCtorEq, Nat.reduceMul, Nat.reduceSub, Int.reduceEq, Int.reduceLT, Int.reduceLE, Int.reduceToNat])
      · have c2 : decide (y = x) = false := decide_eq_false c
        obtain rfl : hb = false := by rw [hhas]; simp [c]
        simp (disch := omega) only [ite_ne, hd, hlt, getK_s (mapC_get in1 hg), c2, go_sem, ↓reduceIte, Nat.reduceEqDiff, Nat.reduceBEq, Nat.reduceAdd, Nat.reduceLeDiff, Nat.reduceLT, reduceCtorEq, Nat.reduceMul, Nat.reduceSub, Int.reduceEq, Int.reduceLT, Int.reduceLE, Int.reduceToNat]
        refine gCall.f (fun _ => hnan _ _ _) ?_
        simp (disch := omega) only [ite_ne, hd, hlt, getK_s (mapC_get in1 hg), c2, go_sem, ↓reduceIte, Nat.reduceEqDiff, Nat.reduceBEq, Nat.reduceAdd, Nat.reduceLeDiff, Nat.reduceLT, reduceCtorEq, Nat.reduceMul, Nat.reduceSub, Int.reduceEq, Int.reduceLT, Int.reduceLE, Int.reduceToNat]
        repeat' (refine gCall_f ?_; simp only [go_sem, ↓reduceIte, Nat.reduceEqDiff, Nat.reduceBEq, Nat.reduceAdd, Nat.reduceLeDiff, Nat.reduceLT, reduceCtorEq, Nat.reduceMul, Nat.reduceSub, Int.reduceEq, Int.reduceLT, Int.reduceLE, Int.reduceToNat])
end Go.Proofs.Ytdodiembhgjecaa
