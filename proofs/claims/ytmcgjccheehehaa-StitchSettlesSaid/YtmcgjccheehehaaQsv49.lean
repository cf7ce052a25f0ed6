/-
  The parts SbG of the proof, in one file. Conditions: none.
-/
import Derived.Test.YtmcgjccheehehaaQsv48
namespace Go.Proofs.Ytmcgjccheehehaa
open Go.Eng
set_option linter.unusedVariables false
set_option linter.unusedSimpArgs false
set_option maxRecDepth 20000
set_option maxHeartbeats 1000000
theorem clean_of (v : Val) (hv : v.Fit) (ih : ∀ x ∈ v.items, ∀ b : Bool, (b = true ↔ Cl x) → ∀ hp m, MeetsF Try.prog 41 hp m [vx x] (.b b)) (b : Bool) (hb : b = true ↔ Cl v) (hp : CH) (m : Nat) :
    MeetsF Try.prog 41 hp m [vx v] (.b b) := by
  have li := hv.i
  have lk := hv.l
  have no : ¬ Cl v → b = false := fun h => by
    cases b
    · rfl
    · exact absurd (hb.1 rfl) h
  have hI : (decide ((0 : Int) < (v.items.length : Int)) = true) ↔ v.items ≠ [] := by
    cases v.items <;> simp <;> omega
  have hK : (decide ((0 : Int) < (v.keys.length : Int)) = true) ↔ v.keys ≠ [] := by
    cases v.keys <;> simp <;> omega
  refine meetsF Try.func41 (by kernel_rfl) cc41 cr41 rfl fun hf => ?_; unfold ck41
  simp only [go_sem, ↓reduceIte, Nat.reduceEqDiff, Nat.reduceBEq, Nat.reduceAdd, Nat.reduceLeDiff, Nat.reduceLT, reduceCtorEq, Nat.reduceMul, Nat.reduceSub, Int.reduceEq, Int.reduceLT, Int.reduceLE, Int.reduceToNat]
  refine cdK_of (fun c => ?_) (fun c => ?_)
  · have hb0 := no fun h => by
      have hc := h.c
      simp only [Bool.or_eq_true, Bool.and_eq_true, Bool.not_eq_true', decide_eq_false_iff_not, hI, hK] at c
      simp only [decide_eq_true_eq] at c
      rcases c with (⟨c1, c2⟩ | ⟨⟨c1, c2⟩, c3⟩) | ⟨c1, c2⟩
      · exact c2 (hc.a c1)
      · exact c3 (hc.b c1 c2)
      · exact c2 (by rw [hc.c c1])
    subst hb0
    simp only [go_sem, ↓reduceIte, Nat.reduceEqDiff, Nat.reduceBEq, Nat.reduceAdd, Nat.reduceLeDiff, Nat.reduceLT, reduceCtorEq, Nat.reduceMul, Nat.reduceSub, Int.reduceEq, Int.reduceLT, Int.reduceLE, Int.reduceToNat]
  simp only [Bool.or_eq_false_iff, Bool.and_eq_false_iff, Bool.not_eq_false', decide_eq_true_eq, decide_eq_false_iff_not] at c
  simp only [go_sem, ↓reduceIte, Nat.reduceEqDiff, Nat.reduceBEq, Nat.reduceAdd, Nat.reduceLeDiff, Nat.reduceLT, reduceCtorEq, Nat.reduceMul, Nat.reduceSub, Int.reduceEq, Int.reduceLT, Int.reduceLE, Int.reduceToNat]
  refine cdK_of (fun e => ?_) (fun e => ?_)
  · have hb0 := no fun h => by
      have hc := h.c
      simp only [Bool.or_eq_true, Bool.and_eq_true, Bool.not_eq_true', decide_eq_false_iff_not, decide_eq_true_eq] at e
      have := hc.d e.1
      rcases e.2 with q | q
      · exact q this.1
      · exact q this.2
    subst hb0
    simp only [go_sem, ↓reduceIte, Nat.reduceEqDiff, Nat.reduceBEq, Nat.reduceAdd, Nat.reduceLeDiff, Nat.reduceLT, reduceCtorEq, Nat.reduceMul, Nat.reduceSub, Int.reduceEq, Int.reduceLT, Int.reduceLE, Int.reduceToNat]
  simp only [Bool.or_eq_false_iff, Bool.and_eq_false_iff, Bool.not_eq_false', decide_eq_true_eq, decide_eq_false_iff_not] at e
  simp only [go_sem, ↓reduceIte, Nat.reduceEqDiff, Nat.reduceBEq, Nat.reduceAdd, Nat.reduceLeDiff, Nat.reduceLT, reduceCtorEq, Nat.reduceMul, Nat.reduceSub, Int.reduceEq, Int.reduceLT, Int.reduceLE, Int.reduceToNat]
  refine loopg (fun q : Nat => ⟨[(1, .bx m 0), (3, .i .i64 q)], (m, .bx [.i .i64 v.k, .i .i64 v.n, .s v.s, .ds (mapC valC v.items), .ds (stC v.keys)]) :: hp, m + 1⟩)
    (fun j => j ≤ v.items.length ∧ (∀ (i k : Nat) (x : ByteArray), i < j → k < i → v.keys[k]? = some x → v.keys[i]? ≠ some x) ∧ (∀ i x, i < j → v.items[i]? = some x → Cl x)) (fun q => v.items.length - q) 0 ?_ ?_ (fun j hj => ?_)
  · exact ⟨Nat.zero_le _, fun i k p h => absurd h (Nat.not_lt_zero _), fun i p h => absurd h (Nat.not_lt_zero _)⟩
  · refine weak_ok ?_ (Sub.cons ?_ (Sub.base hf ?_)) (Nat.le_refl _)
    all_goals first | (simp only [go_sem, ↓reduceIte, Nat.reduceEqDiff, Nat.reduceBEq, Nat.reduceAdd, Nat.reduceLeDiff, Nat.reduceLT, reduceCtorEq, Nat.reduceMul, Nat.reduceSub, Int.reduceEq, Int.reduceLT, Int.reduceLE, Int.reduceToNat]; done) | (dsimp only; omega) | trace_state
  obtain ⟨hj1, hj2, hj3⟩ := hj
  simp only [go_sem, ↓reduceIte, Nat.reduceEqDiff, Nat.reduceBEq, Nat.reduceAdd, Nat.reduceLeDiff, Nat.reduceLT, reduceCtorEq, Nat.reduceMul, Nat.reduceSub, Int.reduceEq, Int.reduceLT, Int.reduceLE, Int.reduceToNat]
  refine cdK_of (fun d => ?_) (fun d => ?_)
  · have d1 : j < v.items.length := by simpa using d
    obtain ⟨y, ey⟩ : ∃ p, v.items[j]? = some p := ⟨v.items[j], by simp⟩
    simp only [go_sem, ↓reduceIte, Nat.reduceEqDiff, Nat.reduceBEq, Nat.reduceAdd, Nat.reduceLeDiff, Nat.reduceLT, reduceCtorEq, Nat.reduceMul, Nat.reduceSub, Int.reduceEq, Int.reduceLT, Int.reduceLE, Int.reduceToNat]
    refine loopg (fun k : Nat => ⟨[(1, .bx m 0), (3, .i .i64 j), (4, .i .i64 k)], (m, .bx [.i .i64 v.k, .i .i64 v.n, .s v.s, .ds (mapC valC v.items), .ds (stC v.keys)]) :: hp, m + 1⟩)
      (fun k => k ≤ j ∧ ∀ i x, i < k → v.keys[i]? = some x → v.keys[j]? ≠ some x) (fun k => j - k) 0 ?_ ?_ (fun k hk => ?_)
    · exact ⟨Nat.zero_le _, fun i p h => absurd h (Nat.not_lt_zero _)⟩
    · refine weak_ok ?_ (Sub.cons ?_ (Sub.base hf ?_)) (Nat.le_refl _)
      all_goals first | (simp only [go_sem, ↓reduceIte, Nat.reduceEqDiff, Nat.reduceBEq, Nat.reduceAdd, Nat.reduceLeDiff, Nat.reduceLT, reduceCtorEq, Nat.reduceMul, Nat.reduceSub, Int.reduceEq, Int.reduceLT, Int.reduceLE, Int.reduceToNat]; done) | (dsimp only; omega) | trace_state
    obtain ⟨hk1, hk2⟩ := hk
    simp only [go_sem, ↓reduceIte, Nat.reduceEqDiff, Nat.reduceBEq, Nat.reduceAdd, Nat.reduceLeDiff, Nat.reduceLT, reduceCtorEq, Nat.reduceMul, Nat.reduceSub, Int.reduceEq, Int.reduceLT, Int.reduceLE, Int.reduceToNat]
    refine cdK_of (fun g => ?_) (fun g => ?_)
    · simp only [Bool.and_eq_true, decide_eq_true_eq] at g
      have c1 : k < j := by omega
      have c2 : k < v.keys.length := by omega
      have c3 : j < v.keys.length := by omega
      obtain ⟨p, ep⟩ : ∃ p, v.keys[k]? = some p := ⟨v.keys[k], by simp⟩
      obtain ⟨q, eq⟩ : ∃ p, v.keys[j]? = some p := ⟨v.keys[j], by simp⟩
      have k6 : k < 9223372036854775807 := by omega
      simp only [c2, c3, d1, getK_s (mapC_get st1 ep), getK_s (mapC_get st1 eq), go_sem, ↓reduceIte, Nat.reduceEqDiff, Nat.reduceBEq, Nat.reduceAdd, Nat.reduceLeDiff, Nat.reduceLT, reduceCtorEq, Nat.reduceMul, Nat.reduceSub, Int.reduceEq, Int.reduceLT, Int.reduceLE, Int.reduceToNat]
      refine cdK_of (fun z => ?_) (fun z => ?_)
      · have z : p = q := by simpa using z
        have hb0 := no fun h => h.c.e j k p c1 d1 ep (by rw [z]; exact eq)
        subst hb0
        simp only [go_sem, ↓reduceIte, Nat.reduceEqDiff, Nat.reduceBEq, Nat.reduceAdd, Nat.reduceLeDiff, Nat.reduceLT, reduceCtorEq, Nat.reduceMul, Nat.reduceSub, Int.reduceEq, Int.reduceLT, Int.reduceLE, Int.reduceToNat]
      · have z : ¬ p = q := by simpa using z
        simp only [wr64s k k6, go_sem, ↓reduceIte, Nat.reduceEqDiff, Nat.reduceBEq, Nat.reduceAdd, Nat.reduceLeDiff, Nat.reduceLT, reduceCtorEq, Nat.reduceMul, Nat.reduceSub, Int.reduceEq, Int.reduceLT, Int.reduceLE, Int.reduceToNat]
        refine ⟨k + 1, ⟨c1, fun i p' hi hp' => ?_⟩, by omega, weakG_ok ?_ (SubG.cons ?_ ?_ ?_ (SubG.base hf ?_ ?_ ?_))⟩
        · rcases Nat.lt_or_ge i k with h | h
          · exact hk2 i p' h hp'
          · have : i = k := by omega
            subst this
            rw [ep] at hp'
            cases hp'
            rw [eq]
            exact fun r => z (Option.some.inj r).symm
        all_goals first | (simp only [go_sem, ↓reduceIte, Nat.reduceEqDiff, Nat.reduceBEq, Nat.reduceAdd, Nat.reduceLeDiff, Nat.reduceLT, reduceCtorEq, Nat.reduceMul, Nat.reduceSub, Int.reduceEq, Int.reduceLT, Int.reduceLE, Int.reduceToNat]; done) | (dsimp only; omega) | trace_state
    · have hall : ∀ i x, i < j → v.keys[i]? = some x → v.keys[j]? ≠ some x := fun i x hi hx hx' => by
        have l1 := (List.getElem?_eq_some_iff.1 hx).1
        have l2 := (List.getElem?_eq_some_iff.1 hx').1
        rcases Nat.lt_or_ge i k with h | h
        · exact hk2 i x h hx hx'
        · simp only [Bool.and_eq_false_iff, decide_eq_false_iff_not] at g
          omega
      have k6 : j < 9223372036854775807 := by omega
      obtain ⟨b', hb'⟩ := exB (Cl y)
      have hx := ih y (List.mem_of_getElem? ey) b' hb'
      simp only [d1, getK_s (mapC_get valC ey), go_sem, ↓reduceIte, Nat.reduceEqDiff, Nat.reduceBEq, Nat.reduceAdd, Nat.reduceLeDiff, Nat.reduceLT, reduceCtorEq, Nat.reduceMul, Nat.reduceSub, Int.reduceEq, Int.reduceLT, Int.reduceLE, Int.reduceToNat]
      refine vcCall.f (hx _ _) ?_
      simp only [go_sem, ↓reduceIte, Nat.reduceEqDiff, Nat.reduceBEq, Nat.reduceAdd, Nat.reduceLeDiff, Nat.reduceLT, reduceCtorEq, Nat.reduceMul, Nat.reduceSub, Int.reduceEq, Int.reduceLT, Int.reduceLE, Int.reduceToNat]
      refine cdK_of (fun e => ?_) (fun e => ?_)
      · have e : ¬ b' = true := by simpa using e
        have hb0 := no fun h => e (hb'.2 (h.x y (List.mem_of_getElem? ey)))
        subst hb0
        simp only [go_sem, ↓reduceIte, Nat.reduceEqDiff, Nat.reduceBEq, Nat.reduceAdd, Nat.reduceLeDiff, Nat.reduceLT, reduceCtorEq, Nat.reduceMul, Nat.reduceSub, Int.reduceEq, Int.reduceLT, Int.reduceLE, Int.reduceToNat]
      · have e : b' = true := by simpa using e
        simp only [wr64s j k6, go_sem, ↓reduceIte, Nat.reduceEqDiff, Nat.reduceBEq, Nat.reduceAdd, Nat.reduceLeDiff, Nat.reduceLT, reduceCtorEq, Nat.reduceMul, Nat.reduceSub, Int.reduceEq, Int.reduceLT, Int.reduceLE, Int.reduceToNat]
        refine ⟨j + 1, ⟨d1, fun i k' p' h1 h2 h3 => ?_, fun i p' h1 h2 => ?_⟩, by omega, weakG_ok ?_ (SubG.cons ?_ ?_ ?_ (SubG.base hf ?_ ?_ ?_))⟩
        · rcases Nat.lt_or_ge i j with h | h
          · exact hj2 i k' p' h h2 h3
          · have : i = j := by omega
            subst this
            exact hall k' p' h2 h3
        · rcases Nat.lt_or_ge i j with h | h
          · exact hj3 i p' h h2
          · have : i = j := by omega
            subst this
            rw [ey] at h2
            cases h2
            exact hb'.1 e
        all_goals first | (simp only [go_sem, ↓reduceIte, Nat.reduceEqDiff, Nat.reduceBEq, Nat.reduceAdd, Nat.reduceLeDiff, Nat.reduceLT, reduceCtorEq, Nat.reduceMul, Nat.reduceSub, Int.reduceEq, Int.reduceLT, Int.reduceLE, Int.reduceToNat]; done) | (dsimp only; omega) | trace_state
  · have d : j = v.items.length := by simp at d; omega
    subst d
    have : b = true := hb.2 (.mk v ⟨fun q => ?_, fun q q' => ?_, fun q => ?_, fun q => ?_, fun i k x h1 h2 h3 => hj2 i k x h2 h1 h3⟩ fun p hp => ?_)
    · subst this
      simp only [go_sem, ↓reduceIte, Nat.reduceEqDiff, Nat.reduceBEq, Nat.reduceAdd, Nat.reduceLeDiff, Nat.reduceLT, reduceCtorEq, Nat.reduceMul, Nat.reduceSub, Int.reduceEq, Int.reduceLT, Int.reduceLE, Int.reduceToNat]
    · have := c.1.1
      cases hq : v.keys with
      | nil => rfl
      | cons a l => rw [hq] at this; simp at this; omega
    · have := c.1.2
      cases hq : v.items with
      | nil => rfl
      | cons a l => rw [hq] at this; simp at this; omega
    · have := c.2
      omega
    · rcases e with e | e
      · omega
      · exact e
    · obtain ⟨i, hi, rfl⟩ := List.mem_iff_getElem.1 hp
      exact hj3 i _ hi (by simp)
theorem clean_ok (v : Val) : v.Fit → ∀ b : Bool, (b = true ↔ Cl v) → ∀ hp m, MeetsF Try.prog 41 hp m [vx v] (.b b) :=
  Val.ind (Q := fun v => v.Fit → ∀ b : Bool, (b = true ↔ Cl v) → ∀ hp m, MeetsF Try.prog 41 hp m [vx v] (.b b)) (fun v ih hv b hb => clean_of v hv (fun x hx => ih x hx (hv.x hx)) b hb) v
end Go.Proofs.Ytmcgjccheehehaa
