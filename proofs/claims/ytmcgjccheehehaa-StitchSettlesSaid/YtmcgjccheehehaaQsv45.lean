/-
  The parts SbA of the proof, in one file. Conditions: none.
-/
import Derived.Test.YtmcgjccheehehaaQsv44
namespace Go.Proofs.Ytmcgjccheehehaa
open Go.Eng
set_option linter.unusedVariables false
set_option linter.unusedSimpArgs false
set_option maxRecDepth 20000
set_option maxHeartbeats 1000000
def wgK (lim : Int) : List ByteArray → Int → Int
  | [], a => a
  | k :: r, a => if a ≤ lim then wgK lim r (IntKind.i64.wrap (IntKind.i64.wrap (a + 1) + k.size)) else a
mutual
def wgV (lim : Int) : Val → Int
  | .mk _ _ s i l => wgL lim i (wgK lim l (IntKind.i64.wrap (1 + s.size)))
def wgL (lim : Int) : List Val → Int → Int
  | [], a => a
  | v :: r, a => if a ≤ lim then wgL lim r (IntKind.i64.wrap (a + wgV lim v)) else a
end
theorem wgV_eq (lim : Int) (v : Val) : wgV lim v = wgL lim v.items (wgK lim v.keys (IntKind.i64.wrap (1 + v.s.size))) := by cases v; rw [wgV]; rfl
theorem wgK_at {lim : Int} {l : List ByteArray} {j : Nat} {a : Int} (h : l.length ≤ j ∨ ¬ a ≤ lim) : wgK lim (l.drop j) a = a := by
  cases e : l.drop j with
  | nil => rw [wgK]
  | cons k r =>
    rw [wgK, if_neg]
    rcases h with h | h
    · rw [List.drop_eq_nil_of_le h] at e; cases e
    · exact h
theorem wgL_at {lim : Int} {l : List Val} {j : Nat} {a : Int} (h : l.length ≤ j ∨ ¬ a ≤ lim) : wgL lim (l.drop j) a = a := by
  cases e : l.drop j with
  | nil => rw [wgL]
  | cons k r =>
    rw [wgL, if_neg]
    rcases h with h | h
    · rw [List.drop_eq_nil_of_le h] at e; cases e
    · exact h
theorem weight_of (v : Val) (lim : Int) (hv : v.Fit) (ih : ∀ x ∈ v.items, ∀ hp m, MeetsF Try.prog 30 hp m [vx x, .i .i64 lim] (.i .i64 (wgV lim x))) (hp : CH) (m : Nat) :
    MeetsF Try.prog 30 hp m [vx v, .i .i64 lim] (.i .i64 (wgV lim v)) := by
  have li := hv.i
  have lk := hv.l
  have e := wgV_eq lim v
  obtain ⟨R, hR⟩ : ∃ R, wgV lim v = R := ⟨_, rfl⟩
  obtain ⟨A, hA⟩ : ∃ A, IntKind.i64.wrap (1 + v.s.size) = A := ⟨_, rfl⟩
  obtain ⟨B, hB⟩ : ∃ B, wgK lim v.keys A = B := ⟨_, rfl⟩
  rw [hR, hA, hB] at e
  rw [hR]
  refine meetsF Try.func30 (by kernel_rfl) cc30 cr30 rfl fun hf => ?_; unfold ck30
  simp only [hA, go_sem, ↓reduceIte, Nat.reduceEqDiff, Nat.reduceBEq, Nat.reduceAdd, Nat.reduceLeDiff, Nat.reduceLT, reduceCtorEq, Nat.reduceMul, Nat.reduceSub, Int.reduceEq, Int.reduceLT, Int.reduceLE, Int.reduceToNat]
  refine loopg (fun q : Nat × Int => ⟨[(1, .i .i64 lim), (2, .bx m 0), (5, .i .i64 q.2), (6, .i .i64 q.1)], (m, .bx [.i .i64 v.k, .i .i64 v.n, .s v.s, .ds (mapC valC v.items), .ds (stC v.keys)]) :: hp, m + 1⟩)
    (fun q => q.1 ≤ v.keys.length ∧ wgK lim (v.keys.drop q.1) q.2 = B) (fun q => v.keys.length - q.1) (0, A) ?_ ?_ (fun ⟨j, a⟩ hj => ?_)
  · exact ⟨Nat.zero_le _, hB⟩
  · refine weak_ok ?_ (Sub.cons ?_ (Sub.base hf ?_)) (Nat.le_refl _)
    all_goals first | (simp only [go_sem, ↓reduceIte, Nat.reduceEqDiff, Nat.reduceBEq, Nat.reduceAdd, Nat.reduceLeDiff, Nat.reduceLT, reduceCtorEq, Nat.reduceMul, Nat.reduceSub, Int.reduceEq, Int.reduceLT, Int.reduceLE, Int.reduceToNat]; done) | trace_state
  dsimp only at hj
  obtain ⟨hj1, hj2⟩ := hj
  simp only [go_sem, ↓reduceIte, Nat.reduceEqDiff, Nat.reduceBEq, Nat.reduceAdd, Nat.reduceLeDiff, Nat.reduceLT, reduceCtorEq, Nat.reduceMul, Nat.reduceSub, Int.reduceEq, Int.reduceLT, Int.reduceLE, Int.reduceToNat]
  refine cdK_of (fun d => ?_) (fun d => ?_)
  · simp only [Bool.and_eq_true, decide_eq_true_eq] at d
    have d1 : j < v.keys.length := by omega
    obtain ⟨k, ek⟩ : ∃ k, v.keys[j]? = some k := ⟨v.keys[j], by simp⟩
    rw [drop_at ek, wgK, if_pos d.2] at hj2
    have k6 : j < 9223372036854775807 := by omega
    simp only [d1, getK_s (mapC_get st1 ek), wr64s j k6, go_sem, ↓reduceIte, Nat.reduceEqDiff, Nat.reduceBEq, Nat.reduceAdd, Nat.reduceLeDiff, Nat.reduceLT, reduceCtorEq, Nat.reduceMul, Nat.reduceSub, Int.reduceEq, Int.reduceLT, Int.reduceLE, Int.reduceToNat]
    refine ⟨(j + 1, IntKind.i64.wrap (IntKind.i64.wrap (a + 1) + k.size)), ⟨d1, hj2⟩, by dsimp only; omega, weakG_ok ?_ (SubG.cons ?_ ?_ ?_ (SubG.base hf ?_ ?_ ?_))⟩
    all_goals first | (simp only [go_sem, ↓reduceIte, Nat.reduceEqDiff, Nat.reduceBEq, Nat.reduceAdd, Nat.reduceLeDiff, Nat.reduceLT, reduceCtorEq, Nat.reduceMul, Nat.reduceSub, Int.reduceEq, Int.reduceLT, Int.reduceLE, Int.reduceToNat]; done) | (dsimp only; omega) | trace_state
  · have hab : a = B := by
      rw [← hj2, wgK_at]
      simp only [Bool.and_eq_false_iff, decide_eq_false_iff_not] at d
      omega
    subst hab
    clear hj2 hj1 d
    simp only [go_sem, ↓reduceIte, Nat.reduceEqDiff, Nat.reduceBEq, Nat.reduceAdd, Nat.reduceLeDiff, Nat.reduceLT, reduceCtorEq, Nat.reduceMul, Nat.reduceSub, Int.reduceEq, Int.reduceLT, Int.reduceLE, Int.reduceToNat]
    refine loopg (fun q : Nat × Int => ⟨[(1, .i .i64 lim), (2, .bx m 0), (5, .i .i64 q.2), (7, .i .i64 q.1)], (m, .bx [.i .i64 v.k, .i .i64 v.n, .s v.s, .ds (mapC valC v.items), .ds (stC v.keys)]) :: hp, m + 1⟩)
      (fun q => q.1 ≤ v.items.length ∧ wgL lim (v.items.drop q.1) q.2 = R) (fun q => v.items.length - q.1) (0, a) ?_ ?_ (fun ⟨j, a⟩ hj => ?_)
    · exact ⟨Nat.zero_le _, e.symm⟩
    · refine weak_ok ?_ (Sub.cons ?_ (Sub.base hf ?_)) (Nat.le_refl _)
      all_goals first | (simp only [go_sem, ↓reduceIte, Nat.reduceEqDiff, Nat.reduceBEq, Nat.reduceAdd, Nat.reduceLeDiff, Nat.reduceLT, reduceCtorEq, Nat.reduceMul, Nat.reduceSub, Int.reduceEq, Int.reduceLT, Int.reduceLE, Int.reduceToNat]; done) | (dsimp only; omega) | trace_state
    dsimp only at hj
    obtain ⟨hj1, hj2⟩ := hj
    simp only [go_sem, ↓reduceIte, Nat.reduceEqDiff, Nat.reduceBEq, Nat.reduceAdd, Nat.reduceLeDiff, Nat.reduceLT, reduceCtorEq, Nat.reduceMul, Nat.reduceSub, Int.reduceEq, Int.reduceLT, Int.reduceLE, Int.reduceToNat]
    refine cdK_of (fun d => ?_) (fun d => ?_)
    · simp only [Bool.and_eq_true, decide_eq_true_eq] at d
      have d1 : j < v.items.length := by omega
      obtain ⟨x, ex⟩ : ∃ x, v.items[j]? = some x := ⟨v.items[j], by simp⟩
      rw [drop_at ex, wgL, if_pos d.2] at hj2
      have k6 : j < 9223372036854775807 := by omega
      have hx := ih x (List.mem_of_getElem? ex)
      simp only [d1, getK_s (mapC_get valC ex), go_sem, ↓reduceIte, Nat.reduceEqDiff, Nat.reduceBEq, Nat.reduceAdd, Nat.reduceLeDiff, Nat.reduceLT, reduceCtorEq, Nat.reduceMul, Nat.reduceSub, Int.reduceEq, Int.reduceLT, Int.reduceLE, Int.reduceToNat]
      refine vcCall.f (hx _ _) ?_
      simp only [wr64s j k6, go_sem, ↓reduceIte, Nat.reduceEqDiff, Nat.reduceBEq, Nat.reduceAdd, Nat.reduceLeDiff, Nat.reduceLT, reduceCtorEq, Nat.reduceMul, Nat.reduceSub, Int.reduceEq, Int.reduceLT, Int.reduceLE, Int.reduceToNat]
      refine ⟨(j + 1, IntKind.i64.wrap (a + wgV lim x)), ⟨d1, hj2⟩, by dsimp only; omega, weakG_ok ?_ (SubG.cons ?_ ?_ ?_ (SubG.base hf ?_ ?_ ?_))⟩
      all_goals first | (simp only [go_sem, ↓reduceIte, Nat.reduceEqDiff, Nat.reduceBEq, Nat.reduceAdd, Nat.reduceLeDiff, Nat.reduceLT, reduceCtorEq, Nat.reduceMul, Nat.reduceSub, Int.reduceEq, Int.reduceLT, Int.reduceLE, Int.reduceToNat]; done) | (dsimp only; omega) | trace_state
    · have hab : a = R := by
        rw [← hj2, wgL_at]
        simp only [Bool.and_eq_false_iff, decide_eq_false_iff_not] at d
        omega
      subst hab
      simp only [go_sem, ↓reduceIte, Nat.reduceEqDiff, Nat.reduceBEq, Nat.reduceAdd, Nat.reduceLeDiff, Nat.reduceLT, reduceCtorEq, Nat.reduceMul, Nat.reduceSub, Int.reduceEq, Int.reduceLT, Int.reduceLE, Int.reduceToNat]
theorem weight_ok (lim : Int) (v : Val) : v.Fit → ∀ hp m, MeetsF Try.prog 30 hp m [vx v, .i .i64 lim] (.i .i64 (wgV lim v)) :=
  Val.ind (Q := fun v => v.Fit → ∀ hp m, MeetsF Try.prog 30 hp m [vx v, .i .i64 lim] (.i .i64 (wgV lim v))) (fun v ih hv => weight_of v lim hv fun x hx => ih x hx (hv.x hx)) v
theorem equal_of (v : Val) (hv : v.Fit) (ih : ∀ x ∈ v.items, ∀ hp m, MeetsF Try.prog 31 hp m [vx x, vx x] (.b true)) (hp : CH) (m : Nat) :
    MeetsF Try.prog 31 hp m [vx v, vx v] (.b true) := by
  have li := hv.i
  have lk := hv.l
  refine meetsF Try.func31 (by kernel_rfl) cc31 cr31 rfl fun hf => ?_; unfold ck31
  simp only [go_sem, ↓reduceIte, Nat.reduceEqDiff, Nat.reduceBEq, Nat.reduceAdd, Nat.reduceLeDiff, Nat.reduceLT, reduceCtorEq, Nat.reduceMul, Nat.reduceSub, Int.reduceEq, Int.reduceLT, Int.reduceLE, Int.reduceToNat]
  refine loopg (fun q : Nat => ⟨[(2, .bx m 0), (3, .bx (m + 1) 0), (5, .i .i64 q)], (m + 1, .bx [.i .i64 v.k, .i .i64 v.n, .s v.s, .ds (mapC valC v.items), .ds (stC v.keys)]) :: (m, .bx [.i .i64 v.k, .i .i64 v.n, .s v.s, .ds (mapC valC v.items), .ds (stC v.keys)]) :: hp, m + 2⟩)
    (fun q => q ≤ v.keys.length) (fun q => v.keys.length - q) 0 ?_ ?_ (fun j hj => ?_)
  · exact Nat.zero_le _
  · refine weak_ok ?_ (Sub.cons ?_ (Sub.cons ?_ (Sub.base hf ?_))) (Nat.le_refl _)
    all_goals first | (simp only [go_sem, ↓reduceIte, Nat.reduceEqDiff, Nat.reduceBEq, Nat.reduceAdd, Nat.reduceLeDiff, Nat.reduceLT, reduceCtorEq, Nat.reduceMul, Nat.reduceSub, Int.reduceEq, Int.reduceLT, Int.reduceLE, Int.reduceToNat]; done) | (dsimp only; omega) | trace_state
  simp only [go_sem, ↓reduceIte, Nat.reduceEqDiff, Nat.reduceBEq, Nat.reduceAdd, Nat.reduceLeDiff, Nat.reduceLT, reduceCtorEq, Nat.reduceMul, Nat.reduceSub, Int.reduceEq, Int.reduceLT, Int.reduceLE, Int.reduceToNat]
  refine cdK_of (fun d => ?_) (fun d => ?_)
  · have d1 : j < v.keys.length := by simpa using d
    obtain ⟨k, ek⟩ : ∃ k, v.keys[j]? = some k := ⟨v.keys[j], by simp⟩
    have k6 : j < 9223372036854775807 := by omega
    simp only [d1, getK_s (mapC_get st1 ek), wr64s j k6, go_sem, ↓reduceIte, Nat.reduceEqDiff, Nat.reduceBEq, Nat.reduceAdd, Nat.reduceLeDiff, Nat.reduceLT, reduceCtorEq, Nat.reduceMul, Nat.reduceSub, Int.reduceEq, Int.reduceLT, Int.reduceLE, Int.reduceToNat]
    refine ⟨j + 1, d1, by omega, weakG_ok ?_ (SubG.cons ?_ ?_ ?_ (SubG.cons ?_ ?_ ?_ (SubG.base hf ?_ ?_ ?_)))⟩
    all_goals first | (simp only [go_sem, ↓reduceIte, Nat.reduceEqDiff, Nat.reduceBEq, Nat.reduceAdd, Nat.reduceLeDiff, Nat.reduceLT, reduceCtorEq, Nat.reduceMul, Nat.reduceSub, Int.reduceEq, Int.reduceLT, Int.reduceLE, Int.reduceToNat]; done) | (dsimp only; omega) | trace_state
  · clear d
    simp only [go_sem, ↓reduceIte, Nat.reduceEqDiff, Nat.reduceBEq, Nat.reduceAdd, Nat.reduceLeDiff, Nat.reduceLT, reduceCtorEq, Nat.reduceMul, Nat.reduceSub, Int.reduceEq, Int.reduceLT, Int.reduceLE, Int.reduceToNat]
    refine loopg (fun q : Nat => ⟨[(2, .bx m 0), (3, .bx (m + 1) 0), (6, .i .i64 q)], (m + 1, .bx [.i .i64 v.k, .i .i64 v.n, .s v.s, .ds (mapC valC v.items), .ds (stC v.keys)]) :: (m, .bx [.i .i64 v.k, .i .i64 v.n, .s v.s, .ds (mapC valC v.items), .ds (stC v.keys)]) :: hp, m + 2⟩)
      (fun q => q ≤ v.items.length) (fun q => v.items.length - q) 0 ?_ ?_ (fun j hj => ?_)
    · exact Nat.zero_le _
    · refine weak_ok ?_ (Sub.cons ?_ (Sub.cons ?_ (Sub.base hf ?_))) (Nat.le_refl _)
      all_goals first | (simp only [go_sem, ↓reduceIte, Nat.reduceEqDiff, Nat.reduceBEq, Nat.reduceAdd, Nat.reduceLeDiff, Nat.reduceLT, reduceCtorEq, Nat.reduceMul, Nat.reduceSub, Int.reduceEq, Int.reduceLT, Int.reduceLE, Int.reduceToNat]; done) | (dsimp only; omega) | trace_state
    simp only [go_sem, ↓reduceIte, Nat.reduceEqDiff, Nat.reduceBEq, Nat.reduceAdd, Nat.reduceLeDiff, Nat.reduceLT, reduceCtorEq, Nat.reduceMul, Nat.reduceSub, Int.reduceEq, Int.reduceLT, Int.reduceLE, Int.reduceToNat]
    refine cdK_of (fun d => ?_) (fun d => ?_)
    · have d1 : j < v.items.length := by simpa using d
      obtain ⟨x, ex⟩ : ∃ x, v.items[j]? = some x := ⟨v.items[j], by simp⟩
      have k6 : j < 9223372036854775807 := by omega
      have hx := ih x (List.mem_of_getElem? ex)
      simp only [d1, getK_s (mapC_get valC ex), go_sem, ↓reduceIte, Nat.reduceEqDiff, Nat.reduceBEq, Nat.reduceAdd, Nat.reduceLeDiff, Nat.reduceLT, reduceCtorEq, Nat.reduceMul, Nat.reduceSub, Int.reduceEq, Int.reduceLT, Int.reduceLE, Int.reduceToNat]
      refine dCallR.f (fun _ hp' _ => hx hp' _) ?_
      simp only [wr64s j k6, go_sem, ↓reduceIte, Nat.reduceEqDiff, Nat.reduceBEq, Nat.reduceAdd, Nat.reduceLeDiff, Nat.reduceLT, reduceCtorEq, Nat.reduceMul, Nat.reduceSub, Int.reduceEq, Int.reduceLT, Int.reduceLE, Int.reduceToNat]
      refine ⟨j + 1, d1, by omega, weakG_ok ?_ (SubG.cons ?_ ?_ ?_ (SubG.cons ?_ ?_ ?_ (SubG.base hf ?_ ?_ ?_)))⟩
      all_goals first | (simp only [go_sem, ↓reduceIte, Nat.reduceEqDiff, Nat.reduceBEq, Nat.reduceAdd, Nat.reduceLeDiff, Nat.reduceLT, reduceCtorEq, Nat.reduceMul, Nat.reduceSub, Int.reduceEq, Int.reduceLT, Int.reduceLE, Int.reduceToNat]; done) | (dsimp only; omega) | trace_state
    · simp only [go_sem, ↓reduceIte, Nat.reduceEqDiff, Nat.reduceBEq, Nat.reduceAdd, Nat.reduceLeDiff, Nat.reduceLT, reduceCtorEq, Nat.reduceMul, Nat.reduceSub, Int.reduceEq, Int.reduceLT, Int.reduceLE, Int.reduceToNat]
theorem equal_ok (v : Val) : v.Fit → ∀ hp m, MeetsF Try.prog 31 hp m [vx v, vx v] (.b true) :=
  Val.ind (Q := fun v => v.Fit → ∀ hp m, MeetsF Try.prog 31 hp m [vx v, vx v] (.b true)) (fun v ih hv => equal_of v hv fun x hx => ih x hx (hv.x hx)) v
end Go.Proofs.Ytmcgjccheehehaa
