/-
  The parts SaT SaV SbA of the proof, in one file. Conditions: none.
-/
import Derived.Test.YtmcgjccheehehaaQke44
namespace Go.Proofs.Ytmcgjccheehehaa
open Go.Eng
set_option linter.unusedVariables false
set_option linter.unusedSimpArgs false
set_option maxRecDepth 20000
set_option maxHeartbeats 1000000
noncomputable def mergeV (f : Fet) (v : Val) (r : List Val) : Val := (chg (mgSt f) f.p v r).1
theorem merge_ok (f : Fet) (v : Val) (r : List Val) (h : FetOk f v) (hpk : wtKs f.pk ≤ 100000000) (hr : ∀ x ∈ r, wtV x ≤ 100000000000) (hp : CH) (m : Nat) :
    MeetsF Try.prog 32 hp m [fx f, vx v, .ds (mapC valC r)] (vx (mergeV f v r)) := by
  have h1 := fun hp' m' hk => change_ok (mgA_ok f m (m + 2) (by omega) hpk h.k h.s) v h.fit h.w f.p r h.p hr hp' m' hk
  unfold mergeV
  rw [show (mgA f m (m + 2)).st = mgSt f from rfl] at h1
  obtain ⟨R, hR⟩ : ∃ R, chg (mgSt f) f.p v r = R := ⟨_, rfl⟩
  rw [hR] at h1 ⊢
  refine meetsF Try.func32 (by kernel_rfl) cc32 cr32 rfl fun hf => ?_; unfold ck32
  simp only [go_sem, ↓reduceIte, Nat.reduceEqDiff, Nat.reduceBEq, Nat.reduceAdd, Nat.reduceLeDiff, Nat.reduceLT, reduceCtorEq, Nat.reduceMul, Nat.reduceSub, Int.reduceEq, Int.reduceLT, Int.reduceLE, Int.reduceToNat]
  refine vcCall.x (h1 _ _ fun k hk => ?_) ?_
  · simp only [mgA, List.mem_cons, List.not_mem_nil, or_false] at hk ⊢
    rcases hk with rfl | rfl
    · refine ⟨by omega, ?_⟩
      simp only [gc_cons]
      simp
    · refine ⟨by omega, ?_⟩
      simp only [gc_cons]
      simp
  simp only [mgA, List.cons_append, List.nil_append]
  simp only [go_sem, ↓reduceIte, Nat.reduceEqDiff, Nat.reduceBEq, Nat.reduceAdd, Nat.reduceLeDiff, Nat.reduceLT, reduceCtorEq, Nat.reduceMul, Nat.reduceSub, Int.reduceEq, Int.reduceLT, Int.reduceLE, Int.reduceToNat]
end Go.Proofs.Ytmcgjccheehehaa
namespace Go.Proofs.Ytmcgjccheehehaa
open Go.Eng
set_option linter.unusedVariables false
set_option linter.unusedSimpArgs false
set_option maxRecDepth 20000
set_option maxHeartbeats 4000000
theorem ix_first (k : ByteArray) : ∀ (l : List ByteArray) (j i : Nat), l[i]? = some k → 0 ≤ ix k l j ∧ ix k l j ≤ (j + i : Nat)
  | [], j, i, h => by simp at h
  | x :: r, j, 0, h => by
    simp at h
    unfold ix
    rw [if_pos h.symm]
    omega
  | x :: r, j, i + 1, h => by
    have := ix_first k r (j + 1) i (by simpa using h)
    unfold ix
    split <;> omega
theorem ix_at (k : ByteArray) : ∀ (l : List ByteArray) (j : Nat), 0 ≤ ix k l j → l[(ix k l j - j).toNat]? = some k
  | [], j, h => by simp [ix] at h
  | x :: r, j, h => by
    unfold ix at h ⊢
    split
    · rename_i q
      rw [Int.sub_self, q]
      rfl
    · rename_i q
      rw [if_neg q] at h
      have h1 := ix_at k r (j + 1) h
      have h2 := ix_lt k r (j + 1)
      obtain ⟨z, hz⟩ : ∃ z : Nat, ix k r (j + 1) = (j + 1 + z : Nat) := ⟨(ix k r (j + 1) - (j + 1 : Nat)).toNat, by omega⟩
      rw [hz] at h1 ⊢
      rw [show (((j + 1 + z : Nat) : Int) - ((j + 1 : Nat) : Int)).toNat = z by omega] at h1
      rw [show (((j + 1 + z : Nat) : Int) - (j : Int)).toNat = z + 1 by omega, List.getElem?_cons_succ, h1]
end Go.Proofs.Ytmcgjccheehehaa
namespace Go.Proofs.Ytmcgjccheehehaa
open Go.Eng
set_option linter.unusedVariables false
set_option linter.unusedSimpArgs false
set_option maxRecDepth 20000
set_option maxHeartbeats 1000000
def wgK (lim : Int) : List ByteArray → Int → Int
  | [], a => a
  | k :: r, a => if a ≤ lim then wgK lim r (IntKind.i64.wrap (IntKind.i64.wrap (a + 1) + k.size)) else a
mutual
def wgV (lim : Int) : Val → Int
  | .mk _ _ s i l => wgL lim i (wgK lim l (IntKind.i64.wrap (1 + s.size)))
def wgL (lim : Int) : List Val → Int → Int
  | [], a => a
  | v :: r, a => if a ≤ lim then wgL lim r (IntKind.i64.wrap (a + wgV lim v)) else a
end
theorem wgV_eq (lim : Int) (v : Val) : wgV lim v = wgL lim v.items (wgK lim v.keys (IntKind.i64.wrap (1 + v.s.size))) := by cases v; rw [wgV]; rfl
theorem wgK_at {lim : Int} {l : List ByteArray} {j : Nat} {a : Int} (h : l.length ≤ j ∨ ¬ a ≤ lim) : wgK lim (l.drop j) a = a := by
  cases e : l.drop j with
  | nil => rw [wgK]
  | cons k r =>
    rw [wgK, if_neg]
    rcases h with h | h
    · rw [List.drop_eq_nil_of_le h] at e; cases e
    · exact h
theorem wgL_at {lim : Int} {l : List Val} {j : Nat} {a : Int} (h : l.length ≤ j ∨ ¬ a ≤ lim) : wgL lim (l.drop j) a = a := by
  cases e : l.drop j with
  | nil => rw [wgL]
  | cons k r =>
    rw [wgL, if_neg]
    rcases h with h | h
    · rw [List.drop_eq_nil_of_le h] at e; cases e
    · exact h
theorem weight_of (v : Val) (lim : Int) (hv : v.Fit) (ih : ∀ x ∈ v.items, ∀ hp m, MeetsF Try.prog 30 hp m [vx x, .i .i64 lim] (.i .i64 (wgV lim x))) (hp : CH) (m : Nat) :
    MeetsF Try.prog 30 hp m [vx v, .i .i64 lim] (.i .i64 (wgV lim v)) := by
  have li := hv.i
  have lk := hv.l
  have e := wgV_eq lim v
  obtain ⟨R, hR⟩ : ∃ R, wgV lim v = R := ⟨_, rfl⟩
  obtain ⟨A, hA⟩ : ∃ A, IntKind.i64.wrap (1 + v.s.size) = A := ⟨_, rfl⟩
  obtain ⟨B, hB⟩ : ∃ B, wgK lim v.keys A = B := ⟨_, rfl⟩
  rw [hR, hA, hB] at e
  rw [hR]
  refine meetsF Try.func30 (by kernel_rfl) cc30 cr30 rfl fun hf => ?_; unfold ck30
  simp only [hA, go_sem, ↓reduceIte, Nat.reduceEqDiff, Nat.reduceBEq, Nat.reduceAdd, Nat.reduceLeDiff, Nat.reduceLT, reduceCtorEq, Nat.reduceMul, Nat.reduceSub, Int.reduceEq, Int.reduceLT, Int.reduceLE, Int.reduceToNat]
  refine loopg (fun q : Nat × Int => ⟨[(1, .i .i64 lim), (2, .bx m 0), (5, .i .i64 q.2), (6, .i .i64 q.1)], (m, .bx [.i .i64 v.k, .i .i64 v.n, .s v.s, .ds (mapC valC v.items), .ds (stC v.keys)]) :: hp, m + 1⟩)
    (fun q => q.1 ≤ v.keys.length ∧ wgK lim (v.keys.drop q.1) q.2 = B) (fun q => v.keys.length - q.1) (0, A) ?_ ?_ (fun ⟨j, a⟩ hj => ?_)
  · exact ⟨Nat.zero_le _, hB⟩
  · refine weak_ok ?_ (Sub.cons ?_ (Sub.base hf ?_)) (Nat.le_refl _)
    all_goals first | (simp only [go_sem, ↓reduceIte, Nat.reduceEqDiff, Nat.reduceBEq, Nat.reduceAdd, Nat.reduceLeDiff, Nat.reduceLT, reduceCtorEq, Nat.reduceMul, Nat.reduceSub, Int.reduceEq, Int.reduceLT, Int.reduceLE, Int.reduceToNat]; done) | trace_state
  dsimp only at hj
  obtain ⟨hj1, hj2⟩ := hj
  simp only [go_sem, ↓reduceIte, Nat.reduceEqDiff, Nat.reduceBEq, Nat.reduceAdd, Nat.reduceLeDiff, Nat.reduceLT, reduceCtorEq, Nat.reduceMul, Nat.reduceSub, Int.reduceEq, Int.reduceLT, Int.reduceLE, Int.reduceToNat]
  refine cdK_of (fun d => ?_) (fun d => ?_)
  · simp only [Bool.and_eq_true, decide_eq_true_eq] at d
    have d1 : j < v.keys.length := by omega
    obtain ⟨k, ek⟩ : ∃ k, v.keys[j]? = some k := ⟨v.keys[j], by simp⟩
    rw [drop_at ek, wgK, if_pos d.2] at hj2
    have k6 : j < 9223372036854775807 := by omega
    simp only [d1, getK_s (mapC_get st1 ek), wr64s j k6, go_sem, ↓reduceIte, Nat.reduceEqDiff, Nat.reduceBEq, Nat.reduceAdd, Nat.reduceLeDiff, Nat.reduceLT, reduceCtorEq, Nat.reduceMul, Nat.reduceSub, Int.reduceEq, Int.reduceLT, Int.reduceLE, Int.reduceToNat]
    refine ⟨(j + 1, IntKind.i64.wrap (IntKind.i64.wrap (a + 1) + k.size)), ⟨d1, hj2⟩, by dsimp only; omega, weakG_ok ?_ (SubG.cons ?_ ?_ ?_ (SubG.base hf ?_ ?_ ?_))⟩
    all_goals first | (simp only [go_sem, ↓reduceIte, Nat.reduceEqDiff, Nat.reduceBEq, Nat.reduceAdd, Nat.reduceLeDiff, Nat.reduceLT, reduceCtorEq, Nat.reduceMul, Nat.reduceSub, Int.reduceEq, Int.reduceLT, Int.reduceLE, Int.reduceToNat]; done) | (dsimp only; omega) | trace_state
  · have hab : a = B := by
      rw [← hj2, wgK_at]
      simp only [Bool.and_eq_false_iff, decide_eq_false_iff_not] at d
      omega
    subst hab
    clear hj2 hj1 d
    simp only [go_sem, ↓reduceIte, Nat.reduceEqDiff, Nat.reduceBEq, Nat.reduceAdd, Nat.reduceLeDiff, Nat.reduceLT, reduceCtorEq, Nat.reduceMul, Nat.reduceSub, Int.reduceEq, Int.reduceLT, Int.reduceLE, Int.reduceToNat]
    refine loopg (fun q : Nat × Int => ⟨[(1, .i .i64 lim), (2, .bx m 0), (5, .i .i64 q.2), (7, .i .i64 q.1)], (m, .bx [.i .i64 v.k, .i .i64 v.n, .s v.s, .ds (mapC valC v.items), .ds (stC v.keys)]) :: hp, m + 1⟩)
      (fun q => q.1 ≤ v.items.length ∧ wgL lim (v.items.drop q.1) q.2 = R) (fun q => v.items.length - q.1) (0, a) ?_ ?_ (fun ⟨j, a⟩ hj => ?_)
    · exact ⟨Nat.zero_le _, e.symm⟩
    · refine weak_ok ?_ (Sub.cons ?_ (Sub.base hf ?_)) (Nat.le_refl _)
      all_goals first | (simp only [go_sem, ↓reduceIte, Nat.reduceEqDiff, Nat.reduceBEq, Nat.reduceAdd, Nat.reduceLeDiff, Nat.reduceLT, reduceCtorEq, Nat.reduceMul, Nat.reduceSub, Int.reduceEq, Int.reduceLT, Int.reduceLE, Int.reduceToNat]; done) | (dsimp only; omega) | trace_state
    dsimp only at hj
    obtain ⟨hj1, hj2⟩ := hj
    simp only [go_sem, ↓reduceIte, Nat.reduceEqDiff, Nat.reduceBEq, Nat.reduceAdd, Nat.reduceLeDiff, Nat.reduceLT, reduceCtorEq, Nat.reduceMul, Nat.reduceSub, Int.reduceEq, Int.reduceLT, Int.reduceLE, Int.reduceToNat]
    refine cdK_of (fun d => ?_) (fun d => ?_)
    · simp only [Bool.and_eq_true, decide_eq_true_eq] at d
      have d1 : j < v.items.length := by omega
      obtain ⟨x, ex⟩ : ∃ x, v.items[j]? = some x := ⟨v.items[j], by simp⟩
      rw [drop_at ex, wgL, if_pos d.2] at hj2
      have k6 : j < 9223372036854775807 := by omega
      have hx := ih x (List.mem_of_getElem? ex)
      simp only [d1, getK_s (mapC_get valC ex), go_sem, ↓reduceIte, Nat.reduceEqDiff, Nat.reduceBEq, Nat.reduceAdd, Nat.reduceLeDiff, Nat.reduceLT, reduceCtorEq, Nat.reduceMul, Nat.reduceSub, Int.reduceEq, Int.reduceLT, Int.reduceLE, Int.reduceToNat]
      refine vcCall.f (hx _ _) ?_
      simp only [wr64s j k6, go_sem, ↓reduceIte, Nat.reduceEqDiff, Nat.reduceBEq, Nat.reduceAdd, Nat.reduceLeDiff, Nat.reduceLT, reduceCtorEq, Nat.reduceMul, Nat.reduceSub, Int.reduceEq, Int.reduceLT, Int.reduceLE, Int.reduceToNat]
      refine ⟨(j + 1, IntKind.i64.wrap (a + wgV lim x)), ⟨d1, hj2⟩, by dsimp only; omega, weakG_ok ?_ (SubG.cons ?_ ?_ ?_ (SubG.base hf ?_ ?_ ?_))⟩
      all_goals first | (simp only [go_sem, ↓reduceIte, Nat.reduceEqDiff, Nat.reduceBEq, Nat.reduceAdd, Nat.reduceLeDiff, Nat.reduceLT, reduceCtorEq, Nat.reduceMul, Nat.reduceSub, Int.reduceEq, Int.reduceLT, Int.reduceLE, Int.reduceToNat]; done) | (dsimp only; omega) | trace_state
    · have hab : a = R := by
        rw [← hj2, wgL_at]
        simp only [Bool.and_eq_false_iff, decide_eq_false_iff_not] at d
        omega
      subst hab
      simp only [go_sem, ↓reduceIte, Nat.reduceEqDiff, Nat.reduceBEq, Nat.reduceAdd, Nat.reduceLeDiff, Nat.reduceLT, reduceCtorEq, Nat.reduceMul, Nat.reduceSub, Int.reduceEq, Int.reduceLT, Int.reduceLE, Int.reduceToNat]
theorem weight_ok (lim : Int) (v : Val) : v.Fit → ∀ hp m, MeetsF Try.prog 30 hp m [vx v, .i .i64 lim] (.i .i64 (wgV lim v)) :=
  Val.ind (Q := fun v => v.Fit → ∀ hp m, MeetsF Try.prog 30 hp m [vx v, .i .i64 lim] (.i .i64 (wgV lim v))) (fun v ih hv => weight_of v lim hv fun x hx => ih x hx (hv.x hx)) v
end Go.Proofs.Ytmcgjccheehehaa
