/-
  Patches in plain Lean; pairs of keys and items. Conditions: none.
-/
import Derived.Test.YtmcgjccheehehaaVaE
import Derived.Test.YtmcgjccheehehaaCcD
namespace Go.Proofs.Ytmcgjccheehehaa
open Go.Eng
set_option linter.unusedVariables false
set_option linter.unusedSimpArgs false
set_option maxRecDepth 20000
mutual
def prd : Val → Bool
  | .mk k _ _ i l => !(decide (k = 6) && !decide (l.length = i.length)) && prdL i
def prdL : List Val → Bool
  | [] => true
  | x :: r => prd x && prdL r
end
theorem prd_eq (v : Val) : prd v = (!(decide (v.k = 6) && !decide (v.keys.length = v.items.length)) && prdL v.items) := by cases v; rw [prd]; rfl
theorem prdL_all (l : List Val) : prdL l = true ↔ ∀ x ∈ l, prd x = true := by
  induction l with
  | nil => simp [prdL]
  | cons x r ih => rw [prdL]; simp [ih]
theorem paired_of (v : Val) (hv : v.Fit) (h : ∀ x ∈ v.items, ∀ hp m, MeetsF Try.prog 12 hp m [vx x] (.b (prd x))) (hp : CH) (m : Nat) : MeetsF Try.prog 12 hp m [vx v] (.b (prd v)) := by
  have h1 := hv.i
  have e0 := prd_eq v
  refine meetsF Try.func12 (by kernel_rfl) cc12 cr12 rfl fun hf => ?_; unfold ck12
  simp only [go_sem, ↓reduceIte, Nat.reduceEqDiff, Nat.reduceBEq, Nat.reduceAdd, Nat.reduceLeDiff, Nat.reduceLT, reduceCtorEq, Nat.reduceMul, Nat.reduceSub, Int.reduceEq, Int.reduceLT, Int.reduceLE, Int.reduceToNat]
  refine cdK_of (fun c => ?_) (fun c => ?_)
  · simp only [go_sem, ↓reduceIte, Nat.reduceEqDiff, Nat.reduceBEq, Nat.reduceAdd, Nat.reduceLeDiff, Nat.reduceLT, reduceCtorEq, Nat.reduceMul, Nat.reduceSub, Int.reduceEq, Int.reduceLT, Int.reduceLE, Int.reduceToNat]
    simp at c
    have c2 : ¬ v.keys.length = v.items.length := by have := c.2; omega
    rw [e0]
    simp [c.1, c2]
  have e1 : prd v = prdL v.items := by
    simp at c
    rw [e0]
    by_cases hk : v.k = 6
    · have c2 : v.keys.length = v.items.length := by have := c hk; omega
      simp [hk, c2]
    · simp [hk]
  simp only [go_sem, ↓reduceIte, Nat.reduceEqDiff, Nat.reduceBEq, Nat.reduceAdd, Nat.reduceLeDiff, Nat.reduceLT, reduceCtorEq, Nat.reduceMul, Nat.reduceSub, Int.reduceEq, Int.reduceLT, Int.reduceLE, Int.reduceToNat]
  refine loop (fun p : Nat × Nat => ⟨[(1, .bx m 0), (3, .i .i64 p.1)], (m, .bx [.i .i64 v.k, .i .i64 v.n, .s v.s, .ds (mapC valC v.items), .ds (stC v.keys)]) :: hp, p.2⟩)
    (fun p => p.1 ≤ v.items.length ∧ m + 1 ≤ p.2 ∧ prd v = prdL (v.items.drop p.1)) (fun p => v.items.length - p.1) (0, m + 1) ?_ ?_ (fun ⟨j, n⟩ hj => ?_)
  · exact ⟨by dsimp only; omega, by dsimp only; omega, e1⟩
  · refine weak_ok ?_ (Sub.refl _) (Nat.le_refl _)
    simp only [go_sem, ↓reduceIte, Nat.reduceEqDiff, Nat.reduceBEq, Nat.reduceAdd, Nat.reduceLeDiff, Nat.reduceLT, reduceCtorEq, Nat.reduceMul, Nat.reduceSub, Int.reduceEq, Int.reduceLT, Int.reduceLE, Int.reduceToNat]
  dsimp only at hj
  simp only [go_sem, ↓reduceIte, Nat.reduceEqDiff, Nat.reduceBEq, Nat.reduceAdd, Nat.reduceLeDiff, Nat.reduceLT, reduceCtorEq, Nat.reduceMul, Nat.reduceSub, Int.reduceEq, Int.reduceLT, Int.reduceLE, Int.reduceToNat]
  refine cdK_of (fun d => ?_) (fun d => ?_)
  · have d : j < v.items.length := by simpa using d
    obtain ⟨x, ex⟩ : ∃ x, v.items[j]? = some x := ⟨v.items[j], by simp [d]⟩
    have hx := h x (List.mem_of_getElem? ex)
    have e := drop_at ex
    rw [e, prdL] at hj
    simp only [d, getK_s (mapC_get valC ex), go_sem, ↓reduceIte, Nat.reduceEqDiff, Nat.reduceBEq, Nat.reduceAdd, Nat.reduceLeDiff, Nat.reduceLT, reduceCtorEq, Nat.reduceMul, Nat.reduceSub, Int.reduceEq, Int.reduceLT, Int.reduceLE, Int.reduceToNat]
    refine vcCall.f (hx _ _) ?_
    simp only [go_sem, ↓reduceIte, Nat.reduceEqDiff, Nat.reduceBEq, Nat.reduceAdd, Nat.reduceLeDiff, Nat.reduceLT, reduceCtorEq, Nat.reduceMul, Nat.reduceSub, Int.reduceEq, Int.reduceLT, Int.reduceLE, Int.reduceToNat]
    refine cdK_of (fun d1 => ?_) (fun d1 => ?_)
    · simp only [go_sem, ↓reduceIte, Nat.reduceEqDiff, Nat.reduceBEq, Nat.reduceAdd, Nat.reduceLeDiff, Nat.reduceLT, reduceCtorEq, Nat.reduceMul, Nat.reduceSub, Int.reduceEq, Int.reduceLT, Int.reduceLE, Int.reduceToNat]
      rw [hj.2.2]
      simp at d1
      simp [d1]
    · have d1 : prd x = true := by simpa using d1
      simp only [go_sem, ↓reduceIte, Nat.reduceEqDiff, Nat.reduceBEq, Nat.reduceAdd, Nat.reduceLeDiff, Nat.reduceLT, reduceCtorEq, Nat.reduceMul, Nat.reduceSub, Int.reduceEq, Int.reduceLT, Int.reduceLE, Int.reduceToNat]
      refine ⟨(j + 1, n), ⟨by dsimp only; omega, by dsimp only; omega, by rw [hj.2.2, d1]; rfl⟩, by dsimp only; omega, weak_ok ?_ (Sub.refl _) (Nat.le_refl _)⟩
      simp only [wr64s j (by omega), go_sem, ↓reduceIte, Nat.reduceEqDiff, Nat.reduceBEq, Nat.reduceAdd, Nat.reduceLeDiff, Nat.reduceLT, reduceCtorEq, Nat.reduceMul, Nat.reduceSub, Int.reduceEq, Int.reduceLT, Int.reduceLE, Int.reduceToNat]
  · have d : j = v.items.length := by simp at d; omega
    subst d
    rw [List.drop_length, prdL] at hj
    simp only [go_sem, ↓reduceIte, Nat.reduceEqDiff, Nat.reduceBEq, Nat.reduceAdd, Nat.reduceLeDiff, Nat.reduceLT, reduceCtorEq, Nat.reduceMul, Nat.reduceSub, Int.reduceEq, Int.reduceLT, Int.reduceLE, Int.reduceToNat]
    rw [hj.2.2]
theorem paired_ok (v : Val) (hv : v.Fit) (hp : CH) (m : Nat) : MeetsF Try.prog 12 hp m [vx v] (.b (prd v)) := by
  have := Val.ind (Q := fun v => v.Fit → ∀ hp m, MeetsF Try.prog 12 hp m [vx v] (.b (prd v))) (fun v ih hv hp m => paired_of v hv (fun x hx => ih x hx (hv.x hx)) hp m) v
  exact this hv hp m
/-- The fields of another object behind those of an object. -/
def adL : List ByteArray → List Val → List ByteArray → List Val → Option (List ByteArray × List Val)
  | k :: l, x :: r, ks, is => if 0 ≤ ix k ks 0 then none else adL l r (ks ++ [k]) (is ++ [x])
  | [], _, ks, is => some (ks, is)
  | _ :: _, [], ks, is => some (ks, is)
def adR (v : Val) (o : Option (List ByteArray × List Val)) : Val × Int :=
  match o with
  | some (ks, is) => (.mk v.k v.n v.s is ks, 0)
  | none => (zVal, 7)
def addV (v d : Val) : Val × Int := if v.k = 6 ∧ d.k = 6 then adR v (adL d.keys d.items v.keys v.items) else if d.k = 0 then (v, 0) else (zVal, 8)
/-- The place to which a step leads, or -1. -/
def stp (v s : Val) : Int :=
  if s.k = 3 ∧ v.k = 6 then (if ix s.s v.keys 0 < v.items.length then ix s.s v.keys 0 else -1)
  else if s.k = 2 ∧ v.k = 5 ∧ 0 ≤ s.n ∧ s.n < v.items.length then s.n else -1
def apV (d : Val) : List Val → Val → Val × Int
  | [], v => addV v d
  | s :: p, v => if p.length = 0 ∧ s.k = 2 ∧ v.k = 5 ∧ s.n = v.items.length then (.mk v.k v.n v.s (v.items ++ [d]) v.keys, 0)
    else if stp v s < 0 then (zVal, 8)
    else match v.items[(stp v s).toNat]? with
      | none => (zVal, 8)
      | some x => if (apV d p x).2 = 0 then (.mk v.k v.n v.s (v.items.set (stp v s).toNat (apV d p x).1) v.keys, 0) else (zVal, (apV d p x).2)
def resE (x : Val × Int) : AV := .tp [vx x.1, .i .i64 x.2]
attribute [go_sem] resE
theorem index1_ok (v s : Val) (hv : v.Fit) (hp : CH) (m : Nat) : MeetsF Try.prog 77 hp m [vx v, vx s] (.i .i64 (stp v s)) := by
  have h1 := hv.l
  have h2 := ix_lt s.s v.keys 0
  refine meetsF Try.func77 (by kernel_rfl) cc77 cr77 rfl fun hf => ?_; unfold ck77
  simp only [go_sem, ↓reduceIte, Nat.reduceEqDiff, Nat.reduceBEq, Nat.reduceAdd, Nat.reduceLeDiff, Nat.reduceLT, reduceCtorEq, Nat.reduceMul, Nat.reduceSub, Int.reduceEq, Int.reduceLT, Int.reduceLE, Int.reduceToNat]
  refine cdK_of (fun c => ?_) (fun c => ?_)
  · have c : s.k = 3 ∧ v.k = 6 := by simpa using c
    simp only [go_sem, ↓reduceIte, Nat.reduceEqDiff, Nat.reduceBEq, Nat.reduceAdd, Nat.reduceLeDiff, Nat.reduceLT, reduceCtorEq, Nat.reduceMul, Nat.reduceSub, Int.reduceEq, Int.reduceLT, Int.reduceLE, Int.reduceToNat]
    refine vcCall.f (index_ok v.keys s.s (by omega) _ _) ?_
    simp only [go_sem, ↓reduceIte, Nat.reduceEqDiff, Nat.reduceBEq, Nat.reduceAdd, Nat.reduceLeDiff, Nat.reduceLT, reduceCtorEq, Nat.reduceMul, Nat.reduceSub, Int.reduceEq, Int.reduceLT, Int.reduceLE, Int.reduceToNat]
    refine cdK_of (fun c2 => ?_) (fun c2 => ?_)
    · have c2 : ix s.s v.keys 0 < v.items.length := by simpa using c2
      simp only [go_sem, ↓reduceIte, Nat.reduceEqDiff, Nat.reduceBEq, Nat.reduceAdd, Nat.reduceLeDiff, Nat.reduceLT, reduceCtorEq, Nat.reduceMul, Nat.reduceSub, Int.reduceEq, Int.reduceLT, Int.reduceLE, Int.reduceToNat]
      rw [stp, if_pos c, if_pos c2]
    · have c2 : ¬ ix s.s v.keys 0 < v.items.length := by simpa using c2
      simp only [go_sem, ↓reduceIte, Nat.reduceEqDiff, Nat.reduceBEq, Nat.reduceAdd, Nat.reduceLeDiff, Nat.reduceLT, reduceCtorEq, Nat.reduceMul, Nat.reduceSub, Int.reduceEq, Int.reduceLT, Int.reduceLE, Int.reduceToNat]
      rw [stp, if_pos c, if_neg c2]
  · have c : ¬ (s.k = 3 ∧ v.k = 6) := by simpa using c
    simp only [go_sem, ↓reduceIte, Nat.reduceEqDiff, Nat.reduceBEq, Nat.reduceAdd, Nat.reduceLeDiff, Nat.reduceLT, reduceCtorEq, Nat.reduceMul, Nat.reduceSub, Int.reduceEq, Int.reduceLT, Int.reduceLE, Int.reduceToNat]
    refine cdK_of (fun c2 => ?_) (fun c2 => ?_)
    · have c2 : s.k = 2 ∧ v.k = 5 ∧ 0 ≤ s.n ∧ s.n < v.items.length := by simpa [and_assoc] using c2
      simp only [go_sem, ↓reduceIte, Nat.reduceEqDiff, Nat.reduceBEq, Nat.reduceAdd, Nat.reduceLeDiff, Nat.reduceLT, reduceCtorEq, Nat.reduceMul, Nat.reduceSub, Int.reduceEq, Int.reduceLT, Int.reduceLE, Int.reduceToNat]
      rw [stp, if_neg c, if_pos c2]
    · have c2 : ¬ (s.k = 2 ∧ v.k = 5 ∧ 0 ≤ s.n ∧ s.n < v.items.length) := by simpa [and_assoc] using c2
      simp only [go_sem, ↓reduceIte, Nat.reduceEqDiff, Nat.reduceBEq, Nat.reduceAdd, Nat.reduceLeDiff, Nat.reduceLT, reduceCtorEq, Nat.reduceMul, Nat.reduceSub, Int.reduceEq, Int.reduceLT, Int.reduceLE, Int.reduceToNat]
      rw [stp, if_neg c, if_neg c2]
theorem index2_ok (v : Val) (k : ByteArray) (hv : v.Fit) (hp : CH) (m : Nat) : MeetsF Try.prog 80 hp m [vx v, .s k] (.i .i64 (if ix k v.keys 0 < v.items.length then ix k v.keys 0 else -1)) := by
  have h1 := hv.l
  refine meetsF Try.func80 (by kernel_rfl) cc80 cr80 rfl fun hf => ?_; unfold ck80
  simp only [go_sem, ↓reduceIte, Nat.reduceEqDiff, Nat.reduceBEq, Nat.reduceAdd, Nat.reduceLeDiff, Nat.reduceLT, reduceCtorEq, Nat.reduceMul, Nat.reduceSub, Int.reduceEq, Int.reduceLT, Int.reduceLE, Int.reduceToNat]
  refine loop (fun p : Nat × Nat => ⟨[(1, .s k), (2, .bx m 0), (5, .i .i64 p.1)], (m, .bx [.i .i64 v.k, .i .i64 v.n, .s v.s, .ds (mapC valC v.items), .ds (stC v.keys)]) :: hp, p.2⟩)
    (fun p => p.1 ≤ v.keys.length ∧ p.1 ≤ v.items.length ∧ m + 1 ≤ p.2 ∧ ix k v.keys 0 = ix k (v.keys.drop p.1) p.1) (fun p => v.keys.length - p.1) (0, m + 1) ?_ ?_ (fun ⟨j, n⟩ hj => ?_)
  · grind
  · refine weak_ok ?_ (Sub.refl _) (Nat.le_refl _)
    simp only [go_sem, ↓reduceIte, Nat.reduceEqDiff, Nat.reduceBEq, Nat.reduceAdd, Nat.reduceLeDiff, Nat.reduceLT, reduceCtorEq, Nat.reduceMul, Nat.reduceSub, Int.reduceEq, Int.reduceLT, Int.reduceLE, Int.reduceToNat]
  dsimp only at hj
  simp only [go_sem, ↓reduceIte, Nat.reduceEqDiff, Nat.reduceBEq, Nat.reduceAdd, Nat.reduceLeDiff, Nat.reduceLT, reduceCtorEq, Nat.reduceMul, Nat.reduceSub, Int.reduceEq, Int.reduceLT, Int.reduceLE, Int.reduceToNat]
  refine cdK_of (fun d => ?_) (fun d => ?_)
  · simp at d
    obtain ⟨d, d0⟩ := d
    obtain ⟨y, ey⟩ : ∃ y, v.keys[j]? = some y := ⟨v.keys[j], by simp [d]⟩
    have e := drop_at ey
    rw [e, ix] at hj
    simp only [d, getK_s (mapC_get st1 ey), go_sem, ↓reduceIte, Nat.reduceEqDiff, Nat.reduceBEq, Nat.reduceAdd, Nat.reduceLeDiff, Nat.reduceLT, reduceCtorEq, Nat.reduceMul, Nat.reduceSub, Int.reduceEq, Int.reduceLT, Int.reduceLE, Int.reduceToNat]
    refine cdK_of (fun d1 => ?_) (fun d1 => ?_)
    · have d1 : k = y := by simp at d1; exact d1.symm
      rw [if_pos d1] at hj
      simp only [go_sem, ↓reduceIte, Nat.reduceEqDiff, Nat.reduceBEq, Nat.reduceAdd, Nat.reduceLeDiff, Nat.reduceLT, reduceCtorEq, Nat.reduceMul, Nat.reduceSub, Int.reduceEq, Int.reduceLT, Int.reduceLE, Int.reduceToNat]
      rw [hj.2.2.2, if_pos (by omega)]
    · have d1 : ¬ k = y := by simp at d1; exact fun e => d1 e.symm
      rw [if_neg d1] at hj
      simp only [go_sem, ↓reduceIte, Nat.reduceEqDiff, Nat.reduceBEq, Nat.reduceAdd, Nat.reduceLeDiff, Nat.reduceLT, reduceCtorEq, Nat.reduceMul, Nat.reduceSub, Int.reduceEq, Int.reduceLT, Int.reduceLE, Int.reduceToNat]
      refine ⟨(j + 1, n), by dsimp only; omega, by dsimp only; omega, weak_ok ?_ (Sub.refl _) (Nat.le_refl _)⟩
      simp only [wr64s j (by omega), go_sem, ↓reduceIte, Nat.reduceEqDiff, Nat.reduceBEq, Nat.reduceAdd, Nat.reduceLeDiff, Nat.reduceLT, reduceCtorEq, Nat.reduceMul, Nat.reduceSub, Int.reduceEq, Int.reduceLT, Int.reduceLE, Int.reduceToNat]
  · simp at d
    have e : ¬ (0 ≤ ix k v.keys 0 ∧ ix k v.keys 0 < v.items.length) := by
      rcases Nat.lt_or_ge j v.keys.length with q | q
      · have := d q
        have := ix_lt k (v.keys.drop j) j
        omega
      · rw [hj.2.2.2, List.drop_eq_nil_of_le q, ix]
        omega
    have h2 := ix_lt k v.keys 0
    have e2 : (if ix k v.keys 0 < v.items.length then ix k v.keys 0 else -1) = -1 := by split <;> omega
    rw [e2]
    simp only [go_sem, ↓reduceIte, Nat.reduceEqDiff, Nat.reduceBEq, Nat.reduceAdd, Nat.reduceLeDiff, Nat.reduceLT, reduceCtorEq, Nat.reduceMul, Nat.reduceSub, Int.reduceEq, Int.reduceLT, Int.reduceLE, Int.reduceToNat]
end Go.Proofs.Ytmcgjccheehehaa
