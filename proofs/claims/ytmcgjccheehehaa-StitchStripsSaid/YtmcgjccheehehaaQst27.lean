/-
  The parts VaG of the proof, in one file. Conditions: none.
-/
import Derived.Test.YtmcgjccheehehaaQst26
namespace Go.Proofs.Ytmcgjccheehehaa
open Go.Eng
set_option linter.unusedVariables false
set_option linter.unusedSimpArgs false
set_option maxRecDepth 20000
/-- An object's item. -/
noncomputable def getV (v : Val) (k : ByteArray) : Option Val := if v.k = 6 then (if 0 ≤ ix k v.keys 0 then v.items[(ix k v.keys 0).toNat]? else none) else none
noncomputable def resV (o : Option Val) : AV := .tp [vx (o.getD zVal), .b o.isSome]
attribute [go_sem] resV zVal Option.getD_none Option.getD_some Option.isSome_none Option.isSome_some
theorem get_ok (v : Val) (hv : v.Fit) (k : ByteArray) (hp : CH) (m : Nat) : MeetsF Try.prog 70 hp m [vx v, .s k] (resV (getV v k)) := by
  refine meetsF Try.func70 (by kernel_rfl) cc70 cr70 rfl fun hf => ?_; unfold ck70
  have h1 := hv.l
  have h2 := ix_lt k v.keys 0
  simp only [go_sem, ↓reduceIte, Nat.reduceEqDiff, Nat.reduceBEq, Nat.reduceAdd, Nat.reduceLeDiff, Nat.reduceLT, reduceCtorEq, Nat.reduceMul, Nat.reduceSub, Int.reduceEq, Int.reduceLT, Int.reduceLE, Int.reduceToNat]
  refine vcCall.f (index_ok v.keys k (by omega) _ _) ?_
  simp only [go_sem, ↓reduceIte, Nat.reduceEqDiff, Nat.reduceBEq, Nat.reduceAdd, Nat.reduceLeDiff, Nat.reduceLT, reduceCtorEq, Nat.reduceMul, Nat.reduceSub, Int.reduceEq, Int.reduceLT, Int.reduceLE, Int.reduceToNat]
  refine cdK_of (fun c => ?_) (fun c => ?_)
  · have e : getV v k = none := by
      unfold getV
      simp at c
      grind
    rw [e]
    simp only [go_sem, ↓reduceIte, Nat.reduceEqDiff, Nat.reduceBEq, Nat.reduceAdd, Nat.reduceLeDiff, Nat.reduceLT, reduceCtorEq, Nat.reduceMul, Nat.reduceSub, Int.reduceEq, Int.reduceLT, Int.reduceLE, Int.reduceToNat]
  · simp at c
    obtain ⟨x, ex⟩ : ∃ x, v.items[(ix k v.keys 0).toNat]? = some x := ⟨v.items[(ix k v.keys 0).toNat], List.getElem?_eq_getElem (by omega)⟩
    have e : getV v k = some x := by unfold getV; rw [if_pos c.1.1, if_pos c.1.2, ex]
    have hx := hv.x (List.mem_of_getElem? ex)
    have c3 : (ix k v.keys 0).toNat < v.items.length := by omega
    rw [e]
    simp only [c3, c.1.2, getK_s (mapC_get valC ex), go_sem, ↓reduceIte, Nat.reduceEqDiff, Nat.reduceBEq, Nat.reduceAdd, Nat.reduceLeDiff, Nat.reduceLT, reduceCtorEq, Nat.reduceMul, Nat.reduceSub, Int.reduceEq, Int.reduceLT, Int.reduceLE, Int.reduceToNat]
    refine vcCall.f (copy_ok x hx _ _) ?_
    simp only [go_sem, ↓reduceIte, Nat.reduceEqDiff, Nat.reduceBEq, Nat.reduceAdd, Nat.reduceLeDiff, Nat.reduceLT, reduceCtorEq, Nat.reduceMul, Nat.reduceSub, Int.reduceEq, Int.reduceLT, Int.reduceLE, Int.reduceToNat]
theorem getV_none {v : Val} {k : ByteArray} (h : v.k ≠ 6) : getV v k = none := by unfold getV; rw [if_neg h]
theorem rget_ok (v : Val) (hv : v.Fit) (k : ByteArray) (hp : CH) (m : Nat) : MeetsF Try.prog 72 hp m [vx v, .s k] (resV (getV v k)) := by
  refine meetsF Try.func72 (by kernel_rfl) cc72 cr72 rfl fun hf => ?_; unfold ck72
  have h1 := hv.l
  have h3 := hv.i
  simp only [go_sem, ↓reduceIte, Nat.reduceEqDiff, Nat.reduceBEq, Nat.reduceAdd, Nat.reduceLeDiff, Nat.reduceLT, reduceCtorEq, Nat.reduceMul, Nat.reduceSub, Int.reduceEq, Int.reduceLT, Int.reduceLE, Int.reduceToNat]
  refine cdK_of (fun c => ?_) (fun c => ?_)
  · have c : v.k ≠ 6 := by simpa using c
    rw [getV_none c]
    simp only [go_sem, ↓reduceIte, Nat.reduceEqDiff, Nat.reduceBEq, Nat.reduceAdd, Nat.reduceLeDiff, Nat.reduceLT, reduceCtorEq, Nat.reduceMul, Nat.reduceSub, Int.reduceEq, Int.reduceLT, Int.reduceLE, Int.reduceToNat]
  have c : v.k = 6 := by simpa using c
  simp only [go_sem, ↓reduceIte, Nat.reduceEqDiff, Nat.reduceBEq, Nat.reduceAdd, Nat.reduceLeDiff, Nat.reduceLT, reduceCtorEq, Nat.reduceMul, Nat.reduceSub, Int.reduceEq, Int.reduceLT, Int.reduceLE, Int.reduceToNat]
  refine loop (fun p : Nat × Nat => ⟨[(1, .s k), (2, .bx m 0), (4, .bx (m + 1) 0), (6, .i .i64 p.1)], (m + 1, .bx [.i .i64 0, .i .i64 0, .s ⟨#[]⟩, .e0, .e0]) :: (m, .bx [.i .i64 v.k, .i .i64 v.n, .s v.s, .ds (mapC valC v.items), .ds (stC v.keys)]) :: hp, p.2⟩)
    (fun p => p.1 ≤ v.keys.length ∧ m + 2 ≤ p.2 ∧ ix k v.keys 0 = ix k (v.keys.drop p.1) p.1) (fun p => v.keys.length - p.1) (0, m + 2) ?_ ?_ (fun ⟨j, n⟩ hj => ?_)
  · grind
  · refine weak_ok ?_ (Sub.refl _) (Nat.le_refl _)
    simp only [go_sem, ↓reduceIte, Nat.reduceEqDiff, Nat.reduceBEq, Nat.reduceAdd, Nat.reduceLeDiff, Nat.reduceLT, reduceCtorEq, Nat.reduceMul, Nat.reduceSub, Int.reduceEq, Int.reduceLT, Int.reduceLE, Int.reduceToNat]
  dsimp only at hj
  simp only [go_sem, ↓reduceIte, Nat.reduceEqDiff, Nat.reduceBEq, Nat.reduceAdd, Nat.reduceLeDiff, Nat.reduceLT, reduceCtorEq, Nat.reduceMul, Nat.reduceSub, Int.reduceEq, Int.reduceLT, Int.reduceLE, Int.reduceToNat]
  refine cdK_of (fun d => ?_) (fun d => ?_)
  · have d : j < v.keys.length := by simpa using d
    obtain ⟨y, ey⟩ : ∃ y, v.keys[j]? = some y := ⟨v.keys[j], by simp [d]⟩
    have e := drop_at ey
    rw [e, ix] at hj
    simp only [d, getK_s (mapC_get st1 ey), go_sem, ↓reduceIte, Nat.reduceEqDiff, Nat.reduceBEq, Nat.reduceAdd, Nat.reduceLeDiff, Nat.reduceLT, reduceCtorEq, Nat.reduceMul, Nat.reduceSub, Int.reduceEq, Int.reduceLT, Int.reduceLE, Int.reduceToNat]
    refine cdK_of (fun d1 => ?_) (fun d1 => ?_)
    · have d1 : k = y := by simp at d1; exact d1.symm
      rw [if_pos d1] at hj
      simp only [go_sem, ↓reduceIte, Nat.reduceEqDiff, Nat.reduceBEq, Nat.reduceAdd, Nat.reduceLeDiff, Nat.reduceLT, reduceCtorEq, Nat.reduceMul, Nat.reduceSub, Int.reduceEq, Int.reduceLT, Int.reduceLE, Int.reduceToNat]
      refine cdK_of (fun d2 => ?_) (fun d2 => ?_)
      · have e : getV v k = none := by
          unfold getV
          rw [if_pos c, hj.2.2, if_pos (by omega), List.getElem?_eq_none (by simp at d2; omega)]
        rw [e]
        simp only [go_sem, ↓reduceIte, Nat.reduceEqDiff, Nat.reduceBEq, Nat.reduceAdd, Nat.reduceLeDiff, Nat.reduceLT, reduceCtorEq, Nat.reduceMul, Nat.reduceSub, Int.reduceEq, Int.reduceLT, Int.reduceLE, Int.reduceToNat]
      · have d2 : j < v.items.length := by simp at d2; omega
        obtain ⟨x, ex⟩ : ∃ x, v.items[j]? = some x := ⟨v.items[j], by simp [d2]⟩
        have e : getV v k = some x := by
          unfold getV
          rw [if_pos c, hj.2.2, if_pos (by omega), Int.toNat_natCast, ex]
        rw [e]
        have hx := hv.x (List.mem_of_getElem? ex)
        simp only [d2, getK_s (mapC_get valC ex), go_sem, ↓reduceIte, Nat.reduceEqDiff, Nat.reduceBEq, Nat.reduceAdd, Nat.reduceLeDiff, Nat.reduceLT, reduceCtorEq, Nat.reduceMul, Nat.reduceSub, Int.reduceEq, Int.reduceLT, Int.reduceLE, Int.reduceToNat]
        refine vcCall.f (rcopy_ok x hx _ _) ?_
        simp only [go_sem, ↓reduceIte, Nat.reduceEqDiff, Nat.reduceBEq, Nat.reduceAdd, Nat.reduceLeDiff, Nat.reduceLT, reduceCtorEq, Nat.reduceMul, Nat.reduceSub, Int.reduceEq, Int.reduceLT, Int.reduceLE, Int.reduceToNat]
    · have d1 : ¬ k = y := by simp at d1; exact fun e => d1 e.symm
      rw [if_neg d1] at hj
      simp only [go_sem, ↓reduceIte, Nat.reduceEqDiff, Nat.reduceBEq, Nat.reduceAdd, Nat.reduceLeDiff, Nat.reduceLT, reduceCtorEq, Nat.reduceMul, Nat.reduceSub, Int.reduceEq, Int.reduceLT, Int.reduceLE, Int.reduceToNat]
      refine ⟨(j + 1, n), by dsimp only; omega, by dsimp only; omega, weak_ok ?_ (Sub.refl _) (Nat.le_refl _)⟩
      simp only [wr64s j (by omega), go_sem, ↓reduceIte, Nat.reduceEqDiff, Nat.reduceBEq, Nat.reduceAdd, Nat.reduceLeDiff, Nat.reduceLT, reduceCtorEq, Nat.reduceMul, Nat.reduceSub, Int.reduceEq, Int.reduceLT, Int.reduceLE, Int.reduceToNat]
  · have d : j = v.keys.length := by simp at d; omega
    subst d
    rw [List.drop_length, ix] at hj
    have e : getV v k = none := by
      unfold getV
      rw [if_pos c, hj.2.2, if_neg (by omega)]
    rw [e]
    simp only [go_sem, ↓reduceIte, Nat.reduceEqDiff, Nat.reduceBEq, Nat.reduceAdd, Nat.reduceLeDiff, Nat.reduceLT, reduceCtorEq, Nat.reduceMul, Nat.reduceSub, Int.reduceEq, Int.reduceLT, Int.reduceLE, Int.reduceToNat]
theorem getV_mem {v x : Val} {k : ByteArray} (h : getV v k = some x) : x ∈ v.items := by
  unfold getV at h
  split at h
  · split at h
    · exact List.mem_of_getElem? h
    · cases h
  · cases h
end Go.Proofs.Ytmcgjccheehehaa
