/-
  The parts VaC of the proof, in one file. Conditions: none.
-/
import Derived.Test.YtmcgjccheehehaaQse24
namespace Go.Proofs.Ytmcgjccheehehaa
open Go.Eng
set_option linter.unusedVariables false
set_option linter.unusedSimpArgs false
set_option maxRecDepth 20000
theorem rcopies_ok (l : List Val) (hl : l.length * 80 ≤ 140737488355327) (h : ∀ x ∈ l, ∀ hp m, MeetsF Try.prog 49 hp m [vx x] (vx x)) (hp : CH) (m : Nat) :
    MeetsF Try.prog 78 hp m [.ds (mapC valC l)] (.ds (mapC valC l)) := by
  refine meetsF Try.func78 (by kernel_rfl) cc78 cr78 rfl fun hf => ?_; unfold ck78
  simp only [go_sem, ↓reduceIte, Nat.reduceEqDiff, Nat.reduceBEq, Nat.reduceAdd, Nat.reduceLeDiff, Nat.reduceLT, reduceCtorEq, Nat.reduceMul, Nat.reduceSub, Int.reduceEq, Int.reduceLT, Int.reduceLE, Int.reduceToNat]
  refine loop (fun p : Nat × Nat => ⟨[(3, .rw m p.1 p.1), (0, .ds (mapC valC l)), (4, .i .i64 p.1)], (m, .rw p.1 5 (mapC valC (l.take p.1))) :: hp, p.2⟩) (fun p => p.1 ≤ l.length ∧ m + 1 ≤ p.2) (fun p => l.length - p.1) (0, m + 1) ?_ ?_ (fun ⟨j, n⟩ hj => ?_)
  · grind
  · refine (weak_e0 (t := 3) (m := 5) ?_).trans (weak_ok ?_ (Sub.cons ?_ (Sub.base hf ?_)) (Nat.le_refl _))
    all_goals simp only [go_sem, ↓reduceIte, Nat.reduceEqDiff, Nat.reduceBEq, Nat.reduceAdd, Nat.reduceLeDiff, Nat.reduceLT, reduceCtorEq, Nat.reduceMul, Nat.reduceSub, Int.reduceEq, Int.reduceLT, Int.reduceLE, Int.reduceToNat]
  dsimp only at hj
  have hne : n ≠ m := by omega
  have hne' : m ≠ n := by omega
  have hmn : m ≤ n := by omega
  simp only [hne, hne', hmn, go_sem, ↓reduceIte, Nat.reduceEqDiff, Nat.reduceBEq, Nat.reduceAdd, Nat.reduceLeDiff, Nat.reduceLT, reduceCtorEq, Nat.reduceMul, Nat.reduceSub, Int.reduceEq, Int.reduceLT, Int.reduceLE, Int.reduceToNat]
  refine cdK_of (fun c => ?_) (fun c => ?_)
  · have c : j < l.length := by simpa using c
    obtain ⟨x, ex⟩ : ∃ x, l[j]? = some x := ⟨l[j], by simp [c]⟩
    have hx := h x (List.mem_of_getElem? ex)
    have ht : (l.take j).length = j := by simp; omega
    simp only [hne, hne', hmn, c, getK_s (mapC_get valC ex), go_sem, ↓reduceIte, Nat.reduceEqDiff, Nat.reduceBEq, Nat.reduceAdd, Nat.reduceLeDiff, Nat.reduceLT, reduceCtorEq, Nat.reduceMul, Nat.reduceSub, Int.reduceEq, Int.reduceLT, Int.reduceLE, Int.reduceToNat]
    refine vcCall.f (hx _ _) ?_
    simp only [hne, hne', hmn, ht, go_sem, ↓reduceIte, Nat.reduceEqDiff, Nat.reduceBEq, Nat.reduceAdd, Nat.reduceLeDiff, Nat.reduceLT, reduceCtorEq, Nat.reduceMul, Nat.reduceSub, Int.reduceEq, Int.reduceLT, Int.reduceLE, Int.reduceToNat]
    refine ⟨by omega, by omega, (j + 1, n), by dsimp only; omega, by dsimp only; omega, weak_ok ?_ (Sub.cons ?_ (Sub.base hf ?_)) (Nat.le_refl _)⟩
    all_goals
      simp only [hmn, go_sem, ↓reduceIte, Nat.reduceEqDiff, Nat.reduceBEq, Nat.reduceAdd, Nat.reduceLeDiff, Nat.reduceLT, reduceCtorEq, Nat.reduceMul, Nat.reduceSub, Int.reduceEq, Int.reduceLT, Int.reduceLE, Int.reduceToNat]
    · exact congrArg _ (wr64s j (by omega))
    · rw [take_snoc ex]
  · have c : j = l.length := by simp at c; omega
    subst c
    simp only [hne, hne', hmn, go_sem, ↓reduceIte, Nat.reduceEqDiff, Nat.reduceBEq, Nat.reduceAdd, Nat.reduceLeDiff, Nat.reduceLT, reduceCtorEq, Nat.reduceMul, Nat.reduceSub, Int.reduceEq, Int.reduceLT, Int.reduceLE, Int.reduceToNat]
    try simp
theorem rcopy_of (v : Val) (hv : v.keys.length * 16 ≤ 140737488355327) (h : ∀ hp m, MeetsF Try.prog 78 hp m [.ds (mapC valC v.items)] (.ds (mapC valC v.items))) (hp : CH) (m : Nat) : MeetsF Try.prog 49 hp m [vx v] (vx v) := by
  refine meetsF Try.func49 (by kernel_rfl) cc49 cr49 rfl fun hf => ?_; unfold ck49
  simp only [go_sem, ↓reduceIte, Nat.reduceEqDiff, Nat.reduceBEq, Nat.reduceAdd, Nat.reduceLeDiff, Nat.reduceLT, reduceCtorEq, Nat.reduceMul, Nat.reduceSub, Int.reduceEq, Int.reduceLT, Int.reduceLE, Int.reduceToNat]
  first | refine dCallR.f (fun _ _ _ => h _ _) ?_ | refine dCall.f (fun _ _ _ => h _ _) ?_
  simp only [go_sem, ↓reduceIte, Nat.reduceEqDiff, Nat.reduceBEq, Nat.reduceAdd, Nat.reduceLeDiff, Nat.reduceLT, reduceCtorEq, Nat.reduceMul, Nat.reduceSub, Int.reduceEq, Int.reduceLT, Int.reduceLE, Int.reduceToNat]
  omega
theorem rcopy_ok (v : Val) (hv : v.Fit) (hp : CH) (m : Nat) : MeetsF Try.prog 49 hp m [vx v] (vx v) := by
  have := Val.ind (Q := fun v => v.Fit → ∀ hp m, MeetsF Try.prog 49 hp m [vx v] (vx v)) (fun v ih hv hp m => rcopy_of v hv.l (rcopies_ok v.items hv.i fun x hx => ih x hx (hv.x hx)) hp m) v
  exact this hv hp m
theorem index_ok (l : List ByteArray) (k : ByteArray) (hl : l.length ≤ 9223372036854775806) (hp : CH) (m : Nat) : MeetsF Try.prog 96 hp m [.ds (stC l), .s k] (.i .i64 (ix k l 0)) := by
  refine meetsF Try.func96 (by kernel_rfl) cc96 cr96 rfl fun hf => ?_; unfold ck96
  simp only [go_sem, ↓reduceIte, Nat.reduceEqDiff, Nat.reduceBEq, Nat.reduceAdd, Nat.reduceLeDiff, Nat.reduceLT, reduceCtorEq, Nat.reduceMul, Nat.reduceSub, Int.reduceEq, Int.reduceLT, Int.reduceLE, Int.reduceToNat]
  refine loop (fun p : Nat × Nat => ⟨[(0, .ds (stC l)), (1, .s k), (7, .i .i64 l.length), (8, .i .i64 p.1)], hp, p.2⟩) (fun p => p.1 ≤ l.length ∧ ix k l 0 = ix k (l.drop p.1) p.1) (fun p => l.length - p.1) (0, m) ?_ ?_ (fun ⟨j, n⟩ hj => ?_)
  · grind
  · refine weak_ok ?_ (Sub.refl _) (Nat.le_refl _)
    simp only [go_sem, ↓reduceIte, Nat.reduceEqDiff, Nat.reduceBEq, Nat.reduceAdd, Nat.reduceLeDiff, Nat.reduceLT, reduceCtorEq, Nat.reduceMul, Nat.reduceSub, Int.reduceEq, Int.reduceLT, Int.reduceLE, Int.reduceToNat]
  dsimp only at hj
  simp only [go_sem, ↓reduceIte, Nat.reduceEqDiff, Nat.reduceBEq, Nat.reduceAdd, Nat.reduceLeDiff, Nat.reduceLT, reduceCtorEq, Nat.reduceMul, Nat.reduceSub, Int.reduceEq, Int.reduceLT, Int.reduceLE, Int.reduceToNat]
  refine cdK_of (fun c => ?_) (fun c => ?_)
  · have c : j < l.length := by simpa using c
    obtain ⟨x, ex⟩ : ∃ x, l[j]? = some x := ⟨l[j], by simp [c]⟩
    have e := drop_at ex
    rw [e, ix] at hj
    simp only [c, getK_s (mapC_get st1 ex), go_sem, ↓reduceIte, Nat.reduceEqDiff, Nat.reduceBEq, Nat.reduceAdd, Nat.reduceLeDiff, Nat.reduceLT, reduceCtorEq, Nat.reduceMul, Nat.reduceSub, Int.reduceEq, Int.reduceLT, Int.reduceLE, Int.reduceToNat]
    refine cdK_of (fun c1 => ?_) (fun c1 => ?_)
    · have c1 : k = x := by simpa using c1
      simp only [go_sem, ↓reduceIte, Nat.reduceEqDiff, Nat.reduceBEq, Nat.reduceAdd, Nat.reduceLeDiff, Nat.reduceLT, reduceCtorEq, Nat.reduceMul, Nat.reduceSub, Int.reduceEq, Int.reduceLT, Int.reduceLE, Int.reduceToNat]
      rw [hj.2, if_pos c1]
    · have c1 : ¬ k = x := by simpa using c1
      rw [if_neg c1] at hj
      simp only [go_sem, ↓reduceIte, Nat.reduceEqDiff, Nat.reduceBEq, Nat.reduceAdd, Nat.reduceLeDiff, Nat.reduceLT, reduceCtorEq, Nat.reduceMul, Nat.reduceSub, Int.reduceEq, Int.reduceLT, Int.reduceLE, Int.reduceToNat]
      refine ⟨(j + 1, n), by dsimp only; omega, by dsimp only; omega, weak_ok ?_ (Sub.refl _) (Nat.le_refl _)⟩
      simp only [wr64s j (by omega), go_sem, ↓reduceIte, Nat.reduceEqDiff, Nat.reduceBEq, Nat.reduceAdd, Nat.reduceLeDiff, Nat.reduceLT, reduceCtorEq, Nat.reduceMul, Nat.reduceSub, Int.reduceEq, Int.reduceLT, Int.reduceLE, Int.reduceToNat]
  · have c : j = l.length := by simp at c; omega
    subst c
    rw [List.drop_length, ix] at hj
    simp only [go_sem, ↓reduceIte, Nat.reduceEqDiff, Nat.reduceBEq, Nat.reduceAdd, Nat.reduceLeDiff, Nat.reduceLT, reduceCtorEq, Nat.reduceMul, Nat.reduceSub, Int.reduceEq, Int.reduceLT, Int.reduceLE, Int.reduceToNat]
    rw [hj.2]
end Go.Proofs.Ytmcgjccheehehaa
