/-
  The parts VaB of the proof, in one file. Conditions: none.
-/
import Derived.Test.YtmcgjccheehehaaQse23
namespace Go.Proofs.Ytmcgjccheehehaa
open Go.Eng
set_option linter.unusedVariables false
set_option linter.unusedSimpArgs false
set_option maxRecDepth 20000
theorem clone_ok (l : List ByteArray) (h : l.length * 16 ≤ 140737488355327) (hp : CH) (m : Nat) : MeetsF Try.prog 75 hp m [.ds (stC l)] (.ds (stC l)) := by
  refine meetsF Try.func75 (by kernel_rfl) cc75 cr75 rfl fun hf => ?_; unfold ck75
  simp only [go_sem, ↓reduceIte, Nat.reduceEqDiff, Nat.reduceBEq, Nat.reduceAdd, Nat.reduceLeDiff, Nat.reduceLT, reduceCtorEq, Nat.reduceMul, Nat.reduceSub, Int.reduceEq, Int.reduceLT, Int.reduceLE, Int.reduceToNat]
  exact ⟨fun e => by rw [e], by omega, by omega⟩
theorem copies_ok (l : List Val) (hl : l.length * 80 ≤ 140737488355327) (h : ∀ x ∈ l, ∀ hp m, MeetsF Try.prog 47 hp m [vx x] (vx x)) (hp : CH) (m : Nat) :
    MeetsF Try.prog 74 hp m [.ds (mapC valC l)] (.ds (mapC valC l)) := by
  refine meetsF Try.func74 (by kernel_rfl) cc74 cr74 rfl fun hf => ?_; unfold ck74
  simp only [go_sem, ↓reduceIte, Nat.reduceEqDiff, Nat.reduceBEq, Nat.reduceAdd, Nat.reduceLeDiff, Nat.reduceLT, reduceCtorEq, Nat.reduceMul, Nat.reduceSub, Int.reduceEq, Int.reduceLT, Int.reduceLE, Int.reduceToNat]
  refine loop (fun p : Nat × Nat => ⟨[(3, .rw m p.1 p.1), (6, .ds (mapC valC l)), (7, .i .i64 l.length), (8, .i .i64 p.1)], (m, .rw p.1 5 (mapC valC (l.take p.1))) :: hp, p.2⟩) (fun p => p.1 ≤ l.length ∧ m + 1 ≤ p.2) (fun p => l.length - p.1) (0, m + 1) ?_ ?_ (fun ⟨j, n⟩ hj => ?_)
  · grind
  · refine (weak_e0 (t := 3) (m := 5) ?_).trans (weak_ok ?_ (Sub.cons ?_ (Sub.base hf ?_)) (Nat.le_refl _))
    all_goals simp only [go_sem, ↓reduceIte, Nat.reduceEqDiff, Nat.reduceBEq, Nat.reduceAdd, Nat.reduceLeDiff, Nat.reduceLT, reduceCtorEq, Nat.reduceMul, Nat.reduceSub, Int.reduceEq, Int.reduceLT, Int.reduceLE, Int.reduceToNat]
  dsimp only at hj
  have hne : n ≠ m := by omega
  have hne' : m ≠ n := by omega
  have hmn : m ≤ n := by omega
  simp only [hne, hne', hmn, go_sem, ↓reduceIte, Nat.reduceEqDiff, Nat.reduceBEq, Nat.reduceAdd, Nat.reduceLeDiff, Nat.reduceLT, reduceCtorEq, Nat.reduceMul, Nat.reduceSub, Int.reduceEq, Int.reduceLT, Int.reduceLE, Int.reduceToNat]
  refine cdK_of (fun c => ?_) (fun c => ?_)
  · have c : j < l.length := by simpa using c
    obtain ⟨x, ex⟩ : ∃ x, l[j]? = some x := ⟨l[j], by simp [c]⟩
    have hx := h x (List.mem_of_getElem? ex)
    have ht : (l.take j).length = j := by simp; omega
    simp only [hne, hne', hmn, c, getK_s (mapC_get valC ex), go_sem, ↓reduceIte, Nat.reduceEqDiff, Nat.reduceBEq, Nat.reduceAdd, Nat.reduceLeDiff, Nat.reduceLT, reduceCtorEq, Nat.reduceMul, Nat.reduceSub, Int.reduceEq, Int.reduceLT, Int.reduceLE, Int.reduceToNat]
    refine vcCall.f (hx _ _) ?_
    simp only [hne, hne', hmn, ht, go_sem, ↓reduceIte, Nat.reduceEqDiff, Nat.reduceBEq, Nat.reduceAdd, Nat.reduceLeDiff, Nat.reduceLT, reduceCtorEq, Nat.reduceMul, Nat.reduceSub, Int.reduceEq, Int.reduceLT, Int.reduceLE, Int.reduceToNat]
    refine ⟨by omega, by omega, (j + 1, n + 1), by dsimp only; omega, by dsimp only; omega, weak_ok ?_ (Sub.cons ?_ (Sub.base hf ?_)) (Nat.le_refl _)⟩
    all_goals
      simp only [hmn, go_sem, ↓reduceIte, Nat.reduceEqDiff, Nat.reduceBEq, Nat.reduceAdd, Nat.reduceLeDiff, Nat.reduceLT, reduceCtorEq, Nat.reduceMul, Nat.reduceSub, Int.reduceEq, Int.reduceLT, Int.reduceLE, Int.reduceToNat]
    · exact congrArg _ (wr64s j (by omega))
    · rw [take_snoc ex]
  · have c : j = l.length := by simp at c; omega
    subst c
    simp only [hne, hne', hmn, go_sem, ↓reduceIte, Nat.reduceEqDiff, Nat.reduceBEq, Nat.reduceAdd, Nat.reduceLeDiff, Nat.reduceLT, reduceCtorEq, Nat.reduceMul, Nat.reduceSub, Int.reduceEq, Int.reduceLT, Int.reduceLE, Int.reduceToNat]
    try simp
theorem copy_of (v : Val) (hv : v.keys.length * 16 ≤ 140737488355327) (h : ∀ hp m, MeetsF Try.prog 74 hp m [.ds (mapC valC v.items)] (.ds (mapC valC v.items))) (hp : CH) (m : Nat) : MeetsF Try.prog 47 hp m [vx v] (vx v) := by
  refine meetsF Try.func47 (by kernel_rfl) cc47 cr47 rfl fun hf => ?_; unfold ck47
  simp only [go_sem, ↓reduceIte, Nat.reduceEqDiff, Nat.reduceBEq, Nat.reduceAdd, Nat.reduceLeDiff, Nat.reduceLT, reduceCtorEq, Nat.reduceMul, Nat.reduceSub, Int.reduceEq, Int.reduceLT, Int.reduceLE, Int.reduceToNat]
  refine vcCall.f (h _ _) ?_
  simp only [go_sem, ↓reduceIte, Nat.reduceEqDiff, Nat.reduceBEq, Nat.reduceAdd, Nat.reduceLeDiff, Nat.reduceLT, reduceCtorEq, Nat.reduceMul, Nat.reduceSub, Int.reduceEq, Int.reduceLT, Int.reduceLE, Int.reduceToNat]
  refine vcCall.f (clone_ok v.keys hv _ _) ?_
  simp only [go_sem, ↓reduceIte, Nat.reduceEqDiff, Nat.reduceBEq, Nat.reduceAdd, Nat.reduceLeDiff, Nat.reduceLT, reduceCtorEq, Nat.reduceMul, Nat.reduceSub, Int.reduceEq, Int.reduceLT, Int.reduceLE, Int.reduceToNat]
theorem copy_ok (v : Val) (hv : v.Fit) (hp : CH) (m : Nat) : MeetsF Try.prog 47 hp m [vx v] (vx v) := by
  have := Val.ind (Q := fun v => v.Fit → ∀ hp m, MeetsF Try.prog 47 hp m [vx v] (vx v)) (fun v ih hv hp m => copy_of v hv.l (copies_ok v.items hv.i fun x hx => ih x hx (hv.x hx)) hp m) v
  exact this hv hp m
end Go.Proofs.Ytmcgjccheehehaa
