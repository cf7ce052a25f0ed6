/-
  Picks: their number, their labels by the reference. Conditions: none.
-/
import Derived.Test.YtmcgjccheehehaaDfJ
namespace Go.Proofs.Ytmcgjccheehehaa
open Go.Eng
set_option linter.unusedVariables false
set_option linter.unusedSimpArgs false
set_option maxRecDepth 20000
mutual
def lgP : Pk → Int → Bool
  | .mk _ _ _ _ _ _ _ _ p, n => decide (0 < (p.length : Int)) && ((decide (IntKind.i64.wrap (n - 1) ≤ 0) || decide (60 < (p.length : Int))) || lgL p (IntKind.i64.wrap (n - 1)))
def lgL : List Pk → Int → Bool
  | [], _ => false
  | p :: r, n => lgP p n || lgL r n
end
def lgK (l : List Pk) (n : Int) : Bool := (decide (n ≤ 0) || decide (60 < (l.length : Int))) || lgL l n
theorem lgP_eq (p : Pk) (n : Int) : lgP p n = (decide (0 < (p.picks.length : Int)) && lgK p.picks (IntKind.i64.wrap (n - 1))) := by cases p; rw [lgP]; rfl
theorem large_of (l : List Pk) (hl : l.length ≤ 1000000000000) (h : ∀ p ∈ l, ∀ n hp m, MeetsF Try.prog 17 hp m [.ds (mapC pkC p.picks), .i .i64 n] (.b (lgK p.picks n))) (n : Int) (hp : CH) (m : Nat) : MeetsF Try.prog 17 hp m [.ds (mapC pkC l), .i .i64 n] (.b (lgK l n)) := by
  refine meetsF Try.func17 (by kernel_rfl) cc17 cr17 rfl fun hf => ?_; unfold ck17
  simp only [go_sem, ↓reduceIte, Nat.reduceEqDiff, Nat.reduceBEq, Nat.reduceAdd, Nat.reduceLeDiff, Nat.reduceLT, reduceCtorEq, Nat.reduceMul, Nat.reduceSub, Int.reduceEq, Int.reduceLT, Int.reduceLE, Int.reduceToNat]
  refine cdK_of (fun c => ?_) (fun c => ?_)
  · rw [lgK, c]
    simp only [go_sem, ↓reduceIte, Nat.reduceEqDiff, Nat.reduceBEq, Nat.reduceAdd, Nat.reduceLeDiff, Nat.reduceLT, reduceCtorEq, Nat.reduceMul, Nat.reduceSub, Int.reduceEq, Int.reduceLT, Int.reduceLE, Int.reduceToNat]
  rw [lgK, c]
  simp only [go_sem, ↓reduceIte, Nat.reduceEqDiff, Nat.reduceBEq, Nat.reduceAdd, Nat.reduceLeDiff, Nat.reduceLT, reduceCtorEq, Nat.reduceMul, Nat.reduceSub, Int.reduceEq, Int.reduceLT, Int.reduceLE, Int.reduceToNat]
  refine loop (fun p : Nat × Nat => ⟨[(0, .ds (mapC pkC l)), (1, .i .i64 n), (5, .i .i64 p.1)], hp, p.2⟩) (fun p => p.1 ≤ l.length ∧ lgL l n = lgL (l.drop p.1) n) (fun p => l.length - p.1) (0, m) ?_ ?_ (fun ⟨j, N⟩ hj => ?_)
  · exact ⟨by simp, rfl⟩
  · refine weak_ok ?_ (Sub.refl _) (Nat.le_refl _)
    simp only [go_sem, ↓reduceIte, Nat.reduceEqDiff, Nat.reduceBEq, Nat.reduceAdd, Nat.reduceLeDiff, Nat.reduceLT, reduceCtorEq, Nat.reduceMul, Nat.reduceSub, Int.reduceEq, Int.reduceLT, Int.reduceLE, Int.reduceToNat]
  dsimp only at hj
  simp only [go_sem, ↓reduceIte, Nat.reduceEqDiff, Nat.reduceBEq, Nat.reduceAdd, Nat.reduceLeDiff, Nat.reduceLT, reduceCtorEq, Nat.reduceMul, Nat.reduceSub, Int.reduceEq, Int.reduceLT, Int.reduceLE, Int.reduceToNat]
  refine cdK_of (fun d => ?_) (fun d => ?_)
  · have d : j < l.length := by simpa using d
    obtain ⟨x, ex⟩ : ∃ x, l[j]? = some x := ⟨l[j], by simp [d]⟩
    have hx := h x (List.mem_of_getElem? ex)
    rw [drop_at ex, lgL, lgP_eq] at hj
    simp only [d, getK_s (mapC_get pkC ex), go_sem, ↓reduceIte, Nat.reduceEqDiff, Nat.reduceBEq, Nat.reduceAdd, Nat.reduceLeDiff, Nat.reduceLT, reduceCtorEq, Nat.reduceMul, Nat.reduceSub, Int.reduceEq, Int.reduceLT, Int.reduceLE, Int.reduceToNat]
    by_cases g : decide (0 < (x.picks.length : Int)) = true
    · rw [g] at hj
      simp only [g]
      simp only [d, getK_s (mapC_get pkC ex), go_sem, ↓reduceIte, Nat.reduceEqDiff, Nat.reduceBEq, Nat.reduceAdd, Nat.reduceLeDiff, Nat.reduceLT, reduceCtorEq, Nat.reduceMul, Nat.reduceSub, Int.reduceEq, Int.reduceLT, Int.reduceLE, Int.reduceToNat]
      simp only [Bool.true_and] at hj
      refine gCall_t (vcCall.f (hx _ _ _) ?_)
      simp only [d, go_sem, ↓reduceIte, Nat.reduceEqDiff, Nat.reduceBEq, Nat.reduceAdd, Nat.reduceLeDiff, Nat.reduceLT, reduceCtorEq, Nat.reduceMul, Nat.reduceSub, Int.reduceEq, Int.reduceLT, Int.reduceLE, Int.reduceToNat]
      refine cdK_of (fun q => ?_) (fun q => ?_)
      · have q : lgK x.picks (IntKind.i64.wrap (n - 1)) = true := by simpa using q
        rw [hj.2, q]
        simp only [go_sem, ↓reduceIte, Nat.reduceEqDiff, Nat.reduceBEq, Nat.reduceAdd, Nat.reduceLeDiff, Nat.reduceLT, reduceCtorEq, Nat.reduceMul, Nat.reduceSub, Int.reduceEq, Int.reduceLT, Int.reduceLE, Int.reduceToNat]
      · have q : lgK x.picks (IntKind.i64.wrap (n - 1)) = false := by simpa using q
        rw [q, Bool.false_or] at hj
        simp only [go_sem, ↓reduceIte, Nat.reduceEqDiff, Nat.reduceBEq, Nat.reduceAdd, Nat.reduceLeDiff, Nat.reduceLT, reduceCtorEq, Nat.reduceMul, Nat.reduceSub, Int.reduceEq, Int.reduceLT, Int.reduceLE, Int.reduceToNat]
        refine ⟨(j + 1, N), ⟨by dsimp only; omega, hj.2⟩, by dsimp only; omega, weak_ok ?_ (Sub.refl _) (Nat.le_refl _)⟩
        simp only [wr64s j (by omega), go_sem, ↓reduceIte, Nat.reduceEqDiff, Nat.reduceBEq, Nat.reduceAdd, Nat.reduceLeDiff, Nat.reduceLT, reduceCtorEq, Nat.reduceMul, Nat.reduceSub, Int.reduceEq, Int.reduceLT, Int.reduceLE, Int.reduceToNat]
    · have g : decide (0 < (x.picks.length : Int)) = false := by simpa using g
      rw [g] at hj
      simp only [g]
      simp only [d, getK_s (mapC_get pkC ex), go_sem, ↓reduceIte, Nat.reduceEqDiff, Nat.reduceBEq, Nat.reduceAdd, Nat.reduceLeDiff, Nat.reduceLT, reduceCtorEq, Nat.reduceMul, Nat.reduceSub, Int.reduceEq, Int.reduceLT, Int.reduceLE, Int.reduceToNat]
      simp only [Bool.false_and, Bool.false_or] at hj
      refine gCall_f ?_
      simp only [d, go_sem, ↓reduceIte, Nat.reduceEqDiff, Nat.reduceBEq, Nat.reduceAdd, Nat.reduceLeDiff, Nat.reduceLT, reduceCtorEq, Nat.reduceMul, Nat.reduceSub, Int.reduceEq, Int.reduceLT, Int.reduceLE, Int.reduceToNat]
      refine ⟨(j + 1, N), ⟨by dsimp only; omega, hj.2⟩, by dsimp only; omega, weak_ok ?_ (Sub.refl _) (Nat.le_refl _)⟩
      simp only [wr64s j (by omega), go_sem, ↓reduceIte, Nat.reduceEqDiff, Nat.reduceBEq, Nat.reduceAdd, Nat.reduceLeDiff, Nat.reduceLT, reduceCtorEq, Nat.reduceMul, Nat.reduceSub, Int.reduceEq, Int.reduceLT, Int.reduceLE, Int.reduceToNat]
  · have d : j = l.length := by simp at d; omega
    subst d
    rw [List.drop_length, lgL] at hj
    rw [hj.2]
    simp only [go_sem, ↓reduceIte, Nat.reduceEqDiff, Nat.reduceBEq, Nat.reduceAdd, Nat.reduceLeDiff, Nat.reduceLT, reduceCtorEq, Nat.reduceMul, Nat.reduceSub, Int.reduceEq, Int.reduceLT, Int.reduceLE, Int.reduceToNat]
theorem large_ok (l : List Pk) (hw : wtKs l ≤ 1000000000000) (n : Int) (hp : CH) (m : Nat) : MeetsF Try.prog 17 hp m [.ds (mapC pkC l), .i .i64 n] (.b (lgK l n)) := by
  have key : ∀ p : Pk, wtK p ≤ 1000000000000 → ∀ n hp m, MeetsF Try.prog 17 hp m [.ds (mapC pkC p.picks), .i .i64 n] (.b (lgK p.picks n)) := fun p => Pk.ind (Q := fun p => wtK p ≤ 1000000000000 → ∀ n hp m, MeetsF Try.prog 17 hp m [.ds (mapC pkC p.picks), .i .i64 n] (.b (lgK p.picks n))) (fun v ih hv => by
    rw [wtK_eq] at hv
    have := wtKs_len v.picks
    exact large_of v.picks (by omega) fun p hp => ih p hp (by have := wtKs_mem hp; omega)) p
  have := wtKs_len l
  exact large_of l (by omega) (fun p hp => key p (by have := wtKs_mem hp; omega)) n hp m
end Go.Proofs.Ytmcgjccheehehaa
