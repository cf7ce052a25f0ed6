/-
  The parts DaN of the proof, in one file. Conditions: none.
-/
import Derived.Test.YthiifoleopdieaaPu39
namespace Go.Proofs.Ythiifoleopdieaa
open Go.Eng
set_option linter.unusedVariables false
set_option linter.unusedSimpArgs false
set_option maxRecDepth 20000
set_option maxHeartbeats 1000000
theorem rcells_eq (l : List Cel) (hl : l.length ≤ 1256584718000) (hv : ∀ c ∈ l, c.v.Fit) (hp : CH) (m : Nat) : MeetsF Try.prog 44 hp m [.ds (mapC celC l), .ds (mapC celC l)] (.b true) := by
  refine meetsF Try.func44 (by kernel_rfl) cc44 cr44 rfl fun hf => ?_; unfold ck44
  simp only [go_sem, ↓reduceIte, Nat.reduceEqDiff, Nat.reduceBEq, Nat.reduceAdd, Nat.reduceLeDiff, Nat.reduceLT, reduceCtorEq, Nat.reduceMul, Nat.reduceSub, Int.reduceEq, Int.reduceLT, Int.reduceLE, Int.reduceToNat]
  refine loopg (fun q : Nat => ⟨[(0, .ds (mapC celC l)), (1, .ds (mapC celC l)), (5, .i .i64 q)], hp, m⟩)
    (fun q => q ≤ l.length) (fun q => l.length - q) 0 (Nat.zero_le _) ?_ (fun j hj => ?_)
  · refine weak_ok ?_ (Sub.base hf ?_) (Nat.le_refl _)
    all_goals first | (simp only [go_sem, ↓reduceIte, Nat.reduceEqDiff, Nat.reduceBEq, Nat.reduceAdd, Nat.reduceLeDiff, Nat.reduceLT, reduceCtorEq, Nat.reduceMul, Nat.reduceSub, Int.reduceEq, Int.reduceLT, Int.reduceLE, Int.reduceToNat]; done) | (dsimp only; omega) | trace_state
  simp only [go_sem, ↓reduceIte, Nat.reduceEqDiff, Nat.reduceBEq, Nat.reduceAdd, Nat.reduceLeDiff, Nat.reduceLT, reduceCtorEq, Nat.reduceMul, Nat.reduceSub, Int.reduceEq, Int.reduceLT, Int.reduceLE, Int.reduceToNat]
  refine cdK_of (fun d => ?_) (fun d => ?_)
  · have d1 : j < l.length := by simpa using d
    obtain ⟨x, ex⟩ : ∃ x, l[j]? = some x := ⟨l[j], by simp⟩
    have k6 : j < 9223372036854775807 := by omega
    have fx := hv x (List.mem_of_getElem? ex)
    have hx := same_ok x.v x.v fx fx
    rw [cmpV_refl] at hx
    simp only [d1, getK_s (mapC_get celC ex), mapC_get celC ex, go_sem, ↓reduceIte, Nat.reduceEqDiff, Nat.reduceBEq, Nat.reduceAdd, Nat.reduceLeDiff, Nat.reduceLT, reduceCtorEq, Nat.reduceMul, Nat.reduceSub, Int.reduceEq, Int.reduceLT, Int.reduceLE, Int.reduceToNat]
    refine dCall.f (fun _ hp' _ => hx hp' _) ?_
    simp only [wr64s j k6, go_sem, ↓reduceIte, Nat.reduceEqDiff, Nat.reduceBEq, Nat.reduceAdd, Nat.reduceLeDiff, Nat.reduceLT, reduceCtorEq, Nat.reduceMul, Nat.reduceSub, Int.reduceEq, Int.reduceLT, Int.reduceLE, Int.reduceToNat]
    refine ⟨j + 1, d1, by omega, weakG_ok ?_ (SubG.base hf ?_ ?_ ?_)⟩
    all_goals first | (simp only [go_sem, ↓reduceIte, Nat.reduceEqDiff, Nat.reduceBEq, Nat.reduceAdd, Nat.reduceLeDiff, Nat.reduceLT, reduceCtorEq, Nat.reduceMul, Nat.reduceSub, Int.reduceEq, Int.reduceLT, Int.reduceLE, Int.reduceToNat]; done) | (dsimp only; omega) | trace_state
  · simp only [go_sem, ↓reduceIte, Nat.reduceEqDiff, Nat.reduceBEq, Nat.reduceAdd, Nat.reduceLeDiff, Nat.reduceLT, reduceCtorEq, Nat.reduceMul, Nat.reduceSub, Int.reduceEq, Int.reduceLT, Int.reduceLE, Int.reduceToNat]
theorem rsameI_eq (x : Itm) (hl : x.l.length ≤ 1256584718000) (hv : ∀ c ∈ x.l, c.v.Fit) (hp : CH) (m : Nat) : MeetsF Try.prog 18 hp m [ix' x, ix' x] (.b true) := by
  refine meetsF Try.func18 (by kernel_rfl) cc18 cr18 rfl fun hf => ?_; unfold ck18
  simp only [go_sem, ↓reduceIte, Nat.reduceEqDiff, Nat.reduceBEq, Nat.reduceAdd, Nat.reduceLeDiff, Nat.reduceLT, reduceCtorEq, Nat.reduceMul, Nat.reduceSub, Int.reduceEq, Int.reduceLT, Int.reduceLE, Int.reduceToNat]
  refine gCall.f (fun _ => rcells_eq x.l hl hv _ _) ?_
  simp only [go_sem, ↓reduceIte, Nat.reduceEqDiff, Nat.reduceBEq, Nat.reduceAdd, Nat.reduceLeDiff, Nat.reduceLT, reduceCtorEq, Nat.reduceMul, Nat.reduceSub, Int.reduceEq, Int.reduceLT, Int.reduceLE, Int.reduceToNat]
end Go.Proofs.Ythiifoleopdieaa
