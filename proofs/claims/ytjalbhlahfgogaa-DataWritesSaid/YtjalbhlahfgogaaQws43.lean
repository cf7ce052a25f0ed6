/-
  The parts DaN of the proof, in one file. Conditions: none.
-/
import Derived.Test.YtjalbhlahfgogaaQws42
namespace Go.Proofs.Ytjalbhlahfgogaa
open Go.Eng
set_option linter.unusedVariables false
set_option linter.unusedSimpArgs false
set_option maxRecDepth 20000
set_option maxHeartbeats 1000000
theorem rcells_eq (l : List Cel) (hl : l.length ≤ 1256584718000) (hv : ∀ c ∈ l, c.v.Fit) (hp : CH) (m : Nat) : MeetsF Try.prog 51 hp m [.ds (mapC celC l), .ds (mapC celC l)] (.b true) := by
  refine meetsF Try.func51 (by kernel_rfl) cc51 cr51 rfl fun hf => ?_; unfold ck51
  simp only [go_sem, ↓reduceIte, Nat.reduceEqDiff, Nat.reduceBEq, Nat.reduceAdd, Nat.reduceLeDiff, Nat.reduceLT, reduceCtorEq, Nat.reduceMul, Nat.reduceSub, Int.reduceEq, Int.reduceLT, Int.reduceLE, Int.reduceToNat]
  refine loopg (fun q : Nat => ⟨[(0, .ds (mapC celC l)), (1, .ds (mapC celC l)), (5, .i .i64 q)], hp, m⟩)
    (fun q => q ≤ l.length) (fun q => l.length - q) 0 (Nat.zero_le _) ?_ (fun j hj => ?_)
  · refine weak_ok ?_ (Sub.base hf ?_) (Nat.le_refl _)
    all_goals first | (simp only [go_sem, ↓reduceIte, Nat.reduceEqDiff, Nat.reduceBEq, Nat.reduceAdd, Nat.reduceLeDiff, Nat.reduceLT, reduceCtorEq, Nat.reduceMul, Nat.reduceSub, Int.reduceEq, Int.reduceLT, Int.reduceLE, Int.reduceToNat]; done) | (dsimp only; omega) | trace_state
  simp only [go_sem, ↓reduceIte, Nat.reduceEqDiff, Nat.reduceBEq, Nat.reduceAdd, Nat.reduceLeDiff, Nat.reduceLT, reduceCtorEq, Nat.reduceMul, Nat.reduceSub, Int.reduceEq, Int.reduceLT, Int.reduceLE, Int.reduceToNat]
  refine cdK_of (fun d => ?_) (fun d => ?_)
  · have d1 : j < l.length := by simpa using d
    obtain ⟨x, ex⟩ : ∃ x, l[j]? = some x := ⟨l[j], by simp⟩
    have k6 : j < 9223372036854775807 := by omega
    have fx := hv x (List.mem_of_getElem? ex)
    have hx := same_ok x.v x.v fx fx
    rw [cmpV_refl] at hx
    simp only [d1, getK_s (mapC_get celC ex), mapC_get celC ex, go_sem, ↓reduceIte, Nat.reduceEqDiff, Nat.reduceBEq, Nat.reduceAdd, Nat.reduceLeDiff, Nat.reduceLT, reduceCtorEq, Nat.reduceMul, Nat.reduceSub, Int.reduceEq, Int.reduceLT, Int.reduceLE, Int.reduceToNat]
    refine dCall.f (fun _ hp' _ => hx hp' _) ?_
    simp only [wr64s j k6, go_sem, ↓reduceIte, Nat.reduceEqDiff, Nat.reduceBEq, Nat.reduceAdd, Nat.reduceLeDiff, Nat.reduceLT, reduceCtorEq, Nat.reduceMul, Nat.reduceSub, Int.reduceEq, Int.reduceLT, Int.reduceLE, Int.reduceToNat]
    refine ⟨j + 1, d1, by omega, weakG_ok ?_ (SubG.base hf ?_ ?_ ?_)⟩
    all_goals first | (simp only [go_sem, ↓reduceIte, Nat.reduceEqDiff, Nat.reduceBEq, Nat.reduceAdd, Nat.reduceLeDiff, Nat.reduceLT, reduceCtorEq, Nat.reduceMul, Nat.reduceSub, Int.reduceEq, Int.reduceLT, Int.reduceLE, Int.reduceToNat]; done) | (dsimp only; omega) | trace_state
  · simp only [go_sem, ↓reduceIte, Nat.reduceEqDiff, Nat.reduceBEq, Nat.reduceAdd, Nat.reduceLeDiff, Nat.reduceLT, reduceCtorEq, Nat.reduceMul, Nat.reduceSub, Int.reduceEq, Int.reduceLT, Int.reduceLE, Int.reduceToNat]
theorem rsameI_eq (x : Itm) (hl : x.l.length ≤ 1256584718000) (hv : ∀ c ∈ x.l, c.v.Fit) (hp : CH) (m : Nat) : MeetsF Try.prog 23 hp m [ix' x, ix' x] (.b true) := by
  refine meetsF Try.func23 (by kernel_rfl) cc23 cr23 rfl fun hf => ?_; unfold ck23
  simp only [go_sem, ↓reduceIte, Nat.reduceEqDiff, Nat.reduceBEq, Nat.reduceAdd, Nat.reduceLeDiff, Nat.reduceLT, reduceCtorEq, Nat.reduceMul, Nat.reduceSub, Int.reduceEq, Int.reduceLT, Int.reduceLE, Int.reduceToNat]
  refine gCall.f (fun _ => rcells_eq x.l hl hv _ _) ?_
  simp only [go_sem, ↓reduceIte, Nat.reduceEqDiff, Nat.reduceBEq, Nat.reduceAdd, Nat.reduceLeDiff, Nat.reduceLT, reduceCtorEq, Nat.reduceMul, Nat.reduceSub, Int.reduceEq, Int.reduceLT, Int.reduceLE, Int.reduceToNat]
theorem rsameD_eq (d : Dat) (hd : d.Fit) (hp : CH) (m : Nat) : MeetsF Try.prog 21 hp m [dx d, dx d] (.b true) := by
  have h1 := hd.li
  have h2 := hd.lw
  refine meetsF Try.func21 (by kernel_rfl) cc21 cr21 rfl fun hf => ?_; unfold ck21
  simp only [go_sem, ↓reduceIte, Nat.reduceEqDiff, Nat.reduceBEq, Nat.reduceAdd, Nat.reduceLeDiff, Nat.reduceLT, reduceCtorEq, Nat.reduceMul, Nat.reduceSub, Int.reduceEq, Int.reduceLT, Int.reduceLE, Int.reduceToNat]
  refine loopg (fun q : Nat => ⟨[(2, .bx m 0), (3, .bx (m + 1) 0), (5, .i .i64 q)], (m + 1, .bx [.ds (mapC itC d.i), .ds (mapC wrC d.w)]) :: (m, .bx [.ds (mapC itC d.i), .ds (mapC wrC d.w)]) :: hp, m + 2⟩)
    (fun q => q ≤ d.i.length) (fun q => d.i.length - q) 0 (Nat.zero_le _) ?_ (fun j hj => ?_)
  · refine weak_ok ?_ (Sub.cons ?_ (Sub.cons ?_ (Sub.base hf ?_))) (Nat.le_refl _)
    all_goals first | (simp only [go_sem, ↓reduceIte, Nat.reduceEqDiff, Nat.reduceBEq, Nat.reduceAdd, Nat.reduceLeDiff, Nat.reduceLT, reduceCtorEq, Nat.reduceMul, Nat.reduceSub, Int.reduceEq, Int.reduceLT, Int.reduceLE, Int.reduceToNat]; done) | (dsimp only; omega) | trace_state
  simp only [go_sem, ↓reduceIte, Nat.reduceEqDiff, Nat.reduceBEq, Nat.reduceAdd, Nat.reduceLeDiff, Nat.reduceLT, reduceCtorEq, Nat.reduceMul, Nat.reduceSub, Int.reduceEq, Int.reduceLT, Int.reduceLE, Int.reduceToNat]
  refine cdK_of (fun d0 => ?_) (fun d0 => ?_)
  · have d1 : j < d.i.length := by simpa using d0
    obtain ⟨x, ex⟩ : ∃ x, d.i[j]? = some x := ⟨d.i[j], by simp⟩
    have k6 : j < 9223372036854775807 := by omega
    have hx := rsameI_eq x (hd.ll (List.mem_of_getElem? ex)) (fun c hc => hd.c (List.mem_of_getElem? ex) hc)
    simp only [d1, getK_s (mapC_get itC ex), mapC_get itC ex, go_sem, ↓reduceIte, Nat.reduceEqDiff, Nat.reduceBEq, Nat.reduceAdd, Nat.reduceLeDiff, Nat.reduceLT, reduceCtorEq, Nat.reduceMul, Nat.reduceSub, Int.reduceEq, Int.reduceLT, Int.reduceLE, Int.reduceToNat]
    refine dCallR.f (fun _ hp' _ => hx hp' _) ?_
    simp only [wr64s j k6, go_sem, ↓reduceIte, Nat.reduceEqDiff, Nat.reduceBEq, Nat.reduceAdd, Nat.reduceLeDiff, Nat.reduceLT, reduceCtorEq, Nat.reduceMul, Nat.reduceSub, Int.reduceEq, Int.reduceLT, Int.reduceLE, Int.reduceToNat]
    refine ⟨j + 1, d1, by omega, weakG_ok ?_ (SubG.cons ?_ ?_ ?_ (SubG.cons ?_ ?_ ?_ (SubG.base hf ?_ ?_ ?_)))⟩
    all_goals first | (simp only [go_sem, ↓reduceIte, Nat.reduceEqDiff, Nat.reduceBEq, Nat.reduceAdd, Nat.reduceLeDiff, Nat.reduceLT, reduceCtorEq, Nat.reduceMul, Nat.reduceSub, Int.reduceEq, Int.reduceLT, Int.reduceLE, Int.reduceToNat]; done) | (dsimp only; omega) | trace_state
  · simp only [go_sem, ↓reduceIte, Nat.reduceEqDiff, Nat.reduceBEq, Nat.reduceAdd, Nat.reduceLeDiff, Nat.reduceLT, reduceCtorEq, Nat.reduceMul, Nat.reduceSub, Int.reduceEq, Int.reduceLT, Int.reduceLE, Int.reduceToNat]
    refine loopg (fun q : Nat => ⟨[(2, .bx m 0), (3, .bx (m + 1) 0), (6, .i .i64 q)], (m + 1, .bx [.ds (mapC itC d.i), .ds (mapC wrC d.w)]) :: (m, .bx [.ds (mapC itC d.i), .ds (mapC wrC d.w)]) :: hp, m + 2⟩)
      (fun q => q ≤ d.w.length) (fun q => d.w.length - q) 0 (Nat.zero_le _) ?_ (fun j hj => ?_)
    · refine weak_ok ?_ (Sub.cons ?_ (Sub.cons ?_ (Sub.base hf ?_))) (Nat.le_refl _)
      all_goals first | (simp only [go_sem, ↓reduceIte, Nat.reduceEqDiff, Nat.reduceBEq, Nat.reduceAdd, Nat.reduceLeDiff, Nat.reduceLT, reduceCtorEq, Nat.reduceMul, Nat.reduceSub, Int.reduceEq, Int.reduceLT, Int.reduceLE, Int.reduceToNat]; done) | (dsimp only; omega) | trace_state
    simp only [go_sem, ↓reduceIte, Nat.reduceEqDiff, Nat.reduceBEq, Nat.reduceAdd, Nat.reduceLeDiff, Nat.reduceLT, reduceCtorEq, Nat.reduceMul, Nat.reduceSub, Int.reduceEq, Int.reduceLT, Int.reduceLE, Int.reduceToNat]
    refine cdK_of (fun d0 => ?_) (fun d0 => ?_)
    · have d1 : j < d.w.length := by simpa using d0
      obtain ⟨x, ex⟩ : ∃ x, d.w[j]? = some x := ⟨d.w[j], by simp⟩
      have k6 : j < 9223372036854775807 := by omega
      have hx := rcells_eq [x.c] (by simp) (by simpa using hd.w (List.mem_of_getElem? ex))
      simp only [d1, getK_s (mapC_get wrC ex), mapC_get wrC ex, go_sem, ↓reduceIte, Nat.reduceEqDiff, Nat.reduceBEq, Nat.reduceAdd, Nat.reduceLeDiff, Nat.reduceLT, reduceCtorEq, Nat.reduceMul, Nat.reduceSub, Int.reduceEq, Int.reduceLT, Int.reduceLE, Int.reduceToNat]
      refine gCall.f (fun _ => hx _ _) ?_
      simp only [wr64s j k6, go_sem, ↓reduceIte, Nat.reduceEqDiff, Nat.reduceBEq, Nat.reduceAdd, Nat.reduceLeDiff, Nat.reduceLT, reduceCtorEq, Nat.reduceMul, Nat.reduceSub, Int.reduceEq, Int.reduceLT, Int.reduceLE, Int.reduceToNat]
      refine ⟨j + 1, d1, by omega, weakG_ok ?_ (SubG.cons ?_ ?_ ?_ (SubG.cons ?_ ?_ ?_ (SubG.base hf ?_ ?_ ?_)))⟩
      all_goals first | (simp only [go_sem, ↓reduceIte, Nat.reduceEqDiff, Nat.reduceBEq, Nat.reduceAdd, Nat.reduceLeDiff, Nat.reduceLT, reduceCtorEq, Nat.reduceMul, Nat.reduceSub, Int.reduceEq, Int.reduceLT, Int.reduceLE, Int.reduceToNat]; done) | (dsimp only; omega) | trace_state
    · simp only [go_sem, ↓reduceIte, Nat.reduceEqDiff, Nat.reduceBEq, Nat.reduceAdd, Nat.reduceLeDiff, Nat.reduceLT, reduceCtorEq, Nat.reduceMul, Nat.reduceSub, Int.reduceEq, Int.reduceLT, Int.reduceLE, Int.reduceToNat]
end Go.Proofs.Ytjalbhlahfgogaa
