/-
  The example of the chapter holds. Conditions: none.
-/
import Derived.Test.YtnkddjdjiibkfaaFrP
namespace Go.Proofs.Ytnkddjdjiibkfaa
open Go.Eng
set_option linter.unusedVariables false
set_option linter.unusedSimpArgs false
set_option maxRecDepth 20000
theorem same_r (a b : List UInt8) (ha : a.length ≤ 1000000) (k g k' g' : Nat) (hp : CH) (m : Nat) (hk : gc hp k = .rw g 1 (byC a)) (hk' : gc hp k' = .rw g' 1 (byC b)) : MeetsF Try.prog 11 hp m [.rw k g a.length, .rw k' g' b.length] (.b (decide (a = b))) := by
  refine meetsF Try.func11 (by kernel_rfl) cc11 cr11 rfl fun hf => ?_; unfold ck11
  simp only [hk, hk', go_sem, ↓reduceIte, Nat.reduceEqDiff, Nat.reduceAdd, Nat.reduceLeDiff, Nat.reduceLT, reduceCtorEq, Nat.reduceMul, Nat.reduceSub, Int.reduceEq, Int.reduceLT, Int.reduceLE, Int.reduceToNat]
  refine cdK_of (fun h0 => ?_) (fun h0 => ?_)
  · simp only [go_sem, ↓reduceIte, Nat.reduceEqDiff, Nat.reduceAdd, Nat.reduceLeDiff, Nat.reduceLT, reduceCtorEq, Nat.reduceMul, Nat.reduceSub, Int.reduceEq, Int.reduceLT, Int.reduceLE, Int.reduceToNat]
    by_cases a = b <;> grind
  simp only [hk, hk', go_sem, ↓reduceIte, Nat.reduceEqDiff, Nat.reduceAdd, Nat.reduceLeDiff, Nat.reduceLT, reduceCtorEq, Nat.reduceMul, Nat.reduceSub, Int.reduceEq, Int.reduceLT, Int.reduceLE, Int.reduceToNat]
  refine loop (fun p : Nat × Nat => ⟨[(0, .rw k g a.length), (1, .rw k' g' b.length), (5, .i .i64 p.1)], hp, p.2⟩) (fun p => p.1 ≤ a.length ∧ a.take p.1 = b.take p.1) (fun p => a.length - p.1) (0, m) ?_ ?_ (fun ⟨j, n⟩ hj => ?_)
  · grind
  · refine weak_ok ?_ (Sub.refl _) (Nat.le_refl _)
    simp only [go_sem, ↓reduceIte, Nat.reduceEqDiff, Nat.reduceAdd, Nat.reduceLeDiff, Nat.reduceLT, reduceCtorEq, Nat.reduceMul, Nat.reduceSub, Int.reduceEq, Int.reduceLT, Int.reduceLE, Int.reduceToNat]
  simp only [hk, hk', go_sem, ↓reduceIte, Nat.reduceEqDiff, Nat.reduceAdd, Nat.reduceLeDiff, Nat.reduceLT, reduceCtorEq, Nat.reduceMul, Nat.reduceSub, Int.reduceEq, Int.reduceLT, Int.reduceLE, Int.reduceToNat]
  repeat' (first
    | ((with_reducible refine cdK_of (fun _ => ?_) (fun _ => ?_)) <;> (try simp only [hk, hk', go_sem, ↓reduceIte, Nat.reduceEqDiff, Nat.reduceAdd, Nat.reduceLeDiff, Nat.reduceLT, reduceCtorEq, Nat.reduceMul, Nat.reduceSub, Int.reduceEq, Int.reduceLT, Int.reduceLE, Int.reduceToNat]))
    | ((with_reducible refine grK_of (fun _ => ?_) (fun _ => ?_)) <;> (try simp only [hk, hk', go_sem, ↓reduceIte, Nat.reduceEqDiff, Nat.reduceAdd, Nat.reduceLeDiff, Nat.reduceLT, reduceCtorEq, Nat.reduceMul, Nat.reduceSub, Int.reduceEq, Int.reduceLT, Int.reduceLE, Int.reduceToNat]))
    | ((with_reducible refine gCall.s (vcIf_of (fun _ => ?_) (fun _ => ?_))) <;> (try simp only [hk, hk', go_sem, ↓reduceIte, Nat.reduceEqDiff, Nat.reduceAdd, Nat.reduceLeDiff, Nat.reduceLT, reduceCtorEq, Nat.reduceMul, Nat.reduceSub, Int.reduceEq, Int.reduceLT, Int.reduceLE, Int.reduceToNat]))
    | ((with_reducible refine ⟨(j + 1, _), ?_, ?_, weak_ok ?_ ?_ (Nat.le_refl _)⟩) <;> (try simp only [hk, hk', go_sem, ↓reduceIte, Nat.reduceEqDiff, Nat.reduceAdd, Nat.reduceLeDiff, Nat.reduceLT, reduceCtorEq, Nat.reduceMul, Nat.reduceSub, Int.reduceEq, Int.reduceLT, Int.reduceLE, Int.reduceToNat]))
    | with_reducible exact Sub.refl _
    | ((with_reducible refine Sub.cons ?_ ?_) <;> (try simp only [hk, hk', go_sem, ↓reduceIte, Nat.reduceEqDiff, Nat.reduceAdd, Nat.reduceLeDiff, Nat.reduceLT, reduceCtorEq, Nat.reduceMul, Nat.reduceSub, Int.reduceEq, Int.reduceLT, Int.reduceLE, Int.reduceToNat]))
    | ((with_reducible refine Sub.base hf ?_); try simp only [hk, hk', go_sem, ↓reduceIte, Nat.reduceEqDiff, Nat.reduceAdd, Nat.reduceLeDiff, Nat.reduceLT, reduceCtorEq, Nat.reduceMul, Nat.reduceSub, Int.reduceEq, Int.reduceLT, Int.reduceLE, Int.reduceToNat])
    | ((with_reducible refine getK.m ?_ (fun _ _ => ?_)); rotate_left; try simp only [hk, hk', go_sem, ↓reduceIte, Nat.reduceEqDiff, Nat.reduceAdd, Nat.reduceLeDiff, Nat.reduceLT, reduceCtorEq, Nat.reduceMul, Nat.reduceSub, Int.reduceEq, Int.reduceLT, Int.reduceLE, Int.reduceToNat])
    | exact mapC_all (fun _ => rfl)
    | exact mapC_alln (fun _ => ⟨rfl, rfl⟩)
    | with_reducible refine And.intro ?_ ?_)
  all_goals clear hf
  all_goals grind [List.take_add_one]
theorem ex_ok (hp : CH) (m : Nat) : MeetsF Try.prog 8 hp m [] (.b true) := by
  have h0 : chk ⟨5, 7, 258, 0, ⟨#[97]⟩⟩ = 0 := by decide
  have h1 : putS ⟨5, 7, 258, 0, ⟨#[97]⟩⟩ = [5, 0, 0, 0, 7, 0, 0, 1, 2, 0, 0, 0, 0, 0, 0, 0, 1, 97] := by decide
  have h2 : putB ⟨5, 7, 258, 0, ⟨#[97]⟩⟩ = [5, 0, 0, 0, 7, 0, 0, 1, 2, 0, 0, 0, 0, 0, 0, 0, 1, 97] := by decide
  have g1 : getS [5, 0, 0, 0, 7, 0, 0, 1, 2, 0, 0, 0, 0, 0, 0, 0, 1, 97, 9] = (⟨5, 7, 258, 0, ⟨#[97]⟩⟩, [9], 0) := by
    have := getS_put ⟨5, 7, 258, 0, ⟨#[97]⟩⟩ h0 [9]
    rwa [h2] at this
  have g2 : getS [5, 0, 0, 0, 7, 0, 0, 1, 2, 0, 0, 0, 0, 0, 0, 0] = (zFr, [], 8) := by
    have := getS_cut ⟨5, 7, 258, 0, ⟨#[97]⟩⟩ h0 16 (by decide)
    rwa [h2] at this
  have c1 : chk ⟨1, 0, 0, 0, ⟨#[]⟩⟩ = 0 := by decide
  have c2 : chk ⟨4, 0, 0, 0, ⟨#[]⟩⟩ = 0 := by decide
  have b1 : putB ⟨1, 0, 0, 0, ⟨#[]⟩⟩ = [1, 0, 0, 0, 0, 0, 0, 0, 0, 0, 0, 0, 0, 0, 0, 0, 0] := by decide
  have b2 : putB ⟨4, 0, 0, 0, ⟨#[]⟩⟩ = [4, 0, 0, 0, 0, 0, 0, 0, 0, 0, 0, 0, 0, 0, 0, 0, 0] := by decide
  have g3 : getS [1, 0, 0, 0, 0, 0, 0, 0, 0, 0, 0, 0, 0, 0, 0, 0, 0, 4] = (⟨1, 0, 0, 0, ⟨#[]⟩⟩, [4], 0) := by
    have := getS_put ⟨1, 0, 0, 0, ⟨#[]⟩⟩ c1 [4]
    rwa [b1] at this
  have g4 : getS [4] = (zFr, [], 8) := by
    have := getS_cut ⟨4, 0, 0, 0, ⟨#[]⟩⟩ c2 1 (by decide)
    rwa [b2] at this
  have g5 : allS [1, 0, 0, 0, 0, 0, 0, 0, 0, 0, 0, 0, 0, 0, 0, 0, 0, 4] = ([⟨1, 0, 0, 0, ⟨#[]⟩⟩], [4], 0) := by
    show allN (17 + 1 + 1) _ = _
    rw [allN, g3]
    dsimp only
    rw [if_pos rfl, allN, g4]
    simp
  clear h2 b1 b2 c1 c2 g3 g4
  refine meetsF Try.func8 (by kernel_rfl) cc8 cr8 rfl fun hf => ?_; unfold ck8
  simp only [go_sem, ↓reduceIte, Nat.reduceEqDiff, Nat.reduceAdd, Nat.reduceLeDiff, Nat.reduceLT, reduceCtorEq, Nat.reduceMul, Nat.reduceSub, Int.reduceEq, Int.reduceLT, Int.reduceLE, Int.reduceToNat]
  refine vcCall.x (put_r ⟨5, 7, 258, 0, ⟨#[97]⟩⟩ (by decide) _ _) ?_
  rw [h1]
  simp only [go_sem, ↓reduceIte, Nat.reduceEqDiff, Nat.reduceAdd, Nat.reduceLeDiff, Nat.reduceLT, reduceCtorEq, Nat.reduceMul, Nat.reduceSub, Int.reduceEq, Int.reduceLT, Int.reduceLE, Int.reduceToNat]
  simp only [h0, go_sem, ↓reduceIte, Nat.reduceEqDiff, Nat.reduceAdd, Nat.reduceLeDiff, Nat.reduceLT, reduceCtorEq, Nat.reduceMul, Nat.reduceSub, Int.reduceEq, Int.reduceLT, Int.reduceLE, Int.reduceToNat]
  refine gCall_t (vcCall.f (same_r [5, 0, 0, 0, 7, 0, 0, 1, 2, 0, 0, 0, 0, 0, 0, 0, 1, 97] [5, 0, 0, 0, 7, 0, 0, 1, 2, 0, 0, 0, 0, 0, 0, 0, 1, 97] (by decide) _ _ _ _ _ _ (by simp only [go_sem, ↓reduceIte, Nat.reduceEqDiff, Nat.reduceAdd, Nat.reduceLeDiff, Nat.reduceLT, reduceCtorEq, Nat.reduceMul, Nat.reduceSub, Int.reduceEq, Int.reduceLT, Int.reduceLE, Int.reduceToNat]) (by simp only [go_sem, ↓reduceIte, Nat.reduceEqDiff, Nat.reduceAdd, Nat.reduceLeDiff, Nat.reduceLT, reduceCtorEq, Nat.reduceMul, Nat.reduceSub, Int.reduceEq, Int.reduceLT, Int.reduceLE, Int.reduceToNat] <;> rfl)) ?_)
  simp only [go_sem, ↓reduceIte, Nat.reduceEqDiff, Nat.reduceAdd, Nat.reduceLeDiff, Nat.reduceLT, reduceCtorEq, Nat.reduceMul, Nat.reduceSub, Int.reduceEq, Int.reduceLT, Int.reduceLE, Int.reduceToNat]
  refine vcCall.f (get_ok [5, 0, 0, 0, 7, 0, 0, 1, 2, 0, 0, 0, 0, 0, 0, 0, 1, 97, 9] (by decide) _ _) ?_
  rw [g1]
  simp only [go_sem, ↓reduceIte, Nat.reduceEqDiff, Nat.reduceAdd, Nat.reduceLeDiff, Nat.reduceLT, reduceCtorEq, Nat.reduceMul, Nat.reduceSub, Int.reduceEq, Int.reduceLT, Int.reduceLE, Int.reduceToNat]
  refine ⟨byC_ones [5, 0, 0, 0, 7, 0, 0, 1, 2, 0, 0, 0, 0, 0, 0, 0, 1, 97], ?_⟩
  refine vcCall.f (get_ok [5, 0, 0, 0, 7, 0, 0, 1, 2, 0, 0, 0, 0, 0, 0, 0] (by decide) _ _) ?_
  rw [g2]
  simp only [go_sem, ↓reduceIte, Nat.reduceEqDiff, Nat.reduceAdd, Nat.reduceLeDiff, Nat.reduceLT, reduceCtorEq, Nat.reduceMul, Nat.reduceSub, Int.reduceEq, Int.reduceLT, Int.reduceLE, Int.reduceToNat]
  refine vcCall.p (args' := [.ds (byC [1, 0, 0, 0, 0, 0, 0, 0, 0, 0, 0, 0, 0, 0, 0, 0, 0, 4])]) (all_ok [1, 0, 0, 0, 0, 0, 0, 0, 0, 0, 0, 0, 0, 0, 0, 0, 0, 4] (by decide) _ _) (by simp only [go_sem, ↓reduceIte, Nat.reduceEqDiff, Nat.reduceAdd, Nat.reduceLeDiff, Nat.reduceLT, reduceCtorEq, Nat.reduceMul, Nat.reduceSub, Int.reduceEq, Int.reduceLT, Int.reduceLE, Int.reduceToNat] <;> rfl) ?_
  rw [g5]
  simp only [go_sem, ↓reduceIte, Nat.reduceEqDiff, Nat.reduceAdd, Nat.reduceLeDiff, Nat.reduceLT, reduceCtorEq, Nat.reduceMul, Nat.reduceSub, Int.reduceEq, Int.reduceLT, Int.reduceLE, Int.reduceToNat]
  have u9 : ((UInt8.toNat 9 : Nat) : Int) = 9 := rfl
  have e3 : decide (chk ⟨5, 7, 258, 0, ⟨#[97]⟩⟩ = 0) = true := by decide
  have e4 : decide (chk ⟨4, 1, 0, 0, ⟨#[]⟩⟩ = 0) = false := by decide
  refine gCall.f (fun _ => right_ok ⟨5, 7, 258, 0, ⟨#[97]⟩⟩ _ _) ?_
  rw [e3]
  simp only [u9, go_sem, ↓reduceIte, Nat.reduceEqDiff, Nat.reduceAdd, Nat.reduceLeDiff, Nat.reduceLT, reduceCtorEq, Nat.reduceMul, Nat.reduceSub, Int.reduceEq, Int.reduceLT, Int.reduceLE, Int.reduceToNat]
  refine gCall.f (fun _ => right_ok ⟨4, 1, 0, 0, ⟨#[]⟩⟩ _ _) ?_
  rw [e4]
  simp only [u9, go_sem, ↓reduceIte, Nat.reduceEqDiff, Nat.reduceAdd, Nat.reduceLeDiff, Nat.reduceLT, reduceCtorEq, Nat.reduceMul, Nat.reduceSub, Int.reduceEq, Int.reduceLT, Int.reduceLE, Int.reduceToNat]
end Go.Proofs.Ytnkddjdjiibkfaa
