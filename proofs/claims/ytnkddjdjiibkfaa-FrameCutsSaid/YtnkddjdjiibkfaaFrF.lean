/-
  All frames of bytes. Conditions: none.
-/
import Derived.Test.YtnkddjdjiibkfaaFrE
namespace Go.Proofs.Ytnkddjdjiibkfaa
open Go.Eng
set_option linter.unusedVariables false
set_option linter.unusedSimpArgs false
set_option maxRecDepth 20000
/-- All frames, the rest, the error; n: so many at the most. -/
noncomputable def allN : Nat → List UInt8 → List Frm × List UInt8 × Int
  | 0, l => ([], l, 0)
  | n + 1, l => if (getS l).2.2 = 0 then ((getS l).1 :: (allN n (getS l).2.1).1, (allN n (getS l).2.1).2) else if (getS l).2.2 = 8 then ([], l, 0) else ([], l, (getS l).2.2)
noncomputable def allS (l : List UInt8) : List Frm × List UInt8 × Int := allN (l.length + 1) l
def resA (x : List Frm × List UInt8 × Int) : AV := .tp [.ds (mapC frC x.1), .ds (byC x.2.1), .i .i64 x.2.2]
attribute [go_sem] resG resA
theorem getS_ok {l : List UInt8} (h : (getS l).2.2 = 0) : (getS l).2.1.length + 17 ≤ l.length := by
  have := numAt_nn l 13
  unfold getS at h ⊢
  grind
theorem all_ok' (l : List UInt8) (hL : l.length ≤ 100000) (hp : CH) (m : Nat) : MeetsF Try.prog 17 hp m [.ds (byC l)] (resA (allS l)) := by
  refine meetsF Try.func17 (by kernel_rfl) cc17 cr17 rfl fun hf => ?_; unfold ck17
  simp only [go_sem, ↓reduceIte, Nat.reduceEqDiff, Nat.reduceAdd, Nat.reduceLeDiff, Nat.reduceLT, reduceCtorEq, Nat.reduceMul, Nat.reduceSub, Int.reduceEq, Int.reduceLT, Int.reduceLE, Int.reduceToNat]
  refine loop (fun p : (List Frm × List UInt8) × (Nat × Nat) => ⟨[(0, .ds (byC p.1.2)), (5, .rw m p.1.1.length p.1.1.length)], (m, .rw p.1.1.length 5 (mapC frC p.1.1)) :: hp, p.2.2⟩)
    (fun p => allS l = (p.1.1 ++ (allN p.2.1 p.1.2).1, (allN p.2.1 p.1.2).2) ∧ p.1.2.length < p.2.1 ∧ p.1.1.length + p.1.2.length ≤ l.length ∧ m + 1 ≤ p.2.2) (fun p => p.2.1) (([], l), (l.length + 1, m + 1)) ?_ ?_ (fun ⟨⟨acc, rest⟩, ⟨fu, n⟩⟩ hj => ?_)
  · grind [allS]
  · refine (weak_e0 (t := 5) (m := 5) ?_).trans (weak_ok ?_ (Sub.cons ?_ (Sub.base hf ?_)) (Nat.le_refl _))
    all_goals simp only [go_sem, ↓reduceIte, Nat.reduceEqDiff, Nat.reduceAdd, Nat.reduceLeDiff, Nat.reduceLT, reduceCtorEq, Nat.reduceMul, Nat.reduceSub, Int.reduceEq, Int.reduceLT, Int.reduceLE, Int.reduceToNat]
  dsimp only at hj
  obtain ⟨fu, rfl⟩ : ∃ f, fu = f + 1 := ⟨fu - 1, by grind⟩
  have hne : n ≠ m := by omega
  have hne' : m ≠ n := by omega
  have hmn : m ≤ n := by omega
  simp only [hne, hne', go_sem, ↓reduceIte, Nat.reduceEqDiff, Nat.reduceAdd, Nat.reduceLeDiff, Nat.reduceLT, reduceCtorEq, Nat.reduceMul, Nat.reduceSub, Int.reduceEq, Int.reduceLT, Int.reduceLE, Int.reduceToNat]
  have hg := @getS_ok rest
  repeat' (first
    | ((with_reducible refine cdK_of (fun _ => ?_) (fun _ => ?_)) <;> (try simp only [hne, hne', hmn, go_sem, ↓reduceIte, Nat.reduceEqDiff, Nat.reduceAdd, Nat.reduceLeDiff, Nat.reduceLT, reduceCtorEq, Nat.reduceMul, Nat.reduceSub, Int.reduceEq, Int.reduceLT, Int.reduceLE, Int.reduceToNat]))
    | ((with_reducible apply vcCall.f); exact get_ok' rest (by grind) _ _; try simp only [hne, hne', hmn, go_sem, ↓reduceIte, Nat.reduceEqDiff, Nat.reduceAdd, Nat.reduceLeDiff, Nat.reduceLT, reduceCtorEq, Nat.reduceMul, Nat.reduceSub, Int.reduceEq, Int.reduceLT, Int.reduceLE, Int.reduceToNat])
    | ((with_reducible apply gCall.f); exact fun _ => get_ok' rest (by grind) _ _; try simp only [hne, hne', hmn, go_sem, ↓reduceIte, Nat.reduceEqDiff, Nat.reduceAdd, Nat.reduceLeDiff, Nat.reduceLT, reduceCtorEq, Nat.reduceMul, Nat.reduceSub, Int.reduceEq, Int.reduceLT, Int.reduceLE, Int.reduceToNat])
    | ((with_reducible apply dCall.f); exact fun _ _ _ => get_ok' rest (by grind) _ _; try simp only [hne, hne', hmn, go_sem, ↓reduceIte, Nat.reduceEqDiff, Nat.reduceAdd, Nat.reduceLeDiff, Nat.reduceLT, reduceCtorEq, Nat.reduceMul, Nat.reduceSub, Int.reduceEq, Int.reduceLT, Int.reduceLE, Int.reduceToNat])
    | ((with_reducible apply vcCall.p); exact get_ok' rest (by grind) _ _; (focus (simp only [hne, hne', hmn, go_sem, ↓reduceIte, Nat.reduceEqDiff, Nat.reduceAdd, Nat.reduceLeDiff, Nat.reduceLT, reduceCtorEq, Nat.reduceMul, Nat.reduceSub, Int.reduceEq, Int.reduceLT, Int.reduceLE, Int.reduceToNat]; done)); try simp only [hne, hne', hmn, go_sem, ↓reduceIte, Nat.reduceEqDiff, Nat.reduceAdd, Nat.reduceLeDiff, Nat.reduceLT, reduceCtorEq, Nat.reduceMul, Nat.reduceSub, Int.reduceEq, Int.reduceLT, Int.reduceLE, Int.reduceToNat])
    | ((with_reducible refine grK_of (fun _ => ?_) (fun _ => ?_)) <;> (try simp only [hne, hne', hmn, go_sem, ↓reduceIte, Nat.reduceEqDiff, Nat.reduceAdd, Nat.reduceLeDiff, Nat.reduceLT, reduceCtorEq, Nat.reduceMul, Nat.reduceSub, Int.reduceEq, Int.reduceLT, Int.reduceLE, Int.reduceToNat]))
    | ((with_reducible refine gCall.s (vcIf_of (fun _ => ?_) (fun _ => ?_))) <;> (try simp only [hne, hne', hmn, go_sem, ↓reduceIte, Nat.reduceEqDiff, Nat.reduceAdd, Nat.reduceLeDiff, Nat.reduceLT, reduceCtorEq, Nat.reduceMul, Nat.reduceSub, Int.reduceEq, Int.reduceLT, Int.reduceLE, Int.reduceToNat]))
    | ((with_reducible refine ⟨((acc ++ [(getS rest).1], (getS rest).2.1), (fu, _)), ?_, ?_, weak_ok ?_ ?_ (Nat.le_refl _)⟩) <;> (try simp only [hne, hne', hmn, go_sem, ↓reduceIte, Nat.reduceEqDiff, Nat.reduceAdd, Nat.reduceLeDiff, Nat.reduceLT, reduceCtorEq, Nat.reduceMul, Nat.reduceSub, Int.reduceEq, Int.reduceLT, Int.reduceLE, Int.reduceToNat]))
    | with_reducible exact Sub.refl _
    | ((with_reducible refine Sub.cons ?_ ?_) <;> (try simp only [hne, hne', hmn, go_sem, ↓reduceIte, Nat.reduceEqDiff, Nat.reduceAdd, Nat.reduceLeDiff, Nat.reduceLT, reduceCtorEq, Nat.reduceMul, Nat.reduceSub, Int.reduceEq, Int.reduceLT, Int.reduceLE, Int.reduceToNat]))
    | ((with_reducible refine Sub.base hf ?_); try simp only [hne, hne', hmn, go_sem, ↓reduceIte, Nat.reduceEqDiff, Nat.reduceAdd, Nat.reduceLeDiff, Nat.reduceLT, reduceCtorEq, Nat.reduceMul, Nat.reduceSub, Int.reduceEq, Int.reduceLT, Int.reduceLE, Int.reduceToNat])
    | ((with_reducible refine getK.m ?_ (fun _ _ => ?_)); rotate_left; try simp only [hne, hne', hmn, go_sem, ↓reduceIte, Nat.reduceEqDiff, Nat.reduceAdd, Nat.reduceLeDiff, Nat.reduceLT, reduceCtorEq, Nat.reduceMul, Nat.reduceSub, Int.reduceEq, Int.reduceLT, Int.reduceLE, Int.reduceToNat])
    | exact mapC_all (fun _ => rfl)
    | exact mapC_alln (fun _ => ⟨rfl, rfl⟩)
    | with_reducible refine And.intro ?_ ?_)
  all_goals clear hf
  all_goals grind [allN, frC]
theorem all_ok (l : List UInt8) (hL : l.length ≤ 100000) (hp : CH) (m : Nat) : MeetsF Try.prog 16 hp m [.ds (byC l)] (resA (allS l)) := by
  refine meetsF Try.func16 (by kernel_rfl) cc16 cr16 rfl fun hf => ?_; unfold ck16
  simp only [go_sem, ↓reduceIte, Nat.reduceEqDiff, Nat.reduceAdd, Nat.reduceLeDiff, Nat.reduceLT, reduceCtorEq, Nat.reduceMul, Nat.reduceSub, Int.reduceEq, Int.reduceLT, Int.reduceLE, Int.reduceToNat]
  refine ⟨by omega, by omega, ?_⟩
  refine loop (fun p : (List Frm × List UInt8) × (Nat × Nat) => ⟨[(6, .ds (byC p.1.2)), (5, .rw (m + 1) p.1.1.length p.1.1.length)], (m + 1, .rw p.1.1.length 5 (mapC frC p.1.1)) :: hp, p.2.2⟩)
    (fun p => allS l = (p.1.1 ++ (allN p.2.1 p.1.2).1, (allN p.2.1 p.1.2).2) ∧ p.1.2.length < p.2.1 ∧ p.1.1.length + p.1.2.length ≤ l.length ∧ m + 2 ≤ p.2.2) (fun p => p.2.1) (([], l), (l.length + 1, m + 2)) ?_ ?_ (fun ⟨⟨acc, rest⟩, ⟨fu, n⟩⟩ hj => ?_)
  · grind [allS]
  · refine (weak_e0 (t := 5) (m := 5) ?_).trans ((weak_sh (t := 6) (k := m) (g := 0) (len := l.length) (m := 1) (l := byC l) ?_ ?_ ?_).trans (weak_ok ?_ (Sub.cons ?_ (Sub.base hf ?_)) (Nat.le_refl _)))
    all_goals simp only [go_sem, ↓reduceIte, Nat.reduceEqDiff, Nat.reduceAdd, Nat.reduceLeDiff, Nat.reduceLT, reduceCtorEq, Nat.reduceMul, Nat.reduceSub, Int.reduceEq, Int.reduceLT, Int.reduceLE, Int.reduceToNat]
  dsimp only at hj
  obtain ⟨fu, rfl⟩ : ∃ f, fu = f + 1 := ⟨fu - 1, by grind⟩
  have hne : n ≠ m + 1 := by omega
  have hne' : m + 1 ≠ n := by omega
  have hmn : m ≤ n := by omega
  simp only [hne, hne', go_sem, ↓reduceIte, Nat.reduceEqDiff, Nat.reduceAdd, Nat.reduceLeDiff, Nat.reduceLT, reduceCtorEq, Nat.reduceMul, Nat.reduceSub, Int.reduceEq, Int.reduceLT, Int.reduceLE, Int.reduceToNat]
  have hg := @getS_ok rest
  repeat' (first
    | ((with_reducible refine cdK_of (fun _ => ?_) (fun _ => ?_)) <;> (try simp only [hne, hne', hmn, go_sem, ↓reduceIte, Nat.reduceEqDiff, Nat.reduceAdd, Nat.reduceLeDiff, Nat.reduceLT, reduceCtorEq, Nat.reduceMul, Nat.reduceSub, Int.reduceEq, Int.reduceLT, Int.reduceLE, Int.reduceToNat]))
    | ((with_reducible apply vcCall.f); exact get_ok rest (by grind) _ _; try simp only [hne, hne', hmn, go_sem, ↓reduceIte, Nat.reduceEqDiff, Nat.reduceAdd, Nat.reduceLeDiff, Nat.reduceLT, reduceCtorEq, Nat.reduceMul, Nat.reduceSub, Int.reduceEq, Int.reduceLT, Int.reduceLE, Int.reduceToNat])
    | ((with_reducible apply gCall.f); exact fun _ => get_ok rest (by grind) _ _; try simp only [hne, hne', hmn, go_sem, ↓reduceIte, Nat.reduceEqDiff, Nat.reduceAdd, Nat.reduceLeDiff, Nat.reduceLT, reduceCtorEq, Nat.reduceMul, Nat.reduceSub, Int.reduceEq, Int.reduceLT, Int.reduceLE, Int.reduceToNat])
    | ((with_reducible apply dCall.f); exact fun _ _ _ => get_ok rest (by grind) _ _; try simp only [hne, hne', hmn, go_sem, ↓reduceIte, Nat.reduceEqDiff, Nat.reduceAdd, Nat.reduceLeDiff, Nat.reduceLT, reduceCtorEq, Nat.reduceMul, Nat.reduceSub, Int.reduceEq, Int.reduceLT, Int.reduceLE, Int.reduceToNat])
    | ((with_reducible apply vcCall.p); exact get_ok rest (by grind) _ _; (focus (simp only [hne, hne', hmn, go_sem, ↓reduceIte, Nat.reduceEqDiff, Nat.reduceAdd, Nat.reduceLeDiff, Nat.reduceLT, reduceCtorEq, Nat.reduceMul, Nat.reduceSub, Int.reduceEq, Int.reduceLT, Int.reduceLE, Int.reduceToNat]; done)); try simp only [hne, hne', hmn, go_sem, ↓reduceIte, Nat.reduceEqDiff, Nat.reduceAdd, Nat.reduceLeDiff, Nat.reduceLT, reduceCtorEq, Nat.reduceMul, Nat.reduceSub, Int.reduceEq, Int.reduceLT, Int.reduceLE, Int.reduceToNat])
    | ((with_reducible refine grK_of (fun _ => ?_) (fun _ => ?_)) <;> (try simp only [hne, hne', hmn, go_sem, ↓reduceIte, Nat.reduceEqDiff, Nat.reduceAdd, Nat.reduceLeDiff, Nat.reduceLT, reduceCtorEq, Nat.reduceMul, Nat.reduceSub, Int.reduceEq, Int.reduceLT, Int.reduceLE, Int.reduceToNat]))
    | ((with_reducible refine gCall.s (vcIf_of (fun _ => ?_) (fun _ => ?_))) <;> (try simp only [hne, hne', hmn, go_sem, ↓reduceIte, Nat.reduceEqDiff, Nat.reduceAdd, Nat.reduceLeDiff, Nat.reduceLT, reduceCtorEq, Nat.reduceMul, Nat.reduceSub, Int.reduceEq, Int.reduceLT, Int.reduceLE, Int.reduceToNat]))
    | ((with_reducible refine ⟨((acc ++ [(getS rest).1], (getS rest).2.1), (fu, _)), ?_, ?_, weak_ok ?_ ?_ (Nat.le_refl _)⟩) <;> (try simp only [hne, hne', hmn, go_sem, ↓reduceIte, Nat.reduceEqDiff, Nat.reduceAdd, Nat.reduceLeDiff, Nat.reduceLT, reduceCtorEq, Nat.reduceMul, Nat.reduceSub, Int.reduceEq, Int.reduceLT, Int.reduceLE, Int.reduceToNat]))
    | with_reducible exact Sub.refl _
    | ((with_reducible refine Sub.cons ?_ ?_) <;> (try simp only [hne, hne', hmn, go_sem, ↓reduceIte, Nat.reduceEqDiff, Nat.reduceAdd, Nat.reduceLeDiff, Nat.reduceLT, reduceCtorEq, Nat.reduceMul, Nat.reduceSub, Int.reduceEq, Int.reduceLT, Int.reduceLE, Int.reduceToNat]))
    | ((with_reducible refine Sub.base hf ?_); try simp only [hne, hne', hmn, go_sem, ↓reduceIte, Nat.reduceEqDiff, Nat.reduceAdd, Nat.reduceLeDiff, Nat.reduceLT, reduceCtorEq, Nat.reduceMul, Nat.reduceSub, Int.reduceEq, Int.reduceLT, Int.reduceLE, Int.reduceToNat])
    | ((with_reducible refine getK.m ?_ (fun _ _ => ?_)); rotate_left; try simp only [hne, hne', hmn, go_sem, ↓reduceIte, Nat.reduceEqDiff, Nat.reduceAdd, Nat.reduceLeDiff, Nat.reduceLT, reduceCtorEq, Nat.reduceMul, Nat.reduceSub, Int.reduceEq, Int.reduceLT, Int.reduceLE, Int.reduceToNat])
    | exact mapC_all (fun _ => rfl)
    | exact mapC_alln (fun _ => ⟨rfl, rfl⟩)
    | with_reducible refine And.intro ?_ ?_)
  all_goals clear hf
  all_goals try grind [allN, frC]
end Go.Proofs.Ytnkddjdjiibkfaa
