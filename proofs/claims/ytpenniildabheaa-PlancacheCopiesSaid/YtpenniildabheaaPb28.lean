/-
  The parts PcG of the proof, in one file. Conditions: none.
-/
import Derived.Test.YtpenniildabheaaPb27
namespace Go.Proofs.Ytpenniildabheaa
open Go.Eng
set_option linter.unusedVariables false
set_option linter.unusedSimpArgs false
set_option maxRecDepth 20000
set_option maxHeartbeats 1000000
theorem ite_ne {α : Type} {k j : Nat} (h : ¬ k = j) (a b : α) : (if k = j then a else b) = b := if_neg h
/-- A loop that is left at once. -/
theorem loop0 {P : Program} {c : CC} {st : St} {Q : Exit → St → Prop} (h : vc P c st (loopQ (fun _ : Unit => st) (fun _ => True) (fun _ => 0) () Q)) : vcLoop (vc P c) st Q := loop (fun _ : Unit => st) (fun _ => True) (fun _ => 0) () trivial (Weak.refl _) fun _ _ => h
def pkA : List AV := [.s ⟨#[97]⟩, .s ⟨#[81, 117, 101, 114, 121]⟩, .s ⟨#[97]⟩, .ds [], .s ⟨#[73, 110, 116]⟩, .ds [[.i .i64 1]], .s ⟨#[]⟩, .i .i64 (-1), .ds []]
def fetC (n : Int) : List AV := [.i .i64 n, .i .i64 1, .ds [[.s ⟨#[81, 117, 101, 114, 121]⟩, .s ⟨#[97]⟩]], .s ⟨#[81, 117, 101, 114, 121]⟩, .ds [[.s ⟨#[105, 100]⟩]], .i .i64 0, .ds [pkA], .ds [[.i .i64 n]]]
def planC (n : Int) : List AV := [.i .i64 1, .ds [pkA], .ds [fetC n]]
theorem plans_ok (n : Int) (hp : CH) (m : Nat) : MeetsF Try.prog 10 hp m [.i .i64 n] (.ds [planC n]) := by
  refine meetsF Try.func10 (by kernel_rfl) cc10 cr10 rfl fun hf => ?_; unfold ck10
  simp (disch := omega) only [ite_ne, go_sem, ↓reduceIte, Nat.reduceEqDiff, Nat.reduceBEq, Nat.reduceAdd, Nat.reduceLeDiff, Nat.reduceLT, reduceCtorEq, Nat.reduceMul, Nat.reduceSub, Int.reduceEq, Int.reduceLT, Int.reduceLE, Int.reduceToNat]
  try rfl
theorem number_ok (n : Int) (hp : CH) (m : Nat) : MeetsF Try.prog 12 hp m [.ds [planC n]] (.tp [.i .i64 n, .b true]) := by
  refine meetsF Try.func12 (by kernel_rfl) cc12 cr12 rfl fun hf => ?_; unfold ck12
  simp (disch := omega) only [ite_ne, planC, fetC, pkA, go_sem, ↓reduceIte, Nat.reduceEqDiff, Nat.reduceBEq, Nat.reduceAdd, Nat.reduceLeDiff, Nat.reduceLT, reduceCtorEq, Nat.reduceMul, Nat.reduceSub, Int.reduceEq, Int.reduceLT, Int.reduceLE, Int.reduceToNat]
  try rfl
theorem cloneI_ok (l : List Int) (h : l.length * 8 ≤ 140737488355327) (hp : CH) (m : Nat) : MeetsF Try.prog 40 hp m [.ds (mapC in1 l)] (.ds (mapC in1 l)) := by
  refine meetsF Try.func40 (by kernel_rfl) cc40 cr40 rfl fun hf => ?_; unfold ck40
  simp only [go_sem, ↓reduceIte, Nat.reduceEqDiff, Nat.reduceBEq, Nat.reduceAdd, Nat.reduceLeDiff, Nat.reduceLT, reduceCtorEq, Nat.reduceMul, Nat.reduceSub, Int.reduceEq, Int.reduceLT, Int.reduceLE, Int.reduceToNat]
  exact ⟨fun e => by rw [e], by omega, by omega⟩
theorem cloneH_ok (hp : CH) (m : Nat) : MeetsF Try.prog 38 hp m [.ds [[.s ⟨#[81, 117, 101, 114, 121]⟩, .s ⟨#[97]⟩]]] (.ds [[.s ⟨#[81, 117, 101, 114, 121]⟩, .s ⟨#[97]⟩]]) := by
  refine meetsF Try.func38 (by kernel_rfl) cc38 cr38 rfl fun hf => ?_; unfold ck38
  simp only [go_sem, ↓reduceIte, Nat.reduceEqDiff, Nat.reduceBEq, Nat.reduceAdd, Nat.reduceLeDiff, Nat.reduceLT, reduceCtorEq, Nat.reduceMul, Nat.reduceSub, Int.reduceEq, Int.reduceLT, Int.reduceLE, Int.reduceToNat]
  try simp
theorem cpk0 (hp : CH) (m : Nat) : MeetsF Try.prog 37 hp m [.ds []] (.ds []) := by
  refine meetsF Try.func37 (by kernel_rfl) cc37 cr37 rfl fun hf => ?_; unfold ck37
  simp only [go_sem, ↓reduceIte, Nat.reduceEqDiff, Nat.reduceBEq, Nat.reduceAdd, Nat.reduceLeDiff, Nat.reduceLT, reduceCtorEq, Nat.reduceMul, Nat.reduceSub, Int.reduceEq, Int.reduceLT, Int.reduceLE, Int.reduceToNat]
  refine loop0 ?_
  simp only [go_sem, ↓reduceIte, Nat.reduceEqDiff, Nat.reduceBEq, Nat.reduceAdd, Nat.reduceLeDiff, Nat.reduceLT, reduceCtorEq, Nat.reduceMul, Nat.reduceSub, Int.reduceEq, Int.reduceLT, Int.reduceLE, Int.reduceToNat]
  try rfl
theorem cpk1 (hp : CH) (m : Nat) : MeetsF Try.prog 37 hp m [.ds [pkA]] (.ds [pkA]) := by
  have hc := cloneI_ok [1] (by decide)
  have e1 : mapC in1 [1] = [[AV.i .i64 1]] := rfl
  rw [e1] at hc
  refine meetsF Try.func37 (by kernel_rfl) cc37 cr37 rfl fun hf => ?_; unfold ck37
  simp (disch := omega) only [ite_ne, List.length_cons, List.length_nil, go_sem, ↓reduceIte, Nat.reduceEqDiff, Nat.reduceBEq, Nat.reduceAdd, Nat.reduceLeDiff, Nat.reduceLT, reduceCtorEq, Nat.reduceMul, Nat.reduceSub, Int.reduceEq, Int.reduceLT, Int.reduceLE, Int.reduceToNat]
  refine loop (fun q : Nat × Nat => ⟨[(3, .rw m q.1 q.1), (9, .ds [pkA]), (10, .i .i64 1), (11, .i .i64 q.1)], (m, .rw q.1 9 ([pkA].take q.1)) :: hp, q.2⟩) (fun q => q.1 ≤ 1 ∧ m + 1 ≤ q.2) (fun q => 1 - q.1) (0, m + 1) ?_ ?_ (fun ⟨j, n⟩ hj => ?_)
  · exact ⟨by simp, by simp⟩
  · refine (weak_e0 (t := 3) (m := 9) ?_).trans (weak_ok ?_ (Sub.cons ?_ (Sub.base hf ?_)) (Nat.le_refl _))
    all_goals (simp (disch := omega) only [ite_ne, go_sem, ↓reduceIte, Nat.reduceEqDiff, Nat.reduceBEq, Nat.reduceAdd, Nat.reduceLeDiff, Nat.reduceLT, reduceCtorEq, Nat.reduceMul, Nat.reduceSub, Int.reduceEq, Int.reduceLT, Int.reduceLE, Int.reduceToNat])
    all_goals rfl
  dsimp only at hj
  obtain ⟨hj1, hj2⟩ := hj
  have hmn : m ≤ n := by omega
  match j, hj1 with
  | 0, _ =>
    have hg : ([pkA] : List (List AV))[0]? = some pkA := rfl
    simp (disch := omega) only [ite_ne, List.take_zero, getK_s hg, go_sem, ↓reduceIte, Nat.reduceEqDiff, Nat.reduceBEq, Nat.reduceAdd, Nat.reduceLeDiff, Nat.reduceLT, reduceCtorEq, Nat.reduceMul, Nat.reduceSub, Int.reduceEq, Int.reduceLT, Int.reduceLE, Int.reduceToNat]
    simp only [pkA]
    simp (disch := omega) only [ite_ne, List.take_zero, getK_s hg, go_sem, ↓reduceIte, Nat.reduceEqDiff, Nat.reduceBEq, Nat.reduceAdd, Nat.reduceLeDiff, Nat.reduceLT, reduceCtorEq, Nat.reduceMul, Nat.reduceSub, Int.reduceEq, Int.reduceLT, Int.reduceLE, Int.reduceToNat]
    refine vcCall.f (hc _ _) ?_
    simp (disch := omega) only [ite_ne, go_sem, ↓reduceIte, Nat.reduceEqDiff, Nat.reduceBEq, Nat.reduceAdd, Nat.reduceLeDiff, Nat.reduceLT, reduceCtorEq, Nat.reduceMul, Nat.reduceSub, Int.reduceEq, Int.reduceLT, Int.reduceLE, Int.reduceToNat]
    refine loop0 ?_
    simp (disch := omega) only [ite_ne, go_sem, ↓reduceIte, Nat.reduceEqDiff, Nat.reduceBEq, Nat.reduceAdd, Nat.reduceLeDiff, Nat.reduceLT, reduceCtorEq, Nat.reduceMul, Nat.reduceSub, Int.reduceEq, Int.reduceLT, Int.reduceLE, Int.reduceToNat]
    refine vcCall.f (cpk0 _ _) ?_
    simp (disch := omega) only [ite_ne, List.length_cons, List.length_nil, go_sem, ↓reduceIte, Nat.reduceEqDiff, Nat.reduceBEq, Nat.reduceAdd, Nat.reduceLeDiff, Nat.reduceLT, reduceCtorEq, Nat.reduceMul, Nat.reduceSub, Int.reduceEq, Int.reduceLT, Int.reduceLE, Int.reduceToNat]
    refine ⟨(1, _), ⟨by dsimp only; omega, by dsimp only; omega⟩, by dsimp only; omega, weak_ok ?_ (Sub.cons ?_ (Sub.base hf ?_)) (Nat.le_refl _)⟩
    all_goals try simp only [pkA]
    all_goals (simp (disch := omega) only [ite_ne, hmn, go_sem, ↓reduceIte, Nat.reduceEqDiff, Nat.reduceBEq, Nat.reduceAdd, Nat.reduceLeDiff, Nat.reduceLT, reduceCtorEq, Nat.reduceMul, Nat.reduceSub, Int.reduceEq, Int.reduceLT, Int.reduceLE, Int.reduceToNat])
    all_goals rfl
  | 1, _ =>
    simp only [pkA]
    simp (disch := omega) only [ite_ne, go_sem, ↓reduceIte, Nat.reduceEqDiff, Nat.reduceBEq, Nat.reduceAdd, Nat.reduceLeDiff, Nat.reduceLT, reduceCtorEq, Nat.reduceMul, Nat.reduceSub, Int.reduceEq, Int.reduceLT, Int.reduceLE, Int.reduceToNat]
    try rfl
theorem cpl1 (x : Int) (hp : CH) (m : Nat) : MeetsF Try.prog 29 hp m [.ds [planC x]] (.ds [planC x]) := by
  have hc := cloneI_ok [x] (by simp)
  have e1 : mapC in1 [x] = [[AV.i .i64 x]] := rfl
  rw [e1] at hc
  have hs := clone_ok [⟨#[105, 100]⟩] (by simp)
  have e2 : stC [⟨#[105, 100]⟩] = [[AV.s ⟨#[105, 100]⟩]] := rfl
  rw [e2] at hs
  refine meetsF Try.func29 (by kernel_rfl) cc29 cr29 rfl fun hf => ?_; unfold ck29
  simp (disch := omega) only [ite_ne, List.length_cons, List.length_nil, go_sem, ↓reduceIte, Nat.reduceEqDiff, Nat.reduceBEq, Nat.reduceAdd, Nat.reduceLeDiff, Nat.reduceLT, reduceCtorEq, Nat.reduceMul, Nat.reduceSub, Int.reduceEq, Int.reduceLT, Int.reduceLE, Int.reduceToNat]
  refine loop (fun q : Nat × Nat => ⟨[(3, .rw m q.1 q.1), (9, .ds [planC x]), (10, .i .i64 1), (11, .i .i64 q.1)], (m, .rw q.1 3 ([planC x].take q.1)) :: hp, q.2⟩) (fun q => q.1 ≤ 1 ∧ m + 1 ≤ q.2) (fun q => 1 - q.1) (0, m + 1) ?_ ?_ (fun ⟨j, n⟩ hj => ?_)
  · exact ⟨by simp, by simp⟩
  · refine (weak_e0 (t := 3) (m := 3) ?_).trans (weak_ok ?_ (Sub.cons ?_ (Sub.base hf ?_)) (Nat.le_refl _))
    all_goals (simp (disch := omega) only [ite_ne, go_sem, ↓reduceIte, Nat.reduceEqDiff, Nat.reduceBEq, Nat.reduceAdd, Nat.reduceLeDiff, Nat.reduceLT, reduceCtorEq, Nat.reduceMul, Nat.reduceSub, Int.reduceEq, Int.reduceLT, Int.reduceLE, Int.reduceToNat])
    all_goals rfl
  dsimp only at hj
  obtain ⟨hj1, hj2⟩ := hj
  have hmn : m ≤ n := by omega
  match j, hj1 with
  | 0, _ =>
    have hg : ([planC x] : List (List AV))[0]? = some (planC x) := rfl
    simp (disch := omega) only [ite_ne, List.take_zero, getK_s hg, planC, go_sem, ↓reduceIte, Nat.reduceEqDiff, Nat.reduceBEq, Nat.reduceAdd, Nat.reduceLeDiff, Nat.reduceLT, reduceCtorEq, Nat.reduceMul, Nat.reduceSub, Int.reduceEq, Int.reduceLT, Int.reduceLE, Int.reduceToNat]
    refine dCallR.f (fun _ hp' e => cpk1 _ _) ?_
    simp (disch := omega) only [ite_ne, List.length_cons, List.length_nil, go_sem, ↓reduceIte, Nat.reduceEqDiff, Nat.reduceBEq, Nat.reduceAdd, Nat.reduceLeDiff, Nat.reduceLT, reduceCtorEq, Nat.reduceMul, Nat.reduceSub, Int.reduceEq, Int.reduceLT, Int.reduceLE, Int.reduceToNat]
    refine loop (fun q : Nat × Nat => ⟨[(3, .rw m 0 0), (6, .bx (n + 7) 0), (9, .ds [planC x]), (10, .i .i64 1), (11, .i .i64 0), (22, .ds [fetC x]), (23, .i .i64 1), (24, .i .i64 q.1)], (n + 7, .bx [.i .i64 1, .ds [pkA], .rw (n + 9) q.1 q.1]) :: (n + 9, .rw q.1 8 ([fetC x].take q.1)) :: (m, .rw 0 3 []) :: hp, q.2⟩) (fun q => q.1 ≤ 1 ∧ n + 10 ≤ q.2) (fun q => 1 - q.1) (0, n + 10) ?_ ?_ (fun ⟨i, o⟩ hi => ?_)
    · exact ⟨by simp, by simp⟩
    · refine (weak_b0 (cs := [.i .i64 1, .ds [pkA], .e0]) (c := n + 7) (i := 2) (m := 8) (by (simp (disch := omega) only [ite_ne, go_sem, ↓reduceIte, Nat.reduceEqDiff, Nat.reduceBEq, Nat.reduceAdd, Nat.reduceLeDiff, Nat.reduceLT, reduceCtorEq, Nat.reduceMul, Nat.reduceSub, Int.reduceEq, Int.reduceLT, Int.reduceLE, Int.reduceToNat])) rfl).trans (weak_ok ?_ (Sub.cons ?_ (Sub.cons ?_ (Sub.cons ?_ (Sub.base hf ?_)))) (Nat.le_refl _))
      all_goals (simp (disch := omega) only [ite_ne, go_sem, ↓reduceIte, Nat.reduceEqDiff, Nat.reduceBEq, Nat.reduceAdd, Nat.reduceLeDiff, Nat.reduceLT, reduceCtorEq, Nat.reduceMul, Nat.reduceSub, Int.reduceEq, Int.reduceLT, Int.reduceLE, Int.reduceToNat])
      all_goals rfl
    dsimp only at hi
    obtain ⟨hi1, hi2⟩ := hi
    match i, hi1 with
    | 0, _ =>
      have hg2 : ([fetC x] : List (List AV))[0]? = some (fetC x) := rfl
      simp (disch := omega) only [ite_ne, List.take_zero, getK_s hg2, fetC, go_sem, ↓reduceIte, Nat.reduceEqDiff, Nat.reduceBEq, Nat.reduceAdd, Nat.reduceLeDiff, Nat.reduceLT, reduceCtorEq, Nat.reduceMul, Nat.reduceSub, Int.reduceEq, Int.reduceLT, Int.reduceLE, Int.reduceToNat]
      refine dCallR.f (fun _ hp' e => cloneH_ok _ _) ?_
      simp (disch := omega) only [ite_ne, go_sem, ↓reduceIte, Nat.reduceEqDiff, Nat.reduceBEq, Nat.reduceAdd, Nat.reduceLeDiff, Nat.reduceLT, reduceCtorEq, Nat.reduceMul, Nat.reduceSub, Int.reduceEq, Int.reduceLT, Int.reduceLE, Int.reduceToNat]
      refine dCallR.f (fun _ hp' e => hs _ _) ?_
      simp (disch := omega) only [ite_ne, go_sem, ↓reduceIte, Nat.reduceEqDiff, Nat.reduceBEq, Nat.reduceAdd, Nat.reduceLeDiff, Nat.reduceLT, reduceCtorEq, Nat.reduceMul, Nat.reduceSub, Int.reduceEq, Int.reduceLT, Int.reduceLE, Int.reduceToNat]
      refine dCallR.f (fun _ hp' e => hc _ _) ?_
      simp (disch := omega) only [ite_ne, go_sem, ↓reduceIte, Nat.reduceEqDiff, Nat.reduceBEq, Nat.reduceAdd, Nat.reduceLeDiff, Nat.reduceLT, reduceCtorEq, Nat.reduceMul, Nat.reduceSub, Int.reduceEq, Int.reduceLT, Int.reduceLE, Int.reduceToNat]
      refine vcCall.f (cpk1 _ _) ?_
      simp (disch := omega) only [ite_ne, List.length_cons, List.length_nil, go_sem, ↓reduceIte, Nat.reduceEqDiff, Nat.reduceBEq, Nat.reduceAdd, Nat.reduceLeDiff, Nat.reduceLT, reduceCtorEq, Nat.reduceMul, Nat.reduceSub, Int.reduceEq, Int.reduceLT, Int.reduceLE, Int.reduceToNat]
      refine ⟨(1, _), ⟨by dsimp only; omega, by dsimp only; omega⟩, by dsimp only; omega, weak_ok ?_ (Sub.cons ?_ (Sub.cons ?_ (Sub.cons ?_ (Sub.base hf ?_)))) (Nat.le_refl _)⟩
      all_goals (simp (disch := omega) only [ite_ne, hmn, go_sem, ↓reduceIte, Nat.reduceEqDiff, Nat.reduceBEq, Nat.reduceAdd, Nat.reduceLeDiff, Nat.reduceLT, reduceCtorEq, Nat.reduceMul, Nat.reduceSub, Int.reduceEq, Int.reduceLT, Int.reduceLE, Int.reduceToNat])
      all_goals rfl
    | 1, _ =>
      simp (disch := omega) only [ite_ne, List.length_cons, List.length_nil, go_sem, ↓reduceIte, Nat.reduceEqDiff, Nat.reduceBEq, Nat.reduceAdd, Nat.reduceLeDiff, Nat.reduceLT, reduceCtorEq, Nat.reduceMul, Nat.reduceSub, Int.reduceEq, Int.reduceLT, Int.reduceLE, Int.reduceToNat]
      refine ⟨(1, _), ⟨by dsimp only; omega, by dsimp only; omega⟩, by dsimp only; omega, weak_ok ?_ (Sub.cons ?_ (Sub.base hf ?_)) (Nat.le_refl _)⟩
      all_goals try simp only [planC]
      all_goals (simp (disch := omega) only [ite_ne, hmn, go_sem, ↓reduceIte, Nat.reduceEqDiff, Nat.reduceBEq, Nat.reduceAdd, Nat.reduceLeDiff, Nat.reduceLT, reduceCtorEq, Nat.reduceMul, Nat.reduceSub, Int.reduceEq, Int.reduceLT, Int.reduceLE, Int.reduceToNat])
      all_goals rfl
  | 1, _ =>
    simp (disch := omega) only [ite_ne, go_sem, ↓reduceIte, Nat.reduceEqDiff, Nat.reduceBEq, Nat.reduceAdd, Nat.reduceLeDiff, Nat.reduceLT, reduceCtorEq, Nat.reduceMul, Nat.reduceSub, Int.reduceEq, Int.reduceLT, Int.reduceLE, Int.reduceToNat]
    try rfl
end Go.Proofs.Ytpenniildabheaa
