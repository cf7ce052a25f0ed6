/-
  The parts PcCD of the proof, in one file. Conditions: none.
-/
import Derived.Test.YtpenniildabheaaPb47
namespace Go.Proofs.Ytpenniildabheaa
open Go.Eng
set_option linter.unusedVariables false
set_option linter.unusedSimpArgs false
set_option maxRecDepth 20000
set_option maxHeartbeats 2000000
theorem cloneI_row (x : Int) {k g : Nat} {hp : CH} (hk : gc hp k = .rw g 1 [[.i .i64 x]]) (m : Nat) : MeetsF Try.prog 40 hp m [.rw k g 1] (.ds [[.i .i64 x]]) := by
  refine meetsF Try.func40 (by kernel_rfl) cc40 cr40 rfl fun hf => ?_; unfold ck40
  have hlt := rw_lt hf hk
  simp (disch := omega) only [ite_ne, hk, go_sem, ↓reduceIte, Nat.reduceEqDiff, Nat.reduceBEq, Nat.reduceAdd, Nat.reduceLeDiff, Nat.reduceLT, reduceCtorEq, Nat.reduceMul, Nat.reduceSub, Int.reduceEq, Int.reduceLT, Int.reduceLE, Int.reduceToNat]
  try simp
theorem cloneS_row {k g : Nat} {hp : CH} (hk : gc hp k = .rw g 1 [[.s ⟨#[105, 100]⟩]]) (m : Nat) : MeetsF Try.prog 39 hp m [.rw k g 1] (.ds [[.s ⟨#[105, 100]⟩]]) := by
  refine meetsF Try.func39 (by kernel_rfl) cc39 cr39 rfl fun hf => ?_; unfold ck39
  have hlt := rw_lt hf hk
  simp (disch := omega) only [ite_ne, hk, go_sem, ↓reduceIte, Nat.reduceEqDiff, Nat.reduceBEq, Nat.reduceAdd, Nat.reduceLeDiff, Nat.reduceLT, reduceCtorEq, Nat.reduceMul, Nat.reduceSub, Int.reduceEq, Int.reduceLT, Int.reduceLE, Int.reduceToNat]
  try simp
theorem cloneH_row {k g : Nat} {hp : CH} (hk : gc hp k = .rw g 2 [[.s ⟨#[81, 117, 101, 114, 121]⟩, .s ⟨#[97]⟩]]) (m : Nat) : MeetsF Try.prog 38 hp m [.rw k g 1] (.ds [[.s ⟨#[81, 117, 101, 114, 121]⟩, .s ⟨#[97]⟩]]) := by
  refine meetsF Try.func38 (by kernel_rfl) cc38 cr38 rfl fun hf => ?_; unfold ck38
  have hlt := rw_lt hf hk
  simp (disch := omega) only [ite_ne, hk, go_sem, ↓reduceIte, Nat.reduceEqDiff, Nat.reduceBEq, Nat.reduceAdd, Nat.reduceLeDiff, Nat.reduceLT, reduceCtorEq, Nat.reduceMul, Nat.reduceSub, Int.reduceEq, Int.reduceLT, Int.reduceLE, Int.reduceToNat]
  try simp
theorem cpk0e (hp : CH) (m : Nat) : MeetsF Try.prog 37 hp m [.e0] (.ds []) := by
  refine meetsF Try.func37 (by kernel_rfl) cc37 cr37 rfl fun hf => ?_; unfold ck37
  simp only [go_sem, ↓reduceIte, Nat.reduceEqDiff, Nat.reduceBEq, Nat.reduceAdd, Nat.reduceLeDiff, Nat.reduceLT, reduceCtorEq, Nat.reduceMul, Nat.reduceSub, Int.reduceEq, Int.reduceLT, Int.reduceLE, Int.reduceToNat]
  refine loop0 ?_
  simp only [go_sem, ↓reduceIte, Nat.reduceEqDiff, Nat.reduceBEq, Nat.reduceAdd, Nat.reduceLeDiff, Nat.reduceLT, reduceCtorEq, Nat.reduceMul, Nat.reduceSub, Int.reduceEq, Int.reduceLT, Int.reduceLE, Int.reduceToNat]
  try rfl
theorem cpkN (B W gB gW : Nat) (hp : CH) (hB : gc hp B = .rn gB 9 [pkN ⟨#[97]⟩ .e0 (.rw W gW 1) .e0]) (hW : gc hp W = .rw gW 1 [[.i .i64 1]]) (m : Nat) : MeetsF Try.prog 37 hp m [.rw B gB 1] (.ds [pkA]) := by
  have hc := fun hp' (e : gc hp' W = .rw gW 1 [[.i .i64 1]]) m' => cloneI_row 1 e m'
  unfold pkN at hB
  refine meetsF Try.func37 (by kernel_rfl) cc37 cr37 rfl fun hf => ?_; unfold ck37
  have l1 := rn_lt hf hB
  have l2 := rw_lt hf hW
  simp (disch := omega) only [ite_ne, List.length_cons, List.length_nil, hB, go_sem, ↓reduceIte, Nat.reduceEqDiff, Nat.reduceBEq, Nat.reduceAdd, Nat.reduceLeDiff, Nat.reduceLT, reduceCtorEq, Nat.reduceMul, Nat.reduceSub, Int.reduceEq, Int.reduceLT, Int.reduceLE, Int.reduceToNat]
  refine loop (fun q : Nat × Nat => ⟨[(3, .rw m q.1 q.1), (9, .rw B gB 1), (10, .i .i64 1), (11, .i .i64 q.1)], (m, .rw q.1 9 ([pkA].take q.1)) :: hp, q.2⟩) (fun q => q.1 ≤ 1 ∧ m + 1 ≤ q.2) (fun q => 1 - q.1) (0, m + 1) ?_ ?_ (fun ⟨j, n⟩ hj => ?_)
  · exact ⟨by simp, by simp⟩
  · refine (weak_e0 (t := 3) (m := 9) ?_).trans (weak_ok ?_ (Sub.cons ?_ (Sub.base hf ?_)) (Nat.le_refl _))
    all_goals (simp (disch := omega) only [ite_ne, go_sem, ↓reduceIte, Nat.reduceEqDiff, Nat.reduceBEq, Nat.reduceAdd, Nat.reduceLeDiff, Nat.reduceLT, reduceCtorEq, Nat.reduceMul, Nat.reduceSub, Int.reduceEq, Int.reduceLT, Int.reduceLE, Int.reduceToNat])
    all_goals rfl
  dsimp only at hj
  obtain ⟨hj1, hj2⟩ := hj
  have hmn : m ≤ n := by omega
  match j, hj1 with
  | 0, _ =>
    simp (disch := omega) only [ite_ne, List.take_zero, hB, go_sem, ↓reduceIte, Nat.reduceEqDiff, Nat.reduceBEq, Nat.reduceAdd, Nat.reduceLeDiff, Nat.reduceLT, reduceCtorEq, Nat.reduceMul, Nat.reduceSub, Int.reduceEq, Int.reduceLT, Int.reduceLE, Int.reduceToNat]
    refine vcCall.f (hc _ (by (simp (disch := omega) only [ite_ne, hW, go_sem, ↓reduceIte, Nat.reduceEqDiff, Nat.reduceBEq, Nat.reduceAdd, Nat.reduceLeDiff, Nat.reduceLT, reduceCtorEq, Nat.reduceMul, Nat.reduceSub, Int.reduceEq, Int.reduceLT, Int.reduceLE, Int.reduceToNat])) _) ?_
    simp (disch := omega) only [ite_ne, go_sem, ↓reduceIte, Nat.reduceEqDiff, Nat.reduceBEq, Nat.reduceAdd, Nat.reduceLeDiff, Nat.reduceLT, reduceCtorEq, Nat.reduceMul, Nat.reduceSub, Int.reduceEq, Int.reduceLT, Int.reduceLE, Int.reduceToNat]
    refine loop0 ?_
    simp (disch := omega) only [ite_ne, go_sem, ↓reduceIte, Nat.reduceEqDiff, Nat.reduceBEq, Nat.reduceAdd, Nat.reduceLeDiff, Nat.reduceLT, reduceCtorEq, Nat.reduceMul, Nat.reduceSub, Int.reduceEq, Int.reduceLT, Int.reduceLE, Int.reduceToNat]
    refine vcCall.f (cpk0e _ _) ?_
    simp (disch := omega) only [ite_ne, List.length_cons, List.length_nil, go_sem, ↓reduceIte, Nat.reduceEqDiff, Nat.reduceBEq, Nat.reduceAdd, Nat.reduceLeDiff, Nat.reduceLT, reduceCtorEq, Nat.reduceMul, Nat.reduceSub, Int.reduceEq, Int.reduceLT, Int.reduceLE, Int.reduceToNat]
    refine ⟨(1, _), ⟨by dsimp only; omega, by dsimp only; omega⟩, by dsimp only; omega, weak_ok ?_ (Sub.cons ?_ (Sub.base hf ?_)) (Nat.le_refl _)⟩
    all_goals try simp only [pkA]
    all_goals (simp (disch := omega) only [ite_ne, hmn, go_sem, ↓reduceIte, Nat.reduceEqDiff, Nat.reduceBEq, Nat.reduceAdd, Nat.reduceLeDiff, Nat.reduceLT, reduceCtorEq, Nat.reduceMul, Nat.reduceSub, Int.reduceEq, Int.reduceLT, Int.reduceLE, Int.reduceToNat])
    all_goals rfl
  | 1, _ =>
    simp only [pkA]
    simp (disch := omega) only [ite_ne, go_sem, ↓reduceIte, Nat.reduceEqDiff, Nat.reduceBEq, Nat.reduceAdd, Nat.reduceLeDiff, Nat.reduceLT, reduceCtorEq, Nat.reduceMul, Nat.reduceSub, Int.reduceEq, Int.reduceLT, Int.reduceLE, Int.reduceToNat]
    try rfl
section
variable (n : Int) (A B C H K F D W gA gB gC gH gK gF gD gW : Nat)
/-- Plans that stand for n lie there. -/
structure PlI (hp : CH) : Prop where
  a : gc hp A = .rn gA 3 [[.i .i64 1, .rw B gB 1, .rw C gC 1]]
  b : gc hp B = .rn gB 9 [pkN ⟨#[97]⟩ .e0 (.rw W gW 1) .e0]
  c : gc hp C = .rn gC 8 [[.i .i64 n, .i .i64 1, .rw H gH 1, .s ⟨#[81, 117, 101, 114, 121]⟩, .rw K gK 1, .i .i64 0, .rw D gD 1, .rw F gF 1]]
  h : gc hp H = .rw gH 2 [[.s ⟨#[81, 117, 101, 114, 121]⟩, .s ⟨#[97]⟩]]
  k : gc hp K = .rw gK 1 [[.s ⟨#[105, 100]⟩]]
  f : gc hp F = .rw gF 1 [[.i .i64 n]]
  d : gc hp D = .rn gD 9 [pkN ⟨#[97]⟩ .e0 (.rw W gW 1) .e0]
  w : gc hp W = .rw gW 1 [[.i .i64 1]]
theorem PlI.lt {hp : CH} {m : Nat} (h : PlI n A B C H K F D W gA gB gC gH gK gF gD gW hp) (hf : ∀ k, m ≤ k → gc hp k = .no) : A < m ∧ B < m ∧ C < m ∧ H < m ∧ K < m ∧ F < m ∧ D < m ∧ W < m :=
  ⟨rn_lt hf h.a, rn_lt hf h.b, rn_lt hf h.c, rw_lt hf h.h, rw_lt hf h.k, rw_lt hf h.f, rn_lt hf h.d, rw_lt hf h.w⟩
theorem PlI.up {hp hp' : CH} {m : Nat} (h : PlI n A B C H K F D W gA gB gC gH gK gF gD gW hp) (hf : ∀ k, m ≤ k → gc hp k = .no) (e : ∀ k, k < m → gc hp' k = gc hp k) : PlI n A B C H K F D W gA gB gC gH gK gF gD gW hp' := by
  obtain ⟨l1, l2, l3, l4, l5, l6, l7, l8⟩ := h.lt n A B C H K F D W gA gB gC gH gK gF gD gW hf
  exact ⟨(e _ l1).trans h.a, (e _ l2).trans h.b, (e _ l3).trans h.c, (e _ l4).trans h.h, (e _ l5).trans h.k, (e _ l6).trans h.f, (e _ l7).trans h.d, (e _ l8).trans h.w⟩
theorem cplN (hp : CH) (hI : PlI n A B C H K F D W gA gB gC gH gK gF gD gW hp) (m : Nat) : MeetsF Try.prog 29 hp m [.rw A gA 1] (.ds [planC n]) := by
  have hA := hI.a
  have hB := hI.b
  have hC := hI.c
  have hH := hI.h
  have hK := hI.k
  have hF := hI.f
  have hD := hI.d
  have hW := hI.w
  have hcI := fun hp' (e : gc hp' F = .rw gF 1 [[.i .i64 n]]) m' => cloneI_row n e m'
  have hcS := fun hp' (e : gc hp' K = .rw gK 1 [[.s ⟨#[105, 100]⟩]]) m' => cloneS_row e m'
  have hcH := fun hp' (e : gc hp' H = .rw gH 2 [[.s ⟨#[81, 117, 101, 114, 121]⟩, .s ⟨#[97]⟩]]) m' => cloneH_row e m'
  have hpB := cpkN B W gB gW
  have hpD := cpkN D W gD gW
  refine meetsF Try.func29 (by kernel_rfl) cc29 cr29 rfl fun hf => ?_; unfold ck29
  obtain ⟨l1, l2, l3, l4, l5, l6, l7, l8⟩ := hI.lt n A B C H K F D W gA gB gC gH gK gF gD gW hf
  simp (disch := omega) only [ite_ne, List.length_cons, List.length_nil, hA, go_sem, ↓reduceIte, Nat.reduceEqDiff, Nat.reduceBEq, Nat.reduceAdd, Nat.reduceLeDiff, Nat.reduceLT, reduceCtorEq, Nat.reduceMul, Nat.reduceSub, Int.reduceEq, Int.reduceLT, Int.reduceLE, Int.reduceToNat]
  refine loop (fun q : Nat × Nat => ⟨[(3, .rw m q.1 q.1), (9, .rw A gA 1), (10, .i .i64 1), (11, .i .i64 q.1)], (m, .rw q.1 3 ([planC n].take q.1)) :: hp, q.2⟩) (fun q => q.1 ≤ 1 ∧ m + 1 ≤ q.2) (fun q => 1 - q.1) (0, m + 1) ?_ ?_ (fun ⟨j, o⟩ hj => ?_)
  · exact ⟨by simp, by simp⟩
  · refine (weak_e0 (t := 3) (m := 3) ?_).trans (weak_ok ?_ (Sub.cons ?_ (Sub.base hf ?_)) (Nat.le_refl _))
    all_goals (simp (disch := omega) only [ite_ne, go_sem, ↓reduceIte, Nat.reduceEqDiff, Nat.reduceBEq, Nat.reduceAdd, Nat.reduceLeDiff, Nat.reduceLT, reduceCtorEq, Nat.reduceMul, Nat.reduceSub, Int.reduceEq, Int.reduceLT, Int.reduceLE, Int.reduceToNat])
    all_goals rfl
  dsimp only at hj
  obtain ⟨hj1, hj2⟩ := hj
  have hmn : m ≤ o := by omega
  match j, hj1 with
  | 0, _ =>
    simp (disch := omega) only [ite_ne, List.take_zero, hA, go_sem, ↓reduceIte, Nat.reduceEqDiff, Nat.reduceBEq, Nat.reduceAdd, Nat.reduceLeDiff, Nat.reduceLT, reduceCtorEq, Nat.reduceMul, Nat.reduceSub, Int.reduceEq, Int.reduceLT, Int.reduceLE, Int.reduceToNat]
    refine dCallR.f (fun _ hp' e => hpB _ ((e B (.inl (by omega))).trans (by (simp (disch := omega) only [ite_ne, hB, go_sem, ↓reduceIte, Nat.reduceEqDiff, Nat.reduceBEq, Nat.reduceAdd, Nat.reduceLeDiff, Nat.reduceLT, reduceCtorEq, Nat.reduceMul, Nat.reduceSub, Int.reduceEq, Int.reduceLT, Int.reduceLE, Int.reduceToNat]))) ((e W (.inl (by omega))).trans (by (simp (disch := omega) only [ite_ne, hW, go_sem, ↓reduceIte, Nat.reduceEqDiff, Nat.reduceBEq, Nat.reduceAdd, Nat.reduceLeDiff, Nat.reduceLT, reduceCtorEq, Nat.reduceMul, Nat.reduceSub, Int.reduceEq, Int.reduceLT, Int.reduceLE, Int.reduceToNat]))) _) ?_
    simp (disch := omega) only [ite_ne, List.length_cons, List.length_nil, hC, go_sem, ↓reduceIte, Nat.reduceEqDiff, Nat.reduceBEq, Nat.reduceAdd, Nat.reduceLeDiff, Nat.reduceLT, reduceCtorEq, Nat.reduceMul, Nat.reduceSub, Int.reduceEq, Int.reduceLT, Int.reduceLE, Int.reduceToNat]
    refine loop (fun q : Nat × Nat => ⟨[(3, .rw m 0 0), (6, .bx (o + 7) 0), (9, .rw A gA 1), (10, .i .i64 1), (11, .i .i64 0), (22, .rw C gC 1), (23, .i .i64 1), (24, .i .i64 q.1)], (o + 7, .bx [.i .i64 1, .ds [pkA], .rw (o + 9) q.1 q.1]) :: (o + 9, .rw q.1 8 ([fetC n].take q.1)) :: (m, .rw 0 3 []) :: hp, q.2⟩) (fun q => q.1 ≤ 1 ∧ o + 10 ≤ q.2) (fun q => 1 - q.1) (0, o + 10) ?_ ?_ (fun ⟨i, o2⟩ hi => ?_)
    · exact ⟨by simp, by simp⟩
    · refine (weak_b0 (cs := [.i .i64 1, .ds [pkA], .e0]) (c := o + 7) (i := 2) (m := 8) (by (simp (disch := omega) only [ite_ne, go_sem, ↓reduceIte, Nat.reduceEqDiff, Nat.reduceBEq, Nat.reduceAdd, Nat.reduceLeDiff, Nat.reduceLT, reduceCtorEq, Nat.reduceMul, Nat.reduceSub, Int.reduceEq, Int.reduceLT, Int.reduceLE, Int.reduceToNat])) rfl).trans (weak_ok ?_ (Sub.cons ?_ (Sub.cons ?_ (Sub.cons ?_ (Sub.base hf ?_)))) (Nat.le_refl _))
      all_goals (simp (disch := omega) only [ite_ne, go_sem, ↓reduceIte, Nat.reduceEqDiff, Nat.reduceBEq, Nat.reduceAdd, Nat.reduceLeDiff, Nat.reduceLT, reduceCtorEq, Nat.reduceMul, Nat.reduceSub, Int.reduceEq, Int.reduceLT, Int.reduceLE, Int.reduceToNat])
      all_goals rfl
    dsimp only at hi
    obtain ⟨hi1, hi2⟩ := hi
    match i, hi1 with
    | 0, _ =>
      simp (disch := omega) only [ite_ne, List.take_zero, hC, go_sem, ↓reduceIte, Nat.reduceEqDiff, Nat.reduceBEq, Nat.reduceAdd, Nat.reduceLeDiff, Nat.reduceLT, reduceCtorEq, Nat.reduceMul, Nat.reduceSub, Int.reduceEq, Int.reduceLT, Int.reduceLE, Int.reduceToNat]
      refine dCallR.f (fun _ hp' e => hcH _ ((e H (.inl (by omega))).trans (by (simp (disch := omega) only [ite_ne, hH, go_sem, ↓reduceIte, Nat.reduceEqDiff, Nat.reduceBEq, Nat.reduceAdd, Nat.reduceLeDiff, Nat.reduceLT, reduceCtorEq, Nat.reduceMul, Nat.reduceSub, Int.reduceEq, Int.reduceLT, Int.reduceLE, Int.reduceToNat]))) _) ?_
      simp (disch := omega) only [ite_ne, go_sem, ↓reduceIte, Nat.reduceEqDiff, Nat.reduceBEq, Nat.reduceAdd, Nat.reduceLeDiff, Nat.reduceLT, reduceCtorEq, Nat.reduceMul, Nat.reduceSub, Int.reduceEq, Int.reduceLT, Int.reduceLE, Int.reduceToNat]
      refine dCallR.f (fun _ hp' e => hcS _ ((e K (.inl (by omega))).trans (by (simp (disch := omega) only [ite_ne, hK, go_sem, ↓reduceIte, Nat.reduceEqDiff, Nat.reduceBEq, Nat.reduceAdd, Nat.reduceLeDiff, Nat.reduceLT, reduceCtorEq, Nat.reduceMul, Nat.reduceSub, Int.reduceEq, Int.reduceLT, Int.reduceLE, Int.reduceToNat]))) _) ?_
      simp (disch := omega) only [ite_ne, go_sem, ↓reduceIte, Nat.reduceEqDiff, Nat.reduceBEq, Nat.reduceAdd, Nat.reduceLeDiff, Nat.reduceLT, reduceCtorEq, Nat.reduceMul, Nat.reduceSub, Int.reduceEq, Int.reduceLT, Int.reduceLE, Int.reduceToNat]
      refine dCallR.f (fun _ hp' e => hcI _ ((e F (.inl (by omega))).trans (by (simp (disch := omega) only [ite_ne, hF, go_sem, ↓reduceIte, Nat.reduceEqDiff, Nat.reduceBEq, Nat.reduceAdd, Nat.reduceLeDiff, Nat.reduceLT, reduceCtorEq, Nat.reduceMul, Nat.reduceSub, Int.reduceEq, Int.reduceLT, Int.reduceLE, Int.reduceToNat]))) _) ?_
      simp (disch := omega) only [ite_ne, go_sem, ↓reduceIte, Nat.reduceEqDiff, Nat.reduceBEq, Nat.reduceAdd, Nat.reduceLeDiff, Nat.reduceLT, reduceCtorEq, Nat.reduceMul, Nat.reduceSub, Int.reduceEq, Int.reduceLT, Int.reduceLE, Int.reduceToNat]
      refine vcCall.f (hpD _ (by (simp (disch := omega) only [ite_ne, hD, go_sem, ↓reduceIte, Nat.reduceEqDiff, Nat.reduceBEq, Nat.reduceAdd, Nat.reduceLeDiff, Nat.reduceLT, reduceCtorEq, Nat.reduceMul, Nat.reduceSub, Int.reduceEq, Int.reduceLT, Int.reduceLE, Int.reduceToNat])) (by (simp (disch := omega) only [ite_ne, hW, go_sem, ↓reduceIte, Nat.reduceEqDiff, Nat.reduceBEq, Nat.reduceAdd, Nat.reduceLeDiff, Nat.reduceLT, reduceCtorEq, Nat.reduceMul, Nat.reduceSub, Int.reduceEq, Int.reduceLT, Int.reduceLE, Int.reduceToNat])) _) ?_
      simp (disch := omega) only [ite_ne, List.length_cons, List.length_nil, go_sem, ↓reduceIte, Nat.reduceEqDiff, Nat.reduceBEq, Nat.reduceAdd, Nat.reduceLeDiff, Nat.reduceLT, reduceCtorEq, Nat.reduceMul, Nat.reduceSub, Int.reduceEq, Int.reduceLT, Int.reduceLE, Int.reduceToNat]
      refine ⟨(1, _), ⟨by dsimp only; omega, by dsimp only; omega⟩, by dsimp only; omega, weak_ok ?_ (Sub.cons ?_ (Sub.cons ?_ (Sub.cons ?_ (Sub.base hf ?_)))) (Nat.le_refl _)⟩
      all_goals (simp (disch := omega) only [ite_ne, hmn, go_sem, ↓reduceIte, Nat.reduceEqDiff, Nat.reduceBEq, Nat.reduceAdd, Nat.reduceLeDiff, Nat.reduceLT, reduceCtorEq, Nat.reduceMul, Nat.reduceSub, Int.reduceEq, Int.reduceLT, Int.reduceLE, Int.reduceToNat])
      all_goals rfl
    | 1, _ =>
      simp (disch := omega) only [ite_ne, List.length_cons, List.length_nil, go_sem, ↓reduceIte, Nat.reduceEqDiff, Nat.reduceBEq, Nat.reduceAdd, Nat.reduceLeDiff, Nat.reduceLT, reduceCtorEq, Nat.reduceMul, Nat.reduceSub, Int.reduceEq, Int.reduceLT, Int.reduceLE, Int.reduceToNat]
      refine ⟨(1, _), ⟨by dsimp only; omega, by dsimp only; omega⟩, by dsimp only; omega, weak_ok ?_ (Sub.cons ?_ (Sub.base hf ?_)) (Nat.le_refl _)⟩
      all_goals try simp only [planC]
      all_goals (simp (disch := omega) only [ite_ne, hmn, go_sem, ↓reduceIte, Nat.reduceEqDiff, Nat.reduceBEq, Nat.reduceAdd, Nat.reduceLeDiff, Nat.reduceLT, reduceCtorEq, Nat.reduceMul, Nat.reduceSub, Int.reduceEq, Int.reduceLT, Int.reduceLE, Int.reduceToNat])
      all_goals rfl
  | 1, _ =>
    simp (disch := omega) only [ite_ne, go_sem, ↓reduceIte, Nat.reduceEqDiff, Nat.reduceBEq, Nat.reduceAdd, Nat.reduceLeDiff, Nat.reduceLT, reduceCtorEq, Nat.reduceMul, Nat.reduceSub, Int.reduceEq, Int.reduceLT, Int.reduceLE, Int.reduceToNat]
    try rfl
end
end Go.Proofs.Ytpenniildabheaa
