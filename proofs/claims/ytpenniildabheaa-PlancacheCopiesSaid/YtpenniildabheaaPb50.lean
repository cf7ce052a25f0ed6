/-
  The parts PcCF of the proof, in one file. Conditions: none.
-/
import Derived.Test.YtpenniildabheaaPb49
namespace Go.Proofs.Ytpenniildabheaa
open Go.Eng
set_option linter.unusedVariables false
set_option linter.unusedSimpArgs false
set_option maxRecDepth 20000
set_option maxHeartbeats 2000000
theorem cloneI_new (x : Int) (hp : CH) (m : Nat) : Meets Try.prog 40 hp m [.ds [[.i .i64 x]]] fun hp' n' r => hp' = (m, .rw 0 1 [[.i .i64 x]]) :: hp ∧ n' = m + 1 ∧ r = .rw m 0 1 := by
  have key : MeetsX Try.prog 40 hp m [.ds [[.i .i64 x]]] (rowsAt m [(1, [[.i .i64 x]])] ++ hp) (m + 1) (.rw m 0 1) := by
    refine meetsOut (outs := [(1, [[AV.i .i64 x]])]) Try.func40 (by kernel_rfl) cc40 cr40 rfl fun hf => ?_; unfold ck40
    simp only [go_sem, ↓reduceIte, Nat.reduceEqDiff, Nat.reduceBEq, Nat.reduceAdd, Nat.reduceLeDiff, Nat.reduceLT, reduceCtorEq, Nat.reduceMul, Nat.reduceSub, Int.reduceEq, Int.reduceLT, Int.reduceLE, Int.reduceToNat]
    try simp
  exact key
theorem cloneS_new (hp : CH) (m : Nat) : Meets Try.prog 39 hp m [.ds [[.s ⟨#[105, 100]⟩]]] fun hp' n' r => hp' = (m, .rw 0 1 [[.s ⟨#[105, 100]⟩]]) :: hp ∧ n' = m + 1 ∧ r = .rw m 0 1 := by
  have key : MeetsX Try.prog 39 hp m [.ds [[.s ⟨#[105, 100]⟩]]] (rowsAt m [(1, [[.s ⟨#[105, 100]⟩]])] ++ hp) (m + 1) (.rw m 0 1) := by
    refine meetsOut (outs := [(1, [[AV.s ⟨#[105, 100]⟩]])]) Try.func39 (by kernel_rfl) cc39 cr39 rfl fun hf => ?_; unfold ck39
    simp only [go_sem, ↓reduceIte, Nat.reduceEqDiff, Nat.reduceBEq, Nat.reduceAdd, Nat.reduceLeDiff, Nat.reduceLT, reduceCtorEq, Nat.reduceMul, Nat.reduceSub, Int.reduceEq, Int.reduceLT, Int.reduceLE, Int.reduceToNat]
    try simp
  exact key
theorem cloneH_new (hp : CH) (m : Nat) : Meets Try.prog 38 hp m [.ds [[.s ⟨#[81, 117, 101, 114, 121]⟩, .s ⟨#[97]⟩]]] fun hp' n' r => hp' = (m, .rw 0 2 [[.s ⟨#[81, 117, 101, 114, 121]⟩, .s ⟨#[97]⟩]]) :: hp ∧ n' = m + 1 ∧ r = .rw m 0 1 := by
  have key : MeetsX Try.prog 38 hp m [.ds [[.s ⟨#[81, 117, 101, 114, 121]⟩, .s ⟨#[97]⟩]]] (rowsAt m [(2, [[.s ⟨#[81, 117, 101, 114, 121]⟩, .s ⟨#[97]⟩]])] ++ hp) (m + 1) (.rw m 0 1) := by
    refine meetsOut (outs := [(2, [[AV.s ⟨#[81, 117, 101, 114, 121]⟩, AV.s ⟨#[97]⟩]])]) Try.func38 (by kernel_rfl) cc38 cr38 rfl fun hf => ?_; unfold ck38
    simp only [go_sem, ↓reduceIte, Nat.reduceEqDiff, Nat.reduceBEq, Nat.reduceAdd, Nat.reduceLeDiff, Nat.reduceLT, reduceCtorEq, Nat.reduceMul, Nat.reduceSub, Int.reduceEq, Int.reduceLT, Int.reduceLE, Int.reduceToNat]
    try simp
  exact key
/-- Memory behind a copy of picks. -/
def cpL (m : Nat) : CH := [(m + 3, .rn 0 9 [pkN ⟨#[97]⟩ .e0 (.rw (m + 1) 0 1) (.ds [])]), (m + 2, .rn 0 9 [pkN ⟨#[97]⟩ .e0 (.rw (m + 1) 0 1) (.ds [])]), (m, .bx (pkN ⟨#[97]⟩ .e0 (.rw (m + 1) 0 1) (.ds []))), (m, .bx (pkN ⟨#[97]⟩ .e0 (.rw (m + 1) 0 1) (.ds []))),
  (m, .bx (pkN ⟨#[97]⟩ (.ds []) (.rw (m + 1) 0 1) (.ds []))), (m + 1, .rw 0 1 [[.i .i64 1]]), (m, .bx (pkN ⟨#[97]⟩ (.ds []) (.ds [[.i .i64 1]]) (.ds []))), (m, .bx [.s ⟨#[]⟩, .s ⟨#[]⟩, .s ⟨#[]⟩, .e0, .s ⟨#[]⟩, .e0, .s ⟨#[]⟩, .i .i64 0, .e0])]
theorem cpkV (hp : CH) (m : Nat) : Meets Try.prog 37 hp m [.ds [pkA]] fun hp' n' r => hp' = cpL m ++ hp ∧ n' = m + 4 ∧ r = .rw (m + 3) 0 1 := by
  have hc := cloneI_new 1
  unfold cpL pkN
  refine meets Try.func37 (by kernel_rfl) cc937 cr937 rfl ?_; unfold ck937
  simp (disch := omega) only [ite_ne, List.length_cons, List.length_nil, go_sem, ↓reduceIte, Nat.reduceEqDiff, Nat.reduceBEq, Nat.reduceAdd, Nat.reduceLeDiff, Nat.reduceLT, reduceCtorEq, Nat.reduceMul, Nat.reduceSub, Int.reduceEq, Int.reduceLT, Int.reduceLE, Int.reduceToNat]
  refine unroll (.s (.s .z)) ?_
  simp only [pkA]
  simp (disch := omega) only [ite_ne, go_sem, ↓reduceIte, Nat.reduceEqDiff, Nat.reduceBEq, Nat.reduceAdd, Nat.reduceLeDiff, Nat.reduceLT, reduceCtorEq, Nat.reduceMul, Nat.reduceSub, Int.reduceEq, Int.reduceLT, Int.reduceLE, Int.reduceToNat]
  refine vcCall.r (hc _ _) fun hp' n' r ⟨e1, e2, e3⟩ => ?_
  subst e1
  subst e2
  subst e3
  simp (disch := omega) only [ite_ne, go_sem, ↓reduceIte, Nat.reduceEqDiff, Nat.reduceBEq, Nat.reduceAdd, Nat.reduceLeDiff, Nat.reduceLT, reduceCtorEq, Nat.reduceMul, Nat.reduceSub, Int.reduceEq, Int.reduceLT, Int.reduceLE, Int.reduceToNat]
  refine loop0 ?_
  simp (disch := omega) only [ite_ne, go_sem, ↓reduceIte, Nat.reduceEqDiff, Nat.reduceBEq, Nat.reduceAdd, Nat.reduceLeDiff, Nat.reduceLT, reduceCtorEq, Nat.reduceMul, Nat.reduceSub, Int.reduceEq, Int.reduceLT, Int.reduceLE, Int.reduceToNat]
  refine vcCall.f (cpk0 _ _) ?_
  simp (disch := omega) only [ite_ne, List.length_cons, List.length_nil, w01, go_sem, ↓reduceIte, Nat.reduceEqDiff, Nat.reduceBEq, Nat.reduceAdd, Nat.reduceLeDiff, Nat.reduceLT, reduceCtorEq, Nat.reduceMul, Nat.reduceSub, Int.reduceEq, Int.reduceLT, Int.reduceLE, Int.reduceToNat]
  try rfl
/-- What lies below m is as it was. -/
def FrV (m : Nat) (hp hp' : CH) : Prop := ∀ k, k < m → gc hp' k = gc hp k
/-- Plans that stand for n lie behind q. -/
def PlV (n : Int) (q : Nat) (hp : CH) : Prop :=
  gc hp (q + 32) = .rn 0 3 [[.i .i64 1, .rw (q + 5) 0 1, .rw (q + 30) 0 1]] ∧ gc hp (q + 5) = .rw 0 9 [pkN ⟨#[97]⟩ (.ds []) (.ds [[.i .i64 1]]) (.ds [])] ∧
  gc hp (q + 30) = .rn 0 8 [[.i .i64 n, .i .i64 1, .rw (q + 12) 0 1, .s ⟨#[81, 117, 101, 114, 121]⟩, .rw (q + 15) 0 1, .i .i64 0, .rw (q + 28) 0 1, .rw (q + 18) 0 1]] ∧
  gc hp (q + 12) = .rw 0 2 [[.s ⟨#[81, 117, 101, 114, 121]⟩, .s ⟨#[97]⟩]] ∧ gc hp (q + 15) = .rw 0 1 [[.s ⟨#[105, 100]⟩]] ∧ gc hp (q + 18) = .rw 0 1 [[.i .i64 n]] ∧
  gc hp (q + 28) = .rn 0 9 [pkN ⟨#[97]⟩ .e0 (.rw (q + 26) 0 1) (.ds [])] ∧ gc hp (q + 26) = .rw 0 1 [[.i .i64 1]]
theorem cplV (n : Int) (hp : CH) (m : Nat) : Meets Try.prog 29 hp m [.ds [planC n]] fun hp' n' r => (PlV n m hp' ∧ FrV m hp hp') ∧ n' = m + 33 ∧ r = .rw (m + 32) 0 1 := by
  have hc := cloneI_new n
  refine meets Try.func29 (by kernel_rfl) cc929 cr929 rfl ?_; unfold ck929
  simp (disch := omega) only [ite_ne, List.length_cons, List.length_nil, go_sem, ↓reduceIte, Nat.reduceEqDiff, Nat.reduceBEq, Nat.reduceAdd, Nat.reduceLeDiff, Nat.reduceLT, reduceCtorEq, Nat.reduceMul, Nat.reduceSub, Int.reduceEq, Int.reduceLT, Int.reduceLE, Int.reduceToNat]
  refine unroll (.s (.s .z)) ?_
  simp only [planC]
  simp (disch := omega) only [ite_ne, go_sem, ↓reduceIte, Nat.reduceEqDiff, Nat.reduceBEq, Nat.reduceAdd, Nat.reduceLeDiff, Nat.reduceLT, reduceCtorEq, Nat.reduceMul, Nat.reduceSub, Int.reduceEq, Int.reduceLT, Int.reduceLE, Int.reduceToNat]
  refine dCallR.r (fun hp' => cpkR _ _) rfl ?_
  simp (disch := omega) only [ite_ne, List.length_cons, List.length_nil, go_sem, ↓reduceIte, Nat.reduceEqDiff, Nat.reduceBEq, Nat.reduceAdd, Nat.reduceLeDiff, Nat.reduceLT, reduceCtorEq, Nat.reduceMul, Nat.reduceSub, Int.reduceEq, Int.reduceLT, Int.reduceLE, Int.reduceToNat]
  refine unroll (.s (.s .z)) ?_
  simp only [fetC]
  simp (disch := omega) only [ite_ne, go_sem, ↓reduceIte, Nat.reduceEqDiff, Nat.reduceBEq, Nat.reduceAdd, Nat.reduceLeDiff, Nat.reduceLT, reduceCtorEq, Nat.reduceMul, Nat.reduceSub, Int.reduceEq, Int.reduceLT, Int.reduceLE, Int.reduceToNat]
  refine dCallR.r (fun hp' => cloneH_new _ _) rfl ?_
  simp (disch := omega) only [ite_ne, go_sem, ↓reduceIte, Nat.reduceEqDiff, Nat.reduceBEq, Nat.reduceAdd, Nat.reduceLeDiff, Nat.reduceLT, reduceCtorEq, Nat.reduceMul, Nat.reduceSub, Int.reduceEq, Int.reduceLT, Int.reduceLE, Int.reduceToNat]
  refine dCallR.r (fun hp' => cloneS_new _ _) rfl ?_
  simp (disch := omega) only [ite_ne, go_sem, ↓reduceIte, Nat.reduceEqDiff, Nat.reduceBEq, Nat.reduceAdd, Nat.reduceLeDiff, Nat.reduceLT, reduceCtorEq, Nat.reduceMul, Nat.reduceSub, Int.reduceEq, Int.reduceLT, Int.reduceLE, Int.reduceToNat]
  refine dCallR.r (fun hp' => hc _ _) rfl ?_
  simp (disch := omega) only [ite_ne, go_sem, ↓reduceIte, Nat.reduceEqDiff, Nat.reduceBEq, Nat.reduceAdd, Nat.reduceLeDiff, Nat.reduceLT, reduceCtorEq, Nat.reduceMul, Nat.reduceSub, Int.reduceEq, Int.reduceLT, Int.reduceLE, Int.reduceToNat]
  refine vcCall.r (cpkV _ _) fun hp' n' r ⟨e1, e2, e3⟩ => ?_
  subst e1
  subst e2
  subst e3
  unfold cpL pkN
  simp only [List.cons_append, List.nil_append]
  simp (disch := omega) only [ite_ne, List.length_cons, List.length_nil, w01, go_sem, ↓reduceIte, Nat.reduceEqDiff, Nat.reduceBEq, Nat.reduceAdd, Nat.reduceLeDiff, Nat.reduceLT, reduceCtorEq, Nat.reduceMul, Nat.reduceSub, Int.reduceEq, Int.reduceLT, Int.reduceLE, Int.reduceToNat]
  refine ⟨?_, fun k hk => ?_⟩
  · unfold PlV pkN
    simp only [pkA]
    simp only [go_sem, ↓reduceIte, Nat.reduceEqDiff, Nat.reduceBEq, Nat.reduceAdd, Nat.reduceLeDiff, Nat.reduceLT, reduceCtorEq, Nat.reduceMul, Nat.reduceSub, Int.reduceEq, Int.reduceLT, Int.reduceLE, Int.reduceToNat]
    try simp
  · repeat rw [gc_ne _ _ (by omega)]
end Go.Proofs.Ytpenniildabheaa
