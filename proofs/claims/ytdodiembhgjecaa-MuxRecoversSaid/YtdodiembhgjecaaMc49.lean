/-
  The parts MxDX of the proof, in one file. Conditions: none.
-/
import Derived.Test.YtdodiembhgjecaaMc48
namespace Go.Proofs.Ytdodiembhgjecaa
open Go.Eng
set_option linter.unusedVariables false
set_option linter.unusedSimpArgs false
set_option maxRecDepth 20000
set_option maxHeartbeats 1000000
theorem bs_e0 (x : Int) (hp : CH) (m : Nat) : MeetsF Try.prog 38 hp m [.e0, .i .i64 x] (.tp [.i .i64 0, .b false]) := by
  refine meetsF Try.func38 (by kernel_rfl) cc38 cr38 rfl fun hf => ?_; unfold ck38
  simp only [go_sem, ↓reduceIte, Nat.reduceEqDiff, Nat.reduceBEq, Nat.reduceAdd, Nat.reduceLeDiff, Nat.reduceLT, reduceCtorEq, Nat.reduceMul, Nat.reduceSub, Int.reduceEq, Int.reduceLT, Int.reduceLE, Int.reduceToNat]
  refine loop (fun q : Nat => ⟨[(0, .e0), (1, .i .i64 x), (6, .i .i64 0), (7, .i .i64 0), (8, .i .i64 0)], hp, m⟩) (fun _ => True) (fun _ => 0) 0 trivial ?_ (fun j _ => ?_)
  · refine weak_ok ?_ (Sub.refl _) (Nat.le_refl _)
    simp only [go_sem, ↓reduceIte, Nat.reduceEqDiff, Nat.reduceBEq, Nat.reduceAdd, Nat.reduceLeDiff, Nat.reduceLT, reduceCtorEq, Nat.reduceMul, Nat.reduceSub, Int.reduceEq, Int.reduceLT, Int.reduceLE, Int.reduceToNat]
  simp only [go_sem, ↓reduceIte, Nat.reduceEqDiff, Nat.reduceBEq, Nat.reduceAdd, Nat.reduceLeDiff, Nat.reduceLT, reduceCtorEq, Nat.reduceMul, Nat.reduceSub, Int.reduceEq, Int.reduceLT, Int.reduceLE, Int.reduceToNat]
  repeat' (refine gCall_f ?_; simp only [go_sem, ↓reduceIte, Nat.reduceEqDiff, Nat.reduceBEq, Nat.reduceAdd, Nat.reduceLeDiff, Nat.reduceLT, reduceCtorEq, Nat.reduceMul, Nat.reduceSub, Int.reduceEq, Int.reduceLT, Int.reduceLE, Int.reduceToNat])
theorem ins_e0 (x : Int) (hp : CH) (m : Nat) : Meets Try.prog 39 hp m [.e0, .i .i64 0, .ds [[.i .i64 x]]] fun hp' n' r => hp' = (m, .rw 0 1 [[.i .i64 x]]) :: hp ∧ n' = m + 1 ∧ r = .rw m 0 1 :=
  meets_insE Try.laysNm221 rfl ⟨_, Try.func39, by kernel_rfl, by kernel_rfl⟩ x
theorem ex_new (hp : CH) (m : Nat) : Meets Try.prog 7 hp m [.i .i64 2] fun hp' n' r => hp' = (m, .bx [.i .i64 2, .i .i64 0, .i .i64 0, .e0, .e0]) :: hp ∧ n' = m + 1 ∧ r = .tp [.bx m 0, .i .i64 0] := by
  refine meets Try.func7 (by kernel_rfl) cc7 cr7 rfl ?_; unfold ck7
  simp only [go_sem, ↓reduceIte, Nat.reduceEqDiff, Nat.reduceBEq, Nat.reduceAdd, Nat.reduceLeDiff, Nat.reduceLT, reduceCtorEq, Nat.reduceMul, Nat.reduceSub, Int.reduceEq, Int.reduceLT, Int.reduceLE, Int.reduceToNat]
theorem ex_recv (c : Nat) (hp : CH) (hc : gc hp c = .bx [.i .i64 2, .i .i64 0, .i .i64 0, .e0, .e0]) (m : Nat) (hcm : c < m) :
    Meets Try.prog 14 hp m [.bx c 0, .ag [.i .i64 2, .i .i64 7, .i .i64 0, .i .i64 0, .s ⟨#[]⟩]] fun hp' n' r => hp' = (c, .bx [.i .i64 2, .i .i64 0, .i .i64 0, .e0, .rw (m + 22) 0 1]) :: (m + 22, .rw 0 1 [[.i .i64 7]]) :: (m, .bx [.i .i64 2, .i .i64 7, .i .i64 0, .i .i64 0, .s ⟨#[]⟩]) :: hp ∧ n' = m + 26 ∧ r = .tp [.e0, .i .i64 0] := by
  have hR := right_ok (.mk 2 7 0 0 ⟨#[]⟩)
  have e1 : decide (chk (.mk 2 7 0 0 ⟨#[]⟩) = 0) = true := by decide
  rw [e1] at hR
  refine meets Try.func14 (by kernel_rfl) cc14 cr14 rfl ?_; unfold ck14
  simp (disch := omega) only [ite_ne, hc, go_sem, ↓reduceIte, Nat.reduceEqDiff, Nat.reduceBEq, Nat.reduceAdd, Nat.reduceLeDiff, Nat.reduceLT, reduceCtorEq, Nat.reduceMul, Nat.reduceSub, Int.reduceEq, Int.reduceLT, Int.reduceLE, Int.reduceToNat]
  refine vcCall.f (hR _ _) ?_
  simp (disch := omega) only [ite_ne, hc, go_sem, ↓reduceIte, Nat.reduceEqDiff, Nat.reduceBEq, Nat.reduceAdd, Nat.reduceLeDiff, Nat.reduceLT, reduceCtorEq, Nat.reduceMul, Nat.reduceSub, Int.reduceEq, Int.reduceLT, Int.reduceLE, Int.reduceToNat]
  refine dCallR.f (fun _ hp' e => bs_e0 _ _ _) ?_
  simp (disch := omega) only [ite_ne, hc, go_sem, ↓reduceIte, Nat.reduceEqDiff, Nat.reduceBEq, Nat.reduceAdd, Nat.reduceLeDiff, Nat.reduceLT, reduceCtorEq, Nat.reduceMul, Nat.reduceSub, Int.reduceEq, Int.reduceLT, Int.reduceLE, Int.reduceToNat]
  refine dCallR.r (fun hp' => ins_e0 _ _ _) rfl ?_
  simp (disch := omega) only [ite_ne, hc, go_sem, ↓reduceIte, Nat.reduceEqDiff, Nat.reduceBEq, Nat.reduceAdd, Nat.reduceLeDiff, Nat.reduceLT, reduceCtorEq, Nat.reduceMul, Nat.reduceSub, Int.reduceEq, Int.reduceLT, Int.reduceLE, Int.reduceToNat]
theorem bs_one (x : Int) (hp : CH) (m : Nat) : MeetsF Try.prog 38 hp m [.ds [[.i .i64 x]], .i .i64 x] (.tp [.i .i64 0, .b true]) := by
  have hL : ∀ hp m, MeetsF Try.prog 48 hp m [.i .i64 x, .i .i64 x] (.b false) := fun hp m => by
    have := less_ok x x hp m
    rwa [decide_eq_false (Int.lt_irrefl x)] at this
  refine meetsF Try.func38 (by kernel_rfl) cc38 cr38 rfl fun hf => ?_; unfold ck38
  simp only [go_sem, ↓reduceIte, Nat.reduceEqDiff, Nat.reduceBEq, Nat.reduceAdd, Nat.reduceLeDiff, Nat.reduceLT, reduceCtorEq, Nat.reduceMul, Nat.reduceSub, Int.reduceEq, Int.reduceLT, Int.reduceLE, Int.reduceToNat]
  refine loop (fun q : Nat => ⟨[(0, .ds [[.i .i64 x]]), (1, .i .i64 x), (6, .i .i64 1), (7, .i .i64 0), (8, .i .i64 q)], hp, m⟩) (fun q => q ≤ 1) (fun q => q) 1 (Nat.le_refl _) ?_ (fun j hj => ?_)
  · refine weak_ok ?_ (Sub.refl _) (Nat.le_refl _)
    simp only [go_sem, ↓reduceIte, Nat.reduceEqDiff, Nat.reduceBEq, Nat.reduceAdd, Nat.reduceLeDiff, Nat.reduceLT, reduceCtorEq, Nat.reduceMul, Nat.reduceSub, Int.reduceEq, Int.reduceLT, Int.reduceLE, Int.reduceToNat]
  match j, hj with
  | 0, _ =>
    simp only [go_sem, ↓reduceIte, Nat.reduceEqDiff, Nat.reduceBEq, Nat.reduceAdd, Nat.reduceLeDiff, Nat.reduceLT, reduceCtorEq, Nat.reduceMul, Nat.reduceSub, Int.reduceEq, Int.reduceLT, Int.reduceLE, Int.reduceToNat]
    repeat' (refine gCall_f ?_; simp only [go_sem, ↓reduceIte, Nat.reduceEqDiff, Nat.reduceBEq, Nat.reduceAdd, Nat.reduceLeDiff, Nat.reduceLT, reduceCtorEq, Nat.reduceMul, Nat.reduceSub, Int.reduceEq, Int.reduceLT, Int.reduceLE, Int.reduceToNat])
  | 1, _ =>
    have hz : IntKind.i64.wrap (shrI IntKind.u64 (IntKind.u64.wrap (IntKind.i64.wrap (0 + 1))) 1) = 0 := by decide
    simp (disch := omega) only [ite_ne, hz, go_sem, ↓reduceIte, Nat.reduceEqDiff, Nat.reduceBEq, Nat.reduceAdd, Nat.reduceLeDiff, Nat.reduceLT, reduceCtorEq, Nat.reduceMul, Nat.reduceSub, Int.reduceEq, Int.reduceLT, Int.reduceLE, Int.reduceToNat]
    refine vcCall.f (hL _ _) ?_
    simp (disch := omega) only [ite_ne, hz, go_sem, ↓reduceIte, Nat.reduceEqDiff, Nat.reduceBEq, Nat.reduceAdd, Nat.reduceLeDiff, Nat.reduceLT, reduceCtorEq, Nat.reduceMul, Nat.reduceSub, Int.reduceEq, Int.reduceLT, Int.reduceLE, Int.reduceToNat]
    refine ⟨0, by omega, by omega, weak_ok ?_ (Sub.refl _) (Nat.le_refl _)⟩
    simp (disch := omega) only [ite_ne, hz, go_sem, ↓reduceIte, Nat.reduceEqDiff, Nat.reduceBEq, Nat.reduceAdd, Nat.reduceLeDiff, Nat.reduceLT, reduceCtorEq, Nat.reduceMul, Nat.reduceSub, Int.reduceEq, Int.reduceLT, Int.reduceLE, Int.reduceToNat]
    try rfl
theorem ex_send (c kl : Nat) (hp : CH) (hc : gc hp c = .bx [.i .i64 2, .i .i64 0, .i .i64 0, .e0, .rw kl 0 1]) (hk : gc hp kl = .rw 0 1 [[.i .i64 7]]) (m : Nat) (hcm : c < m) (hkm : kl < m) :
    Meets Try.prog 32 hp m [.bx c 0, .ag [.i .i64 5, .i .i64 7, .i .i64 0, .i .i64 0, .s ⟨#[97]⟩]] fun hp' n' r => hp' = (m + 34, .rw 0 5 [[.i .i64 5, .i .i64 7, .i .i64 1, .i .i64 0, .s ⟨#[97]⟩]]) :: (c, .bx [.i .i64 2, .i .i64 1, .i .i64 0, .rw (m + 30) 0 1, .rw kl 0 1]) :: (m + 30, .rw 0 5 [[.i .i64 5, .i .i64 7, .i .i64 1, .i .i64 0, .s ⟨#[97]⟩]]) :: (m, .bx [.i .i64 5, .i .i64 7, .i .i64 1, .i .i64 0, .s ⟨#[97]⟩]) :: (c, .bx [.i .i64 2, .i .i64 1, .i .i64 0, .e0, .rw kl 0 1]) :: (m, .bx [.i .i64 5, .i .i64 7, .i .i64 0, .i .i64 0, .s ⟨#[97]⟩]) :: hp ∧ n' = m + 35 ∧ r = .tp [.rw (m + 34) 0 1, .i .i64 0] := by
  have hne : ¬ c = kl := fun e => by subst e; rw [hc] at hk; cases hk
  have hne' : ¬ kl = c := fun e => hne e.symm
  refine meets Try.func32 (by kernel_rfl) cc32 cr32 rfl ?_; unfold ck32
  simp (disch := omega) only [ite_ne, hc, go_sem, ↓reduceIte, Nat.reduceEqDiff, Nat.reduceBEq, Nat.reduceAdd, Nat.reduceLeDiff, Nat.reduceLT, reduceCtorEq, Nat.reduceMul, Nat.reduceSub, Int.reduceEq, Int.reduceLT, Int.reduceLE, Int.reduceToNat]
  refine dCallR.f (fun _ hp' e => MeetsF.lend (R := [(kl, .sh 0 1 [[.i .i64 7]])]) (B := []) ⟨.inl ?_, trivial⟩ trivial ?_ rfl (bs_one 7 _ _)) ?_
  · refine (e kl (.inl (by omega))).trans ?_
    simp (disch := omega) only [ite_ne, hk, go_sem, ↓reduceIte, Nat.reduceEqDiff, Nat.reduceBEq, Nat.reduceAdd, Nat.reduceLeDiff, Nat.reduceLT, reduceCtorEq, Nat.reduceMul, Nat.reduceSub, Int.reduceEq, Int.reduceLT, Int.reduceLE, Int.reduceToNat]
  · simp only [go_sem, ↓reduceIte, Nat.reduceEqDiff, Nat.reduceBEq, Nat.reduceAdd, Nat.reduceLeDiff, Nat.reduceLT, reduceCtorEq, Nat.reduceMul, Nat.reduceSub, Int.reduceEq, Int.reduceLT, Int.reduceLE, Int.reduceToNat]
    try rfl
  have hz : decide ((65536 : Int) < ((#[97] : Array UInt8).size : Int)) = false := by decide
  have hw : IntKind.i64.wrap (0 + 1) = 1 := by decide
  simp (disch := omega) only [ite_ne, hc, hz, hw, go_sem, ↓reduceIte, Nat.reduceEqDiff, Nat.reduceBEq, Nat.reduceAdd, Nat.reduceLeDiff, Nat.reduceLT, reduceCtorEq, Nat.reduceMul, Nat.reduceSub, Int.reduceEq, Int.reduceLT, Int.reduceLE, Int.reduceToNat]
  refine wk_of (fun _ _ _ h => h) ?_
  simp (disch := omega) only [ite_ne, hc, hz, hw, go_sem, ↓reduceIte, Nat.reduceEqDiff, Nat.reduceBEq, Nat.reduceAdd, Nat.reduceLeDiff, Nat.reduceLT, reduceCtorEq, Nat.reduceMul, Nat.reduceSub, Int.reduceEq, Int.reduceLT, Int.reduceLE, Int.reduceToNat]
  trace_state
  refine wk_of (fun _ _ _ h => h) ?_
  simp (disch := omega) only [ite_ne, hc, hz, hw, go_sem, ↓reduceIte, Nat.reduceEqDiff, Nat.reduceBEq, Nat.reduceAdd, Nat.reduceLeDiff, Nat.reduceLT, reduceCtorEq, Nat.reduceMul, Nat.reduceSub, Int.reduceEq, Int.reduceLT, Int.reduceLE, Int.reduceToNat]
theorem ex_pub (c kl : Nat) (hp : CH) (hc : gc hp c = .bx [.i .i64 2, .i .i64 0, .i .i64 0, .e0, .rw kl 0 1]) (hk : gc hp kl = .rw 0 1 [[.i .i64 7]]) (m : Nat) (hcm : c < m) (hkm : kl < m) :
    Meets Try.prog 10 hp m [.bx c 0, .i .i64 7, .s ⟨#[97]⟩] fun hp' n' r => hp' = (m + 34, .rw 0 5 [[.i .i64 5, .i .i64 7, .i .i64 1, .i .i64 0, .s ⟨#[97]⟩]]) :: (c, .bx [.i .i64 2, .i .i64 1, .i .i64 0, .rw (m + 30) 0 1, .rw kl 0 1]) :: (m + 30, .rw 0 5 [[.i .i64 5, .i .i64 7, .i .i64 1, .i .i64 0, .s ⟨#[97]⟩]]) :: (m, .bx [.i .i64 5, .i .i64 7, .i .i64 1, .i .i64 0, .s ⟨#[97]⟩]) :: (c, .bx [.i .i64 2, .i .i64 1, .i .i64 0, .e0, .rw kl 0 1]) :: (m, .bx [.i .i64 5, .i .i64 7, .i .i64 0, .i .i64 0, .s ⟨#[97]⟩]) :: hp ∧ n' = m + 35 ∧ r = .tp [.rw (m + 34) 0 1, .i .i64 0] := by
  refine meets Try.func10 (by kernel_rfl) cc10 cr10 rfl ?_; unfold ck10
  simp (disch := omega) only [ite_ne, hc, go_sem, ↓reduceIte, Nat.reduceEqDiff, Nat.reduceBEq, Nat.reduceAdd, Nat.reduceLeDiff, Nat.reduceLT, reduceCtorEq, Nat.reduceMul, Nat.reduceSub, Int.reduceEq, Int.reduceLT, Int.reduceLE, Int.reduceToNat]
  refine vcCall.r (ex_send c kl _ (by (simp (disch := omega) only [ite_ne, hc, go_sem, ↓reduceIte, Nat.reduceEqDiff, Nat.reduceBEq, Nat.reduceAdd, Nat.reduceLeDiff, Nat.reduceLT, reduceCtorEq, Nat.reduceMul, Nat.reduceSub, Int.reduceEq, Int.reduceLT, Int.reduceLE, Int.reduceToNat])) (by (simp (disch := omega) only [ite_ne, hk, go_sem, ↓reduceIte, Nat.reduceEqDiff, Nat.reduceBEq, Nat.reduceAdd, Nat.reduceLeDiff, Nat.reduceLT, reduceCtorEq, Nat.reduceMul, Nat.reduceSub, Int.reduceEq, Int.reduceLT, Int.reduceLE, Int.reduceToNat])) _ (by omega) (by omega)) fun hp' n' r ⟨e1, e2, e3⟩ => ?_
  subst e1
  subst e2
  subst e3
  simp (disch := omega) only [ite_ne, go_sem, ↓reduceIte, Nat.reduceEqDiff, Nat.reduceBEq, Nat.reduceAdd, Nat.reduceLeDiff, Nat.reduceLT, reduceCtorEq, Nat.reduceMul, Nat.reduceSub, Int.reduceEq, Int.reduceLT, Int.reduceLE, Int.reduceToNat]
theorem mKept_ok (a b d : AV) (c k g len : Nat) (L : AV) (l : List (List AV)) (hp : CH) (hc : gc hp c = .bx [a, b, d, .rw k g len, L]) (hk : gc hp k = .rw g 5 l) (hl : len ≤ l.length) (m : Nat) : MeetsF Try.prog 20 hp m [.bx c 0] (.i .i64 len) := by
  have ht : min len l.length = len := Nat.min_eq_left hl
  refine meetsF Try.func20 (by kernel_rfl) cc20 cr20 rfl fun hf => ?_; unfold ck20
  have hlt := bx_lt' hf hc
  simp (disch := omega) only [ite_ne, hc, hk, hl, List.length_take, ht, go_sem, ↓reduceIte, Nat.reduceEqDiff, Nat.reduceBEq, Nat.reduceAdd, Nat.reduceLeDiff, Nat.reduceLT, reduceCtorEq, Nat.reduceMul, Nat.reduceSub, Int.reduceEq, Int.reduceLT, Int.reduceLE, Int.reduceToNat]
theorem exh47_ok (hp : CH) (m : Nat) : MeetsF Try.prog 9 hp m [] (.b true) := by
  refine meetsF Try.func9 (by kernel_rfl) cc9 cr9 rfl fun hf => ?_; unfold ck9
  simp only [go_sem, ↓reduceIte, Nat.reduceEqDiff, Nat.reduceBEq, Nat.reduceAdd, Nat.reduceLeDiff, Nat.reduceLT, reduceCtorEq, Nat.reduceMul, Nat.reduceSub, Int.reduceEq, Int.reduceLT, Int.reduceLE, Int.reduceToNat]
  refine vcCall.r (ex_new _ _) fun hp' n' r ⟨e1, e2, e3⟩ => ?_
  subst e1
  subst e2
  subst e3
  simp (disch := omega) only [ite_ne, go_sem, ↓reduceIte, Nat.reduceEqDiff, Nat.reduceBEq, Nat.reduceAdd, Nat.reduceLeDiff, Nat.reduceLT, reduceCtorEq, Nat.reduceMul, Nat.reduceSub, Int.reduceEq, Int.reduceLT, Int.reduceLE, Int.reduceToNat]
  refine vcCall.r (ex_recv m _ (by (simp (disch := omega) only [ite_ne, go_sem, ↓reduceIte, Nat.reduceEqDiff, Nat.reduceBEq, Nat.reduceAdd, Nat.reduceLeDiff, Nat.reduceLT, reduceCtorEq, Nat.reduceMul, Nat.reduceSub, Int.reduceEq, Int.reduceLT, Int.reduceLE, Int.reduceToNat])) _ (by omega)) fun hp' n' r ⟨e1, e2, e3⟩ => ?_
  subst e1
  subst e2
  subst e3
  simp (disch := omega) only [ite_ne, go_sem, ↓reduceIte, Nat.reduceEqDiff, Nat.reduceBEq, Nat.reduceAdd, Nat.reduceLeDiff, Nat.reduceLT, reduceCtorEq, Nat.reduceMul, Nat.reduceSub, Int.reduceEq, Int.reduceLT, Int.reduceLE, Int.reduceToNat]
  refine vcCall.r (ex_pub m (m + 1 + 22) _ (by (simp (disch := omega) only [ite_ne, go_sem, ↓reduceIte, Nat.reduceEqDiff, Nat.reduceBEq, Nat.reduceAdd, Nat.reduceLeDiff, Nat.reduceLT, reduceCtorEq, Nat.reduceMul, Nat.reduceSub, Int.reduceEq, Int.reduceLT, Int.reduceLE, Int.reduceToNat])) (by (simp (disch := omega) only [ite_ne, go_sem, ↓reduceIte, Nat.reduceEqDiff, Nat.reduceBEq, Nat.reduceAdd, Nat.reduceLeDiff, Nat.reduceLT, reduceCtorEq, Nat.reduceMul, Nat.reduceSub, Int.reduceEq, Int.reduceLT, Int.reduceLE, Int.reduceToNat])) _ (by omega) (by omega)) fun hp' n' r ⟨e1, e2, e3⟩ => ?_
  subst e1
  subst e2
  subst e3
  simp (disch := omega) only [ite_ne, go_sem, ↓reduceIte, Nat.reduceEqDiff, Nat.reduceBEq, Nat.reduceAdd, Nat.reduceLeDiff, Nat.reduceLT, reduceCtorEq, Nat.reduceMul, Nat.reduceSub, Int.reduceEq, Int.reduceLT, Int.reduceLE, Int.reduceToNat]
  refine gCall.f (fun _ => mKept_ok (.i .i64 2) (.i .i64 1) (.i .i64 0) m (m + 57) 0 1 (.rw (m + 23) 0 1) [[.i .i64 5, .i .i64 7, .i .i64 1, .i .i64 0, .s ⟨#[97]⟩]] _ (by (simp (disch := omega) only [ite_ne, go_sem, ↓reduceIte, Nat.reduceEqDiff, Nat.reduceBEq, Nat.reduceAdd, Nat.reduceLeDiff, Nat.reduceLT, reduceCtorEq, Nat.reduceMul, Nat.reduceSub, Int.reduceEq, Int.reduceLT, Int.reduceLE, Int.reduceToNat])) (by (simp (disch := omega) only [ite_ne, go_sem, ↓reduceIte, Nat.reduceEqDiff, Nat.reduceBEq, Nat.reduceAdd, Nat.reduceLeDiff, Nat.reduceLT, reduceCtorEq, Nat.reduceMul, Nat.reduceSub, Int.reduceEq, Int.reduceLT, Int.reduceLE, Int.reduceToNat])) (Nat.le_refl _) _) ?_
  simp (disch := omega) only [ite_ne, go_sem, ↓reduceIte, Nat.reduceEqDiff, Nat.reduceBEq, Nat.reduceAdd, Nat.reduceLeDiff, Nat.reduceLT, reduceCtorEq, Nat.reduceMul, Nat.reduceSub, Int.reduceEq, Int.reduceLT, Int.reduceLE, Int.reduceToNat]
  try simp
end Go.Proofs.Ytdodiembhgjecaa
