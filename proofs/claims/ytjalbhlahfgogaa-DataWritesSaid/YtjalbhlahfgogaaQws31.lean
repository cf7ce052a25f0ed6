/-
  The parts VaJ of the proof, in one file. Conditions: none.
-/
import Derived.Test.YtjalbhlahfgogaaQws30
namespace Go.Proofs.Ytjalbhlahfgogaa
open Go.Eng
set_option linter.unusedVariables false
set_option linter.unusedSimpArgs false
set_option maxRecDepth 20000
theorem bx_lt {hp : CH} {m c : Nat} {l : List AV} (hf : ∀ k, m ≤ k → gc hp k = .no) (h : gc hp c = .bx l) : c < m := by
  rcases Nat.lt_or_ge c m with q | q
  · exact q
  · rw [hf c q] at h; cases h
mutual
noncomputable def evV (lit : Bool) : Val → Bool
  | .mk k n s i l => nodeW (.mk k n s i l) lit && evL lit i
noncomputable def evL (lit : Bool) : List Val → Bool
  | [] => true
  | x :: r => evV lit x && evL lit r
end
theorem evV_eq (lit : Bool) (v : Val) : evV lit v = (nodeW v lit && evL lit v.items) := by cases v; rw [evV]; rfl
theorem evL_any (lit : Bool) : ∀ l : List Val, evL lit l = !(l.any fun x => !evV lit x)
  | [] => by rw [evL]; rfl
  | x :: r => by rw [evL, evL_any lit r, List.any_cons]; cases evV lit x <;> simp
theorem every1_ok (v : Val) (lit : Bool) (h : ∀ hp m, MeetsF Try.prog 85 hp m [vx v, .b lit] (.b (evV lit v))) (c : Nat) (hp : CH) (m : Nat) (hc : gc hp c = .bx [.b lit]) : MeetsF Try.prog 95 hp m [vx v, .bx c 0] (.b (!evV lit v)) := by
  refine meetsF Try.func95 (by kernel_rfl) cc95 cr95 rfl fun hf => ?_; unfold ck95
  have hlt := bx_lt hf hc
  have z1 : ¬ c = m := by omega
  have z2 : ¬ m = c := by omega
  simp only [z1, z2, hc, go_sem, ↓reduceIte, Nat.reduceEqDiff, Nat.reduceBEq, Nat.reduceAdd, Nat.reduceLeDiff, Nat.reduceLT, reduceCtorEq, Nat.reduceMul, Nat.reduceSub, Int.reduceEq, Int.reduceLT, Int.reduceLE, Int.reduceToNat]
  refine vcCall.f (h _ _) ?_
  simp only [go_sem, ↓reduceIte, Nat.reduceEqDiff, Nat.reduceBEq, Nat.reduceAdd, Nat.reduceLeDiff, Nat.reduceLT, reduceCtorEq, Nat.reduceMul, Nat.reduceSub, Int.reduceEq, Int.reduceLT, Int.reduceLE, Int.reduceToNat]
theorem every_of (v : Val) (lit : Bool) (hv : v.Fit) (h : ∀ x ∈ v.items, ∀ hp m, MeetsF Try.prog 85 hp m [vx x, .b lit] (.b (evV lit x))) (hp : CH) (m : Nat) : MeetsF Try.prog 85 hp m [vx v, .b lit] (.b (evV lit v)) := by
  have h1 := hv.i
  have e := evV_eq lit v
  rw [evL_any] at e
  rw [e]
  refine meetsF Try.func85 (by kernel_rfl) cc85 cr85 rfl fun hf => ?_; unfold ck85
  simp only [go_sem, ↓reduceIte, Nat.reduceEqDiff, Nat.reduceBEq, Nat.reduceAdd, Nat.reduceLeDiff, Nat.reduceLT, reduceCtorEq, Nat.reduceMul, Nat.reduceSub, Int.reduceEq, Int.reduceLT, Int.reduceLE, Int.reduceToNat]
  refine vcCall.f (vnode_ok v lit hv _ _) ?_
  simp only [go_sem, ↓reduceIte, Nat.reduceEqDiff, Nat.reduceBEq, Nat.reduceAdd, Nat.reduceLeDiff, Nat.reduceLT, reduceCtorEq, Nat.reduceMul, Nat.reduceSub, Int.reduceEq, Int.reduceLT, Int.reduceLE, Int.reduceToNat]
  refine gCall.f (fun g => anyf_val v.items (fun x => !evV lit x) _ _ (by omega) _ _ fun x hx n => every1_ok x lit (h x hx) (m + 1) _ _ (by simp only [go_sem, ↓reduceIte, Nat.reduceEqDiff, Nat.reduceBEq, Nat.reduceAdd, Nat.reduceLeDiff, Nat.reduceLT, reduceCtorEq, Nat.reduceMul, Nat.reduceSub, Int.reduceEq, Int.reduceLT, Int.reduceLE, Int.reduceToNat])) ?_
  simp only [go_sem, ↓reduceIte, Nat.reduceEqDiff, Nat.reduceBEq, Nat.reduceAdd, Nat.reduceLeDiff, Nat.reduceLT, reduceCtorEq, Nat.reduceMul, Nat.reduceSub, Int.reduceEq, Int.reduceLT, Int.reduceLE, Int.reduceToNat]
theorem every_ok (v : Val) (lit : Bool) (hv : v.Fit) (hp : CH) (m : Nat) : MeetsF Try.prog 85 hp m [vx v, .b lit] (.b (evV lit v)) := by
  have := Val.ind (Q := fun v => v.Fit → ∀ hp m, MeetsF Try.prog 85 hp m [vx v, .b lit] (.b (evV lit v))) (fun v ih hv hp m => every_of v lit hv (fun x hx => ih x hx (hv.x hx)) hp m) v
  exact this hv hp m
/-- A right value. -/
noncomputable def rightV (lit : Bool) (v : Val) : Bool := decide (szV v ≤ 4096) && decide (dpV v ≤ 24) && evV lit v
theorem vRight_ok (v : Val) (hv : v.Fit) (hp : CH) (m : Nat) : MeetsF Try.prog 67 hp m [vx v] (.b (rightV false v)) := by
  rw [rightV]
  refine meetsF Try.func67 (by kernel_rfl) cc67 cr67 rfl fun hf => ?_; unfold ck67
  simp only [go_sem, ↓reduceIte, Nat.reduceEqDiff, Nat.reduceBEq, Nat.reduceAdd, Nat.reduceLeDiff, Nat.reduceLT, reduceCtorEq, Nat.reduceMul, Nat.reduceSub, Int.reduceEq, Int.reduceLT, Int.reduceLE, Int.reduceToNat]
  refine vcCall.f (vsize_ok v hv _ _) ?_
  simp only [go_sem, ↓reduceIte, Nat.reduceEqDiff, Nat.reduceBEq, Nat.reduceAdd, Nat.reduceLeDiff, Nat.reduceLT, reduceCtorEq, Nat.reduceMul, Nat.reduceSub, Int.reduceEq, Int.reduceLT, Int.reduceLE, Int.reduceToNat]
  refine gCall.f (fun _ => vdepth_ok v hv _ _) ?_
  simp only [go_sem, ↓reduceIte, Nat.reduceEqDiff, Nat.reduceBEq, Nat.reduceAdd, Nat.reduceLeDiff, Nat.reduceLT, reduceCtorEq, Nat.reduceMul, Nat.reduceSub, Int.reduceEq, Int.reduceLT, Int.reduceLE, Int.reduceToNat]
  refine gCall.f (fun _ => every_ok v false hv _ _) ?_
  simp only [go_sem, ↓reduceIte, Nat.reduceEqDiff, Nat.reduceBEq, Nat.reduceAdd, Nat.reduceLeDiff, Nat.reduceLT, reduceCtorEq, Nat.reduceMul, Nat.reduceSub, Int.reduceEq, Int.reduceLT, Int.reduceLE, Int.reduceToNat]
end Go.Proofs.Ytjalbhlahfgogaa
