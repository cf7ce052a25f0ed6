/-
  The parts VaI VaJ of the proof, in one file. Conditions: none.
-/
import Derived.Test.YthiifoleopdieaaIp25
namespace Go.Proofs.Ythiifoleopdieaa
open Go.Eng
set_option linter.unusedVariables false
set_option linter.unusedSimpArgs false
set_option maxRecDepth 20000
mutual
def dpV : Val → Int
  | .mk _ _ _ i _ => IntKind.i64.wrap (dpL i 0 + 1)
def dpL : List Val → Int → Int
  | [], n => n
  | x :: r, n => dpL r (if n < dpV x then dpV x else n)
end
theorem dpV_eq (v : Val) : dpV v = IntKind.i64.wrap (dpL v.items 0 + 1) := by cases v; rw [dpV]; rfl
theorem rdepth_of (v : Val) (h3 : v.items.length * 80 ≤ 140737488355327) (h : ∀ x ∈ v.items, ∀ hp m, MeetsF Try.prog 94 hp m [vx x] (.i .i64 (dpV x))) (hp : CH) (m : Nat) : MeetsF Try.prog 94 hp m [vx v] (.i .i64 (dpV v)) := by
  obtain ⟨D, hD⟩ : ∃ D, dpL v.items 0 = D := ⟨_, rfl⟩
  have hd := dpV_eq v
  rw [hD] at hd
  rw [hd]
  refine meetsF Try.func94 (by kernel_rfl) cc94 cr94 rfl fun hf => ?_; unfold ck94
  simp only [go_sem, ↓reduceIte, Nat.reduceEqDiff, Nat.reduceBEq, Nat.reduceAdd, Nat.reduceLeDiff, Nat.reduceLT, reduceCtorEq, Nat.reduceMul, Nat.reduceSub, Int.reduceEq, Int.reduceLT, Int.reduceLE, Int.reduceToNat]
  refine loop (fun p : Nat × Int × Nat => ⟨[(1, .bx m 0), (3, .i .i64 p.2.1), (4, .i .i64 p.1)], (m, .bx [.i .i64 v.k, .i .i64 v.n, .s v.s, .ds (mapC valC v.items), .ds (stC v.keys)]) :: hp, p.2.2⟩)
    (fun p => p.1 ≤ v.items.length ∧ m + 1 ≤ p.2.2 ∧ D = dpL (v.items.drop p.1) p.2.1) (fun p => v.items.length - p.1) (0, 0, m + 1) ?_ ?_ (fun ⟨j, a, n⟩ hj => ?_)
  · exact ⟨by dsimp only; omega, by dsimp only; omega, hD.symm⟩
  · refine weak_ok ?_ (Sub.refl _) (Nat.le_refl _)
    simp only [go_sem, ↓reduceIte, Nat.reduceEqDiff, Nat.reduceBEq, Nat.reduceAdd, Nat.reduceLeDiff, Nat.reduceLT, reduceCtorEq, Nat.reduceMul, Nat.reduceSub, Int.reduceEq, Int.reduceLT, Int.reduceLE, Int.reduceToNat]
  dsimp only at hj
  simp only [go_sem, ↓reduceIte, Nat.reduceEqDiff, Nat.reduceBEq, Nat.reduceAdd, Nat.reduceLeDiff, Nat.reduceLT, reduceCtorEq, Nat.reduceMul, Nat.reduceSub, Int.reduceEq, Int.reduceLT, Int.reduceLE, Int.reduceToNat]
  refine cdK_of (fun d => ?_) (fun d => ?_)
  · have d : j < v.items.length := by simpa using d
    obtain ⟨x, ex⟩ : ∃ x, v.items[j]? = some x := ⟨v.items[j], by simp [d]⟩
    have hx := h x (List.mem_of_getElem? ex)
    have e := drop_at ex
    rw [e, dpL] at hj
    simp only [d, getK_s (mapC_get valC ex), go_sem, ↓reduceIte, Nat.reduceEqDiff, Nat.reduceBEq, Nat.reduceAdd, Nat.reduceLeDiff, Nat.reduceLT, reduceCtorEq, Nat.reduceMul, Nat.reduceSub, Int.reduceEq, Int.reduceLT, Int.reduceLE, Int.reduceToNat]
    refine vcCall.f (hx _ _) ?_
    simp only [go_sem, ↓reduceIte, Nat.reduceEqDiff, Nat.reduceBEq, Nat.reduceAdd, Nat.reduceLeDiff, Nat.reduceLT, reduceCtorEq, Nat.reduceMul, Nat.reduceSub, Int.reduceEq, Int.reduceLT, Int.reduceLE, Int.reduceToNat]
    refine ⟨(j + 1, (if a < dpV x then dpV x else a), n), by dsimp only; exact ⟨by omega, by omega, hj.2.2⟩, by dsimp only; omega, weak_ok ?_ (Sub.refl _) (Nat.le_refl _)⟩
    simp only [wr64s j (by omega), go_sem, ↓reduceIte, Nat.reduceEqDiff, Nat.reduceBEq, Nat.reduceAdd, Nat.reduceLeDiff, Nat.reduceLT, reduceCtorEq, Nat.reduceMul, Nat.reduceSub, Int.reduceEq, Int.reduceLT, Int.reduceLE, Int.reduceToNat]
  · have d : j = v.items.length := by simp at d; omega
    subst d
    rw [List.drop_length, dpL] at hj
    simp only [go_sem, ↓reduceIte, Nat.reduceEqDiff, Nat.reduceBEq, Nat.reduceAdd, Nat.reduceLeDiff, Nat.reduceLT, reduceCtorEq, Nat.reduceMul, Nat.reduceSub, Int.reduceEq, Int.reduceLT, Int.reduceLE, Int.reduceToNat]
    rw [hj.2.2]
theorem rdepth_ok (v : Val) (hv : v.Fit) (hp : CH) (m : Nat) : MeetsF Try.prog 94 hp m [vx v] (.i .i64 (dpV v)) := by
  have := Val.ind (Q := fun v => v.Fit → ∀ hp m, MeetsF Try.prog 94 hp m [vx v] (.i .i64 (dpV v))) (fun v ih hv hp m => rdepth_of v hv.i (fun x hx => ih x hx (hv.x hx)) hp m) v
  exact this hv hp m
/-- A node that is right apart from its items. -/
noncomputable def nodeV (v : Val) (lit : Bool) : Bool :=
  if v.k = 0 then decide (v.n = 0) && decide (v.s = ⟨#[]⟩) && decide ((v.items.length : Int) = 0) && decide ((v.keys.length : Int) = 0)
  else if v.k = 1 then (decide (v.n = 0) || decide (v.n = 1)) && decide (v.s = ⟨#[]⟩) && decide ((v.items.length : Int) = 0) && decide ((v.keys.length : Int) = 0)
  else if v.k = 2 then decide (v.s = ⟨#[]⟩) && decide ((v.items.length : Int) = 0) && decide ((v.keys.length : Int) = 0)
  else if v.k = 3 then decide (v.n = 0) && decide ((v.items.length : Int) = 0) && decide ((v.keys.length : Int) = 0)
  else if v.k = 4 then decide (v.n = 0) && decide ((v.items.length : Int) = 0) && decide ((v.keys.length : Int) = 0) && nmS v.s && !decide (v.s = ⟨#[116, 114, 117, 101]⟩) && !decide (v.s = ⟨#[102, 97, 108, 115, 101]⟩) && !decide (v.s = ⟨#[110, 117, 108, 108]⟩)
  else if v.k = 5 then decide (v.n = 0) && decide (v.s = ⟨#[]⟩) && decide ((v.keys.length : Int) = 0)
  else if v.k = 6 then decide (v.n = 0) && decide (v.s = ⟨#[]⟩) && decide ((v.keys.length : Int) = v.items.length) && !tw v.keys
  else if v.k = 7 then lit && decide (v.n = 0) && decide ((v.items.length : Int) = 0) && decide ((v.keys.length : Int) = 0) && nmS v.s
  else false
theorem rnode_ok (v : Val) (lit : Bool) (hv : v.Fit) (hp : CH) (m : Nat) : MeetsF Try.prog 105 hp m [vx v, .b lit] (.b (nodeV v lit)) := by
  have hl := hv.l
  refine meetsF Try.func105 (by kernel_rfl) cc105 cr105 rfl fun hf => ?_; unfold ck105
  simp only [go_sem, ↓reduceIte, Nat.reduceEqDiff, Nat.reduceBEq, Nat.reduceAdd, Nat.reduceLeDiff, Nat.reduceLT, reduceCtorEq, Nat.reduceMul, Nat.reduceSub, Int.reduceEq, Int.reduceLT, Int.reduceLE, Int.reduceToNat]
  repeat' (first
    | ((with_reducible refine cdK_of (fun _ => ?_) (fun _ => ?_)) <;> (try simp only [go_sem, ↓reduceIte, Nat.reduceEqDiff, Nat.reduceBEq, Nat.reduceAdd, Nat.reduceLeDiff, Nat.reduceLT, reduceCtorEq, Nat.reduceMul, Nat.reduceSub, Int.reduceEq, Int.reduceLT, Int.reduceLE, Int.reduceToNat]))
    | ((with_reducible apply vcCall.f); exact Name2_ok _ _ _; try simp only [go_sem, ↓reduceIte, Nat.reduceEqDiff, Nat.reduceBEq, Nat.reduceAdd, Nat.reduceLeDiff, Nat.reduceLT, reduceCtorEq, Nat.reduceMul, Nat.reduceSub, Int.reduceEq, Int.reduceLT, Int.reduceLE, Int.reduceToNat])
    | ((with_reducible apply gCall.f); exact fun _ => Name2_ok _ _ _; try simp only [go_sem, ↓reduceIte, Nat.reduceEqDiff, Nat.reduceBEq, Nat.reduceAdd, Nat.reduceLeDiff, Nat.reduceLT, reduceCtorEq, Nat.reduceMul, Nat.reduceSub, Int.reduceEq, Int.reduceLT, Int.reduceLE, Int.reduceToNat])
    | ((with_reducible apply dCall.f); exact fun _ _ _ => Name2_ok _ _ _; try simp only [go_sem, ↓reduceIte, Nat.reduceEqDiff, Nat.reduceBEq, Nat.reduceAdd, Nat.reduceLeDiff, Nat.reduceLT, reduceCtorEq, Nat.reduceMul, Nat.reduceSub, Int.reduceEq, Int.reduceLT, Int.reduceLE, Int.reduceToNat])
    | ((with_reducible apply dCallR.f); exact fun _ _ _ => Name2_ok _ _ _; try simp only [go_sem, ↓reduceIte, Nat.reduceEqDiff, Nat.reduceBEq, Nat.reduceAdd, Nat.reduceLeDiff, Nat.reduceLT, reduceCtorEq, Nat.reduceMul, Nat.reduceSub, Int.reduceEq, Int.reduceLT, Int.reduceLE, Int.reduceToNat])
    | ((with_reducible apply vcCall.f); exact twice2_ok v.keys (by omega) _ _; try simp only [go_sem, ↓reduceIte, Nat.reduceEqDiff, Nat.reduceBEq, Nat.reduceAdd, Nat.reduceLeDiff, Nat.reduceLT, reduceCtorEq, Nat.reduceMul, Nat.reduceSub, Int.reduceEq, Int.reduceLT, Int.reduceLE, Int.reduceToNat])
    | ((with_reducible apply gCall.f); exact fun _ => twice2_ok v.keys (by omega) _ _; try simp only [go_sem, ↓reduceIte, Nat.reduceEqDiff, Nat.reduceBEq, Nat.reduceAdd, Nat.reduceLeDiff, Nat.reduceLT, reduceCtorEq, Nat.reduceMul, Nat.reduceSub, Int.reduceEq, Int.reduceLT, Int.reduceLE, Int.reduceToNat])
    | ((with_reducible apply dCall.f); exact fun _ _ _ => twice2_ok v.keys (by omega) _ _; try simp only [go_sem, ↓reduceIte, Nat.reduceEqDiff, Nat.reduceBEq, Nat.reduceAdd, Nat.reduceLeDiff, Nat.reduceLT, reduceCtorEq, Nat.reduceMul, Nat.reduceSub, Int.reduceEq, Int.reduceLT, Int.reduceLE, Int.reduceToNat])
    | ((with_reducible apply dCallR.f); exact fun _ _ _ => twice2_ok v.keys (by omega) _ _; try simp only [go_sem, ↓reduceIte, Nat.reduceEqDiff, Nat.reduceBEq, Nat.reduceAdd, Nat.reduceLeDiff, Nat.reduceLT, reduceCtorEq, Nat.reduceMul, Nat.reduceSub, Int.reduceEq, Int.reduceLT, Int.reduceLE, Int.reduceToNat])
    | ((with_reducible apply vcCall.p); exact Name2_ok _ _ _; (focus (simp only [go_sem, ↓reduceIte, Nat.reduceEqDiff, Nat.reduceBEq, Nat.reduceAdd, Nat.reduceLeDiff, Nat.reduceLT, reduceCtorEq, Nat.reduceMul, Nat.reduceSub, Int.reduceEq, Int.reduceLT, Int.reduceLE, Int.reduceToNat]; done)); try simp only [go_sem, ↓reduceIte, Nat.reduceEqDiff, Nat.reduceBEq, Nat.reduceAdd, Nat.reduceLeDiff, Nat.reduceLT, reduceCtorEq, Nat.reduceMul, Nat.reduceSub, Int.reduceEq, Int.reduceLT, Int.reduceLE, Int.reduceToNat])
    | ((with_reducible apply vcCall.p); exact twice2_ok v.keys (by omega) _ _; (focus (simp only [go_sem, ↓reduceIte, Nat.reduceEqDiff, Nat.reduceBEq, Nat.reduceAdd, Nat.reduceLeDiff, Nat.reduceLT, reduceCtorEq, Nat.reduceMul, Nat.reduceSub, Int.reduceEq, Int.reduceLT, Int.reduceLE, Int.reduceToNat]; done)); try simp only [go_sem, ↓reduceIte, Nat.reduceEqDiff, Nat.reduceBEq, Nat.reduceAdd, Nat.reduceLeDiff, Nat.reduceLT, reduceCtorEq, Nat.reduceMul, Nat.reduceSub, Int.reduceEq, Int.reduceLT, Int.reduceLE, Int.reduceToNat])
    | ((with_reducible refine grK_of (fun _ => ?_) (fun _ => ?_)) <;> (try simp only [go_sem, ↓reduceIte, Nat.reduceEqDiff, Nat.reduceBEq, Nat.reduceAdd, Nat.reduceLeDiff, Nat.reduceLT, reduceCtorEq, Nat.reduceMul, Nat.reduceSub, Int.reduceEq, Int.reduceLT, Int.reduceLE, Int.reduceToNat]))
    | ((with_reducible refine gCall.s (vcIf_of (fun _ => ?_) (fun _ => ?_))) <;> (try simp only [go_sem, ↓reduceIte, Nat.reduceEqDiff, Nat.reduceBEq, Nat.reduceAdd, Nat.reduceLeDiff, Nat.reduceLT, reduceCtorEq, Nat.reduceMul, Nat.reduceSub, Int.reduceEq, Int.reduceLT, Int.reduceLE, Int.reduceToNat]))
    | ((with_reducible refine getK.m ?_ (fun _ _ => ?_)); rotate_left; try simp only [go_sem, ↓reduceIte, Nat.reduceEqDiff, Nat.reduceBEq, Nat.reduceAdd, Nat.reduceLeDiff, Nat.reduceLT, reduceCtorEq, Nat.reduceMul, Nat.reduceSub, Int.reduceEq, Int.reduceLT, Int.reduceLE, Int.reduceToNat])
    | exact mapC_all (fun _ => rfl)
    | exact mapC_alln (fun _ => ⟨rfl, rfl⟩)
    | with_reducible refine And.intro ?_ ?_)
  all_goals clear hf hl hv
  all_goals simp only [decide_eq_true_eq, decide_eq_false_iff_not] at *
  all_goals simp only [nodeV, *, ↓reduceIte, Int.reduceEq]
/-- A node with keys that are names, if it is a literal's. -/
noncomputable def nodeW (v : Val) (lit : Bool) : Bool := nodeV v lit && !(lit && v.keys.any fun k => !nmS k)
end Go.Proofs.Ythiifoleopdieaa
namespace Go.Proofs.Ythiifoleopdieaa
open Go.Eng
set_option linter.unusedVariables false
set_option linter.unusedSimpArgs false
set_option maxRecDepth 20000
theorem bx_lt {hp : CH} {m c : Nat} {l : List AV} (hf : ∀ k, m ≤ k → gc hp k = .no) (h : gc hp c = .bx l) : c < m := by
  rcases Nat.lt_or_ge c m with q | q
  · exact q
  · rw [hf c q] at h; cases h
mutual
noncomputable def evV (lit : Bool) : Val → Bool
  | .mk k n s i l => nodeW (.mk k n s i l) lit && evL lit i
noncomputable def evL (lit : Bool) : List Val → Bool
  | [] => true
  | x :: r => evV lit x && evL lit r
end
theorem evV_eq (lit : Bool) (v : Val) : evV lit v = (nodeW v lit && evL lit v.items) := by cases v; rw [evV]; rfl
theorem whole_of (v : Val) (lit : Bool) (hv : v.Fit) (h : ∀ x ∈ v.items, ∀ hp m, MeetsF Try.prog 95 hp m [vx x, .b lit] (.b (evV lit x))) (hp : CH) (m : Nat) : MeetsF Try.prog 95 hp m [vx v, .b lit] (.b (evV lit v)) := by
  have h1 := hv.i
  have h2 := hv.l
  have e0 := evV_eq lit v
  refine meetsF Try.func95 (by kernel_rfl) cc95 cr95 rfl fun hf => ?_; unfold ck95
  simp only [go_sem, ↓reduceIte, Nat.reduceEqDiff, Nat.reduceBEq, Nat.reduceAdd, Nat.reduceLeDiff, Nat.reduceLT, reduceCtorEq, Nat.reduceMul, Nat.reduceSub, Int.reduceEq, Int.reduceLT, Int.reduceLE, Int.reduceToNat]
  refine vcCall.f (rnode_ok v lit hv _ _) ?_
  simp only [go_sem, ↓reduceIte, Nat.reduceEqDiff, Nat.reduceBEq, Nat.reduceAdd, Nat.reduceLeDiff, Nat.reduceLT, reduceCtorEq, Nat.reduceMul, Nat.reduceSub, Int.reduceEq, Int.reduceLT, Int.reduceLE, Int.reduceToNat]
  refine cdK_of (fun c => ?_) (fun c => ?_)
  · have c : nodeV v lit = false := by simpa using c
    rw [e0, nodeW, c, Bool.false_and, Bool.false_and]
    simp only [go_sem, ↓reduceIte, Nat.reduceEqDiff, Nat.reduceBEq, Nat.reduceAdd, Nat.reduceLeDiff, Nat.reduceLT, reduceCtorEq, Nat.reduceMul, Nat.reduceSub, Int.reduceEq, Int.reduceLT, Int.reduceLE, Int.reduceToNat]
  have c : nodeV v lit = true := by simpa using c
  rw [nodeW, c, Bool.true_and] at e0
  simp only [go_sem, ↓reduceIte, Nat.reduceEqDiff, Nat.reduceBEq, Nat.reduceAdd, Nat.reduceLeDiff, Nat.reduceLT, reduceCtorEq, Nat.reduceMul, Nat.reduceSub, Int.reduceEq, Int.reduceLT, Int.reduceLE, Int.reduceToNat]
  refine loop (fun p : Nat × Nat => ⟨[(1, .b lit), (2, .bx m 0), (5, .i .i64 p.1)], (m, .bx [.i .i64 v.k, .i .i64 v.n, .s v.s, .ds (mapC valC v.items), .ds (stC v.keys)]) :: hp, p.2⟩)
    (fun p => p.1 ≤ v.keys.length ∧ m + 1 ≤ p.2 ∧ (lit && v.keys.any fun k => !nmS k) = (lit && (v.keys.drop p.1).any fun k => !nmS k)) (fun p => v.keys.length - p.1) (0, m + 1) ?_ ?_ (fun ⟨j, n⟩ hj => ?_)
  · exact ⟨by simp, by simp, rfl⟩
  · refine weak_ok ?_ (Sub.refl _) (Nat.le_refl _)
    simp only [go_sem, ↓reduceIte, Nat.reduceEqDiff, Nat.reduceBEq, Nat.reduceAdd, Nat.reduceLeDiff, Nat.reduceLT, reduceCtorEq, Nat.reduceMul, Nat.reduceSub, Int.reduceEq, Int.reduceLT, Int.reduceLE, Int.reduceToNat]
  dsimp only at hj
  obtain ⟨hj1, hj2, hj3⟩ := hj
  simp only [go_sem, ↓reduceIte, Nat.reduceEqDiff, Nat.reduceBEq, Nat.reduceAdd, Nat.reduceLeDiff, Nat.reduceLT, reduceCtorEq, Nat.reduceMul, Nat.reduceSub, Int.reduceEq, Int.reduceLT, Int.reduceLE, Int.reduceToNat]
  refine cdK_of (fun d => ?_) (fun d => ?_)
  · have d : j < v.keys.length := by simpa using d
    obtain ⟨x, ex⟩ : ∃ x, v.keys[j]? = some x := ⟨v.keys[j], by simp [d]⟩
    rw [drop_at ex, List.any_cons] at hj3
    simp only [d, go_sem, ↓reduceIte, Nat.reduceEqDiff, Nat.reduceBEq, Nat.reduceAdd, Nat.reduceLeDiff, Nat.reduceLT, reduceCtorEq, Nat.reduceMul, Nat.reduceSub, Int.reduceEq, Int.reduceLT, Int.reduceLE, Int.reduceToNat]
    refine grK_of (fun g => ?_) (fun g => ?_)
    · subst g
      simp only [d, getK_s (mapC_get st1 ex), go_sem, ↓reduceIte, Nat.reduceEqDiff, Nat.reduceBEq, Nat.reduceAdd, Nat.reduceLeDiff, Nat.reduceLT, reduceCtorEq, Nat.reduceMul, Nat.reduceSub, Int.reduceEq, Int.reduceLT, Int.reduceLE, Int.reduceToNat]
      refine gCall_t (vcCall.f (Name2_ok x _ _) ?_)
      simp only [go_sem, ↓reduceIte, Nat.reduceEqDiff, Nat.reduceBEq, Nat.reduceAdd, Nat.reduceLeDiff, Nat.reduceLT, reduceCtorEq, Nat.reduceMul, Nat.reduceSub, Int.reduceEq, Int.reduceLT, Int.reduceLE, Int.reduceToNat]
      refine cdK_of (fun q => ?_) (fun q => ?_)
      · rw [q] at hj3
        rw [hj3] at e0
        rw [e0]
        simp only [go_sem, ↓reduceIte, Nat.reduceEqDiff, Nat.reduceBEq, Nat.reduceAdd, Nat.reduceLeDiff, Nat.reduceLT, reduceCtorEq, Nat.reduceMul, Nat.reduceSub, Int.reduceEq, Int.reduceLT, Int.reduceLE, Int.reduceToNat]
      · rw [q, Bool.false_or] at hj3
        simp only [go_sem, ↓reduceIte, Nat.reduceEqDiff, Nat.reduceBEq, Nat.reduceAdd, Nat.reduceLeDiff, Nat.reduceLT, reduceCtorEq, Nat.reduceMul, Nat.reduceSub, Int.reduceEq, Int.reduceLT, Int.reduceLE, Int.reduceToNat]
        refine ⟨(j + 1, _), ⟨by dsimp only; omega, by dsimp only; omega, hj3⟩, by dsimp only; omega, weak_ok ?_ (Sub.refl _) (Nat.le_refl _)⟩
        simp only [wr64s j (by omega), go_sem, ↓reduceIte, Nat.reduceEqDiff, Nat.reduceBEq, Nat.reduceAdd, Nat.reduceLeDiff, Nat.reduceLT, reduceCtorEq, Nat.reduceMul, Nat.reduceSub, Int.reduceEq, Int.reduceLT, Int.reduceLE, Int.reduceToNat]
    · subst g
      simp only [d, go_sem, ↓reduceIte, Nat.reduceEqDiff, Nat.reduceBEq, Nat.reduceAdd, Nat.reduceLeDiff, Nat.reduceLT, reduceCtorEq, Nat.reduceMul, Nat.reduceSub, Int.reduceEq, Int.reduceLT, Int.reduceLE, Int.reduceToNat]
      refine gCall_f ?_
      simp only [go_sem, ↓reduceIte, Nat.reduceEqDiff, Nat.reduceBEq, Nat.reduceAdd, Nat.reduceLeDiff, Nat.reduceLT, reduceCtorEq, Nat.reduceMul, Nat.reduceSub, Int.reduceEq, Int.reduceLT, Int.reduceLE, Int.reduceToNat]
      refine ⟨(j + 1, _), ⟨by dsimp only; omega, by dsimp only; omega⟩, by dsimp only; omega, weak_ok ?_ (Sub.refl _) (Nat.le_refl _)⟩
      simp only [wr64s j (by omega), go_sem, ↓reduceIte, Nat.reduceEqDiff, Nat.reduceBEq, Nat.reduceAdd, Nat.reduceLeDiff, Nat.reduceLT, reduceCtorEq, Nat.reduceMul, Nat.reduceSub, Int.reduceEq, Int.reduceLT, Int.reduceLE, Int.reduceToNat]
  · have d : j = v.keys.length := by simp at d; omega
    subst d
    rw [List.drop_length, List.any_nil, Bool.and_false] at hj3
    rw [hj3, Bool.not_false, Bool.true_and] at e0
    simp only [go_sem, ↓reduceIte, Nat.reduceEqDiff, Nat.reduceBEq, Nat.reduceAdd, Nat.reduceLeDiff, Nat.reduceLT, reduceCtorEq, Nat.reduceMul, Nat.reduceSub, Int.reduceEq, Int.reduceLT, Int.reduceLE, Int.reduceToNat]
    refine loop (fun p : Nat × Nat => ⟨[(1, .b lit), (2, .bx m 0), (6, .i .i64 p.1)], (m, .bx [.i .i64 v.k, .i .i64 v.n, .s v.s, .ds (mapC valC v.items), .ds (stC v.keys)]) :: hp, p.2⟩)
      (fun p => p.1 ≤ v.items.length ∧ m + 1 ≤ p.2 ∧ evV lit v = evL lit (v.items.drop p.1)) (fun p => v.items.length - p.1) (0, n) ?_ ?_ (fun ⟨j, n⟩ hj => ?_)
    · exact ⟨by simp, hj2, e0⟩
    · refine weak_ok ?_ (Sub.refl _) (Nat.le_refl _)
      simp only [go_sem, ↓reduceIte, Nat.reduceEqDiff, Nat.reduceBEq, Nat.reduceAdd, Nat.reduceLeDiff, Nat.reduceLT, reduceCtorEq, Nat.reduceMul, Nat.reduceSub, Int.reduceEq, Int.reduceLT, Int.reduceLE, Int.reduceToNat]
    dsimp only at hj
    obtain ⟨hj1, hj2, hj3⟩ := hj
    simp only [go_sem, ↓reduceIte, Nat.reduceEqDiff, Nat.reduceBEq, Nat.reduceAdd, Nat.reduceLeDiff, Nat.reduceLT, reduceCtorEq, Nat.reduceMul, Nat.reduceSub, Int.reduceEq, Int.reduceLT, Int.reduceLE, Int.reduceToNat]
    refine cdK_of (fun d => ?_) (fun d => ?_)
    · have d : j < v.items.length := by simpa using d
      obtain ⟨x, ex⟩ : ∃ x, v.items[j]? = some x := ⟨v.items[j], by simp [d]⟩
      rw [drop_at ex, evL] at hj3
      simp only [d, getK_s (mapC_get valC ex), go_sem, ↓reduceIte, Nat.reduceEqDiff, Nat.reduceBEq, Nat.reduceAdd, Nat.reduceLeDiff, Nat.reduceLT, reduceCtorEq, Nat.reduceMul, Nat.reduceSub, Int.reduceEq, Int.reduceLT, Int.reduceLE, Int.reduceToNat]
      refine vcCall.f (h x (List.mem_of_getElem? ex) _ _) ?_
      simp only [go_sem, ↓reduceIte, Nat.reduceEqDiff, Nat.reduceBEq, Nat.reduceAdd, Nat.reduceLeDiff, Nat.reduceLT, reduceCtorEq, Nat.reduceMul, Nat.reduceSub, Int.reduceEq, Int.reduceLT, Int.reduceLE, Int.reduceToNat]
      refine cdK_of (fun q => ?_) (fun q => ?_)
      · have q : evV lit x = false := by simpa using q
        rw [hj3, q, Bool.false_and]
        simp only [go_sem, ↓reduceIte, Nat.reduceEqDiff, Nat.reduceBEq, Nat.reduceAdd, Nat.reduceLeDiff, Nat.reduceLT, reduceCtorEq, Nat.reduceMul, Nat.reduceSub, Int.reduceEq, Int.reduceLT, Int.reduceLE, Int.reduceToNat]
      · have q : evV lit x = true := by simpa using q
        rw [q, Bool.true_and] at hj3
        simp only [go_sem, ↓reduceIte, Nat.reduceEqDiff, Nat.reduceBEq, Nat.reduceAdd, Nat.reduceLeDiff, Nat.reduceLT, reduceCtorEq, Nat.reduceMul, Nat.reduceSub, Int.reduceEq, Int.reduceLT, Int.reduceLE, Int.reduceToNat]
        refine ⟨(j + 1, _), ⟨by dsimp only; omega, by dsimp only; omega, hj3⟩, by dsimp only; omega, weak_ok ?_ (Sub.refl _) (Nat.le_refl _)⟩
        simp only [wr64s j (by omega), go_sem, ↓reduceIte, Nat.reduceEqDiff, Nat.reduceBEq, Nat.reduceAdd, Nat.reduceLeDiff, Nat.reduceLT, reduceCtorEq, Nat.reduceMul, Nat.reduceSub, Int.reduceEq, Int.reduceLT, Int.reduceLE, Int.reduceToNat]
    · have d : j = v.items.length := by simp at d; omega
      subst d
      rw [List.drop_length, evL] at hj3
      rw [hj3]
      simp only [go_sem, ↓reduceIte, Nat.reduceEqDiff, Nat.reduceBEq, Nat.reduceAdd, Nat.reduceLeDiff, Nat.reduceLT, reduceCtorEq, Nat.reduceMul, Nat.reduceSub, Int.reduceEq, Int.reduceLT, Int.reduceLE, Int.reduceToNat]
theorem whole_ok (v : Val) (lit : Bool) (hv : v.Fit) (hp : CH) (m : Nat) : MeetsF Try.prog 95 hp m [vx v, .b lit] (.b (evV lit v)) := by
  have := Val.ind (Q := fun v => v.Fit → ∀ hp m, MeetsF Try.prog 95 hp m [vx v, .b lit] (.b (evV lit v))) (fun v ih hv hp m => whole_of v lit hv (fun x hx => ih x hx (hv.x hx)) hp m) v
  exact this hv hp m
/-- A right value. -/
noncomputable def rightV (lit : Bool) (v : Val) : Bool := decide (szV v ≤ 4096) && decide (dpV v ≤ 24) && evV lit v
theorem rRight_ok (v : Val) (hv : v.Fit) (hp : CH) (m : Nat) : MeetsF Try.prog 76 hp m [vx v] (.b (rightV false v)) := by
  rw [rightV]
  refine meetsF Try.func76 (by kernel_rfl) cc76 cr76 rfl fun hf => ?_; unfold ck76
  simp only [go_sem, ↓reduceIte, Nat.reduceEqDiff, Nat.reduceBEq, Nat.reduceAdd, Nat.reduceLeDiff, Nat.reduceLT, reduceCtorEq, Nat.reduceMul, Nat.reduceSub, Int.reduceEq, Int.reduceLT, Int.reduceLE, Int.reduceToNat]
  refine vcCall.f (size_ok v hv _ _) ?_
  simp only [go_sem, ↓reduceIte, Nat.reduceEqDiff, Nat.reduceBEq, Nat.reduceAdd, Nat.reduceLeDiff, Nat.reduceLT, reduceCtorEq, Nat.reduceMul, Nat.reduceSub, Int.reduceEq, Int.reduceLT, Int.reduceLE, Int.reduceToNat]
  refine gCall.f (fun _ => rdepth_ok v hv _ _) ?_
  simp only [go_sem, ↓reduceIte, Nat.reduceEqDiff, Nat.reduceBEq, Nat.reduceAdd, Nat.reduceLeDiff, Nat.reduceLT, reduceCtorEq, Nat.reduceMul, Nat.reduceSub, Int.reduceEq, Int.reduceLT, Int.reduceLE, Int.reduceToNat]
  refine gCall.f (fun _ => whole_ok v false hv _ _) ?_
  simp only [go_sem, ↓reduceIte, Nat.reduceEqDiff, Nat.reduceBEq, Nat.reduceAdd, Nat.reduceLeDiff, Nat.reduceLT, reduceCtorEq, Nat.reduceMul, Nat.reduceSub, Int.reduceEq, Int.reduceLT, Int.reduceLE, Int.reduceToNat]
end Go.Proofs.Ythiifoleopdieaa
