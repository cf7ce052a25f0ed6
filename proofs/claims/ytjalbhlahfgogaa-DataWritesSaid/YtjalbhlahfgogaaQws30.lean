/-
  The parts VaI of the proof, in one file. Conditions: none.
-/
import Derived.Test.YtjalbhlahfgogaaQws29
namespace Go.Proofs.Ytjalbhlahfgogaa
open Go.Eng
set_option linter.unusedVariables false
set_option linter.unusedSimpArgs false
set_option maxRecDepth 20000
theorem vsize_of (v : Val) (h3 : v.items.length * 80 ≤ 140737488355327) (h : ∀ x ∈ v.items, ∀ hp m, MeetsF Try.prog 83 hp m [vx x] (.i .i64 (szV x))) (hp : CH) (m : Nat) : MeetsF Try.prog 83 hp m [vx v] (.i .i64 (szV v)) := by
  refine meetsF Try.func83 (by kernel_rfl) cc83 cr83 rfl fun hf => ?_; unfold ck83
  simp only [go_sem, ↓reduceIte, Nat.reduceEqDiff, Nat.reduceBEq, Nat.reduceAdd, Nat.reduceLeDiff, Nat.reduceLT, reduceCtorEq, Nat.reduceMul, Nat.reduceSub, Int.reduceEq, Int.reduceLT, Int.reduceLE, Int.reduceToNat]
  refine loop (fun p : Nat × Int × Nat => ⟨[(3, .i .i64 p.2.1), (7, .ds (mapC valC v.items)), (8, .i .i64 v.items.length), (9, .i .i64 p.1)], (m, .bx [.i .i64 v.k, .i .i64 v.n, .s v.s, .ds (mapC valC v.items), .ds (stC v.keys)]) :: hp, p.2.2⟩)
    (fun p => p.1 ≤ v.items.length ∧ m + 1 ≤ p.2.2 ∧ szV v = szL (v.items.drop p.1) p.2.1) (fun p => v.items.length - p.1) (0, 1, m + 1) ?_ ?_ (fun ⟨j, a, n⟩ hj => ?_)
  · exact ⟨by dsimp only; omega, by dsimp only; omega, by rw [szV_eq]; rfl⟩
  · refine weak_ok ?_ (Sub.refl _) (Nat.le_refl _)
    simp only [go_sem, ↓reduceIte, Nat.reduceEqDiff, Nat.reduceBEq, Nat.reduceAdd, Nat.reduceLeDiff, Nat.reduceLT, reduceCtorEq, Nat.reduceMul, Nat.reduceSub, Int.reduceEq, Int.reduceLT, Int.reduceLE, Int.reduceToNat]
  dsimp only at hj
  have z1 : ¬ n = m := by omega
  have z2 : m ≤ n := by omega
  simp only [go_sem, ↓reduceIte, Nat.reduceEqDiff, Nat.reduceBEq, Nat.reduceAdd, Nat.reduceLeDiff, Nat.reduceLT, reduceCtorEq, Nat.reduceMul, Nat.reduceSub, Int.reduceEq, Int.reduceLT, Int.reduceLE, Int.reduceToNat]
  refine cdK_of (fun d => ?_) (fun d => ?_)
  · have d : j < v.items.length := by simpa using d
    obtain ⟨x, ex⟩ : ∃ x, v.items[j]? = some x := ⟨v.items[j], by simp [d]⟩
    have hx := h x (List.mem_of_getElem? ex)
    have e := drop_at ex
    rw [e, szL] at hj
    simp only [d, z1, z2, getK_s (mapC_get valC ex), go_sem, ↓reduceIte, Nat.reduceEqDiff, Nat.reduceBEq, Nat.reduceAdd, Nat.reduceLeDiff, Nat.reduceLT, reduceCtorEq, Nat.reduceMul, Nat.reduceSub, Int.reduceEq, Int.reduceLT, Int.reduceLE, Int.reduceToNat]
    refine vcCall.f (hx _ _) ?_
    simp only [z1, z2, go_sem, ↓reduceIte, Nat.reduceEqDiff, Nat.reduceBEq, Nat.reduceAdd, Nat.reduceLeDiff, Nat.reduceLT, reduceCtorEq, Nat.reduceMul, Nat.reduceSub, Int.reduceEq, Int.reduceLT, Int.reduceLE, Int.reduceToNat]
    refine ⟨(j + 1, IntKind.i64.wrap (a + szV x), _), by dsimp only; exact ⟨by omega, by omega, hj.2.2⟩, by dsimp only; omega, weak_ok ?_ (Sub.cons ?_ (Sub.base hf ?_)) (Nat.le_refl _)⟩
    all_goals
      simp only [z1, z2, wr64s j (by omega), go_sem, ↓reduceIte, Nat.reduceEqDiff, Nat.reduceBEq, Nat.reduceAdd, Nat.reduceLeDiff, Nat.reduceLT, reduceCtorEq, Nat.reduceMul, Nat.reduceSub, Int.reduceEq, Int.reduceLT, Int.reduceLE, Int.reduceToNat]
  · have d : j = v.items.length := by simp at d; omega
    subst d
    rw [List.drop_length, szL] at hj
    simp only [go_sem, ↓reduceIte, Nat.reduceEqDiff, Nat.reduceBEq, Nat.reduceAdd, Nat.reduceLeDiff, Nat.reduceLT, reduceCtorEq, Nat.reduceMul, Nat.reduceSub, Int.reduceEq, Int.reduceLT, Int.reduceLE, Int.reduceToNat]
    rw [hj.2.2]
theorem vsize_ok (v : Val) (hv : v.Fit) (hp : CH) (m : Nat) : MeetsF Try.prog 83 hp m [vx v] (.i .i64 (szV v)) := by
  have := Val.ind (Q := fun v => v.Fit → ∀ hp m, MeetsF Try.prog 83 hp m [vx v] (.i .i64 (szV v))) (fun v ih hv hp m => vsize_of v hv.i (fun x hx => ih x hx (hv.x hx)) hp m) v
  exact this hv hp m
mutual
def dpV : Val → Int
  | .mk _ _ _ i _ => IntKind.i64.wrap (dpL i 0 + 1)
def dpL : List Val → Int → Int
  | [], n => n
  | x :: r, n => dpL r (if n < dpV x then dpV x else n)
end
theorem dpV_eq (v : Val) : dpV v = IntKind.i64.wrap (dpL v.items 0 + 1) := by cases v; rw [dpV]; rfl
theorem vdepth_of (v : Val) (h3 : v.items.length * 80 ≤ 140737488355327) (h : ∀ x ∈ v.items, ∀ hp m, MeetsF Try.prog 84 hp m [vx x] (.i .i64 (dpV x))) (hp : CH) (m : Nat) : MeetsF Try.prog 84 hp m [vx v] (.i .i64 (dpV v)) := by
  obtain ⟨D, hD⟩ : ∃ D, dpL v.items 0 = D := ⟨_, rfl⟩
  have hd := dpV_eq v
  rw [hD] at hd
  rw [hd]
  refine meetsF Try.func84 (by kernel_rfl) cc84 cr84 rfl fun hf => ?_; unfold ck84
  simp only [go_sem, ↓reduceIte, Nat.reduceEqDiff, Nat.reduceBEq, Nat.reduceAdd, Nat.reduceLeDiff, Nat.reduceLT, reduceCtorEq, Nat.reduceMul, Nat.reduceSub, Int.reduceEq, Int.reduceLT, Int.reduceLE, Int.reduceToNat]
  refine loop (fun p : Nat × Int × Nat => ⟨[(3, .i .i64 p.2.1), (7, .ds (mapC valC v.items)), (8, .i .i64 v.items.length), (9, .i .i64 p.1)], (m, .bx [.i .i64 v.k, .i .i64 v.n, .s v.s, .ds (mapC valC v.items), .ds (stC v.keys)]) :: hp, p.2.2⟩)
    (fun p => p.1 ≤ v.items.length ∧ m + 1 ≤ p.2.2 ∧ D = dpL (v.items.drop p.1) p.2.1) (fun p => v.items.length - p.1) (0, 0, m + 1) ?_ ?_ (fun ⟨j, a, n⟩ hj => ?_)
  · exact ⟨by dsimp only; omega, by dsimp only; omega, hD.symm⟩
  · refine weak_ok ?_ (Sub.refl _) (Nat.le_refl _)
    simp only [go_sem, ↓reduceIte, Nat.reduceEqDiff, Nat.reduceBEq, Nat.reduceAdd, Nat.reduceLeDiff, Nat.reduceLT, reduceCtorEq, Nat.reduceMul, Nat.reduceSub, Int.reduceEq, Int.reduceLT, Int.reduceLE, Int.reduceToNat]
  dsimp only at hj
  have z1 : ¬ n = m := by omega
  have z2 : m ≤ n := by omega
  simp only [go_sem, ↓reduceIte, Nat.reduceEqDiff, Nat.reduceBEq, Nat.reduceAdd, Nat.reduceLeDiff, Nat.reduceLT, reduceCtorEq, Nat.reduceMul, Nat.reduceSub, Int.reduceEq, Int.reduceLT, Int.reduceLE, Int.reduceToNat]
  refine cdK_of (fun d => ?_) (fun d => ?_)
  · have d : j < v.items.length := by simpa using d
    obtain ⟨x, ex⟩ : ∃ x, v.items[j]? = some x := ⟨v.items[j], by simp [d]⟩
    have hx := h x (List.mem_of_getElem? ex)
    have e := drop_at ex
    rw [e, dpL] at hj
    simp only [d, z1, z2, getK_s (mapC_get valC ex), go_sem, ↓reduceIte, Nat.reduceEqDiff, Nat.reduceBEq, Nat.reduceAdd, Nat.reduceLeDiff, Nat.reduceLT, reduceCtorEq, Nat.reduceMul, Nat.reduceSub, Int.reduceEq, Int.reduceLT, Int.reduceLE, Int.reduceToNat]
    refine vcCall.f (hx _ _) ?_
    simp only [z1, z2, go_sem, ↓reduceIte, Nat.reduceEqDiff, Nat.reduceBEq, Nat.reduceAdd, Nat.reduceLeDiff, Nat.reduceLT, reduceCtorEq, Nat.reduceMul, Nat.reduceSub, Int.reduceEq, Int.reduceLT, Int.reduceLE, Int.reduceToNat]
    refine ⟨(j + 1, (if a < dpV x then dpV x else a), _), by dsimp only; exact ⟨by omega, by omega, hj.2.2⟩, by dsimp only; omega, weak_ok ?_ (Sub.cons ?_ (Sub.base hf ?_)) (Nat.le_refl _)⟩
    all_goals
      simp only [z1, z2, wr64s j (by omega), go_sem, ↓reduceIte, Nat.reduceEqDiff, Nat.reduceBEq, Nat.reduceAdd, Nat.reduceLeDiff, Nat.reduceLT, reduceCtorEq, Nat.reduceMul, Nat.reduceSub, Int.reduceEq, Int.reduceLT, Int.reduceLE, Int.reduceToNat]
  · have d : j = v.items.length := by simp at d; omega
    subst d
    rw [List.drop_length, dpL] at hj
    simp only [go_sem, ↓reduceIte, Nat.reduceEqDiff, Nat.reduceBEq, Nat.reduceAdd, Nat.reduceLeDiff, Nat.reduceLT, reduceCtorEq, Nat.reduceMul, Nat.reduceSub, Int.reduceEq, Int.reduceLT, Int.reduceLE, Int.reduceToNat]
    rw [hj.2.2]
theorem vdepth_ok (v : Val) (hv : v.Fit) (hp : CH) (m : Nat) : MeetsF Try.prog 84 hp m [vx v] (.i .i64 (dpV v)) := by
  have := Val.ind (Q := fun v => v.Fit → ∀ hp m, MeetsF Try.prog 84 hp m [vx v] (.i .i64 (dpV v))) (fun v ih hv hp m => vdepth_of v hv.i (fun x hx => ih x hx (hv.x hx)) hp m) v
  exact this hv hp m
/-- A node that is right apart from its items. -/
noncomputable def nodeV (v : Val) (lit : Bool) : Bool :=
  if v.k = 0 then decide (v.n = 0) && decide (v.s = ⟨#[]⟩) && decide ((v.items.length : Int) = 0) && decide ((v.keys.length : Int) = 0)
  else if v.k = 1 then (decide (v.n = 0) || decide (v.n = 1)) && decide (v.s = ⟨#[]⟩) && decide ((v.items.length : Int) = 0) && decide ((v.keys.length : Int) = 0)
  else if v.k = 2 then decide (v.s = ⟨#[]⟩) && decide ((v.items.length : Int) = 0) && decide ((v.keys.length : Int) = 0)
  else if v.k = 3 then decide (v.n = 0) && decide ((v.items.length : Int) = 0) && decide ((v.keys.length : Int) = 0)
  else if v.k = 4 then decide (v.n = 0) && decide ((v.items.length : Int) = 0) && decide ((v.keys.length : Int) = 0) && nmS v.s && !decide (v.s = ⟨#[116, 114, 117, 101]⟩) && !decide (v.s = ⟨#[102, 97, 108, 115, 101]⟩) && !decide (v.s = ⟨#[110, 117, 108, 108]⟩)
  else if v.k = 5 then decide (v.n = 0) && decide (v.s = ⟨#[]⟩) && decide ((v.keys.length : Int) = 0)
  else if v.k = 6 then decide (v.n = 0) && decide (v.s = ⟨#[]⟩) && decide ((v.keys.length : Int) = v.items.length) && !tw v.keys
  else if v.k = 7 then lit && decide (v.n = 0) && decide ((v.items.length : Int) = 0) && decide ((v.keys.length : Int) = 0) && nmS v.s
  else false
theorem rnode_ok (v : Val) (lit : Bool) (hv : v.Fit) (hp : CH) (m : Nat) : MeetsF Try.prog 96 hp m [vx v, .b lit] (.b (nodeV v lit)) := by
  have hl := hv.l
  refine meetsF Try.func96 (by kernel_rfl) cc96 cr96 rfl fun hf => ?_; unfold ck96
  simp only [go_sem, ↓reduceIte, Nat.reduceEqDiff, Nat.reduceBEq, Nat.reduceAdd, Nat.reduceLeDiff, Nat.reduceLT, reduceCtorEq, Nat.reduceMul, Nat.reduceSub, Int.reduceEq, Int.reduceLT, Int.reduceLE, Int.reduceToNat]
  repeat' (first
    | ((with_reducible refine cdK_of (fun _ => ?_) (fun _ => ?_)) <;> (try simp only [go_sem, ↓reduceIte, Nat.reduceEqDiff, Nat.reduceBEq, Nat.reduceAdd, Nat.reduceLeDiff, Nat.reduceLT, reduceCtorEq, Nat.reduceMul, Nat.reduceSub, Int.reduceEq, Int.reduceLT, Int.reduceLE, Int.reduceToNat]))
    | ((with_reducible apply vcCall.f); exact Name2_ok _ _ _; try simp only [go_sem, ↓reduceIte, Nat.reduceEqDiff, Nat.reduceBEq, Nat.reduceAdd, Nat.reduceLeDiff, Nat.reduceLT, reduceCtorEq, Nat.reduceMul, Nat.reduceSub, Int.reduceEq, Int.reduceLT, Int.reduceLE, Int.reduceToNat])
    | ((with_reducible apply gCall.f); exact fun _ => Name2_ok _ _ _; try simp only [go_sem, ↓reduceIte, Nat.reduceEqDiff, Nat.reduceBEq, Nat.reduceAdd, Nat.reduceLeDiff, Nat.reduceLT, reduceCtorEq, Nat.reduceMul, Nat.reduceSub, Int.reduceEq, Int.reduceLT, Int.reduceLE, Int.reduceToNat])
    | ((with_reducible apply dCall.f); exact fun _ _ _ => Name2_ok _ _ _; try simp only [go_sem, ↓reduceIte, Nat.reduceEqDiff, Nat.reduceBEq, Nat.reduceAdd, Nat.reduceLeDiff, Nat.reduceLT, reduceCtorEq, Nat.reduceMul, Nat.reduceSub, Int.reduceEq, Int.reduceLT, Int.reduceLE, Int.reduceToNat])
    | ((with_reducible apply dCallR.f); exact fun _ _ _ => Name2_ok _ _ _; try simp only [go_sem, ↓reduceIte, Nat.reduceEqDiff, Nat.reduceBEq, Nat.reduceAdd, Nat.reduceLeDiff, Nat.reduceLT, reduceCtorEq, Nat.reduceMul, Nat.reduceSub, Int.reduceEq, Int.reduceLT, Int.reduceLE, Int.reduceToNat])
    | ((with_reducible apply vcCall.f); exact twice2_ok v.keys (by omega) _ _; try simp only [go_sem, ↓reduceIte, Nat.reduceEqDiff, Nat.reduceBEq, Nat.reduceAdd, Nat.reduceLeDiff, Nat.reduceLT, reduceCtorEq, Nat.reduceMul, Nat.reduceSub, Int.reduceEq, Int.reduceLT, Int.reduceLE, Int.reduceToNat])
    | ((with_reducible apply gCall.f); exact fun _ => twice2_ok v.keys (by omega) _ _; try simp only [go_sem, ↓reduceIte, Nat.reduceEqDiff, Nat.reduceBEq, Nat.reduceAdd, Nat.reduceLeDiff, Nat.reduceLT, reduceCtorEq, Nat.reduceMul, Nat.reduceSub, Int.reduceEq, Int.reduceLT, Int.reduceLE, Int.reduceToNat])
    | ((with_reducible apply dCall.f); exact fun _ _ _ => twice2_ok v.keys (by omega) _ _; try simp only [go_sem, ↓reduceIte, Nat.reduceEqDiff, Nat.reduceBEq, Nat.reduceAdd, Nat.reduceLeDiff, Nat.reduceLT, reduceCtorEq, Nat.reduceMul, Nat.reduceSub, Int.reduceEq, Int.reduceLT, Int.reduceLE, Int.reduceToNat])
    | ((with_reducible apply dCallR.f); exact fun _ _ _ => twice2_ok v.keys (by omega) _ _; try simp only [go_sem, ↓reduceIte, Nat.reduceEqDiff, Nat.reduceBEq, Nat.reduceAdd, Nat.reduceLeDiff, Nat.reduceLT, reduceCtorEq, Nat.reduceMul, Nat.reduceSub, Int.reduceEq, Int.reduceLT, Int.reduceLE, Int.reduceToNat])
    | ((with_reducible apply vcCall.p); exact Name2_ok _ _ _; (focus (simp only [go_sem, ↓reduceIte, Nat.reduceEqDiff, Nat.reduceBEq, Nat.reduceAdd, Nat.reduceLeDiff, Nat.reduceLT, reduceCtorEq, Nat.reduceMul, Nat.reduceSub, Int.reduceEq, Int.reduceLT, Int.reduceLE, Int.reduceToNat]; done)); try simp only [go_sem, ↓reduceIte, Nat.reduceEqDiff, Nat.reduceBEq, Nat.reduceAdd, Nat.reduceLeDiff, Nat.reduceLT, reduceCtorEq, Nat.reduceMul, Nat.reduceSub, Int.reduceEq, Int.reduceLT, Int.reduceLE, Int.reduceToNat])
    | ((with_reducible apply vcCall.p); exact twice2_ok v.keys (by omega) _ _; (focus (simp only [go_sem, ↓reduceIte, Nat.reduceEqDiff, Nat.reduceBEq, Nat.reduceAdd, Nat.reduceLeDiff, Nat.reduceLT, reduceCtorEq, Nat.reduceMul, Nat.reduceSub, Int.reduceEq, Int.reduceLT, Int.reduceLE, Int.reduceToNat]; done)); try simp only [go_sem, ↓reduceIte, Nat.reduceEqDiff, Nat.reduceBEq, Nat.reduceAdd, Nat.reduceLeDiff, Nat.reduceLT, reduceCtorEq, Nat.reduceMul, Nat.reduceSub, Int.reduceEq, Int.reduceLT, Int.reduceLE, Int.reduceToNat])
    | ((with_reducible refine grK_of (fun _ => ?_) (fun _ => ?_)) <;> (try simp only [go_sem, ↓reduceIte, Nat.reduceEqDiff, Nat.reduceBEq, Nat.reduceAdd, Nat.reduceLeDiff, Nat.reduceLT, reduceCtorEq, Nat.reduceMul, Nat.reduceSub, Int.reduceEq, Int.reduceLT, Int.reduceLE, Int.reduceToNat]))
    | ((with_reducible refine gCall.s (vcIf_of (fun _ => ?_) (fun _ => ?_))) <;> (try simp only [go_sem, ↓reduceIte, Nat.reduceEqDiff, Nat.reduceBEq, Nat.reduceAdd, Nat.reduceLeDiff, Nat.reduceLT, reduceCtorEq, Nat.reduceMul, Nat.reduceSub, Int.reduceEq, Int.reduceLT, Int.reduceLE, Int.reduceToNat]))
    | ((with_reducible refine getK.m ?_ (fun _ _ => ?_)); rotate_left; try simp only [go_sem, ↓reduceIte, Nat.reduceEqDiff, Nat.reduceBEq, Nat.reduceAdd, Nat.reduceLeDiff, Nat.reduceLT, reduceCtorEq, Nat.reduceMul, Nat.reduceSub, Int.reduceEq, Int.reduceLT, Int.reduceLE, Int.reduceToNat])
    | exact mapC_all (fun _ => rfl)
    | exact mapC_alln (fun _ => ⟨rfl, rfl⟩)
    | with_reducible refine And.intro ?_ ?_)
  all_goals clear hf hl hv
  all_goals simp only [decide_eq_true_eq, decide_eq_false_iff_not] at *
  all_goals simp only [nodeV, *, ↓reduceIte, Int.reduceEq]
/-- A node with keys that are names, if it is a literal's. -/
noncomputable def nodeW (v : Val) (lit : Bool) : Bool := nodeV v lit && !(lit && v.keys.any fun k => !nmS k)
theorem notName_ok (s : ByteArray) (hp : CH) (m : Nat) : MeetsF Try.prog 100 hp m [.s s] (.b (!nmS s)) := by
  refine meetsF Try.func100 (by kernel_rfl) cc100 cr100 rfl fun hf => ?_; unfold ck100
  simp only [go_sem, ↓reduceIte, Nat.reduceEqDiff, Nat.reduceBEq, Nat.reduceAdd, Nat.reduceLeDiff, Nat.reduceLT, reduceCtorEq, Nat.reduceMul, Nat.reduceSub, Int.reduceEq, Int.reduceLT, Int.reduceLE, Int.reduceToNat]
  refine vcCall.f (Name_ok s _ _) ?_
  simp only [go_sem, ↓reduceIte, Nat.reduceEqDiff, Nat.reduceBEq, Nat.reduceAdd, Nat.reduceLeDiff, Nat.reduceLT, reduceCtorEq, Nat.reduceMul, Nat.reduceSub, Int.reduceEq, Int.reduceLT, Int.reduceLE, Int.reduceToNat]
theorem vnode_ok (v : Val) (lit : Bool) (hv : v.Fit) (hp : CH) (m : Nat) : MeetsF Try.prog 93 hp m [vx v, .b lit] (.b (nodeW v lit)) := by
  have hl := hv.l
  have hk : v.keys.length = 0 → v.keys = [] := List.eq_nil_of_length_eq_zero
  refine meetsF Try.func93 (by kernel_rfl) cc93 cr93 rfl fun hf => ?_; unfold ck93
  simp only [go_sem, ↓reduceIte, Nat.reduceEqDiff, Nat.reduceBEq, Nat.reduceAdd, Nat.reduceLeDiff, Nat.reduceLT, reduceCtorEq, Nat.reduceMul, Nat.reduceSub, Int.reduceEq, Int.reduceLT, Int.reduceLE, Int.reduceToNat]
  repeat' (first
    | ((with_reducible refine cdK_of (fun _ => ?_) (fun _ => ?_)) <;> (try simp only [go_sem, ↓reduceIte, Nat.reduceEqDiff, Nat.reduceBEq, Nat.reduceAdd, Nat.reduceLeDiff, Nat.reduceLT, reduceCtorEq, Nat.reduceMul, Nat.reduceSub, Int.reduceEq, Int.reduceLT, Int.reduceLE, Int.reduceToNat]))
    | ((with_reducible apply vcCall.f); exact Name_ok _ _ _; try simp only [go_sem, ↓reduceIte, Nat.reduceEqDiff, Nat.reduceBEq, Nat.reduceAdd, Nat.reduceLeDiff, Nat.reduceLT, reduceCtorEq, Nat.reduceMul, Nat.reduceSub, Int.reduceEq, Int.reduceLT, Int.reduceLE, Int.reduceToNat])
    | ((with_reducible apply gCall.f); exact fun _ => Name_ok _ _ _; try simp only [go_sem, ↓reduceIte, Nat.reduceEqDiff, Nat.reduceBEq, Nat.reduceAdd, Nat.reduceLeDiff, Nat.reduceLT, reduceCtorEq, Nat.reduceMul, Nat.reduceSub, Int.reduceEq, Int.reduceLT, Int.reduceLE, Int.reduceToNat])
    | ((with_reducible apply dCall.f); exact fun _ _ _ => Name_ok _ _ _; try simp only [go_sem, ↓reduceIte, Nat.reduceEqDiff, Nat.reduceBEq, Nat.reduceAdd, Nat.reduceLeDiff, Nat.reduceLT, reduceCtorEq, Nat.reduceMul, Nat.reduceSub, Int.reduceEq, Int.reduceLT, Int.reduceLE, Int.reduceToNat])
    | ((with_reducible apply dCallR.f); exact fun _ _ _ => Name_ok _ _ _; try simp only [go_sem, ↓reduceIte, Nat.reduceEqDiff, Nat.reduceBEq, Nat.reduceAdd, Nat.reduceLeDiff, Nat.reduceLT, reduceCtorEq, Nat.reduceMul, Nat.reduceSub, Int.reduceEq, Int.reduceLT, Int.reduceLE, Int.reduceToNat])
    | ((with_reducible apply vcCall.f); exact twice_ok v.keys (by omega) _ _; try simp only [go_sem, ↓reduceIte, Nat.reduceEqDiff, Nat.reduceBEq, Nat.reduceAdd, Nat.reduceLeDiff, Nat.reduceLT, reduceCtorEq, Nat.reduceMul, Nat.reduceSub, Int.reduceEq, Int.reduceLT, Int.reduceLE, Int.reduceToNat])
    | ((with_reducible apply gCall.f); exact fun _ => twice_ok v.keys (by omega) _ _; try simp only [go_sem, ↓reduceIte, Nat.reduceEqDiff, Nat.reduceBEq, Nat.reduceAdd, Nat.reduceLeDiff, Nat.reduceLT, reduceCtorEq, Nat.reduceMul, Nat.reduceSub, Int.reduceEq, Int.reduceLT, Int.reduceLE, Int.reduceToNat])
    | ((with_reducible apply dCall.f); exact fun _ _ _ => twice_ok v.keys (by omega) _ _; try simp only [go_sem, ↓reduceIte, Nat.reduceEqDiff, Nat.reduceBEq, Nat.reduceAdd, Nat.reduceLeDiff, Nat.reduceLT, reduceCtorEq, Nat.reduceMul, Nat.reduceSub, Int.reduceEq, Int.reduceLT, Int.reduceLE, Int.reduceToNat])
    | ((with_reducible apply dCallR.f); exact fun _ _ _ => twice_ok v.keys (by omega) _ _; try simp only [go_sem, ↓reduceIte, Nat.reduceEqDiff, Nat.reduceBEq, Nat.reduceAdd, Nat.reduceLeDiff, Nat.reduceLT, reduceCtorEq, Nat.reduceMul, Nat.reduceSub, Int.reduceEq, Int.reduceLT, Int.reduceLE, Int.reduceToNat])
    | ((with_reducible apply vcCall.f); exact anyf_str v.keys (fun k => !nmS k) _ [] (by omega) _ _ fun x _ n => notName_ok x _ _; try simp only [go_sem, ↓reduceIte, Nat.reduceEqDiff, Nat.reduceBEq, Nat.reduceAdd, Nat.reduceLeDiff, Nat.reduceLT, reduceCtorEq, Nat.reduceMul, Nat.reduceSub, Int.reduceEq, Int.reduceLT, Int.reduceLE, Int.reduceToNat])
    | ((with_reducible apply gCall.f); exact fun _ => anyf_str v.keys (fun k => !nmS k) _ [] (by omega) _ _ fun x _ n => notName_ok x _ _; try simp only [go_sem, ↓reduceIte, Nat.reduceEqDiff, Nat.reduceBEq, Nat.reduceAdd, Nat.reduceLeDiff, Nat.reduceLT, reduceCtorEq, Nat.reduceMul, Nat.reduceSub, Int.reduceEq, Int.reduceLT, Int.reduceLE, Int.reduceToNat])
    | ((with_reducible apply dCall.f); exact fun _ _ _ => anyf_str v.keys (fun k => !nmS k) _ [] (by omega) _ _ fun x _ n => notName_ok x _ _; try simp only [go_sem, ↓reduceIte, Nat.reduceEqDiff, Nat.reduceBEq, Nat.reduceAdd, Nat.reduceLeDiff, Nat.reduceLT, reduceCtorEq, Nat.reduceMul, Nat.reduceSub, Int.reduceEq, Int.reduceLT, Int.reduceLE, Int.reduceToNat])
    | ((with_reducible apply dCallR.f); exact fun _ _ _ => anyf_str v.keys (fun k => !nmS k) _ [] (by omega) _ _ fun x _ n => notName_ok x _ _; try simp only [go_sem, ↓reduceIte, Nat.reduceEqDiff, Nat.reduceBEq, Nat.reduceAdd, Nat.reduceLeDiff, Nat.reduceLT, reduceCtorEq, Nat.reduceMul, Nat.reduceSub, Int.reduceEq, Int.reduceLT, Int.reduceLE, Int.reduceToNat])
    | ((with_reducible apply vcCall.p); exact Name_ok _ _ _; (focus (simp only [go_sem, ↓reduceIte, Nat.reduceEqDiff, Nat.reduceBEq, Nat.reduceAdd, Nat.reduceLeDiff, Nat.reduceLT, reduceCtorEq, Nat.reduceMul, Nat.reduceSub, Int.reduceEq, Int.reduceLT, Int.reduceLE, Int.reduceToNat]; done)); try simp only [go_sem, ↓reduceIte, Nat.reduceEqDiff, Nat.reduceBEq, Nat.reduceAdd, Nat.reduceLeDiff, Nat.reduceLT, reduceCtorEq, Nat.reduceMul, Nat.reduceSub, Int.reduceEq, Int.reduceLT, Int.reduceLE, Int.reduceToNat])
    | ((with_reducible apply vcCall.p); exact twice_ok v.keys (by omega) _ _; (focus (simp only [go_sem, ↓reduceIte, Nat.reduceEqDiff, Nat.reduceBEq, Nat.reduceAdd, Nat.reduceLeDiff, Nat.reduceLT, reduceCtorEq, Nat.reduceMul, Nat.reduceSub, Int.reduceEq, Int.reduceLT, Int.reduceLE, Int.reduceToNat]; done)); try simp only [go_sem, ↓reduceIte, Nat.reduceEqDiff, Nat.reduceBEq, Nat.reduceAdd, Nat.reduceLeDiff, Nat.reduceLT, reduceCtorEq, Nat.reduceMul, Nat.reduceSub, Int.reduceEq, Int.reduceLT, Int.reduceLE, Int.reduceToNat])
    | ((with_reducible apply vcCall.p); exact anyf_str v.keys (fun k => !nmS k) _ [] (by omega) _ _ fun x _ n => notName_ok x _ _; (focus (simp only [go_sem, ↓reduceIte, Nat.reduceEqDiff, Nat.reduceBEq, Nat.reduceAdd, Nat.reduceLeDiff, Nat.reduceLT, reduceCtorEq, Nat.reduceMul, Nat.reduceSub, Int.reduceEq, Int.reduceLT, Int.reduceLE, Int.reduceToNat]; done)); try simp only [go_sem, ↓reduceIte, Nat.reduceEqDiff, Nat.reduceBEq, Nat.reduceAdd, Nat.reduceLeDiff, Nat.reduceLT, reduceCtorEq, Nat.reduceMul, Nat.reduceSub, Int.reduceEq, Int.reduceLT, Int.reduceLE, Int.reduceToNat])
    | ((with_reducible refine grK_of (fun _ => ?_) (fun _ => ?_)) <;> (try simp only [go_sem, ↓reduceIte, Nat.reduceEqDiff, Nat.reduceBEq, Nat.reduceAdd, Nat.reduceLeDiff, Nat.reduceLT, reduceCtorEq, Nat.reduceMul, Nat.reduceSub, Int.reduceEq, Int.reduceLT, Int.reduceLE, Int.reduceToNat]))
    | ((with_reducible refine gCall.s (vcIf_of (fun _ => ?_) (fun _ => ?_))) <;> (try simp only [go_sem, ↓reduceIte, Nat.reduceEqDiff, Nat.reduceBEq, Nat.reduceAdd, Nat.reduceLeDiff, Nat.reduceLT, reduceCtorEq, Nat.reduceMul, Nat.reduceSub, Int.reduceEq, Int.reduceLT, Int.reduceLE, Int.reduceToNat]))
    | ((with_reducible refine getK.m ?_ (fun _ _ => ?_)); rotate_left; try simp only [go_sem, ↓reduceIte, Nat.reduceEqDiff, Nat.reduceBEq, Nat.reduceAdd, Nat.reduceLeDiff, Nat.reduceLT, reduceCtorEq, Nat.reduceMul, Nat.reduceSub, Int.reduceEq, Int.reduceLT, Int.reduceLE, Int.reduceToNat])
    | exact mapC_all (fun _ => rfl)
    | exact mapC_alln (fun _ => ⟨rfl, rfl⟩)
    | with_reducible refine And.intro ?_ ?_)
  all_goals clear hf hl
  all_goals
    refine congrArg some (congrArg AV.b ?_)
    rw [nodeW]
    have hk2 : (v.keys.length : Int) = 0 → (v.keys.any fun k => !nmS k) = false := fun h => by rw [hk (by omega)]; rfl
    have hL : 0 ≤ (v.keys.length : Int) := by omega
    have hI : 0 ≤ (v.items.length : Int) := by omega
    clear hk hv
    unfold nodeV
    generalize (v.keys.any fun k => !nmS k) = A at *
    generalize (v.keys.length : Int) = L at *
    generalize (v.items.length : Int) = I at *
    simp only [decide_eq_true_eq, decide_eq_false_iff_not, Bool.or_eq_false_iff, Bool.or_eq_true, Bool.and_eq_true, Bool.and_eq_false_iff, Bool.not_eq_true', Bool.not_eq_false'] at *
    grind
end Go.Proofs.Ytjalbhlahfgogaa
