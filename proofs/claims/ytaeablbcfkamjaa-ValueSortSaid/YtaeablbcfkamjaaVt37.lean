/-
  The parts VbA of the proof, in one file. Conditions: none.
-/
import Derived.Test.YtaeablbcfkamjaaVt36
namespace Go.Proofs.Ytaeablbcfkamjaa
open Go.Eng
set_option linter.unusedVariables false
set_option linter.unusedSimpArgs false
set_option maxRecDepth 20000
def boV (b : Bool) : Val := .mk 1 (if b = true then 1 else 0) ⟨#[]⟩ [] []
def inV (n : Int) : Val := .mk 2 n ⟨#[]⟩ [] []
def liV (l : List Val) : Val := .mk 5 0 ⟨#[]⟩ l []
def obV (k : List ByteArray) (l : List Val) : Val := .mk 6 0 ⟨#[]⟩ l k
theorem vBool_ok (b : Bool) (hp : CH) (m : Nat) : MeetsF Try.prog 33 hp m [.b b] (vx (boV b)) := by
  refine meetsF Try.func33 (by kernel_rfl) cc33 cr33 rfl fun hf => ?_; unfold ck33
  simp only [go_sem, ↓reduceIte, Nat.reduceEqDiff, Nat.reduceBEq, Nat.reduceAdd, Nat.reduceLeDiff, Nat.reduceLT, reduceCtorEq, Nat.reduceMul, Nat.reduceSub, Int.reduceEq, Int.reduceLT, Int.reduceLE, Int.reduceToNat]
  cases b
  · simp only [go_sem, ↓reduceIte, Nat.reduceEqDiff, Nat.reduceBEq, Nat.reduceAdd, Nat.reduceLeDiff, Nat.reduceLT, reduceCtorEq, Nat.reduceMul, Nat.reduceSub, Int.reduceEq, Int.reduceLT, Int.reduceLE, Int.reduceToNat]
    rfl
  · simp only [go_sem, ↓reduceIte, Nat.reduceEqDiff, Nat.reduceBEq, Nat.reduceAdd, Nat.reduceLeDiff, Nat.reduceLT, reduceCtorEq, Nat.reduceMul, Nat.reduceSub, Int.reduceEq, Int.reduceLT, Int.reduceLE, Int.reduceToNat]
    rfl
theorem vInt_ok (n : Int) (hp : CH) (m : Nat) : MeetsF Try.prog 34 hp m [.i .i64 n] (vx (inV n)) := by
  refine meetsF Try.func34 (by kernel_rfl) cc34 cr34 rfl fun hf => ?_; unfold ck34
  simp only [go_sem, ↓reduceIte, Nat.reduceEqDiff, Nat.reduceBEq, Nat.reduceAdd, Nat.reduceLeDiff, Nat.reduceLT, reduceCtorEq, Nat.reduceMul, Nat.reduceSub, Int.reduceEq, Int.reduceLT, Int.reduceLE, Int.reduceToNat]
  rfl
theorem vList_ok (l : List Val) (hl : l.length * 80 ≤ 140737488355327) (h : ∀ x ∈ l, x.Fit) (hp : CH) (m : Nat) : MeetsF Try.prog 17 hp m [.ds (mapC valC l)] (vx (liV l)) := by
  refine meetsF Try.func17 (by kernel_rfl) cc17 cr17 rfl fun hf => ?_; unfold ck17
  simp only [go_sem, ↓reduceIte, Nat.reduceEqDiff, Nat.reduceBEq, Nat.reduceAdd, Nat.reduceLeDiff, Nat.reduceLT, reduceCtorEq, Nat.reduceMul, Nat.reduceSub, Int.reduceEq, Int.reduceLT, Int.reduceLE, Int.reduceToNat]
  refine vcCall.f (copies_ok l hl (fun x hx => copy_ok x (h x hx)) _ _) ?_
  simp only [go_sem, ↓reduceIte, Nat.reduceEqDiff, Nat.reduceBEq, Nat.reduceAdd, Nat.reduceLeDiff, Nat.reduceLT, reduceCtorEq, Nat.reduceMul, Nat.reduceSub, Int.reduceEq, Int.reduceLT, Int.reduceLE, Int.reduceToNat]
  rfl
/-- An object, or the error. -/
noncomputable def objV (k : List ByteArray) (l : List Val) : Val × Int := if k.length ≠ l.length then (zVal, 2) else if tw k = true then (zVal, 7) else (obV k l, 0)
noncomputable def resO (x : Val × Int) : AV := .tp [vx x.1, .i .i64 x.2]
attribute [go_sem] resO
theorem vObject_ok (k : List ByteArray) (l : List Val) (hk : k.length * 16 ≤ 140737488355327) (hl : l.length * 80 ≤ 140737488355327) (h : ∀ x ∈ l, x.Fit) (hp : CH) (m : Nat) :
    MeetsF Try.prog 25 hp m [.ds (stC k), .ds (mapC valC l)] (resO (objV k l)) := by
  obtain ⟨R, hR⟩ : ∃ R, objV k l = R := ⟨_, rfl⟩
  have e := hR
  rw [objV] at e
  rw [hR]
  refine meetsF Try.func25 (by kernel_rfl) cc25 cr25 rfl fun hf => ?_; unfold ck25
  simp only [go_sem, ↓reduceIte, Nat.reduceEqDiff, Nat.reduceBEq, Nat.reduceAdd, Nat.reduceLeDiff, Nat.reduceLT, reduceCtorEq, Nat.reduceMul, Nat.reduceSub, Int.reduceEq, Int.reduceLT, Int.reduceLE, Int.reduceToNat]
  refine cdK_of (fun c => ?_) (fun c => ?_)
  · have c : k.length ≠ l.length := by simp at c; omega
    rw [if_pos c] at e
    subst e
    simp only [go_sem, ↓reduceIte, Nat.reduceEqDiff, Nat.reduceBEq, Nat.reduceAdd, Nat.reduceLeDiff, Nat.reduceLT, reduceCtorEq, Nat.reduceMul, Nat.reduceSub, Int.reduceEq, Int.reduceLT, Int.reduceLE, Int.reduceToNat]
  have c : ¬ k.length ≠ l.length := by simp at c; omega
  rw [if_neg c] at e
  simp only [go_sem, ↓reduceIte, Nat.reduceEqDiff, Nat.reduceBEq, Nat.reduceAdd, Nat.reduceLeDiff, Nat.reduceLT, reduceCtorEq, Nat.reduceMul, Nat.reduceSub, Int.reduceEq, Int.reduceLT, Int.reduceLE, Int.reduceToNat]
  refine vcCall.f (twice_ok k (by omega) _ _) ?_
  simp only [go_sem, ↓reduceIte, Nat.reduceEqDiff, Nat.reduceBEq, Nat.reduceAdd, Nat.reduceLeDiff, Nat.reduceLT, reduceCtorEq, Nat.reduceMul, Nat.reduceSub, Int.reduceEq, Int.reduceLT, Int.reduceLE, Int.reduceToNat]
  refine cdK_of (fun c2 => ?_) (fun c2 => ?_)
  · rw [if_pos c2] at e
    subst e
    simp only [go_sem, ↓reduceIte, Nat.reduceEqDiff, Nat.reduceBEq, Nat.reduceAdd, Nat.reduceLeDiff, Nat.reduceLT, reduceCtorEq, Nat.reduceMul, Nat.reduceSub, Int.reduceEq, Int.reduceLT, Int.reduceLE, Int.reduceToNat]
  rw [if_neg (by simp [c2])] at e
  subst e
  simp only [go_sem, ↓reduceIte, Nat.reduceEqDiff, Nat.reduceBEq, Nat.reduceAdd, Nat.reduceLeDiff, Nat.reduceLT, reduceCtorEq, Nat.reduceMul, Nat.reduceSub, Int.reduceEq, Int.reduceLT, Int.reduceLE, Int.reduceToNat]
  refine vcCall.f (clone_ok k hk _ _) ?_
  simp only [go_sem, ↓reduceIte, Nat.reduceEqDiff, Nat.reduceBEq, Nat.reduceAdd, Nat.reduceLeDiff, Nat.reduceLT, reduceCtorEq, Nat.reduceMul, Nat.reduceSub, Int.reduceEq, Int.reduceLT, Int.reduceLE, Int.reduceToNat]
  refine vcCall.f (copies_ok l hl (fun x hx => copy_ok x (h x hx)) _ _) ?_
  simp only [go_sem, ↓reduceIte, Nat.reduceEqDiff, Nat.reduceBEq, Nat.reduceAdd, Nat.reduceLeDiff, Nat.reduceLT, reduceCtorEq, Nat.reduceMul, Nat.reduceSub, Int.reduceEq, Int.reduceLT, Int.reduceLE, Int.reduceToNat]
  rfl
theorem vLiteral_ok (v : Val) (hv : v.Fit) (hp : CH) (m : Nat) : MeetsF Try.prog 14 hp m [vx v] (.b (rightV true v)) := by
  rw [rightV]
  refine meetsF Try.func14 (by kernel_rfl) cc14 cr14 rfl fun hf => ?_; unfold ck14
  simp only [go_sem, ↓reduceIte, Nat.reduceEqDiff, Nat.reduceBEq, Nat.reduceAdd, Nat.reduceLeDiff, Nat.reduceLT, reduceCtorEq, Nat.reduceMul, Nat.reduceSub, Int.reduceEq, Int.reduceLT, Int.reduceLE, Int.reduceToNat]
  refine vcCall.f (vsize_ok v hv _ _) ?_
  simp only [go_sem, ↓reduceIte, Nat.reduceEqDiff, Nat.reduceBEq, Nat.reduceAdd, Nat.reduceLeDiff, Nat.reduceLT, reduceCtorEq, Nat.reduceMul, Nat.reduceSub, Int.reduceEq, Int.reduceLT, Int.reduceLE, Int.reduceToNat]
  refine gCall.f (fun _ => vdepth_ok v hv _ _) ?_
  simp only [go_sem, ↓reduceIte, Nat.reduceEqDiff, Nat.reduceBEq, Nat.reduceAdd, Nat.reduceLeDiff, Nat.reduceLT, reduceCtorEq, Nat.reduceMul, Nat.reduceSub, Int.reduceEq, Int.reduceLT, Int.reduceLE, Int.reduceToNat]
  refine gCall.f (fun _ => every_ok v true hv _ _) ?_
  simp only [go_sem, ↓reduceIte, Nat.reduceEqDiff, Nat.reduceBEq, Nat.reduceAdd, Nat.reduceLeDiff, Nat.reduceLT, reduceCtorEq, Nat.reduceMul, Nat.reduceSub, Int.reduceEq, Int.reduceLT, Int.reduceLE, Int.reduceToNat]
mutual
def cntV : Val → Int → Int → Int
  | .mk _ _ _ i l, n, m => cntL i (IntKind.i64.wrap (IntKind.i64.wrap (n + 1) + l.length)) m
def cntL : List Val → Int → Int → Int
  | [], n, _ => n
  | x :: r, n, m => if n ≤ m then cntL r (cntV x n m) m else n
end
theorem cntV_eq (v : Val) (n M : Int) : cntV v n M = cntL v.items (IntKind.i64.wrap (IntKind.i64.wrap (n + 1) + v.keys.length)) M := by cases v; rw [cntV]; rfl
theorem count_of (v : Val) (hi : v.items.length * 80 ≤ 140737488355327) (n M : Int) (h : ∀ x ∈ v.items, ∀ n hp m, MeetsF Try.prog 10 hp m [vx x, .i .i64 n, .i .i64 M] (.i .i64 (cntV x n M))) (hp : CH) (m : Nat) :
    MeetsF Try.prog 10 hp m [vx v, .i .i64 n, .i .i64 M] (.i .i64 (cntV v n M)) := by
  obtain ⟨R, hR⟩ : ∃ R, cntV v n M = R := ⟨_, rfl⟩
  have e := cntV_eq v n M
  rw [hR] at e ⊢
  refine meetsF Try.func10 (by kernel_rfl) cc10 cr10 rfl fun hf => ?_; unfold ck10
  simp only [go_sem, ↓reduceIte, Nat.reduceEqDiff, Nat.reduceBEq, Nat.reduceAdd, Nat.reduceLeDiff, Nat.reduceLT, reduceCtorEq, Nat.reduceMul, Nat.reduceSub, Int.reduceEq, Int.reduceLT, Int.reduceLE, Int.reduceToNat]
  refine loop (fun p : Nat × Int × Nat => ⟨[(1, .i .i64 p.2.1), (2, .i .i64 M), (3, .bx m 0), (7, .i .i64 p.1)], (m, .bx [.i .i64 v.k, .i .i64 v.n, .s v.s, .ds (mapC valC v.items), .ds (stC v.keys)]) :: hp, p.2.2⟩)
    (fun p => p.1 ≤ v.items.length ∧ m + 1 ≤ p.2.2 ∧ R = cntL (v.items.drop p.1) p.2.1 M) (fun p => v.items.length - p.1) (0, IntKind.i64.wrap (IntKind.i64.wrap (n + 1) + v.keys.length), m + 1) ?_ ?_ (fun ⟨j, a, n⟩ hj => ?_)
  · exact ⟨by simp, by simp, e⟩
  · refine weak_ok ?_ (Sub.refl _) (Nat.le_refl _)
    simp only [go_sem, ↓reduceIte, Nat.reduceEqDiff, Nat.reduceBEq, Nat.reduceAdd, Nat.reduceLeDiff, Nat.reduceLT, reduceCtorEq, Nat.reduceMul, Nat.reduceSub, Int.reduceEq, Int.reduceLT, Int.reduceLE, Int.reduceToNat]
  dsimp only at hj
  obtain ⟨hj1, hj2, hj3⟩ := hj
  simp only [go_sem, ↓reduceIte, Nat.reduceEqDiff, Nat.reduceBEq, Nat.reduceAdd, Nat.reduceLeDiff, Nat.reduceLT, reduceCtorEq, Nat.reduceMul, Nat.reduceSub, Int.reduceEq, Int.reduceLT, Int.reduceLE, Int.reduceToNat]
  refine cdK_of (fun d => ?_) (fun d => ?_)
  · have d2 : j < v.items.length ∧ a ≤ M := by simpa using d
    obtain ⟨d1, d2⟩ := d2
    obtain ⟨x, ex⟩ : ∃ x, v.items[j]? = some x := ⟨v.items[j], by simp [d1]⟩
    rw [drop_at ex, cntL, if_pos d2] at hj3
    simp only [d1, getK_s (mapC_get valC ex), go_sem, ↓reduceIte, Nat.reduceEqDiff, Nat.reduceBEq, Nat.reduceAdd, Nat.reduceLeDiff, Nat.reduceLT, reduceCtorEq, Nat.reduceMul, Nat.reduceSub, Int.reduceEq, Int.reduceLT, Int.reduceLE, Int.reduceToNat]
    refine vcCall.f (h x (List.mem_of_getElem? ex) _ _ _) ?_
    simp only [go_sem, ↓reduceIte, Nat.reduceEqDiff, Nat.reduceBEq, Nat.reduceAdd, Nat.reduceLeDiff, Nat.reduceLT, reduceCtorEq, Nat.reduceMul, Nat.reduceSub, Int.reduceEq, Int.reduceLT, Int.reduceLE, Int.reduceToNat]
    refine ⟨(j + 1, _, n), ⟨by dsimp only; omega, hj2, hj3⟩, by dsimp only; omega, weak_ok ?_ (Sub.refl _) (Nat.le_refl _)⟩
    simp only [wr64s j (by omega), go_sem, ↓reduceIte, Nat.reduceEqDiff, Nat.reduceBEq, Nat.reduceAdd, Nat.reduceLeDiff, Nat.reduceLT, reduceCtorEq, Nat.reduceMul, Nat.reduceSub, Int.reduceEq, Int.reduceLT, Int.reduceLE, Int.reduceToNat]
  · have d2 : j < v.items.length → ¬ a ≤ M := fun q => by simp [q] at d; omega
    have : R = a := by
      rcases Nat.lt_or_ge j v.items.length with q | q
      · obtain ⟨x, ex⟩ : ∃ x, v.items[j]? = some x := ⟨v.items[j], by simp [q]⟩
        rw [drop_at ex, cntL, if_neg (d2 q)] at hj3
        exact hj3
      · rw [List.drop_eq_nil_of_le q, cntL] at hj3
        exact hj3
    rw [this]
    simp only [go_sem, ↓reduceIte, Nat.reduceEqDiff, Nat.reduceBEq, Nat.reduceAdd, Nat.reduceLeDiff, Nat.reduceLT, reduceCtorEq, Nat.reduceMul, Nat.reduceSub, Int.reduceEq, Int.reduceLT, Int.reduceLE, Int.reduceToNat]
theorem count_ok (v : Val) (hv : v.Fit) (n M : Int) (hp : CH) (m : Nat) : MeetsF Try.prog 10 hp m [vx v, .i .i64 n, .i .i64 M] (.i .i64 (cntV v n M)) := by
  have := Val.ind (Q := fun v => v.Fit → ∀ n hp m, MeetsF Try.prog 10 hp m [vx v, .i .i64 n, .i .i64 M] (.i .i64 (cntV v n M))) (fun v ih hv n hp m => count_of v hv.i n M (fun x hx => ih x hx (hv.x hx)) hp m) v
  exact this hv n hp m
theorem few_ok (v : Val) (hv : v.Fit) (hp : CH) (m : Nat) : MeetsF Try.prog 16 hp m [vx v] (.b (decide (cntV v 0 400 ≤ 400))) := by
  refine meetsF Try.func16 (by kernel_rfl) cc16 cr16 rfl fun hf => ?_; unfold ck16
  simp only [go_sem, ↓reduceIte, Nat.reduceEqDiff, Nat.reduceBEq, Nat.reduceAdd, Nat.reduceLeDiff, Nat.reduceLT, reduceCtorEq, Nat.reduceMul, Nat.reduceSub, Int.reduceEq, Int.reduceLT, Int.reduceLE, Int.reduceToNat]
  refine vcCall.f (count_ok v hv _ _ _ _) ?_
  simp only [go_sem, ↓reduceIte, Nat.reduceEqDiff, Nat.reduceBEq, Nat.reduceAdd, Nat.reduceLeDiff, Nat.reduceLT, reduceCtorEq, Nat.reduceMul, Nat.reduceSub, Int.reduceEq, Int.reduceLT, Int.reduceLE, Int.reduceToNat]
end Go.Proofs.Ytaeablbcfkamjaa
