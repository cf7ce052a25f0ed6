/-
  Keys of datasets: values of fields, and whether they are told apart. Conditions: none.
-/
import Derived.Test.YtjalbhlahfgogaaDaF
namespace Go.Proofs.Ytjalbhlahfgogaa
open Go.Eng
set_option linter.unusedVariables false
set_option linter.unusedSimpArgs false
set_option maxRecDepth 20000
/-- A leaf value. -/
noncomputable def leafV (v : Val) : Bool := decide (1 ≤ v.k) && decide (v.k ≤ 4) && rightV false v
theorem dleaf_ok (v : Val) (hv : v.Fit) (hp : CH) (m : Nat) : MeetsF Try.prog 57 hp m [vx v] (.b (leafV v)) := by
  rw [leafV]
  refine meetsF Try.func57 (by kernel_rfl) cc57 cr57 rfl fun hf => ?_; unfold ck57
  simp only [go_sem, ↓reduceIte, Nat.reduceEqDiff, Nat.reduceBEq, Nat.reduceAdd, Nat.reduceLeDiff, Nat.reduceLT, reduceCtorEq, Nat.reduceMul, Nat.reduceSub, Int.reduceEq, Int.reduceLT, Int.reduceLE, Int.reduceToNat]
  refine gCall.f (fun _ => vRight_ok v hv _ _) ?_
  simp only [go_sem, ↓reduceIte, Nat.reduceEqDiff, Nat.reduceBEq, Nat.reduceAdd, Nat.reduceLeDiff, Nat.reduceLT, reduceCtorEq, Nat.reduceMul, Nat.reduceSub, Int.reduceEq, Int.reduceLT, Int.reduceLE, Int.reduceToNat]
theorem sound1_ok (v : Val) (hv : v.Fit) (hp : CH) (m : Nat) : MeetsF Try.prog 56 hp m [vx v] (.b (!leafV v)) := by
  refine meetsF Try.func56 (by kernel_rfl) cc56 cr56 rfl fun hf => ?_; unfold ck56
  simp only [go_sem, ↓reduceIte, Nat.reduceEqDiff, Nat.reduceBEq, Nat.reduceAdd, Nat.reduceLeDiff, Nat.reduceLT, reduceCtorEq, Nat.reduceMul, Nat.reduceSub, Int.reduceEq, Int.reduceLT, Int.reduceLE, Int.reduceToNat]
  refine vcCall.f (dleaf_ok v hv _ _) ?_
  simp only [go_sem, ↓reduceIte, Nat.reduceEqDiff, Nat.reduceBEq, Nat.reduceAdd, Nat.reduceLeDiff, Nat.reduceLT, reduceCtorEq, Nat.reduceMul, Nat.reduceSub, Int.reduceEq, Int.reduceLT, Int.reduceLE, Int.reduceToNat]
theorem rleaf_ok (v : Val) (hv : v.Fit) (hp : CH) (m : Nat) : MeetsF Try.prog 63 hp m [vx v] (.b (leafV v)) := by
  have e : leafV v = ((decide (v.k = 1) || (decide (v.k = 2) || (decide (v.k = 3) || decide (v.k = 4)))) && rightV false v) := by
    rw [leafV]
    congr 1
    rw [Bool.eq_iff_iff]
    simp only [Bool.and_eq_true, Bool.or_eq_true, decide_eq_true_eq]
    omega
  rw [e]
  refine meetsF Try.func63 (by kernel_rfl) cc63 cr63 rfl fun hf => ?_; unfold ck63
  simp only [go_sem, ↓reduceIte, Nat.reduceEqDiff, Nat.reduceBEq, Nat.reduceAdd, Nat.reduceLeDiff, Nat.reduceLT, reduceCtorEq, Nat.reduceMul, Nat.reduceSub, Int.reduceEq, Int.reduceLT, Int.reduceLE, Int.reduceToNat]
  refine gCall.f (fun _ => rRight_ok v hv _ _) ?_
  simp only [Bool.or_assoc, go_sem, ↓reduceIte, Nat.reduceEqDiff, Nat.reduceBEq, Nat.reduceAdd, Nat.reduceLeDiff, Nat.reduceLT, reduceCtorEq, Nat.reduceMul, Nat.reduceSub, Int.reduceEq, Int.reduceLT, Int.reduceLE, Int.reduceToNat]
/-- The values of fields of an item. -/
def valsD (d : Dat) (i : Int) (ks : List ByteArray) : List Val := ks.map fun k => lookV d i k ⟨#[]⟩
theorem valsD_len (d : Dat) (i : Int) (ks : List ByteArray) : (valsD d i ks).length = ks.length := by simp [valsD]
theorem valsD_fit {d : Dat} (hd : d.Fit) (i : Int) (ks : List ByteArray) : ∀ v ∈ valsD d i ks, v.Fit := by
  intro v hv
  obtain ⟨k, _, rfl⟩ := List.mem_map.1 hv
  exact lookV_fit hd _ _ _
theorem valsD_take {d : Dat} {i : Int} {ks : List ByteArray} {j : Nat} {k : ByteArray} (h : ks[j]? = some k) : valsD d i (ks.take j) ++ [lookV d i k ⟨#[]⟩] = valsD d i (ks.take (j + 1)) := by
  rw [valsD, valsD, ← take_snoc h, List.map_append]
  rfl
theorem rValues_ok (d : Dat) (hd : d.Fit) (i : Int) (ks : List ByteArray) (hk : ks.length ≤ 1000000000) (hp : CH) (m : Nat) : MeetsF Try.prog 28 hp m [dx d, .i .i64 i, .ds (stC ks)] (.ds (mapC valC (valsD d i ks))) := by
  refine meetsF Try.func28 (by kernel_rfl) cc28 cr28 rfl fun hf => ?_; unfold ck28
  simp only [go_sem, ↓reduceIte, Nat.reduceEqDiff, Nat.reduceBEq, Nat.reduceAdd, Nat.reduceLeDiff, Nat.reduceLT, reduceCtorEq, Nat.reduceMul, Nat.reduceSub, Int.reduceEq, Int.reduceLT, Int.reduceLE, Int.reduceToNat]
  refine loop (fun p : Nat × Nat => ⟨[(1, .i .i64 i), (2, .ds (stC ks)), (3, .bx m 0), (7, .rw (m + 1) p.1 p.1), (8, .i .i64 p.1)], (m + 1, .rw p.1 5 (mapC valC (valsD d i (ks.take p.1)))) :: (m, .bx [.ds (mapC itC d.i), .ds (mapC wrC d.w)]) :: hp, p.2⟩)
    (fun p => p.1 ≤ ks.length ∧ m + 2 ≤ p.2) (fun p => ks.length - p.1) (0, m + 2) ?_ ?_ (fun ⟨j, n⟩ hj => ?_)
  · exact ⟨by simp, by simp⟩
  · refine (weak_e0 (t := 7) (m := 5) ?_).trans (weak_ok ?_ (Sub.cons ?_ (Sub.cons ?_ (Sub.base hf ?_))) (Nat.le_refl _))
    all_goals simp only [go_sem, ↓reduceIte, Nat.reduceEqDiff, Nat.reduceBEq, Nat.reduceAdd, Nat.reduceLeDiff, Nat.reduceLT, reduceCtorEq, Nat.reduceMul, Nat.reduceSub, Int.reduceEq, Int.reduceLT, Int.reduceLE, Int.reduceToNat]
    all_goals rfl
  dsimp only at hj
  obtain ⟨hj1, hj2⟩ := hj
  have z1 : ¬ n = m := by omega
  have z2 : ¬ n = m + 1 := by omega
  have z3 : m ≤ n := by omega
  have hl := valsD_len d i (ks.take j)
  rw [List.length_take, Nat.min_eq_left hj1] at hl
  simp only [z1, z2, z3, go_sem, ↓reduceIte, Nat.reduceEqDiff, Nat.reduceBEq, Nat.reduceAdd, Nat.reduceLeDiff, Nat.reduceLT, reduceCtorEq, Nat.reduceMul, Nat.reduceSub, Int.reduceEq, Int.reduceLT, Int.reduceLE, Int.reduceToNat]
  refine cdK_of (fun q => ?_) (fun q => ?_)
  · have q : j < ks.length := by simpa using q
    obtain ⟨k, ek⟩ : ∃ k, ks[j]? = some k := ⟨ks[j], by simp [q]⟩
    simp only [z1, z2, z3, q, getK_s (mapC_get st1 ek), go_sem, ↓reduceIte, Nat.reduceEqDiff, Nat.reduceBEq, Nat.reduceAdd, Nat.reduceLeDiff, Nat.reduceLT, reduceCtorEq, Nat.reduceMul, Nat.reduceSub, Int.reduceEq, Int.reduceLT, Int.reduceLE, Int.reduceToNat]
    first | refine dCallR.f (fun _ _ _ => rLookup_ok d hd _ _ _ _ _) ?_ | refine dCall.f (fun _ _ _ => rLookup_ok d hd _ _ _ _ _) ?_
    simp only [go_sem, ↓reduceIte, Nat.reduceEqDiff, Nat.reduceBEq, Nat.reduceAdd, Nat.reduceLeDiff, Nat.reduceLT, reduceCtorEq, Nat.reduceMul, Nat.reduceSub, Int.reduceEq, Int.reduceLT, Int.reduceLE, Int.reduceToNat]
    simp only [z1, z2, z3, hl, go_sem, ↓reduceIte, Nat.reduceEqDiff, Nat.reduceBEq, Nat.reduceAdd, Nat.reduceLeDiff, Nat.reduceLT, reduceCtorEq, Nat.reduceMul, Nat.reduceSub, Int.reduceEq, Int.reduceLT, Int.reduceLE, Int.reduceToNat]
    refine ⟨by omega, (j + 1, _), ⟨by dsimp only; omega, by dsimp only; omega⟩, by dsimp only; omega, weak_ok ?_ (Sub.cons ?_ (Sub.cons ?_ (Sub.base hf ?_))) (Nat.le_refl _)⟩
    all_goals
      simp only [z1, z2, z3, wr64s j (by omega), valsD_take ek, go_sem, ↓reduceIte, Nat.reduceEqDiff, Nat.reduceBEq, Nat.reduceAdd, Nat.reduceLeDiff, Nat.reduceLT, reduceCtorEq, Nat.reduceMul, Nat.reduceSub, Int.reduceEq, Int.reduceLT, Int.reduceLE, Int.reduceToNat]
  · have q : j = ks.length := by simp at q; omega
    subst q
    simp only [z1, z2, z3, hl, go_sem, ↓reduceIte, Nat.reduceEqDiff, Nat.reduceBEq, Nat.reduceAdd, Nat.reduceLeDiff, Nat.reduceLT, reduceCtorEq, Nat.reduceMul, Nat.reduceSub, Int.reduceEq, Int.reduceLT, Int.reduceLE, Int.reduceToNat]
    rw [if_pos (by rw [valsD_len]; omega), List.take_of_length_le (by rw [valsD_len]; omega)]
/-- All values of a list are those of another. -/
noncomputable def alk : List Val → List Val → Bool
  | x :: a, y :: b => decide (cmpV x y = 0) && alk a b
  | _, _ => true
theorem alk_nil (b : List Val) : alk [] b = true := by rw [alk]; intro _ _ _ _ h; cases h
theorem ralike_ok (a b : List Val) (hab : a.length ≤ b.length) (hl : b.length ≤ 1000000000000) (ha : ∀ v ∈ a, v.Fit) (hb : ∀ v ∈ b, v.Fit) (hp : CH) (m : Nat) : MeetsF Try.prog 64 hp m [.ds (mapC valC a), .ds (mapC valC b)] (.b (alk a b)) := by
  obtain ⟨R, hR⟩ : ∃ R, alk a b = R := ⟨_, rfl⟩
  rw [hR]
  refine meetsF Try.func64 (by kernel_rfl) cc64 cr64 rfl fun hf => ?_; unfold ck64
  simp only [go_sem, ↓reduceIte, Nat.reduceEqDiff, Nat.reduceBEq, Nat.reduceAdd, Nat.reduceLeDiff, Nat.reduceLT, reduceCtorEq, Nat.reduceMul, Nat.reduceSub, Int.reduceEq, Int.reduceLT, Int.reduceLE, Int.reduceToNat]
  refine loop (fun p : Nat × Nat => ⟨[(0, .ds (mapC valC a)), (1, .ds (mapC valC b)), (5, .i .i64 p.1)], hp, p.2⟩)
    (fun p => p.1 ≤ a.length ∧ m ≤ p.2 ∧ R = alk (a.drop p.1) (b.drop p.1)) (fun p => a.length - p.1) (0, m) ?_ ?_ (fun ⟨j, n⟩ hj => ?_)
  · exact ⟨by simp, by simp, hR.symm⟩
  · refine weak_ok ?_ (Sub.refl _) (Nat.le_refl _)
    simp only [go_sem, ↓reduceIte, Nat.reduceEqDiff, Nat.reduceBEq, Nat.reduceAdd, Nat.reduceLeDiff, Nat.reduceLT, reduceCtorEq, Nat.reduceMul, Nat.reduceSub, Int.reduceEq, Int.reduceLT, Int.reduceLE, Int.reduceToNat]
  dsimp only at hj
  obtain ⟨hj1, hj2, hj3⟩ := hj
  simp only [go_sem, ↓reduceIte, Nat.reduceEqDiff, Nat.reduceBEq, Nat.reduceAdd, Nat.reduceLeDiff, Nat.reduceLT, reduceCtorEq, Nat.reduceMul, Nat.reduceSub, Int.reduceEq, Int.reduceLT, Int.reduceLE, Int.reduceToNat]
  refine cdK_of (fun q => ?_) (fun q => ?_)
  · have q : j < a.length := by simpa using q
    have q2 : j < b.length := by omega
    obtain ⟨x, ex⟩ : ∃ x, a[j]? = some x := ⟨a[j], by simp [q]⟩
    obtain ⟨y, ey⟩ : ∃ y, b[j]? = some y := ⟨b[j], by simp [q2]⟩
    rw [drop_at ex, drop_at ey, alk] at hj3
    simp only [q, q2, getK_s (mapC_get valC ex), getK_s (mapC_get valC ey), go_sem, ↓reduceIte, Nat.reduceEqDiff, Nat.reduceBEq, Nat.reduceAdd, Nat.reduceLeDiff, Nat.reduceLT, reduceCtorEq, Nat.reduceMul, Nat.reduceSub, Int.reduceEq, Int.reduceLT, Int.reduceLE, Int.reduceToNat]
    first | refine dCallR.f (fun _ _ _ => same_ok x y (ha x (List.mem_of_getElem? ex)) (hb y (List.mem_of_getElem? ey)) _ _) ?_ | refine dCall.f (fun _ _ _ => same_ok x y (ha x (List.mem_of_getElem? ex)) (hb y (List.mem_of_getElem? ey)) _ _) ?_
    simp only [go_sem, ↓reduceIte, Nat.reduceEqDiff, Nat.reduceBEq, Nat.reduceAdd, Nat.reduceLeDiff, Nat.reduceLT, reduceCtorEq, Nat.reduceMul, Nat.reduceSub, Int.reduceEq, Int.reduceLT, Int.reduceLE, Int.reduceToNat]
    refine cdK_of (fun c => ?_) (fun c => ?_)
    · have c : ¬ cmpV x y = 0 := by simpa using c
      rw [decide_eq_false c, Bool.false_and] at hj3
      simp only [hj3, go_sem, ↓reduceIte, Nat.reduceEqDiff, Nat.reduceBEq, Nat.reduceAdd, Nat.reduceLeDiff, Nat.reduceLT, reduceCtorEq, Nat.reduceMul, Nat.reduceSub, Int.reduceEq, Int.reduceLT, Int.reduceLE, Int.reduceToNat]
    · have c : cmpV x y = 0 := by simpa using c
      rw [decide_eq_true c, Bool.true_and] at hj3
      simp only [go_sem, ↓reduceIte, Nat.reduceEqDiff, Nat.reduceBEq, Nat.reduceAdd, Nat.reduceLeDiff, Nat.reduceLT, reduceCtorEq, Nat.reduceMul, Nat.reduceSub, Int.reduceEq, Int.reduceLT, Int.reduceLE, Int.reduceToNat]
      refine ⟨(j + 1, _), ⟨by dsimp only; omega, by dsimp only; omega, hj3⟩, by dsimp only; omega, weak_ok ?_ (Sub.refl _) (Nat.le_refl _)⟩
      simp only [wr64s j (by omega), go_sem, ↓reduceIte, Nat.reduceEqDiff, Nat.reduceBEq, Nat.reduceAdd, Nat.reduceLeDiff, Nat.reduceLT, reduceCtorEq, Nat.reduceMul, Nat.reduceSub, Int.reduceEq, Int.reduceLT, Int.reduceLE, Int.reduceToNat]
  · have q : j = a.length := by simp at q; omega
    subst q
    rw [List.drop_length, alk_nil] at hj3
    simp only [hj3, go_sem, ↓reduceIte, Nat.reduceEqDiff, Nat.reduceBEq, Nat.reduceAdd, Nat.reduceLeDiff, Nat.reduceLT, reduceCtorEq, Nat.reduceMul, Nat.reduceSub, Int.reduceEq, Int.reduceLT, Int.reduceLE, Int.reduceToNat]
noncomputable def eqK (a b : List Val) : Bool := decide (a.length = b.length) && alk a b
theorem eqfun_ok (a b : List Val) (hl : a.length ≤ 1000000000000) (ha : ∀ v ∈ a, v.Fit) (hb : ∀ v ∈ b, v.Fit) (hp : CH) (m : Nat) : MeetsF Try.prog 60 hp m [.ds (mapC valC a), .ds (mapC valC b), .fn 61 []] (.b (eqK a b)) := by
  obtain ⟨R, hR⟩ : ∃ R, eqK a b = R := ⟨_, rfl⟩
  have e := hR
  rw [eqK] at e
  rw [hR]
  refine meetsF Try.func60 (by kernel_rfl) cc60 cr60 rfl fun hf => ?_; unfold ck60
  simp only [go_sem, ↓reduceIte, Nat.reduceEqDiff, Nat.reduceBEq, Nat.reduceAdd, Nat.reduceLeDiff, Nat.reduceLT, reduceCtorEq, Nat.reduceMul, Nat.reduceSub, Int.reduceEq, Int.reduceLT, Int.reduceLE, Int.reduceToNat]
  refine cdK_of (fun c => ?_) (fun c => ?_)
  · have c : ¬ a.length = b.length := by simp at c; omega
    rw [decide_eq_false c, Bool.false_and] at e
    subst e
    simp only [go_sem, ↓reduceIte, Nat.reduceEqDiff, Nat.reduceBEq, Nat.reduceAdd, Nat.reduceLeDiff, Nat.reduceLT, reduceCtorEq, Nat.reduceMul, Nat.reduceSub, Int.reduceEq, Int.reduceLT, Int.reduceLE, Int.reduceToNat]
  have c : a.length = b.length := by simp at c; omega
  rw [decide_eq_true c, Bool.true_and] at e
  simp only [go_sem, ↓reduceIte, Nat.reduceEqDiff, Nat.reduceBEq, Nat.reduceAdd, Nat.reduceLeDiff, Nat.reduceLT, reduceCtorEq, Nat.reduceMul, Nat.reduceSub, Int.reduceEq, Int.reduceLT, Int.reduceLE, Int.reduceToNat]
  refine loop (fun p : Nat × Nat => ⟨[(1, .ds (mapC valC b)), (2, .fn 61 []), (15, .ds (mapC valC a)), (16, .i .i64 a.length), (17, .i .i64 p.1)], hp, p.2⟩)
    (fun p => p.1 ≤ a.length ∧ m ≤ p.2 ∧ R = alk (a.drop p.1) (b.drop p.1)) (fun p => a.length - p.1) (0, m) ?_ ?_ (fun ⟨j, n⟩ hj => ?_)
  · exact ⟨by simp, by simp, e.symm⟩
  · refine weak_ok ?_ (Sub.refl _) (Nat.le_refl _)
    simp only [go_sem, ↓reduceIte, Nat.reduceEqDiff, Nat.reduceBEq, Nat.reduceAdd, Nat.reduceLeDiff, Nat.reduceLT, reduceCtorEq, Nat.reduceMul, Nat.reduceSub, Int.reduceEq, Int.reduceLT, Int.reduceLE, Int.reduceToNat]
  dsimp only at hj
  obtain ⟨hj1, hj2, hj3⟩ := hj
  simp only [go_sem, ↓reduceIte, Nat.reduceEqDiff, Nat.reduceBEq, Nat.reduceAdd, Nat.reduceLeDiff, Nat.reduceLT, reduceCtorEq, Nat.reduceMul, Nat.reduceSub, Int.reduceEq, Int.reduceLT, Int.reduceLE, Int.reduceToNat]
  refine cdK_of (fun q => ?_) (fun q => ?_)
  · have q : j < a.length := by simpa using q
    have y2 : m ≤ n + 1 := by omega
    have q2 : j < b.length := by omega
    obtain ⟨x, ex⟩ : ∃ x, a[j]? = some x := ⟨a[j], by simp [q]⟩
    obtain ⟨y, ey⟩ : ∃ y, b[j]? = some y := ⟨b[j], by simp [q2]⟩
    rw [drop_at ex, drop_at ey, alk] at hj3
    simp only [q, q2, getK_s (mapC_get valC ex), getK_s (mapC_get valC ey), go_sem, ↓reduceIte, Nat.reduceEqDiff, Nat.reduceBEq, Nat.reduceAdd, Nat.reduceLeDiff, Nat.reduceLT, reduceCtorEq, Nat.reduceMul, Nat.reduceSub, Int.reduceEq, Int.reduceLT, Int.reduceLE, Int.reduceToNat]
    refine vcCall.f (vsame_ok x y (ha x (List.mem_of_getElem? ex)) (hb y (List.mem_of_getElem? ey)) _ _) ?_
    simp only [go_sem, ↓reduceIte, Nat.reduceEqDiff, Nat.reduceBEq, Nat.reduceAdd, Nat.reduceLeDiff, Nat.reduceLT, reduceCtorEq, Nat.reduceMul, Nat.reduceSub, Int.reduceEq, Int.reduceLT, Int.reduceLE, Int.reduceToNat]
    refine cdK_of (fun c => ?_) (fun c => ?_)
    · have c : ¬ cmpV x y = 0 := by simpa using c
      rw [decide_eq_false c, Bool.false_and] at hj3
      simp only [hj3, hj2, y2, go_sem, ↓reduceIte, Nat.reduceEqDiff, Nat.reduceBEq, Nat.reduceAdd, Nat.reduceLeDiff, Nat.reduceLT, reduceCtorEq, Nat.reduceMul, Nat.reduceSub, Int.reduceEq, Int.reduceLT, Int.reduceLE, Int.reduceToNat]
    · have c : cmpV x y = 0 := by simpa using c
      rw [decide_eq_true c, Bool.true_and] at hj3
      simp only [go_sem, ↓reduceIte, Nat.reduceEqDiff, Nat.reduceBEq, Nat.reduceAdd, Nat.reduceLeDiff, Nat.reduceLT, reduceCtorEq, Nat.reduceMul, Nat.reduceSub, Int.reduceEq, Int.reduceLT, Int.reduceLE, Int.reduceToNat]
      refine ⟨(j + 1, _), ⟨by dsimp only; omega, by dsimp only; omega, hj3⟩, by dsimp only; omega, weak_ok ?_ (Sub.base hf ?_) (Nat.le_refl _)⟩
      all_goals
        simp only [wr64s j (by omega), hj2, y2, go_sem, ↓reduceIte, Nat.reduceEqDiff, Nat.reduceBEq, Nat.reduceAdd, Nat.reduceLeDiff, Nat.reduceLT, reduceCtorEq, Nat.reduceMul, Nat.reduceSub, Int.reduceEq, Int.reduceLT, Int.reduceLE, Int.reduceToNat]
  · have q : j = a.length := by simp at q; omega
    subst q
    rw [List.drop_length, alk_nil] at hj3
    simp only [hj3, hj2, go_sem, ↓reduceIte, Nat.reduceEqDiff, Nat.reduceBEq, Nat.reduceAdd, Nat.reduceLeDiff, Nat.reduceLT, reduceCtorEq, Nat.reduceMul, Nat.reduceSub, Int.reduceEq, Int.reduceLT, Int.reduceLE, Int.reduceToNat]
theorem sound2_ok (l y : List Val) (hl : l.length ≤ 1000000000000) (h1 : ∀ v ∈ l, v.Fit) (h2 : ∀ v ∈ y, v.Fit) (c : Nat) (hp : CH) (m : Nat) (hc : gc hp c = .ro [.ds (mapC valC l)]) : MeetsF Try.prog 59 hp m [.ds (mapC valC y), .bx c 0] (.b (eqK l y)) := by
  refine meetsF Try.func59 (by kernel_rfl) cc59 cr59 rfl fun hf => ?_; unfold ck59
  simp only [hc, go_sem, ↓reduceIte, Nat.reduceEqDiff, Nat.reduceBEq, Nat.reduceAdd, Nat.reduceLeDiff, Nat.reduceLT, reduceCtorEq, Nat.reduceMul, Nat.reduceSub, Int.reduceEq, Int.reduceLT, Int.reduceLE, Int.reduceToNat]
  refine vcCall.f (eqfun_ok l y hl h1 h2 _ _) ?_
  simp only [go_sem, ↓reduceIte, Nat.reduceEqDiff, Nat.reduceBEq, Nat.reduceAdd, Nat.reduceLeDiff, Nat.reduceLT, reduceCtorEq, Nat.reduceMul, Nat.reduceSub, Int.reduceEq, Int.reduceLT, Int.reduceLE, Int.reduceToNat]
/-- A list of values as one cell. -/
def llC (l : List Val) : List AV := [.ds (mapC valC l)]
theorem elsOk_ll (l : List (List Val)) : elsOk 1 (mapC llC l) = True := elsOk_map fun _ => ⟨rfl, rfl⟩
theorem len_ll (l : List (List Val)) : (∀ e, e ∈ mapC llC l → e.length = 1) = True := eq_true fun e h => ((of_eq_true (elsOk_ll l)) e h).1
theorem raw_ll (l : List (List Val)) : (∀ e, e ∈ mapC llC l → e.length = 1 ∧ e.all AV.one = true) = True := elsOk_ll l
theorem snoc_ll (l : List (List Val)) (x : List Val) : mapC llC l ++ [[AV.ds (mapC valC x)]] = mapC llC (l ++ [x]) := mapC_snoc llC l x
attribute [go_sem] llC elsOk_ll len_ll raw_ll snoc_ll
theorem first_ll (l : List (List Val)) (q : List Val → Bool) (k : FuncId) (caps : List AV) (hl : l.length ≤ 9223372036854775806) (hp : CH) (m : Nat) (h : ∀ x ∈ l, ∀ n, MeetsF Try.prog k hp n (.ds (mapC valC x) :: caps) (.b (q x))) : MeetsF Try.prog 58 hp m [.ds (mapC llC l), .fn k caps] (resI (fidx q l 0)) := by
  obtain ⟨R, hR⟩ : ∃ R, fidx q l 0 = R := ⟨_, rfl⟩
  rw [hR]
  refine meetsF Try.func58 (by kernel_rfl) cc58 cr58 rfl fun hf => ?_; unfold ck58
  simp only [go_sem, ↓reduceIte, Nat.reduceEqDiff, Nat.reduceBEq, Nat.reduceAdd, Nat.reduceLeDiff, Nat.reduceLT, reduceCtorEq, Nat.reduceMul, Nat.reduceSub, Int.reduceEq, Int.reduceLT, Int.reduceLE, Int.reduceToNat]
  refine loop (fun p : Nat × Nat => ⟨[(1, .fn k caps), (8, .ds (mapC llC l)), (9, .i .i64 l.length), (10, .i .i64 p.1)], hp, p.2⟩) (fun p => p.1 ≤ l.length ∧ m ≤ p.2 ∧ R = fidx q (l.drop p.1) p.1) (fun p => l.length - p.1) (0, m) ?_ ?_ (fun ⟨j, n⟩ hj => ?_)
  · exact ⟨by simp, by simp, hR.symm⟩
  · refine weak_ok ?_ (Sub.refl _) (Nat.le_refl _)
    simp only [go_sem, ↓reduceIte, Nat.reduceEqDiff, Nat.reduceBEq, Nat.reduceAdd, Nat.reduceLeDiff, Nat.reduceLT, reduceCtorEq, Nat.reduceMul, Nat.reduceSub, Int.reduceEq, Int.reduceLT, Int.reduceLE, Int.reduceToNat]
  dsimp only at hj
  obtain ⟨hj1, hj2, hj3⟩ := hj
  simp only [go_sem, ↓reduceIte, Nat.reduceEqDiff, Nat.reduceBEq, Nat.reduceAdd, Nat.reduceLeDiff, Nat.reduceLT, reduceCtorEq, Nat.reduceMul, Nat.reduceSub, Int.reduceEq, Int.reduceLT, Int.reduceLE, Int.reduceToNat]
  refine cdK_of (fun c => ?_) (fun c => ?_)
  · have c : j < l.length := by simpa using c
    obtain ⟨x, ex⟩ : ∃ x, l[j]? = some x := ⟨l[j], by simp [c]⟩
    have hx := h x (List.mem_of_getElem? ex)
    rw [drop_at ex, fidx] at hj3
    simp only [c, getK_s (mapC_get llC ex), go_sem, ↓reduceIte, Nat.reduceEqDiff, Nat.reduceBEq, Nat.reduceAdd, Nat.reduceLeDiff, Nat.reduceLT, reduceCtorEq, Nat.reduceMul, Nat.reduceSub, Int.reduceEq, Int.reduceLT, Int.reduceLE, Int.reduceToNat]
    refine vcCall.f (hx _) ?_
    simp only [go_sem, ↓reduceIte, Nat.reduceEqDiff, Nat.reduceBEq, Nat.reduceAdd, Nat.reduceLeDiff, Nat.reduceLT, reduceCtorEq, Nat.reduceMul, Nat.reduceSub, Int.reduceEq, Int.reduceLT, Int.reduceLE, Int.reduceToNat]
    refine cdK_of (fun c1 => ?_) (fun c1 => ?_)
    · rw [if_pos c1] at hj3
      simp only [hj3, hj2, go_sem, ↓reduceIte, Nat.reduceEqDiff, Nat.reduceBEq, Nat.reduceAdd, Nat.reduceLeDiff, Nat.reduceLT, reduceCtorEq, Nat.reduceMul, Nat.reduceSub, Int.reduceEq, Int.reduceLT, Int.reduceLE, Int.reduceToNat]
    · rw [if_neg (by simp [c1])] at hj3
      simp only [go_sem, ↓reduceIte, Nat.reduceEqDiff, Nat.reduceBEq, Nat.reduceAdd, Nat.reduceLeDiff, Nat.reduceLT, reduceCtorEq, Nat.reduceMul, Nat.reduceSub, Int.reduceEq, Int.reduceLT, Int.reduceLE, Int.reduceToNat]
      refine ⟨(j + 1, _), ⟨by dsimp only; omega, by dsimp only; omega, hj3⟩, by dsimp only; omega, weak_ok ?_ (Sub.refl _) (Nat.le_refl _)⟩
      simp only [wr64s j (by omega), go_sem, ↓reduceIte, Nat.reduceEqDiff, Nat.reduceBEq, Nat.reduceAdd, Nat.reduceLeDiff, Nat.reduceLT, reduceCtorEq, Nat.reduceMul, Nat.reduceSub, Int.reduceEq, Int.reduceLT, Int.reduceLE, Int.reduceToNat]
  · have c : j = l.length := by simp at c; omega
    subst c
    rw [List.drop_length, fidx] at hj3
    simp only [hj3, hj2, go_sem, ↓reduceIte, Nat.reduceEqDiff, Nat.reduceBEq, Nat.reduceAdd, Nat.reduceLeDiff, Nat.reduceLT, reduceCtorEq, Nat.reduceMul, Nat.reduceSub, Int.reduceEq, Int.reduceLT, Int.reduceLE, Int.reduceToNat]
theorem first_val (l : List Val) (q : Val → Bool) (k : FuncId) (caps : List AV) (hl : l.length ≤ 9223372036854775806) (hp : CH) (m : Nat) (h : ∀ x ∈ l, ∀ hp' n, m ≤ n → Ext hp hp' m → MeetsF Try.prog k hp' n (vx x :: caps) (.b (q x))) : MeetsF Try.prog 55 hp m [.ds (mapC valC l), .fn k caps] (resI (fidx q l 0)) := by
  obtain ⟨R, hR⟩ : ∃ R, fidx q l 0 = R := ⟨_, rfl⟩
  rw [hR]
  refine meetsF Try.func55 (by kernel_rfl) cc55 cr55 rfl fun hf => ?_; unfold ck55
  simp only [go_sem, ↓reduceIte, Nat.reduceEqDiff, Nat.reduceBEq, Nat.reduceAdd, Nat.reduceLeDiff, Nat.reduceLT, reduceCtorEq, Nat.reduceMul, Nat.reduceSub, Int.reduceEq, Int.reduceLT, Int.reduceLE, Int.reduceToNat]
  refine loop (fun p : Nat × Nat => ⟨[(1, .fn k caps), (8, .ds (mapC valC l)), (9, .i .i64 l.length), (10, .i .i64 p.1)], hp, p.2⟩) (fun p => p.1 ≤ l.length ∧ m ≤ p.2 ∧ R = fidx q (l.drop p.1) p.1) (fun p => l.length - p.1) (0, m) ?_ ?_ (fun ⟨j, n⟩ hj => ?_)
  · exact ⟨by simp, by simp, hR.symm⟩
  · refine weak_ok ?_ (Sub.refl _) (Nat.le_refl _)
    simp only [go_sem, ↓reduceIte, Nat.reduceEqDiff, Nat.reduceBEq, Nat.reduceAdd, Nat.reduceLeDiff, Nat.reduceLT, reduceCtorEq, Nat.reduceMul, Nat.reduceSub, Int.reduceEq, Int.reduceLT, Int.reduceLE, Int.reduceToNat]
  dsimp only at hj
  obtain ⟨hj1, hj2, hj3⟩ := hj
  simp only [go_sem, ↓reduceIte, Nat.reduceEqDiff, Nat.reduceBEq, Nat.reduceAdd, Nat.reduceLeDiff, Nat.reduceLT, reduceCtorEq, Nat.reduceMul, Nat.reduceSub, Int.reduceEq, Int.reduceLT, Int.reduceLE, Int.reduceToNat]
  refine cdK_of (fun c => ?_) (fun c => ?_)
  · have c : j < l.length := by simpa using c
    obtain ⟨x, ex⟩ : ∃ x, l[j]? = some x := ⟨l[j], by simp [c]⟩
    have hx := h x (List.mem_of_getElem? ex)
    rw [drop_at ex, fidx] at hj3
    simp only [c, getK_s (mapC_get valC ex), go_sem, ↓reduceIte, Nat.reduceEqDiff, Nat.reduceBEq, Nat.reduceAdd, Nat.reduceLeDiff, Nat.reduceLT, reduceCtorEq, Nat.reduceMul, Nat.reduceSub, Int.reduceEq, Int.reduceLT, Int.reduceLE, Int.reduceToNat]
    refine vcCall.f (hx _ _ (by omega) fun i hi => ?_) ?_
    · simp only [gc_cons]
      repeat rw [if_neg (by omega)]
    simp only [go_sem, ↓reduceIte, Nat.reduceEqDiff, Nat.reduceBEq, Nat.reduceAdd, Nat.reduceLeDiff, Nat.reduceLT, reduceCtorEq, Nat.reduceMul, Nat.reduceSub, Int.reduceEq, Int.reduceLT, Int.reduceLE, Int.reduceToNat]
    refine cdK_of (fun c1 => ?_) (fun c1 => ?_)
    · rw [if_pos c1] at hj3
      simp only [hj3, hj2, go_sem, ↓reduceIte, Nat.reduceEqDiff, Nat.reduceBEq, Nat.reduceAdd, Nat.reduceLeDiff, Nat.reduceLT, reduceCtorEq, Nat.reduceMul, Nat.reduceSub, Int.reduceEq, Int.reduceLT, Int.reduceLE, Int.reduceToNat]
    · rw [if_neg (by simp [c1])] at hj3
      simp only [go_sem, ↓reduceIte, Nat.reduceEqDiff, Nat.reduceBEq, Nat.reduceAdd, Nat.reduceLeDiff, Nat.reduceLT, reduceCtorEq, Nat.reduceMul, Nat.reduceSub, Int.reduceEq, Int.reduceLT, Int.reduceLE, Int.reduceToNat]
      refine ⟨(j + 1, _), ⟨by dsimp only; omega, by dsimp only; omega, hj3⟩, by dsimp only; omega, weak_ok ?_ (Sub.base hf ?_) (Nat.le_refl _)⟩
      · simp only [wr64s j (by omega), go_sem, ↓reduceIte, Nat.reduceEqDiff, Nat.reduceBEq, Nat.reduceAdd, Nat.reduceLeDiff, Nat.reduceLT, reduceCtorEq, Nat.reduceMul, Nat.reduceSub, Int.reduceEq, Int.reduceLT, Int.reduceLE, Int.reduceToNat]
      · simp only [hj2, go_sem, ↓reduceIte, Nat.reduceEqDiff, Nat.reduceBEq, Nat.reduceAdd, Nat.reduceLeDiff, Nat.reduceLT, reduceCtorEq, Nat.reduceMul, Nat.reduceSub, Int.reduceEq, Int.reduceLT, Int.reduceLE, Int.reduceToNat]
  · have c : j = l.length := by simp at c; omega
    subst c
    rw [List.drop_length, fidx] at hj3
    simp only [hj3, hj2, go_sem, ↓reduceIte, Nat.reduceEqDiff, Nat.reduceBEq, Nat.reduceAdd, Nat.reduceLeDiff, Nat.reduceLT, reduceCtorEq, Nat.reduceMul, Nat.reduceSub, Int.reduceEq, Int.reduceLT, Int.reduceLE, Int.reduceToNat]
theorem rMoves_ok (d : Dat) (hd : d.Fit) (K : List Ky) (hK : K.length ≤ 1000000000000) (hkl : ∀ k ∈ K, k.l.length ≤ 1000000000000) (w : Wri) (hp : CH) (m : Nat) : MeetsF Try.prog 62 hp m [sx' K, dx d, wx w] (.b (mvW d K w)) := by
  have hli := hd.li
  obtain ⟨R, hR⟩ : ∃ R, mvW d K w = R := ⟨_, rfl⟩
  have e := hR
  rw [mvW] at e
  rw [hR]
  refine meetsF Try.func62 (by kernel_rfl) cc62 cr62 rfl fun hf => ?_; unfold ck62
  simp only [go_sem, ↓reduceIte, Nat.reduceEqDiff, Nat.reduceBEq, Nat.reduceAdd, Nat.reduceLeDiff, Nat.reduceLT, reduceCtorEq, Nat.reduceMul, Nat.reduceSub, Int.reduceEq, Int.reduceLT, Int.reduceLE, Int.reduceToNat]
  rw [← Bool.decide_and] at e
  refine loop (fun p : Nat × Nat => ⟨[(3, .bx m 0), (4, .bx (m + 1) 0), (5, .bx (m + 2) 0), (7, .i .i64 p.1)], (m + 2, .bx [.s w.f, .s w.a, .i .i64 w.i, .s w.c.f, .s w.c.a, .i .i64 w.c.v.k, .i .i64 w.c.v.n, .s w.c.v.s, .ds (mapC valC w.c.v.items), .ds (stC w.c.v.keys)]) :: (m + 1, .bx [.ds (mapC itC d.i), .ds (mapC wrC d.w)]) :: (m, .bx [.e0, .e0, .ds (mapC kyC K), .e0]) :: hp, p.2⟩)
    (fun p => p.1 ≤ K.length ∧ m + 3 ≤ p.2 ∧ R = (decide (0 ≤ w.i ∧ w.i < (d.i.length : Int)) && (K.drop p.1).any (keyW (typD d w.i) w.c.f))) (fun p => K.length - p.1) (0, m + 3) ?_ ?_ (fun ⟨j, n⟩ hj => ?_)
  · exact ⟨by simp, by simp, e.symm⟩
  · refine weak_ok ?_ (Sub.refl _) (Nat.le_refl _)
    simp only [go_sem, ↓reduceIte, Nat.reduceEqDiff, Nat.reduceBEq, Nat.reduceAdd, Nat.reduceLeDiff, Nat.reduceLT, reduceCtorEq, Nat.reduceMul, Nat.reduceSub, Int.reduceEq, Int.reduceLT, Int.reduceLE, Int.reduceToNat]
  dsimp only at hj
  obtain ⟨hj1, hj2, hj3⟩ := hj
  simp only [go_sem, ↓reduceIte, Nat.reduceEqDiff, Nat.reduceBEq, Nat.reduceAdd, Nat.reduceLeDiff, Nat.reduceLT, reduceCtorEq, Nat.reduceMul, Nat.reduceSub, Int.reduceEq, Int.reduceLT, Int.reduceLE, Int.reduceToNat]
  refine cdK_of (fun q => ?_) (fun q => ?_)
  · have q : j < K.length := by simpa using q
    obtain ⟨k, ek⟩ : ∃ k, K[j]? = some k := ⟨K[j], by simp [q]⟩
    have hk := hkl k (List.mem_of_getElem? ek)
    rw [drop_at ek, List.any_cons] at hj3
    obtain ⟨T, hT⟩ : ∃ T, keyW (typD d w.i) w.c.f k = T := ⟨_, rfl⟩
    rw [hT] at hj3
    rw [keyW] at hT
    simp only [go_sem, ↓reduceIte, Nat.reduceEqDiff, Nat.reduceBEq, Nat.reduceAdd, Nat.reduceLeDiff, Nat.reduceLT, reduceCtorEq, Nat.reduceMul, Nat.reduceSub, Int.reduceEq, Int.reduceLT, Int.reduceLE, Int.reduceToNat]
    refine loop (fun p : Nat × Nat => ⟨[(3, .bx m 0), (4, .bx (m + 1) 0), (5, .bx (m + 2) 0), (7, .i .i64 j), (8, .i .i64 p.1)], (m + 2, .bx [.s w.f, .s w.a, .i .i64 w.i, .s w.c.f, .s w.c.a, .i .i64 w.c.v.k, .i .i64 w.c.v.n, .s w.c.v.s, .ds (mapC valC w.c.v.items), .ds (stC w.c.v.keys)]) :: (m + 1, .bx [.ds (mapC itC d.i), .ds (mapC wrC d.w)]) :: (m, .bx [.e0, .e0, .ds (mapC kyC K), .e0]) :: hp, p.2⟩)
      (fun p => p.1 ≤ k.l.length ∧ m + 3 ≤ p.2 ∧ ((0 ≤ w.i ∧ w.i < (d.i.length : Int)) → T = (decide (k.t = typD d w.i) && decide (0 ≤ ix w.c.f (k.l.drop p.1) p.1)))) (fun p => k.l.length - p.1) (0, n) ?_ ?_ (fun ⟨i, n⟩ hi => ?_)
    · exact ⟨by simp, hj2, fun _ => hT.symm⟩
    · refine weak_ok ?_ (Sub.refl _) (Nat.le_refl _)
      simp only [go_sem, ↓reduceIte, Nat.reduceEqDiff, Nat.reduceBEq, Nat.reduceAdd, Nat.reduceLeDiff, Nat.reduceLT, reduceCtorEq, Nat.reduceMul, Nat.reduceSub, Int.reduceEq, Int.reduceLT, Int.reduceLE, Int.reduceToNat]
    dsimp only at hi
    obtain ⟨hi1, hi2, hi3⟩ := hi
    simp only [q, getK_s (mapC_get kyC ek), go_sem, ↓reduceIte, Nat.reduceEqDiff, Nat.reduceBEq, Nat.reduceAdd, Nat.reduceLeDiff, Nat.reduceLT, reduceCtorEq, Nat.reduceMul, Nat.reduceSub, Int.reduceEq, Int.reduceLT, Int.reduceLE, Int.reduceToNat]
    refine cdK_of (fun q2 => ?_) (fun q2 => ?_)
    · have q2 : i < k.l.length := by simpa using q2
      obtain ⟨f, ef⟩ : ∃ f, k.l[i]? = some f := ⟨k.l[i], by simp [q2]⟩
      rw [drop_at ef, ix] at hi3
      by_cases c : 0 ≤ w.i ∧ w.i < (d.i.length : Int)
      · have hi3 := hi3 c
        obtain ⟨i', ei⟩ : ∃ i' : Nat, w.i = i' := ⟨w.i.toNat, by omega⟩
        have hi' : i' < d.i.length := by omega
        obtain ⟨x, ex⟩ : ∃ x, d.i[i']? = some x := ⟨d.i[i'], by simp [hi']⟩
        have et := typD_at ex
        rw [ei] at hi3 hj3 c
        rw [et] at hi3 hj3
        by_cases c2 : k.t = x.t
        · rw [decide_eq_true c2, Bool.true_and] at hi3
          simp only [q, q2, getK_s (mapC_get kyC ek), getK_s (mapC_get st1 ef), mapC_get kyC ek, mapC_get st1 ef, ei, c.1, c.2, hi', getK_s (mapC_get itC ex), mapC_get itC ex, c2, go_sem, ↓reduceIte, Nat.reduceEqDiff, Nat.reduceBEq, Nat.reduceAdd, Nat.reduceLeDiff, Nat.reduceLT, reduceCtorEq, Nat.reduceMul, Nat.reduceSub, Int.reduceEq, Int.reduceLT, Int.reduceLE, Int.reduceToNat]
          refine cdK_of (fun c3 => ?_) (fun c3 => ?_)
          · have c3 : f = w.c.f := by simpa using c3
            rw [if_pos c3.symm] at hi3
            have hT1 : T = true := by rw [hi3]; simp
            have hR1 : R = true := by rw [hj3, hT1]; simp [c.2]
            simp only [hR1, go_sem, ↓reduceIte, Nat.reduceEqDiff, Nat.reduceBEq, Nat.reduceAdd, Nat.reduceLeDiff, Nat.reduceLT, reduceCtorEq, Nat.reduceMul, Nat.reduceSub, Int.reduceEq, Int.reduceLT, Int.reduceLE, Int.reduceToNat]
          · have c3 : ¬ f = w.c.f := by simpa using c3
            rw [if_neg fun e => c3 e.symm] at hi3
            simp only [go_sem, ↓reduceIte, Nat.reduceEqDiff, Nat.reduceBEq, Nat.reduceAdd, Nat.reduceLeDiff, Nat.reduceLT, reduceCtorEq, Nat.reduceMul, Nat.reduceSub, Int.reduceEq, Int.reduceLT, Int.reduceLE, Int.reduceToNat]
            refine ⟨(i + 1, _), ⟨by dsimp only; omega, by dsimp only; omega, by dsimp only; intro _; rw [hi3, et]; simp⟩, by dsimp only; omega, weak_ok ?_ (Sub.refl _) (Nat.le_refl _)⟩
            simp only [wr64s i (by omega), ei, go_sem, ↓reduceIte, Nat.reduceEqDiff, Nat.reduceBEq, Nat.reduceAdd, Nat.reduceLeDiff, Nat.reduceLT, reduceCtorEq, Nat.reduceMul, Nat.reduceSub, Int.reduceEq, Int.reduceLT, Int.reduceLE, Int.reduceToNat]
        · simp only [q, q2, getK_s (mapC_get kyC ek), getK_s (mapC_get st1 ef), mapC_get kyC ek, mapC_get st1 ef, ei, c.1, c.2, hi', getK_s (mapC_get itC ex), mapC_get itC ex, c2, go_sem, ↓reduceIte, Nat.reduceEqDiff, Nat.reduceBEq, Nat.reduceAdd, Nat.reduceLeDiff, Nat.reduceLT, reduceCtorEq, Nat.reduceMul, Nat.reduceSub, Int.reduceEq, Int.reduceLT, Int.reduceLE, Int.reduceToNat]
          have hT0 : T = false := by rw [hi3, decide_eq_false c2, Bool.false_and]
          refine ⟨(i + 1, _), ⟨by dsimp only; omega, by dsimp only; omega, by dsimp only; intro _; rw [hT0, et]; simp [c2]⟩, by dsimp only; omega, weak_ok ?_ (Sub.refl _) (Nat.le_refl _)⟩
          simp only [wr64s i (by omega), ei, go_sem, ↓reduceIte, Nat.reduceEqDiff, Nat.reduceBEq, Nat.reduceAdd, Nat.reduceLeDiff, Nat.reduceLT, reduceCtorEq, Nat.reduceMul, Nat.reduceSub, Int.reduceEq, Int.reduceLT, Int.reduceLE, Int.reduceToNat]
      · have hx : (mapC itC d.i)[w.i.toNat]? = none ∨ ∃ x, (mapC itC d.i)[w.i.toNat]? = some (itC x) := by
          cases h : d.i[w.i.toNat]? with
          | none => left; simp only [mapC, List.getElem?_map, h, Option.map_none]
          | some x => right; exact ⟨x, mapC_get itC h⟩
        rcases hx with hx | ⟨x, hx⟩ <;> rcases (by omega : ¬ 0 ≤ w.i ∨ (0 ≤ w.i ∧ ¬ w.i < (d.i.length : Int))) with c1 | ⟨c1, c2⟩
        all_goals
          simp only [q, q2, *, mapC_get kyC ek, mapC_get st1 ef, getK_s (mapC_get kyC ek), getK_s (mapC_get st1 ef), go_sem, ↓reduceIte, Nat.reduceEqDiff, Nat.reduceBEq, Nat.reduceAdd, Nat.reduceLeDiff, Nat.reduceLT, reduceCtorEq, Nat.reduceMul, Nat.reduceSub, Int.reduceEq, Int.reduceLT, Int.reduceLE, Int.reduceToNat]
          refine ⟨(i + 1, _), ⟨by dsimp only; omega, by dsimp only; omega, by simp⟩, by dsimp only; omega, weak_ok ?_ (Sub.refl _) (Nat.le_refl _)⟩
          simp only [wr64s i (by omega), go_sem, ↓reduceIte, Nat.reduceEqDiff, Nat.reduceBEq, Nat.reduceAdd, Nat.reduceLeDiff, Nat.reduceLT, reduceCtorEq, Nat.reduceMul, Nat.reduceSub, Int.reduceEq, Int.reduceLT, Int.reduceLE, Int.reduceToNat]
    · have q2 : i = k.l.length := by simp at q2; omega
      subst q2
      rw [List.drop_length, ix] at hi3
      have hj4 : R = (decide (0 ≤ w.i ∧ w.i < (d.i.length : Int)) && (K.drop (j + 1)).any (keyW (typD d w.i) w.c.f)) := by
        by_cases c : 0 ≤ w.i ∧ w.i < (d.i.length : Int)
        · have hT0 : T = false := by rw [hi3 c]; simp
          rw [hj3, hT0, Bool.false_or]
        · rw [hj3, decide_eq_false c, Bool.false_and, Bool.false_and]
      have hj3 := hj4
      simp only [go_sem, ↓reduceIte, Nat.reduceEqDiff, Nat.reduceBEq, Nat.reduceAdd, Nat.reduceLeDiff, Nat.reduceLT, reduceCtorEq, Nat.reduceMul, Nat.reduceSub, Int.reduceEq, Int.reduceLT, Int.reduceLE, Int.reduceToNat]
      refine ⟨(j + 1, _), ⟨by dsimp only; omega, by dsimp only; omega, hj3⟩, by dsimp only; omega, weak_ok ?_ (Sub.refl _) (Nat.le_refl _)⟩
      simp only [wr64s j (by omega), go_sem, ↓reduceIte, Nat.reduceEqDiff, Nat.reduceBEq, Nat.reduceAdd, Nat.reduceLeDiff, Nat.reduceLT, reduceCtorEq, Nat.reduceMul, Nat.reduceSub, Int.reduceEq, Int.reduceLT, Int.reduceLE, Int.reduceToNat]
  · have q : j = K.length := by simp at q; omega
    subst q
    rw [List.drop_length, List.any_nil, Bool.and_false] at hj3
    simp only [hj3, go_sem, ↓reduceIte, Nat.reduceEqDiff, Nat.reduceBEq, Nat.reduceAdd, Nat.reduceLeDiff, Nat.reduceLT, reduceCtorEq, Nat.reduceMul, Nat.reduceSub, Int.reduceEq, Int.reduceLT, Int.reduceLE, Int.reduceToNat]
end Go.Proofs.Ytjalbhlahfgogaa
