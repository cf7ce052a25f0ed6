/-
  Items are found by the values of fields. Conditions: none.
-/
import Derived.Test.YtjalbhlahfgogaaDaD
namespace Go.Proofs.Ytjalbhlahfgogaa
open Go.Eng
set_option linter.unusedVariables false
set_option linter.unusedSimpArgs false
set_option maxRecDepth 20000
/-- An item has values in fields. -/
noncomputable def smK (d : Dat) (i : Int) : List ByteArray → List Val → Bool
  | k :: ks, v :: vs => decide (cmpV (lookV d i k ⟨#[]⟩) v = 0) && smK d i ks vs
  | _, _ => true
theorem dsame_ok (d : Dat) (hd : d.Fit) (i : Int) (ks : List ByteArray) (vs : List Val) (hk : ks.length ≤ vs.length) (hl : vs.length ≤ 3600000000000) (hv : ∀ v ∈ vs, v.Fit) (hp : CH) (m : Nat) :
    MeetsF Try.prog 53 hp m [dx d, .i .i64 i, .ds (stC ks), .ds (mapC valC vs)] (.b (smK d i ks vs)) := by
  obtain ⟨R, hR⟩ : ∃ R, smK d i ks vs = R := ⟨_, rfl⟩
  rw [hR]
  refine meetsF Try.func53 (by kernel_rfl) cc53 cr53 rfl fun hf => ?_; unfold ck53
  simp only [go_sem, ↓reduceIte, Nat.reduceEqDiff, Nat.reduceBEq, Nat.reduceAdd, Nat.reduceLeDiff, Nat.reduceLT, reduceCtorEq, Nat.reduceMul, Nat.reduceSub, Int.reduceEq, Int.reduceLT, Int.reduceLE, Int.reduceToNat]
  refine loop (fun p : Nat × Nat => ⟨[(1, .i .i64 i), (3, .ds (mapC valC vs)), (4, .bx m 0), (11, .ds (stC ks)), (12, .i .i64 ks.length), (13, .i .i64 p.1)], (m, .bx [.ds (mapC itC d.i), .ds (mapC wrC d.w)]) :: hp, p.2⟩)
    (fun p => p.1 ≤ ks.length ∧ m + 1 ≤ p.2 ∧ R = smK d i (ks.drop p.1) (vs.drop p.1)) (fun p => ks.length - p.1) (0, m + 1) ?_ ?_ (fun ⟨j, n⟩ hj => ?_)
  · exact ⟨by simp, by simp, hR.symm⟩
  · refine weak_ok ?_ (Sub.refl _) (Nat.le_refl _)
    simp only [go_sem, ↓reduceIte, Nat.reduceEqDiff, Nat.reduceBEq, Nat.reduceAdd, Nat.reduceLeDiff, Nat.reduceLT, reduceCtorEq, Nat.reduceMul, Nat.reduceSub, Int.reduceEq, Int.reduceLT, Int.reduceLE, Int.reduceToNat]
  dsimp only at hj
  obtain ⟨hj1, hj2, hj3⟩ := hj
  have z1 : ¬ n = m := by omega
  have z2 : m ≤ n := by omega
  simp only [z1, z2, go_sem, ↓reduceIte, Nat.reduceEqDiff, Nat.reduceBEq, Nat.reduceAdd, Nat.reduceLeDiff, Nat.reduceLT, reduceCtorEq, Nat.reduceMul, Nat.reduceSub, Int.reduceEq, Int.reduceLT, Int.reduceLE, Int.reduceToNat]
  refine cdK_of (fun q => ?_) (fun q => ?_)
  · have q : j < ks.length := by simpa using q
    have q2 : j < vs.length := by omega
    obtain ⟨k, ek⟩ : ∃ k, ks[j]? = some k := ⟨ks[j], by simp [q]⟩
    obtain ⟨v, ev⟩ : ∃ v, vs[j]? = some v := ⟨vs[j], by simp [q2]⟩
    rw [drop_at ek, drop_at ev, smK] at hj3
    simp only [z1, z2, q, q2, getK_s (mapC_get st1 ek), getK_s (mapC_get valC ev), go_sem, ↓reduceIte, Nat.reduceEqDiff, Nat.reduceBEq, Nat.reduceAdd, Nat.reduceLeDiff, Nat.reduceLT, reduceCtorEq, Nat.reduceMul, Nat.reduceSub, Int.reduceEq, Int.reduceLT, Int.reduceLE, Int.reduceToNat]
    first | refine dCallR.f (fun _ _ _ => dLookup_ok d hd _ _ _ _ _) ?_ | refine dCall.f (fun _ _ _ => dLookup_ok d hd _ _ _ _ _) ?_
    simp only [go_sem, ↓reduceIte, Nat.reduceEqDiff, Nat.reduceBEq, Nat.reduceAdd, Nat.reduceLeDiff, Nat.reduceLT, reduceCtorEq, Nat.reduceMul, Nat.reduceSub, Int.reduceEq, Int.reduceLT, Int.reduceLE, Int.reduceToNat]
    simp only [z1, z2, q, q2, getK_s (mapC_get valC ev), go_sem, ↓reduceIte, Nat.reduceEqDiff, Nat.reduceBEq, Nat.reduceAdd, Nat.reduceLeDiff, Nat.reduceLT, reduceCtorEq, Nat.reduceMul, Nat.reduceSub, Int.reduceEq, Int.reduceLT, Int.reduceLE, Int.reduceToNat]
    first | refine dCallR.f (fun _ _ _ => vsame_ok _ _ (lookV_fit hd _ _ _) (hv v (List.mem_of_getElem? ev)) _ _) ?_ | refine dCall.f (fun _ _ _ => vsame_ok _ _ (lookV_fit hd _ _ _) (hv v (List.mem_of_getElem? ev)) _ _) ?_
    simp only [go_sem, ↓reduceIte, Nat.reduceEqDiff, Nat.reduceBEq, Nat.reduceAdd, Nat.reduceLeDiff, Nat.reduceLT, reduceCtorEq, Nat.reduceMul, Nat.reduceSub, Int.reduceEq, Int.reduceLT, Int.reduceLE, Int.reduceToNat]
    refine cdK_of (fun c => ?_) (fun c => ?_)
    · have c : ¬ cmpV (lookV d i k ⟨#[]⟩) v = 0 := by simpa using c
      rw [decide_eq_false c, Bool.false_and] at hj3
      simp only [z1, z2, hj3, go_sem, ↓reduceIte, Nat.reduceEqDiff, Nat.reduceBEq, Nat.reduceAdd, Nat.reduceLeDiff, Nat.reduceLT, reduceCtorEq, Nat.reduceMul, Nat.reduceSub, Int.reduceEq, Int.reduceLT, Int.reduceLE, Int.reduceToNat]
    · have c : cmpV (lookV d i k ⟨#[]⟩) v = 0 := by simpa using c
      rw [decide_eq_true c, Bool.true_and] at hj3
      simp only [z1, z2, go_sem, ↓reduceIte, Nat.reduceEqDiff, Nat.reduceBEq, Nat.reduceAdd, Nat.reduceLeDiff, Nat.reduceLT, reduceCtorEq, Nat.reduceMul, Nat.reduceSub, Int.reduceEq, Int.reduceLT, Int.reduceLE, Int.reduceToNat]
      refine ⟨(j + 1, _), ⟨by dsimp only; omega, by dsimp only; omega, hj3⟩, by dsimp only; omega, weak_ok ?_ (Sub.refl _) (Nat.le_refl _)⟩
      simp only [z1, z2, wr64s j (by omega), go_sem, ↓reduceIte, Nat.reduceEqDiff, Nat.reduceBEq, Nat.reduceAdd, Nat.reduceLeDiff, Nat.reduceLT, reduceCtorEq, Nat.reduceMul, Nat.reduceSub, Int.reduceEq, Int.reduceLT, Int.reduceLE, Int.reduceToNat]
  · have q : j = ks.length := by simp at q; omega
    subst q
    rw [List.drop_length, smK] at hj3
    · simp only [hj3, go_sem, ↓reduceIte, Nat.reduceEqDiff, Nat.reduceBEq, Nat.reduceAdd, Nat.reduceLeDiff, Nat.reduceLT, reduceCtorEq, Nat.reduceMul, Nat.reduceSub, Int.reduceEq, Int.reduceLT, Int.reduceLE, Int.reduceToNat]
    · intro _ _ _ _ h; cases h
/-- The first item for which q holds, or -1. -/
def fnd (q : Nat → Itm → Bool) : List Itm → Nat → Int
  | [], _ => -1
  | x :: r, j => if q j x = true then j else fnd q r (j + 1)
noncomputable def findD (d : Dat) (name : ByteArray) (ks : List ByteArray) (vs : List Val) : Int :=
  if ks.length ≠ vs.length then -1 else fnd (fun i x => decide (x.t = name) && smK d i ks vs) d.i 0
theorem dFind_ok (d : Dat) (hd : d.Fit) (name : ByteArray) (ks : List ByteArray) (vs : List Val) (hl : vs.length ≤ 3600000000000) (hv : ∀ v ∈ vs, v.Fit) (hp : CH) (m : Nat) :
    MeetsF Try.prog 24 hp m [dx d, .s name, .ds (stC ks), .ds (mapC valC vs)] (resI (findD d name ks vs)) := by
  have hli := hd.li
  obtain ⟨R, hR⟩ : ∃ R, findD d name ks vs = R := ⟨_, rfl⟩
  have e := hR
  rw [findD] at e
  rw [hR]
  refine meetsF Try.func24 (by kernel_rfl) cc24 cr24 rfl fun hf => ?_; unfold ck24
  simp only [go_sem, ↓reduceIte, Nat.reduceEqDiff, Nat.reduceBEq, Nat.reduceAdd, Nat.reduceLeDiff, Nat.reduceLT, reduceCtorEq, Nat.reduceMul, Nat.reduceSub, Int.reduceEq, Int.reduceLT, Int.reduceLE, Int.reduceToNat]
  refine cdK_of (fun c => ?_) (fun c => ?_)
  · have c : ks.length ≠ vs.length := by simp at c; omega
    rw [if_pos c] at e
    subst e
    simp only [go_sem, ↓reduceIte, Nat.reduceEqDiff, Nat.reduceBEq, Nat.reduceAdd, Nat.reduceLeDiff, Nat.reduceLT, reduceCtorEq, Nat.reduceMul, Nat.reduceSub, Int.reduceEq, Int.reduceLT, Int.reduceLE, Int.reduceToNat]
  have c : ks.length = vs.length := by simp at c; omega
  rw [if_neg (by simpa using c)] at e
  simp only [go_sem, ↓reduceIte, Nat.reduceEqDiff, Nat.reduceBEq, Nat.reduceAdd, Nat.reduceLeDiff, Nat.reduceLT, reduceCtorEq, Nat.reduceMul, Nat.reduceSub, Int.reduceEq, Int.reduceLT, Int.reduceLE, Int.reduceToNat]
  refine loop (fun p : Nat × Nat => ⟨[(1, .s name), (2, .ds (stC ks)), (3, .ds (mapC valC vs)), (4, .bx m 0), (18, .ds (mapC itC d.i)), (19, .i .i64 d.i.length), (20, .i .i64 p.1)], (m, .bx [.ds (mapC itC d.i), .ds (mapC wrC d.w)]) :: hp, p.2⟩)
    (fun p => p.1 ≤ d.i.length ∧ m + 1 ≤ p.2 ∧ R = fnd (fun i x => decide (x.t = name) && smK d i ks vs) (d.i.drop p.1) p.1) (fun p => d.i.length - p.1) (0, m + 1) ?_ ?_ (fun ⟨j, n⟩ hj => ?_)
  · exact ⟨by simp, by simp, e.symm⟩
  · refine weak_ok ?_ (Sub.refl _) (Nat.le_refl _)
    simp only [go_sem, ↓reduceIte, Nat.reduceEqDiff, Nat.reduceBEq, Nat.reduceAdd, Nat.reduceLeDiff, Nat.reduceLT, reduceCtorEq, Nat.reduceMul, Nat.reduceSub, Int.reduceEq, Int.reduceLT, Int.reduceLE, Int.reduceToNat]
  dsimp only at hj
  obtain ⟨hj1, hj2, hj3⟩ := hj
  have z1 : ¬ n = m := by omega
  have z2 : m ≤ n := by omega
  simp only [z1, z2, go_sem, ↓reduceIte, Nat.reduceEqDiff, Nat.reduceBEq, Nat.reduceAdd, Nat.reduceLeDiff, Nat.reduceLT, reduceCtorEq, Nat.reduceMul, Nat.reduceSub, Int.reduceEq, Int.reduceLT, Int.reduceLE, Int.reduceToNat]
  refine cdK_of (fun q => ?_) (fun q => ?_)
  · have q : j < d.i.length := by simpa using q
    obtain ⟨x, ex⟩ : ∃ x, d.i[j]? = some x := ⟨d.i[j], by simp [q]⟩
    rw [drop_at ex, fnd] at hj3
    simp only [z1, z2, q, getK_s (mapC_get itC ex), go_sem, ↓reduceIte, Nat.reduceEqDiff, Nat.reduceBEq, Nat.reduceAdd, Nat.reduceLeDiff, Nat.reduceLT, reduceCtorEq, Nat.reduceMul, Nat.reduceSub, Int.reduceEq, Int.reduceLT, Int.reduceLE, Int.reduceToNat]
    refine cdK_of (fun c1 => ?_) (fun c1 => ?_)
    · have c1 : ¬ x.t = name := by simpa using c1
      rw [decide_eq_false c1, Bool.false_and, if_neg (by simp)] at hj3
      simp only [z1, z2, go_sem, ↓reduceIte, Nat.reduceEqDiff, Nat.reduceBEq, Nat.reduceAdd, Nat.reduceLeDiff, Nat.reduceLT, reduceCtorEq, Nat.reduceMul, Nat.reduceSub, Int.reduceEq, Int.reduceLT, Int.reduceLE, Int.reduceToNat]
      refine ⟨(j + 1, _), ⟨by dsimp only; omega, by dsimp only; omega, hj3⟩, by dsimp only; omega, weak_ok ?_ (Sub.cons ?_ (Sub.base hf ?_)) (Nat.le_refl _)⟩
      all_goals
        simp only [z1, z2, wr64s j (by omega), go_sem, ↓reduceIte, Nat.reduceEqDiff, Nat.reduceBEq, Nat.reduceAdd, Nat.reduceLeDiff, Nat.reduceLT, reduceCtorEq, Nat.reduceMul, Nat.reduceSub, Int.reduceEq, Int.reduceLT, Int.reduceLE, Int.reduceToNat]
    have c1 : x.t = name := by simpa using c1
    rw [decide_eq_true c1, Bool.true_and] at hj3
    simp only [z1, z2, go_sem, ↓reduceIte, Nat.reduceEqDiff, Nat.reduceBEq, Nat.reduceAdd, Nat.reduceLeDiff, Nat.reduceLT, reduceCtorEq, Nat.reduceMul, Nat.reduceSub, Int.reduceEq, Int.reduceLT, Int.reduceLE, Int.reduceToNat]
    refine vcCall.f (dsame_ok d hd _ ks vs (by omega) hl hv _ _) ?_
    simp only [z1, z2, go_sem, ↓reduceIte, Nat.reduceEqDiff, Nat.reduceBEq, Nat.reduceAdd, Nat.reduceLeDiff, Nat.reduceLT, reduceCtorEq, Nat.reduceMul, Nat.reduceSub, Int.reduceEq, Int.reduceLT, Int.reduceLE, Int.reduceToNat]
    refine cdK_of (fun c2 => ?_) (fun c2 => ?_)
    · rw [if_pos c2] at hj3
      simp only [z1, z2, hj3, go_sem, ↓reduceIte, Nat.reduceEqDiff, Nat.reduceBEq, Nat.reduceAdd, Nat.reduceLeDiff, Nat.reduceLT, reduceCtorEq, Nat.reduceMul, Nat.reduceSub, Int.reduceEq, Int.reduceLT, Int.reduceLE, Int.reduceToNat]
    · rw [if_neg (by simp [c2])] at hj3
      simp only [z1, z2, go_sem, ↓reduceIte, Nat.reduceEqDiff, Nat.reduceBEq, Nat.reduceAdd, Nat.reduceLeDiff, Nat.reduceLT, reduceCtorEq, Nat.reduceMul, Nat.reduceSub, Int.reduceEq, Int.reduceLT, Int.reduceLE, Int.reduceToNat]
      refine ⟨(j + 1, _), ⟨by dsimp only; omega, by dsimp only; omega, hj3⟩, by dsimp only; omega, weak_ok ?_ (Sub.cons ?_ (Sub.base hf ?_)) (Nat.le_refl _)⟩
      all_goals
        simp only [z1, z2, wr64s j (by omega), go_sem, ↓reduceIte, Nat.reduceEqDiff, Nat.reduceBEq, Nat.reduceAdd, Nat.reduceLeDiff, Nat.reduceLT, reduceCtorEq, Nat.reduceMul, Nat.reduceSub, Int.reduceEq, Int.reduceLT, Int.reduceLE, Int.reduceToNat]
  · have q : j = d.i.length := by simp at q; omega
    subst q
    rw [List.drop_length, fnd] at hj3
    simp only [hj3, go_sem, ↓reduceIte, Nat.reduceEqDiff, Nat.reduceBEq, Nat.reduceAdd, Nat.reduceLeDiff, Nat.reduceLT, reduceCtorEq, Nat.reduceMul, Nat.reduceSub, Int.reduceEq, Int.reduceLT, Int.reduceLE, Int.reduceToNat]
theorem rFind_ok (d : Dat) (hd : d.Fit) (name : ByteArray) (ks : List ByteArray) (vs : List Val) (hl : vs.length ≤ 3600000000000) (hv : ∀ v ∈ vs, v.Fit) (hp : CH) (m : Nat) :
    MeetsF Try.prog 25 hp m [dx d, .s name, .ds (stC ks), .ds (mapC valC vs)] (resI (findD d name ks vs)) := by
  have hli := hd.li
  obtain ⟨R, hR⟩ : ∃ R, findD d name ks vs = R := ⟨_, rfl⟩
  have e := hR
  rw [findD] at e
  rw [hR]
  refine meetsF Try.func25 (by kernel_rfl) cc25 cr25 rfl fun hf => ?_; unfold ck25
  simp only [go_sem, ↓reduceIte, Nat.reduceEqDiff, Nat.reduceBEq, Nat.reduceAdd, Nat.reduceLeDiff, Nat.reduceLT, reduceCtorEq, Nat.reduceMul, Nat.reduceSub, Int.reduceEq, Int.reduceLT, Int.reduceLE, Int.reduceToNat]
  refine cdK_of (fun c => ?_) (fun c => ?_)
  · have c : ks.length ≠ vs.length := by simp at c; omega
    rw [if_pos c] at e
    subst e
    simp only [go_sem, ↓reduceIte, Nat.reduceEqDiff, Nat.reduceBEq, Nat.reduceAdd, Nat.reduceLeDiff, Nat.reduceLT, reduceCtorEq, Nat.reduceMul, Nat.reduceSub, Int.reduceEq, Int.reduceLT, Int.reduceLE, Int.reduceToNat]
  have c : ks.length = vs.length := by simp at c; omega
  rw [if_neg (by simpa using c)] at e
  simp only [go_sem, ↓reduceIte, Nat.reduceEqDiff, Nat.reduceBEq, Nat.reduceAdd, Nat.reduceLeDiff, Nat.reduceLT, reduceCtorEq, Nat.reduceMul, Nat.reduceSub, Int.reduceEq, Int.reduceLT, Int.reduceLE, Int.reduceToNat]
  refine loop (fun p : Nat × Nat => ⟨[(1, .s name), (2, .ds (stC ks)), (3, .ds (mapC valC vs)), (4, .bx m 0), (10, .i .i64 p.1)], (m, .bx [.ds (mapC itC d.i), .ds (mapC wrC d.w)]) :: hp, p.2⟩)
    (fun p => p.1 ≤ d.i.length ∧ m + 1 ≤ p.2 ∧ R = fnd (fun i x => decide (x.t = name) && smK d i ks vs) (d.i.drop p.1) p.1) (fun p => d.i.length - p.1) (0, m + 1) ?_ ?_ (fun ⟨j, n⟩ hj => ?_)
  · exact ⟨by simp, by simp, e.symm⟩
  · refine weak_ok ?_ (Sub.refl _) (Nat.le_refl _)
    simp only [go_sem, ↓reduceIte, Nat.reduceEqDiff, Nat.reduceBEq, Nat.reduceAdd, Nat.reduceLeDiff, Nat.reduceLT, reduceCtorEq, Nat.reduceMul, Nat.reduceSub, Int.reduceEq, Int.reduceLT, Int.reduceLE, Int.reduceToNat]
  dsimp only at hj
  obtain ⟨hj1, hj2, hj3⟩ := hj
  have z1 : ¬ n = m := by omega
  have z2 : m ≤ n := by omega
  simp only [z1, z2, go_sem, ↓reduceIte, Nat.reduceEqDiff, Nat.reduceBEq, Nat.reduceAdd, Nat.reduceLeDiff, Nat.reduceLT, reduceCtorEq, Nat.reduceMul, Nat.reduceSub, Int.reduceEq, Int.reduceLT, Int.reduceLE, Int.reduceToNat]
  refine cdK_of (fun q => ?_) (fun q => ?_)
  · have q : j < d.i.length := by simpa using q
    obtain ⟨x, ex⟩ : ∃ x, d.i[j]? = some x := ⟨d.i[j], by simp [q]⟩
    rw [drop_at ex, fnd] at hj3
    simp only [z1, z2, q, getK_s (mapC_get itC ex), go_sem, ↓reduceIte, Nat.reduceEqDiff, Nat.reduceBEq, Nat.reduceAdd, Nat.reduceLeDiff, Nat.reduceLT, reduceCtorEq, Nat.reduceMul, Nat.reduceSub, Int.reduceEq, Int.reduceLT, Int.reduceLE, Int.reduceToNat]
    obtain ⟨T, hT⟩ : ∃ T, (decide (x.t = name) && smK d j ks vs) = T := ⟨_, rfl⟩
    rw [hT] at hj3
    refine loop (fun p : Nat × Bool × Nat => ⟨[(1, .s name), (2, .ds (stC ks)), (3, .ds (mapC valC vs)), (4, .bx m 0), (10, .i .i64 j), (11, .b p.2.1), (12, .i .i64 p.1)], (m, .bx [.ds (mapC itC d.i), .ds (mapC wrC d.w)]) :: hp, p.2.2⟩)
      (fun p => p.1 ≤ ks.length ∧ m + 1 ≤ p.2.2 ∧ T = (p.2.1 && smK d j (ks.drop p.1) (vs.drop p.1))) (fun p => ks.length - p.1) (0, decide (x.t = name), n) ?_ ?_ (fun ⟨i, b, n⟩ hi => ?_)
    · exact ⟨by simp, hj2, hT.symm⟩
    · refine weak_ok ?_ (Sub.refl _) (Nat.le_refl _)
      simp only [z1, z2, go_sem, ↓reduceIte, Nat.reduceEqDiff, Nat.reduceBEq, Nat.reduceAdd, Nat.reduceLeDiff, Nat.reduceLT, reduceCtorEq, Nat.reduceMul, Nat.reduceSub, Int.reduceEq, Int.reduceLT, Int.reduceLE, Int.reduceToNat]
    dsimp only at hi
    obtain ⟨hi1, hi2, hi3⟩ := hi
    have z1 : ¬ n = m := by omega
    have z2 : m ≤ n := by omega
    simp only [z1, z2, go_sem, ↓reduceIte, Nat.reduceEqDiff, Nat.reduceBEq, Nat.reduceAdd, Nat.reduceLeDiff, Nat.reduceLT, reduceCtorEq, Nat.reduceMul, Nat.reduceSub, Int.reduceEq, Int.reduceLT, Int.reduceLE, Int.reduceToNat]
    refine cdK_of (fun c1 => ?_) (fun c1 => ?_)
    · simp only [Bool.and_eq_true, decide_eq_true_eq] at c1
      obtain ⟨c1, c2⟩ := c1
      subst c2
      have c1 : i < ks.length := by omega
      have q2 : i < vs.length := by omega
      obtain ⟨k, ek⟩ : ∃ k, ks[i]? = some k := ⟨ks[i], by simp [c1]⟩
      obtain ⟨v, ev⟩ : ∃ v, vs[i]? = some v := ⟨vs[i], by simp [q2]⟩
      rw [drop_at ek, drop_at ev, smK, Bool.true_and] at hi3
      simp only [z1, z2, c1, q2, getK_s (mapC_get st1 ek), getK_s (mapC_get valC ev), go_sem, ↓reduceIte, Nat.reduceEqDiff, Nat.reduceBEq, Nat.reduceAdd, Nat.reduceLeDiff, Nat.reduceLT, reduceCtorEq, Nat.reduceMul, Nat.reduceSub, Int.reduceEq, Int.reduceLT, Int.reduceLE, Int.reduceToNat]
      first | refine dCallR.f (fun _ _ _ => rLookup_ok d hd _ _ _ _ _) ?_ | refine dCall.f (fun _ _ _ => rLookup_ok d hd _ _ _ _ _) ?_
      simp only [go_sem, ↓reduceIte, Nat.reduceEqDiff, Nat.reduceBEq, Nat.reduceAdd, Nat.reduceLeDiff, Nat.reduceLT, reduceCtorEq, Nat.reduceMul, Nat.reduceSub, Int.reduceEq, Int.reduceLT, Int.reduceLE, Int.reduceToNat]
      simp only [z1, z2, c1, q2, getK_s (mapC_get valC ev), go_sem, ↓reduceIte, Nat.reduceEqDiff, Nat.reduceBEq, Nat.reduceAdd, Nat.reduceLeDiff, Nat.reduceLT, reduceCtorEq, Nat.reduceMul, Nat.reduceSub, Int.reduceEq, Int.reduceLT, Int.reduceLE, Int.reduceToNat]
      first | refine dCallR.f (fun _ _ _ => same_ok _ _ (lookV_fit hd _ _ _) (hv v (List.mem_of_getElem? ev)) _ _) ?_ | refine dCall.f (fun _ _ _ => same_ok _ _ (lookV_fit hd _ _ _) (hv v (List.mem_of_getElem? ev)) _ _) ?_
      simp only [go_sem, ↓reduceIte, Nat.reduceEqDiff, Nat.reduceBEq, Nat.reduceAdd, Nat.reduceLeDiff, Nat.reduceLT, reduceCtorEq, Nat.reduceMul, Nat.reduceSub, Int.reduceEq, Int.reduceLT, Int.reduceLE, Int.reduceToNat]
      refine ⟨(i + 1, decide (cmpV (lookV d j k ⟨#[]⟩) v = 0), _), ⟨by dsimp only; omega, by dsimp only; omega, hi3⟩, by dsimp only; omega, weak_ok ?_ (Sub.refl _) (Nat.le_refl _)⟩
      simp only [z1, z2, wr64s i (by omega), go_sem, ↓reduceIte, Nat.reduceEqDiff, Nat.reduceBEq, Nat.reduceAdd, Nat.reduceLeDiff, Nat.reduceLT, reduceCtorEq, Nat.reduceMul, Nat.reduceSub, Int.reduceEq, Int.reduceLT, Int.reduceLE, Int.reduceToNat]
    · have e3 : T = b := by
        rcases Nat.lt_or_ge i ks.length with c2 | c2
        · have : b = false := by simp [c2] at c1; exact c1
          rw [hi3, this, Bool.false_and]
        · rw [List.drop_eq_nil_of_le c2, smK, Bool.and_true] at hi3
          · exact hi3
          · intro _ _ _ _ h; cases h
      subst e3
      simp only [z1, z2, go_sem, ↓reduceIte, Nat.reduceEqDiff, Nat.reduceBEq, Nat.reduceAdd, Nat.reduceLeDiff, Nat.reduceLT, reduceCtorEq, Nat.reduceMul, Nat.reduceSub, Int.reduceEq, Int.reduceLT, Int.reduceLE, Int.reduceToNat]
      refine cdK_of (fun c2 => ?_) (fun c2 => ?_)
      · rw [if_pos c2] at hj3
        simp only [z1, z2, hj3, go_sem, ↓reduceIte, Nat.reduceEqDiff, Nat.reduceBEq, Nat.reduceAdd, Nat.reduceLeDiff, Nat.reduceLT, reduceCtorEq, Nat.reduceMul, Nat.reduceSub, Int.reduceEq, Int.reduceLT, Int.reduceLE, Int.reduceToNat]
      · rw [if_neg (by simp [c2])] at hj3
        simp only [z1, z2, go_sem, ↓reduceIte, Nat.reduceEqDiff, Nat.reduceBEq, Nat.reduceAdd, Nat.reduceLeDiff, Nat.reduceLT, reduceCtorEq, Nat.reduceMul, Nat.reduceSub, Int.reduceEq, Int.reduceLT, Int.reduceLE, Int.reduceToNat]
        refine ⟨(j + 1, _), ⟨by dsimp only; omega, by dsimp only; omega, hj3⟩, by dsimp only; omega, weak_ok ?_ (Sub.refl _) (Nat.le_refl _)⟩
        simp only [z1, z2, wr64s j (by omega), go_sem, ↓reduceIte, Nat.reduceEqDiff, Nat.reduceBEq, Nat.reduceAdd, Nat.reduceLeDiff, Nat.reduceLT, reduceCtorEq, Nat.reduceMul, Nat.reduceSub, Int.reduceEq, Int.reduceLT, Int.reduceLE, Int.reduceToNat]
  · have q : j = d.i.length := by simp at q; omega
    subst q
    rw [List.drop_length, fnd] at hj3
    simp only [hj3, go_sem, ↓reduceIte, Nat.reduceEqDiff, Nat.reduceBEq, Nat.reduceAdd, Nat.reduceLeDiff, Nat.reduceLT, reduceCtorEq, Nat.reduceMul, Nat.reduceSub, Int.reduceEq, Int.reduceLT, Int.reduceLE, Int.reduceToNat]
theorem lawFinds (d : Dat) (hd : d.Fit) (t : ByteArray) (g : Int) (ks : List ByteArray) (vs : List Val) (hl : vs.length ≤ 3600000000000) (hv : ∀ v ∈ vs, v.Fit) (hp : CH) (m : Nat) :
    MeetsF Try.prog 8 hp m [dx d, .ag [.s t, .i .i64 g, .ds (stC ks)], .ds (mapC valC vs)] (.b true) := by
  have h1 := dFind_ok d hd t ks vs hl hv
  have h2 := rFind_ok d hd t ks vs hl hv
  obtain ⟨T, hT⟩ : ∃ T, findD d t ks vs = T := ⟨_, rfl⟩
  rw [hT] at h1 h2
  refine meetsF Try.func8 (by kernel_rfl) cc8 cr8 rfl fun hf => ?_; unfold ck8
  simp only [go_sem, ↓reduceIte, Nat.reduceEqDiff, Nat.reduceBEq, Nat.reduceAdd, Nat.reduceLeDiff, Nat.reduceLT, reduceCtorEq, Nat.reduceMul, Nat.reduceSub, Int.reduceEq, Int.reduceLT, Int.reduceLE, Int.reduceToNat]
  refine vcCall.f (large_ok d hd _ _) ?_
  simp only [go_sem, ↓reduceIte, Nat.reduceEqDiff, Nat.reduceBEq, Nat.reduceAdd, Nat.reduceLeDiff, Nat.reduceLT, reduceCtorEq, Nat.reduceMul, Nat.reduceSub, Int.reduceEq, Int.reduceLT, Int.reduceLE, Int.reduceToNat]
  refine cdK_of (fun c => ?_) (fun c => ?_)
  · simp only [go_sem, ↓reduceIte, Nat.reduceEqDiff, Nat.reduceBEq, Nat.reduceAdd, Nat.reduceLeDiff, Nat.reduceLT, reduceCtorEq, Nat.reduceMul, Nat.reduceSub, Int.reduceEq, Int.reduceLT, Int.reduceLE, Int.reduceToNat]
    refine vcCall.f (ex20_ok _ _) ?_
    simp only [go_sem, ↓reduceIte, Nat.reduceEqDiff, Nat.reduceBEq, Nat.reduceAdd, Nat.reduceLeDiff, Nat.reduceLT, reduceCtorEq, Nat.reduceMul, Nat.reduceSub, Int.reduceEq, Int.reduceLT, Int.reduceLE, Int.reduceToNat]
  · simp only [go_sem, ↓reduceIte, Nat.reduceEqDiff, Nat.reduceBEq, Nat.reduceAdd, Nat.reduceLeDiff, Nat.reduceLT, reduceCtorEq, Nat.reduceMul, Nat.reduceSub, Int.reduceEq, Int.reduceLT, Int.reduceLE, Int.reduceToNat]
    refine vcCall.f (h1 _ _) ?_
    simp only [go_sem, ↓reduceIte, Nat.reduceEqDiff, Nat.reduceBEq, Nat.reduceAdd, Nat.reduceLeDiff, Nat.reduceLT, reduceCtorEq, Nat.reduceMul, Nat.reduceSub, Int.reduceEq, Int.reduceLT, Int.reduceLE, Int.reduceToNat]
    refine vcCall.f (h2 _ _) ?_
    simp only [go_sem, ↓reduceIte, Nat.reduceEqDiff, Nat.reduceBEq, Nat.reduceAdd, Nat.reduceLeDiff, Nat.reduceLT, reduceCtorEq, Nat.reduceMul, Nat.reduceSub, Int.reduceEq, Int.reduceLT, Int.reduceLE, Int.reduceToNat]
    simp only [beq_self_eq_true, go_sem, ↓reduceIte, Nat.reduceEqDiff, Nat.reduceBEq, Nat.reduceAdd, Nat.reduceLeDiff, Nat.reduceLT, reduceCtorEq, Nat.reduceMul, Nat.reduceSub, Int.reduceEq, Int.reduceLT, Int.reduceLE, Int.reduceToNat]
    refine gCall.f (fun _ => ex20_ok _ _) ?_
    simp only [beq_self_eq_true, go_sem, ↓reduceIte, Nat.reduceEqDiff, Nat.reduceBEq, Nat.reduceAdd, Nat.reduceLeDiff, Nat.reduceLT, reduceCtorEq, Nat.reduceMul, Nat.reduceSub, Int.reduceEq, Int.reduceLT, Int.reduceLE, Int.reduceToNat]
end Go.Proofs.Ytjalbhlahfgogaa
