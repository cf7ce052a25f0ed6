/-
  The parts IdG of the proof, in one file. Conditions: none.
-/
import Derived.Test.YtgollgfifnmaaaaDoorCmP131
namespace Go.Proofs.YtgollgfifnmaaaaDoor
open Go.Eng
set_option linter.unusedVariables false
set_option linter.unusedSimpArgs false
set_option maxRecDepth 20000
def zDf : Dfn := .mk 0 ⟨#[]⟩ [] [] [] [] []
noncomputable def resD (o : Option Dfn) : AV := .tp [dfx (o.getD zDf), .b o.isSome]
theorem find_cons (t : Dfn) (l : List Dfn) (n : ByteArray) : findD' (t :: l) n = if t.n = n then some t else findD' l n := by
  unfold findD'
  rw [List.find?_cons]
  by_cases c : t.n = n
  · simp [c]
  · simp [c]
theorem tFind_ok (l : List Dfn) (hl : l.length ≤ 1000000000000) (n : ByteArray) (hp : CH) (m : Nat) : MeetsF Tryd.prog 38 hp m [docx l, .s n] (resD (findD' l n)) := by
  obtain ⟨R, hR⟩ : ∃ R, findD' l n = R := ⟨_, rfl⟩
  rw [hR, resD]
  refine meetsF Tryd.func38 (by kernel_rfl) cc38 cr38 rfl fun hf => ?_; unfold ck38
  simp only [go_sem, ↓reduceIte, Nat.reduceEqDiff, Nat.reduceBEq, Nat.reduceAdd, Nat.reduceLeDiff, Nat.reduceLT, reduceCtorEq, Nat.reduceMul, Nat.reduceSub, Int.reduceEq, Int.reduceLT, Int.reduceLE, Int.reduceToNat]
  refine loop (fun p : Nat × Nat => ⟨[(1, .s n), (4, .bx (m + 1) 0), (9, .ds (mapC dfC l)), (10, .i .i64 l.length), (11, .i .i64 p.1)], (m + 1, .bx [.i .i64 0, .s ⟨#[]⟩, .e0, .e0, .e0, .e0, .e0]) :: hp, p.2⟩)
    (fun p => p.1 ≤ l.length ∧ m + 2 ≤ p.2 ∧ R = findD' (l.drop p.1) n) (fun p => l.length - p.1) (0, m + 2) ?_ ?_ (fun ⟨j, k⟩ hj => ?_)
  · exact ⟨by simp, by simp, hR.symm⟩
  · refine weak_ok ?_ (Sub.cons ?_ (Sub.base hf ?_)) (Nat.le_refl _)
    all_goals (simp (disch := omega) only [ite_ne, go_sem, ↓reduceIte, Nat.reduceEqDiff, Nat.reduceBEq, Nat.reduceAdd, Nat.reduceLeDiff, Nat.reduceLT, reduceCtorEq, Nat.reduceMul, Nat.reduceSub, Int.reduceEq, Int.reduceLT, Int.reduceLE, Int.reduceToNat])
  dsimp only at hj
  obtain ⟨hj1, hj2, hj3⟩ := hj
  simp (disch := omega) only [ite_ne, go_sem, ↓reduceIte, Nat.reduceEqDiff, Nat.reduceBEq, Nat.reduceAdd, Nat.reduceLeDiff, Nat.reduceLT, reduceCtorEq, Nat.reduceMul, Nat.reduceSub, Int.reduceEq, Int.reduceLT, Int.reduceLE, Int.reduceToNat]
  refine cdK_of (fun q => ?_) (fun q => ?_)
  · have q : j < l.length := by simpa using q
    obtain ⟨t, et⟩ : ∃ t, l[j]? = some t := ⟨l[j], by simp [q]⟩
    rw [drop_at et, find_cons] at hj3
    have hmk : m ≤ k := by omega
    simp (disch := omega) only [ite_ne, q, getK_s (mapC_get dfC et), go_sem, ↓reduceIte, Nat.reduceEqDiff, Nat.reduceBEq, Nat.reduceAdd, Nat.reduceLeDiff, Nat.reduceLT, reduceCtorEq, Nat.reduceMul, Nat.reduceSub, Int.reduceEq, Int.reduceLT, Int.reduceLE, Int.reduceToNat]
    refine cdK_of (fun c => ?_) (fun c => ?_)
    · have c : t.n = n := by simpa using c
      rw [if_pos c] at hj3
      subst hj3
      simp (disch := omega) only [ite_ne, hmk, go_sem, ↓reduceIte, Nat.reduceEqDiff, Nat.reduceBEq, Nat.reduceAdd, Nat.reduceLeDiff, Nat.reduceLT, reduceCtorEq, Nat.reduceMul, Nat.reduceSub, Int.reduceEq, Int.reduceLT, Int.reduceLE, Int.reduceToNat]
    · have c : ¬ t.n = n := by simpa using c
      rw [if_neg c] at hj3
      simp (disch := omega) only [ite_ne, go_sem, ↓reduceIte, Nat.reduceEqDiff, Nat.reduceBEq, Nat.reduceAdd, Nat.reduceLeDiff, Nat.reduceLT, reduceCtorEq, Nat.reduceMul, Nat.reduceSub, Int.reduceEq, Int.reduceLT, Int.reduceLE, Int.reduceToNat]
      refine ⟨(j + 1, _), ⟨by dsimp only; omega, by dsimp only; omega, hj3⟩, by dsimp only; omega, weak_ok ?_ (Sub.cons ?_ (Sub.base hf ?_)) (Nat.le_refl _)⟩
      all_goals
        simp (disch := omega) only [ite_ne, wr64s j (by omega), hmk, go_sem, ↓reduceIte, Nat.reduceEqDiff, Nat.reduceBEq, Nat.reduceAdd, Nat.reduceLeDiff, Nat.reduceLT, reduceCtorEq, Nat.reduceMul, Nat.reduceSub, Int.reduceEq, Int.reduceLT, Int.reduceLE, Int.reduceToNat]
  · have q : j = l.length := by simp at q; omega
    subst q
    rw [List.drop_length] at hj3
    have hj3 : R = none := hj3
    subst hj3
    simp (disch := omega) only [ite_ne, go_sem, ↓reduceIte, Nat.reduceEqDiff, Nat.reduceBEq, Nat.reduceAdd, Nat.reduceLeDiff, Nat.reduceLT, reduceCtorEq, Nat.reduceMul, Nat.reduceSub, Int.reduceEq, Int.reduceLT, Int.reduceLE, Int.reduceToNat]
    rfl
theorem rFind_ok' (l : List Dfn) (hl : l.length ≤ 1000000000000) (n : ByteArray) (hp : CH) (m : Nat) : MeetsF Tryd.prog 43 hp m [docx l, .s n] (resD (findD' l n)) := by
  obtain ⟨R, hR⟩ : ∃ R, findD' l n = R := ⟨_, rfl⟩
  rw [hR, resD]
  refine meetsF Tryd.func43 (by kernel_rfl) cc43 cr43 rfl fun hf => ?_; unfold ck43
  simp only [go_sem, ↓reduceIte, Nat.reduceEqDiff, Nat.reduceBEq, Nat.reduceAdd, Nat.reduceLeDiff, Nat.reduceLT, reduceCtorEq, Nat.reduceMul, Nat.reduceSub, Int.reduceEq, Int.reduceLT, Int.reduceLE, Int.reduceToNat]
  refine loop (fun p : Nat × Nat => ⟨[(1, .s n), (2, .bx m 0), (4, .bx (m + 1) 0), (6, .i .i64 p.1)], (m, .bx [.ds (mapC dfC l)]) :: (m + 1, .bx [.i .i64 0, .s ⟨#[]⟩, .e0, .e0, .e0, .e0, .e0]) :: hp, p.2⟩)
    (fun p => p.1 ≤ l.length ∧ m + 2 ≤ p.2 ∧ R = findD' (l.drop p.1) n) (fun p => l.length - p.1) (0, m + 2) ?_ ?_ (fun ⟨j, k⟩ hj => ?_)
  · exact ⟨by simp, by simp, hR.symm⟩
  · refine weak_ok ?_ (Sub.cons ?_ (Sub.cons ?_ (Sub.base hf ?_))) (Nat.le_refl _)
    all_goals (simp (disch := omega) only [ite_ne, go_sem, ↓reduceIte, Nat.reduceEqDiff, Nat.reduceBEq, Nat.reduceAdd, Nat.reduceLeDiff, Nat.reduceLT, reduceCtorEq, Nat.reduceMul, Nat.reduceSub, Int.reduceEq, Int.reduceLT, Int.reduceLE, Int.reduceToNat])
  dsimp only at hj
  obtain ⟨hj1, hj2, hj3⟩ := hj
  simp (disch := omega) only [ite_ne, go_sem, ↓reduceIte, Nat.reduceEqDiff, Nat.reduceBEq, Nat.reduceAdd, Nat.reduceLeDiff, Nat.reduceLT, reduceCtorEq, Nat.reduceMul, Nat.reduceSub, Int.reduceEq, Int.reduceLT, Int.reduceLE, Int.reduceToNat]
  refine cdK_of (fun q => ?_) (fun q => ?_)
  · have q : j < l.length := by simpa using q
    obtain ⟨t, et⟩ : ∃ t, l[j]? = some t := ⟨l[j], by simp [q]⟩
    rw [drop_at et, find_cons] at hj3
    have hmk : m ≤ k := by omega
    simp (disch := omega) only [ite_ne, q, getK_s (mapC_get dfC et), go_sem, ↓reduceIte, Nat.reduceEqDiff, Nat.reduceBEq, Nat.reduceAdd, Nat.reduceLeDiff, Nat.reduceLT, reduceCtorEq, Nat.reduceMul, Nat.reduceSub, Int.reduceEq, Int.reduceLT, Int.reduceLE, Int.reduceToNat]
    refine cdK_of (fun c => ?_) (fun c => ?_)
    · have c : t.n = n := by simpa using c
      rw [if_pos c] at hj3
      subst hj3
      simp (disch := omega) only [ite_ne, hmk, q, getK_s (mapC_get dfC et), go_sem, ↓reduceIte, Nat.reduceEqDiff, Nat.reduceBEq, Nat.reduceAdd, Nat.reduceLeDiff, Nat.reduceLT, reduceCtorEq, Nat.reduceMul, Nat.reduceSub, Int.reduceEq, Int.reduceLT, Int.reduceLE, Int.reduceToNat]
    · have c : ¬ t.n = n := by simpa using c
      rw [if_neg c] at hj3
      simp (disch := omega) only [ite_ne, go_sem, ↓reduceIte, Nat.reduceEqDiff, Nat.reduceBEq, Nat.reduceAdd, Nat.reduceLeDiff, Nat.reduceLT, reduceCtorEq, Nat.reduceMul, Nat.reduceSub, Int.reduceEq, Int.reduceLT, Int.reduceLE, Int.reduceToNat]
      refine ⟨(j + 1, _), ⟨by dsimp only; omega, by dsimp only; omega, hj3⟩, by dsimp only; omega, weak_ok ?_ (Sub.cons ?_ (Sub.cons ?_ (Sub.base hf ?_))) (Nat.le_refl _)⟩
      all_goals
        simp (disch := omega) only [ite_ne, wr64s j (by omega), hmk, go_sem, ↓reduceIte, Nat.reduceEqDiff, Nat.reduceBEq, Nat.reduceAdd, Nat.reduceLeDiff, Nat.reduceLT, reduceCtorEq, Nat.reduceMul, Nat.reduceSub, Int.reduceEq, Int.reduceLT, Int.reduceLE, Int.reduceToNat]
  · have q : j = l.length := by simp at q; omega
    subst q
    rw [List.drop_length] at hj3
    have hj3 : R = none := hj3
    subst hj3
    simp (disch := omega) only [ite_ne, go_sem, ↓reduceIte, Nat.reduceEqDiff, Nat.reduceBEq, Nat.reduceAdd, Nat.reduceLeDiff, Nat.reduceLT, reduceCtorEq, Nat.reduceMul, Nat.reduceSub, Int.reduceEq, Int.reduceLT, Int.reduceLE, Int.reduceToNat]
    rfl
theorem tScalar_ok (n : ByteArray) (hp : CH) (m : Nat) : MeetsF Tryd.prog 36 hp m [.s n] (.b (scalB n)) := by
  unfold scalB
  refine meetsF Tryd.func36 (by kernel_rfl) cc36 cr36 rfl fun hf => ?_; unfold ck36
  simp only [Bool.or_assoc, go_sem, ↓reduceIte, Nat.reduceEqDiff, Nat.reduceBEq, Nat.reduceAdd, Nat.reduceLeDiff, Nat.reduceLT, reduceCtorEq, Nat.reduceMul, Nat.reduceSub, Int.reduceEq, Int.reduceLT, Int.reduceLE, Int.reduceToNat]
theorem rScalar_ok (n : ByteArray) (hp : CH) (m : Nat) : MeetsF Tryd.prog 44 hp m [.s n] (.b (scalB n)) := by
  unfold scalB
  refine meetsF Tryd.func44 (by kernel_rfl) cc44 cr44 rfl fun hf => ?_; unfold ck44
  simp only [Bool.or_assoc, go_sem, ↓reduceIte, Nat.reduceEqDiff, Nat.reduceBEq, Nat.reduceAdd, Nat.reduceLeDiff, Nat.reduceLT, reduceCtorEq, Nat.reduceMul, Nat.reduceSub, Int.reduceEq, Int.reduceLT, Int.reduceLE, Int.reduceToNat]
theorem kind_ok (l : List Dfn) (hl : l.length ≤ 1000000000000) (n : ByteArray) (hp : CH) (m : Nat) : MeetsF Tryd.prog 49 hp m [docx l, .s n] (.i .i64 (kindD l n)) := by
  have h1 := tFind_ok l hl n
  have e : kindD l n = ((findD' l n).getD zDf).k := by
    unfold kindD
    cases findD' l n <;> rfl
  rw [e]
  obtain ⟨R, hR⟩ : ∃ R, findD' l n = R := ⟨_, rfl⟩
  rw [hR] at h1 ⊢
  rw [resD] at h1
  refine meetsF Tryd.func49 (by kernel_rfl) cc49 cr49 rfl fun hf => ?_; unfold ck49
  simp only [go_sem, ↓reduceIte, Nat.reduceEqDiff, Nat.reduceBEq, Nat.reduceAdd, Nat.reduceLeDiff, Nat.reduceLT, reduceCtorEq, Nat.reduceMul, Nat.reduceSub, Int.reduceEq, Int.reduceLT, Int.reduceLE, Int.reduceToNat]
  refine vcCall.f (h1 _ _) ?_
  simp only [go_sem, ↓reduceIte, Nat.reduceEqDiff, Nat.reduceBEq, Nat.reduceAdd, Nat.reduceLeDiff, Nat.reduceLT, reduceCtorEq, Nat.reduceMul, Nat.reduceSub, Int.reduceEq, Int.reduceLT, Int.reduceLE, Int.reduceToNat]
theorem tComposite_ok (l : List Dfn) (hl : l.length ≤ 1000000000000) (n : ByteArray) (hp : CH) (m : Nat) : MeetsF Tryd.prog 77 hp m [docx l, .s n] (.b (compB l n)) := by
  unfold compB
  refine meetsF Tryd.func77 (by kernel_rfl) cc77 cr77 rfl fun hf => ?_; unfold ck77
  simp only [go_sem, ↓reduceIte, Nat.reduceEqDiff, Nat.reduceBEq, Nat.reduceAdd, Nat.reduceLeDiff, Nat.reduceLT, reduceCtorEq, Nat.reduceMul, Nat.reduceSub, Int.reduceEq, Int.reduceLT, Int.reduceLE, Int.reduceToNat]
  refine vcCall.f (kind_ok l hl n _ _) ?_
  simp only [go_sem, ↓reduceIte, Nat.reduceEqDiff, Nat.reduceBEq, Nat.reduceAdd, Nat.reduceLeDiff, Nat.reduceLT, reduceCtorEq, Nat.reduceMul, Nat.reduceSub, Int.reduceEq, Int.reduceLT, Int.reduceLE, Int.reduceToNat]
  refine vcCall.f (tScalar_ok n _ _) ?_
  simp only [Bool.or_assoc, go_sem, ↓reduceIte, Nat.reduceEqDiff, Nat.reduceBEq, Nat.reduceAdd, Nat.reduceLeDiff, Nat.reduceLT, reduceCtorEq, Nat.reduceMul, Nat.reduceSub, Int.reduceEq, Int.reduceLT, Int.reduceLE, Int.reduceToNat]
end Go.Proofs.YtgollgfifnmaaaaDoor
