/-
  The parts CmE of the proof, in one file. Conditions: none.
-/
import Derived.Test.YtgollgfifnmaaaaDoorCmP134
namespace Go.Proofs.YtgollgfifnmaaaaDoor
open Go.Eng
set_option linter.unusedVariables false
set_option linter.unusedSimpArgs false
set_option maxRecDepth 20000
/-- A type as a struct. -/
abbrev rfx (tn : ByteArray) (tw : List Int) : AV := .ag [.s tn, .ds (mapC in1 tw)]
attribute [go_sem] rfx
theorem pos_cs (k : Nat) : (0 < ((k + 1 : Nat) : Int)) = True := eq_true (by omega)
theorem one_cs (k : Nat) : (1 ≤ ((k + 1 : Nat) : Int)) = True := eq_true (by omega)
theorem le_same (x : Int) : (x ≤ x) = True := eq_true (Int.le_refl x)
theorem len_in (l : List Int) : (∀ e, e ∈ mapC in1 l → e.length = 1) = True := eq_true fun e h => ((of_eq_true (elsOk_in l)) e h).1
attribute [go_sem] pos_cs one_cs le_same len_in
theorem iclone_ok (l : List Int) (h : l.length ≤ 1000000000000) (hp : CH) (m : Nat) : MeetsF Tryd.prog 90 hp m [.ds (mapC in1 l)] (.ds (mapC in1 l)) := by
  refine meetsF Tryd.func90 (by kernel_rfl) cc90 cr90 rfl fun hf => ?_; unfold ck90
  simp only [go_sem, ↓reduceIte, Nat.reduceEqDiff, Nat.reduceBEq, Nat.reduceAdd, Nat.reduceLeDiff, Nat.reduceLT, reduceCtorEq, Nat.reduceMul, Nat.reduceSub, Int.reduceEq, Int.reduceLT, Int.reduceLE, Int.reduceToNat]
  exact ⟨fun e => by rw [e], by omega, by omega⟩
theorem tNamed_ok (n : ByteArray) (hp : CH) (m : Nat) : MeetsF Tryd.prog 31 hp m [.s n] (rfx n []) := by
  refine meetsF Tryd.func31 (by kernel_rfl) cc31 cr31 rfl fun hf => ?_; unfold ck31
  simp only [go_sem, ↓reduceIte, Nat.reduceEqDiff, Nat.reduceBEq, Nat.reduceAdd, Nat.reduceLeDiff, Nat.reduceLT, reduceCtorEq, Nat.reduceMul, Nat.reduceSub, Int.reduceEq, Int.reduceLT, Int.reduceLE, Int.reduceToNat]
theorem nnW_nil : nnW [] = false := rfl
theorem nnW_cons (a : Int) (w : List Int) : nnW (a :: w) = decide (a = 1) := by simp [nnW]
theorem tIsNN_ok (n : ByteArray) (w : List Int) (hw : w.length ≤ 1000000000000) (hp : CH) (m : Nat) : MeetsF Tryd.prog 57 hp m [rfx n w] (.b (nnW w)) := by
  cases w with
  | nil =>
    rw [nnW_nil]
    refine meetsF Tryd.func57 (by kernel_rfl) cc57 cr57 rfl fun hf => ?_; unfold ck57
    simp only [go_sem, ↓reduceIte, Nat.reduceEqDiff, Nat.reduceBEq, Nat.reduceAdd, Nat.reduceLeDiff, Nat.reduceLT, reduceCtorEq, Nat.reduceMul, Nat.reduceSub, Int.reduceEq, Int.reduceLT, Int.reduceLE, Int.reduceToNat]
  | cons a w =>
    rw [nnW_cons]
    refine meetsF Tryd.func57 (by kernel_rfl) cc57 cr57 rfl fun hf => ?_; unfold ck57
    simp only [go_sem, ↓reduceIte, Nat.reduceEqDiff, Nat.reduceBEq, Nat.reduceAdd, Nat.reduceLeDiff, Nat.reduceLT, reduceCtorEq, Nat.reduceMul, Nat.reduceSub, Int.reduceEq, Int.reduceLT, Int.reduceLE, Int.reduceToNat]
theorem tNullable_ok (n : ByteArray) (w : List Int) (hw : w.length ≤ 1000000000000) (hp : CH) (m : Nat) : MeetsF Tryd.prog 72 hp m [rfx n w] (rfx n (nulW w)) := by
  have h1 := tIsNN_ok n w hw
  unfold nulW
  by_cases c : nnW w = true
  · rw [if_pos c]
    rw [c] at h1
    cases w with
    | nil => cases c
    | cons a w =>
      simp only [List.length_cons] at hw
      refine meetsF Tryd.func72 (by kernel_rfl) cc72 cr72 rfl fun hf => ?_; unfold ck72
      simp only [go_sem, ↓reduceIte, Nat.reduceEqDiff, Nat.reduceBEq, Nat.reduceAdd, Nat.reduceLeDiff, Nat.reduceLT, reduceCtorEq, Nat.reduceMul, Nat.reduceSub, Int.reduceEq, Int.reduceLT, Int.reduceLE, Int.reduceToNat]
      refine vcCall.f (h1 _ _) ?_
      simp only [go_sem, ↓reduceIte, Nat.reduceEqDiff, Nat.reduceBEq, Nat.reduceAdd, Nat.reduceLeDiff, Nat.reduceLT, reduceCtorEq, Nat.reduceMul, Nat.reduceSub, Int.reduceEq, Int.reduceLT, Int.reduceLE, Int.reduceToNat]
      first | refine dCallR.f (fun _ _ _ => iclone_ok w (by omega) _ _) ?_ | refine dCall.f (fun _ _ _ => iclone_ok w (by omega) _ _) ?_
      simp only [go_sem, ↓reduceIte, Nat.reduceEqDiff, Nat.reduceBEq, Nat.reduceAdd, Nat.reduceLeDiff, Nat.reduceLT, reduceCtorEq, Nat.reduceMul, Nat.reduceSub, Int.reduceEq, Int.reduceLT, Int.reduceLE, Int.reduceToNat]
      rfl
  · rw [if_neg c]
    have c : nnW w = false := by simpa using c
    rw [c] at h1
    refine meetsF Tryd.func72 (by kernel_rfl) cc72 cr72 rfl fun hf => ?_; unfold ck72
    simp only [go_sem, ↓reduceIte, Nat.reduceEqDiff, Nat.reduceBEq, Nat.reduceAdd, Nat.reduceLeDiff, Nat.reduceLT, reduceCtorEq, Nat.reduceMul, Nat.reduceSub, Int.reduceEq, Int.reduceLT, Int.reduceLE, Int.reduceToNat]
    refine vcCall.f (h1 _ _) ?_
    simp only [go_sem, ↓reduceIte, Nat.reduceEqDiff, Nat.reduceBEq, Nat.reduceAdd, Nat.reduceLeDiff, Nat.reduceLT, reduceCtorEq, Nat.reduceMul, Nat.reduceSub, Int.reduceEq, Int.reduceLT, Int.reduceLE, Int.reduceToNat]
    first | refine dCallR.f (fun _ _ _ => iclone_ok w hw _ _) ?_ | refine dCall.f (fun _ _ _ => iclone_ok w hw _ _) ?_
    simp only [go_sem, ↓reduceIte, Nat.reduceEqDiff, Nat.reduceBEq, Nat.reduceAdd, Nat.reduceLeDiff, Nat.reduceLT, reduceCtorEq, Nat.reduceMul, Nat.reduceSub, Int.reduceEq, Int.reduceLT, Int.reduceLE, Int.reduceToNat]
theorem lstW_eq (w : List Int) : lstW w = decide ((nulW w).head? = some 2) := rfl
theorem tIsList_ok (n : ByteArray) (w : List Int) (hw : w.length ≤ 1000000000000) (hp : CH) (m : Nat) : MeetsF Tryd.prog 73 hp m [rfx n w] (.b (lstW w)) := by
  have h1 := tNullable_ok n w hw
  have h2 := nulW_len w
  rw [lstW_eq]
  obtain ⟨u, hu⟩ : ∃ u, nulW w = u := ⟨_, rfl⟩
  rw [hu] at h1 h2 ⊢
  cases u with
  | nil =>
    refine meetsF Tryd.func73 (by kernel_rfl) cc73 cr73 rfl fun hf => ?_; unfold ck73
    simp only [go_sem, ↓reduceIte, Nat.reduceEqDiff, Nat.reduceBEq, Nat.reduceAdd, Nat.reduceLeDiff, Nat.reduceLT, reduceCtorEq, Nat.reduceMul, Nat.reduceSub, Int.reduceEq, Int.reduceLT, Int.reduceLE, Int.reduceToNat]
    refine vcCall.f (h1 _ _) ?_
    simp only [go_sem, ↓reduceIte, Nat.reduceEqDiff, Nat.reduceBEq, Nat.reduceAdd, Nat.reduceLeDiff, Nat.reduceLT, reduceCtorEq, Nat.reduceMul, Nat.reduceSub, Int.reduceEq, Int.reduceLT, Int.reduceLE, Int.reduceToNat]
    simp
  | cons a u =>
    simp only [List.length_cons] at h2
    have e : decide ((a :: u).head? = some 2) = decide (a = 2) := by simp
    rw [e]
    refine meetsF Tryd.func73 (by kernel_rfl) cc73 cr73 rfl fun hf => ?_; unfold ck73
    simp only [go_sem, ↓reduceIte, Nat.reduceEqDiff, Nat.reduceBEq, Nat.reduceAdd, Nat.reduceLeDiff, Nat.reduceLT, reduceCtorEq, Nat.reduceMul, Nat.reduceSub, Int.reduceEq, Int.reduceLT, Int.reduceLE, Int.reduceToNat]
    refine vcCall.f (h1 _ _) ?_
    simp only [go_sem, ↓reduceIte, Nat.reduceEqDiff, Nat.reduceBEq, Nat.reduceAdd, Nat.reduceLeDiff, Nat.reduceLT, reduceCtorEq, Nat.reduceMul, Nat.reduceSub, Int.reduceEq, Int.reduceLT, Int.reduceLE, Int.reduceToNat]
theorem lst_cons {w : List Int} (h : lstW w = true) : ∃ u, nulW w = 2 :: u ∧ innW w = u := by
  rw [lstW_eq] at h
  unfold innW
  cases e : nulW w with
  | nil => rw [e] at h; simp at h
  | cons a u => rw [e] at h; simp at h; exact ⟨u, by rw [h], rfl⟩
theorem tInner_ok (n : ByteArray) (w : List Int) (hw : w.length ≤ 1000000000000) (hp : CH) (m : Nat) : MeetsF Tryd.prog 74 hp m [rfx n w] (if lstW w = true then .tp [rfx n (innW w), .b true] else .tp [rfx ⟨#[]⟩ [], .b false]) := by
  have h1 := tIsList_ok n w hw
  have h2 := tNullable_ok n w hw
  have h3 := nulW_len w
  by_cases c : lstW w = true
  · rw [if_pos c]
    obtain ⟨u, e1, e2⟩ := lst_cons c
    rw [c] at h1
    rw [e1] at h2 h3
    rw [e2]
    simp only [List.length_cons] at h3
    refine meetsF Tryd.func74 (by kernel_rfl) cc74 cr74 rfl fun hf => ?_; unfold ck74
    simp only [go_sem, ↓reduceIte, Nat.reduceEqDiff, Nat.reduceBEq, Nat.reduceAdd, Nat.reduceLeDiff, Nat.reduceLT, reduceCtorEq, Nat.reduceMul, Nat.reduceSub, Int.reduceEq, Int.reduceLT, Int.reduceLE, Int.reduceToNat]
    refine vcCall.f (h1 _ _) ?_
    simp only [go_sem, ↓reduceIte, Nat.reduceEqDiff, Nat.reduceBEq, Nat.reduceAdd, Nat.reduceLeDiff, Nat.reduceLT, reduceCtorEq, Nat.reduceMul, Nat.reduceSub, Int.reduceEq, Int.reduceLT, Int.reduceLE, Int.reduceToNat]
    refine vcCall.f (h2 _ _) ?_
    simp only [go_sem, ↓reduceIte, Nat.reduceEqDiff, Nat.reduceBEq, Nat.reduceAdd, Nat.reduceLeDiff, Nat.reduceLT, reduceCtorEq, Nat.reduceMul, Nat.reduceSub, Int.reduceEq, Int.reduceLT, Int.reduceLE, Int.reduceToNat]
  · rw [if_neg c]
    have c : lstW w = false := by simpa using c
    rw [c] at h1
    refine meetsF Tryd.func74 (by kernel_rfl) cc74 cr74 rfl fun hf => ?_; unfold ck74
    simp only [go_sem, ↓reduceIte, Nat.reduceEqDiff, Nat.reduceBEq, Nat.reduceAdd, Nat.reduceLeDiff, Nat.reduceLT, reduceCtorEq, Nat.reduceMul, Nat.reduceSub, Int.reduceEq, Int.reduceLT, Int.reduceLE, Int.reduceToNat]
    refine vcCall.f (h1 _ _) ?_
    simp only [go_sem, ↓reduceIte, Nat.reduceEqDiff, Nat.reduceBEq, Nat.reduceAdd, Nat.reduceLeDiff, Nat.reduceLT, reduceCtorEq, Nat.reduceMul, Nat.reduceSub, Int.reduceEq, Int.reduceLT, Int.reduceLE, Int.reduceToNat]
theorem tLeaf_ok (l : List Dfn) (hl : l.length ≤ 1000000000000) (n : ByteArray) (hp : CH) (m : Nat) : MeetsF Tryd.prog 21 hp m [docx l, .s n] (.b (leafB l n)) := by
  unfold leafB
  refine meetsF Tryd.func21 (by kernel_rfl) cc21 cr21 rfl fun hf => ?_; unfold ck21
  simp only [go_sem, ↓reduceIte, Nat.reduceEqDiff, Nat.reduceBEq, Nat.reduceAdd, Nat.reduceLeDiff, Nat.reduceLT, reduceCtorEq, Nat.reduceMul, Nat.reduceSub, Int.reduceEq, Int.reduceLT, Int.reduceLE, Int.reduceToNat]
  refine vcCall.f (tScalar_ok n _ _) ?_
  simp only [go_sem, ↓reduceIte, Nat.reduceEqDiff, Nat.reduceBEq, Nat.reduceAdd, Nat.reduceLeDiff, Nat.reduceLT, reduceCtorEq, Nat.reduceMul, Nat.reduceSub, Int.reduceEq, Int.reduceLT, Int.reduceLE, Int.reduceToNat]
  refine gCall.f (fun _ => kind_ok l hl n _ _) ?_
  simp only [go_sem, ↓reduceIte, Nat.reduceEqDiff, Nat.reduceBEq, Nat.reduceAdd, Nat.reduceLeDiff, Nat.reduceLT, reduceCtorEq, Nat.reduceMul, Nat.reduceSub, Int.reduceEq, Int.reduceLT, Int.reduceLE, Int.reduceToNat]
end Go.Proofs.YtgollgfifnmaaaaDoor
