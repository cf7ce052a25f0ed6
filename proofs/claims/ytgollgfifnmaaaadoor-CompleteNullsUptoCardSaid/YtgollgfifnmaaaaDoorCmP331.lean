/-
  The parts IdG VaG of the proof, in one file. Conditions: none.
-/
import Derived.Test.YtgollgfifnmaaaaDoorCmP330
namespace Go.Proofs.YtgollgfifnmaaaaDoor
open Go.Eng
set_option linter.unusedVariables false
set_option linter.unusedSimpArgs false
set_option maxRecDepth 20000
def zDf : Dfn := .mk 0 ⟨#[]⟩ [] [] [] [] []
noncomputable def resD (o : Option Dfn) : AV := .tp [dfx (o.getD zDf), .b o.isSome]
theorem find_cons (t : Dfn) (l : List Dfn) (n : ByteArray) : findD' (t :: l) n = if t.n = n then some t else findD' l n := by
  unfold findD'
  rw [List.find?_cons]
  by_cases c : t.n = n
  · simp [c]
  · simp [c]
theorem tFind_ok (l : List Dfn) (hl : l.length ≤ 1000000000000) (n : ByteArray) (hp : CH) (m : Nat) : MeetsF Tryd.prog 38 hp m [docx l, .s n] (resD (findD' l n)) := by
  obtain ⟨R, hR⟩ : ∃ R, findD' l n = R := ⟨_, rfl⟩
  rw [hR, resD]
  refine meetsF Tryd.func38 (by kernel_rfl) cc38 cr38 rfl fun hf => ?_; unfold ck38
  simp only [go_sem, ↓reduceIte, Nat.reduceEqDiff, Nat.reduceBEq, Nat.reduceAdd, Nat.reduceLeDiff, Nat.reduceLT, reduceCtorEq, Nat.reduceMul, Nat.reduceSub, Int.reduceEq, Int.reduceLT, Int.reduceLE, Int.reduceToNat]
  refine loop (fun p : Nat × Nat => ⟨[(1, .s n), (4, .bx (m + 1) 0), (9, .ds (mapC dfC l)), (10, .i .i64 l.length), (11, .i .i64 p.1)], (m + 1, .bx [.i .i64 0, .s ⟨#[]⟩, .e0, .e0, .e0, .e0, .e0]) :: hp, p.2⟩)
    (fun p => p.1 ≤ l.length ∧ m + 2 ≤ p.2 ∧ R = findD' (l.drop p.1) n) (fun p => l.length - p.1) (0, m + 2) ?_ ?_ (fun ⟨j, k⟩ hj => ?_)
  · exact ⟨by simp, by simp, hR.symm⟩
  · refine weak_ok ?_ (Sub.cons ?_ (Sub.base hf ?_)) (Nat.le_refl _)
    all_goals (simp (disch := omega) only [ite_ne, go_sem, ↓reduceIte, Nat.reduceEqDiff, Nat.reduceBEq, Nat.reduceAdd, Nat.reduceLeDiff, Nat.reduceLT, reduceCtorEq, Nat.reduceMul, Nat.reduceSub, Int.reduceEq, Int.reduceLT, Int.reduceLE, Int.reduceToNat])
  dsimp only at hj
  obtain ⟨hj1, hj2, hj3⟩ := hj
  simp (disch := omega) only [ite_ne, go_sem, ↓reduceIte, Nat.reduceEqDiff, Nat.reduceBEq, Nat.reduceAdd, Nat.reduceLeDiff, Nat.reduceLT, reduceCtorEq, Nat.reduceMul, Nat.reduceSub, Int.reduceEq, Int.reduceLT, Int.reduceLE, Int.reduceToNat]
  refine cdK_of (fun q => ?_) (fun q => ?_)
  · have q : j < l.length := by simpa using q
    obtain ⟨t, et⟩ : ∃ t, l[j]? = some t := ⟨l[j], by simp [q]⟩
    rw [drop_at et, find_cons] at hj3
    have hmk : m ≤ k := by omega
    simp (disch := omega) only [ite_ne, q, getK_s (mapC_get dfC et), go_sem, ↓reduceIte, Nat.reduceEqDiff, Nat.reduceBEq, Nat.reduceAdd, Nat.reduceLeDiff, Nat.reduceLT, reduceCtorEq, Nat.reduceMul, Nat.reduceSub, Int.reduceEq, Int.reduceLT, Int.reduceLE, Int.reduceToNat]
    refine cdK_of (fun c => ?_) (fun c => ?_)
    · have c : t.n = n := by simpa using c
      rw [if_pos c] at hj3
      subst hj3
      simp (disch := omega) only [ite_ne, hmk, go_sem, ↓reduceIte, Nat.reduceEqDiff, Nat.reduceBEq, Nat.reduceAdd, Nat.reduceLeDiff, Nat.reduceLT, reduceCtorEq, Nat.reduceMul, Nat.reduceSub, Int.reduceEq, Int.reduceLT, Int.reduceLE, Int.reduceToNat]
    · have c : ¬ t.n = n := by simpa using c
      rw [if_neg c] at hj3
      simp (disch := omega) only [ite_ne, go_sem, ↓reduceIte, Nat.reduceEqDiff, Nat.reduceBEq, Nat.reduceAdd, Nat.reduceLeDiff, Nat.reduceLT, reduceCtorEq, Nat.reduceMul, Nat.reduceSub, Int.reduceEq, Int.reduceLT, Int.reduceLE, Int.reduceToNat]
      refine ⟨(j + 1, _), ⟨by dsimp only; omega, by dsimp only; omega, hj3⟩, by dsimp only; omega, weak_ok ?_ (Sub.cons ?_ (Sub.base hf ?_)) (Nat.le_refl _)⟩
      all_goals
        simp (disch := omega) only [ite_ne, wr64s j (by omega), hmk, go_sem, ↓reduceIte, Nat.reduceEqDiff, Nat.reduceBEq, Nat.reduceAdd, Nat.reduceLeDiff, Nat.reduceLT, reduceCtorEq, Nat.reduceMul, Nat.reduceSub, Int.reduceEq, Int.reduceLT, Int.reduceLE, Int.reduceToNat]
  · have q : j = l.length := by simp at q; omega
    subst q
    rw [List.drop_length] at hj3
    have hj3 : R = none := hj3
    subst hj3
    simp (disch := omega) only [ite_ne, go_sem, ↓reduceIte, Nat.reduceEqDiff, Nat.reduceBEq, Nat.reduceAdd, Nat.reduceLeDiff, Nat.reduceLT, reduceCtorEq, Nat.reduceMul, Nat.reduceSub, Int.reduceEq, Int.reduceLT, Int.reduceLE, Int.reduceToNat]
    rfl
theorem tScalar_ok (n : ByteArray) (hp : CH) (m : Nat) : MeetsF Tryd.prog 36 hp m [.s n] (.b (scalB n)) := by
  unfold scalB
  refine meetsF Tryd.func36 (by kernel_rfl) cc36 cr36 rfl fun hf => ?_; unfold ck36
  simp only [Bool.or_assoc, go_sem, ↓reduceIte, Nat.reduceEqDiff, Nat.reduceBEq, Nat.reduceAdd, Nat.reduceLeDiff, Nat.reduceLT, reduceCtorEq, Nat.reduceMul, Nat.reduceSub, Int.reduceEq, Int.reduceLT, Int.reduceLE, Int.reduceToNat]
theorem kind_ok (l : List Dfn) (hl : l.length ≤ 1000000000000) (n : ByteArray) (hp : CH) (m : Nat) : MeetsF Tryd.prog 49 hp m [docx l, .s n] (.i .i64 (kindD l n)) := by
  have h1 := tFind_ok l hl n
  have e : kindD l n = ((findD' l n).getD zDf).k := by
    unfold kindD
    cases findD' l n <;> rfl
  rw [e]
  obtain ⟨R, hR⟩ : ∃ R, findD' l n = R := ⟨_, rfl⟩
  rw [hR] at h1 ⊢
  rw [resD] at h1
  refine meetsF Tryd.func49 (by kernel_rfl) cc49 cr49 rfl fun hf => ?_; unfold ck49
  simp only [go_sem, ↓reduceIte, Nat.reduceEqDiff, Nat.reduceBEq, Nat.reduceAdd, Nat.reduceLeDiff, Nat.reduceLT, reduceCtorEq, Nat.reduceMul, Nat.reduceSub, Int.reduceEq, Int.reduceLT, Int.reduceLE, Int.reduceToNat]
  refine vcCall.f (h1 _ _) ?_
  simp only [go_sem, ↓reduceIte, Nat.reduceEqDiff, Nat.reduceBEq, Nat.reduceAdd, Nat.reduceLeDiff, Nat.reduceLT, reduceCtorEq, Nat.reduceMul, Nat.reduceSub, Int.reduceEq, Int.reduceLT, Int.reduceLE, Int.reduceToNat]
theorem tComposite_ok (l : List Dfn) (hl : l.length ≤ 1000000000000) (n : ByteArray) (hp : CH) (m : Nat) : MeetsF Tryd.prog 77 hp m [docx l, .s n] (.b (compB l n)) := by
  unfold compB
  refine meetsF Tryd.func77 (by kernel_rfl) cc77 cr77 rfl fun hf => ?_; unfold ck77
  simp only [go_sem, ↓reduceIte, Nat.reduceEqDiff, Nat.reduceBEq, Nat.reduceAdd, Nat.reduceLeDiff, Nat.reduceLT, reduceCtorEq, Nat.reduceMul, Nat.reduceSub, Int.reduceEq, Int.reduceLT, Int.reduceLE, Int.reduceToNat]
  refine vcCall.f (kind_ok l hl n _ _) ?_
  simp only [go_sem, ↓reduceIte, Nat.reduceEqDiff, Nat.reduceBEq, Nat.reduceAdd, Nat.reduceLeDiff, Nat.reduceLT, reduceCtorEq, Nat.reduceMul, Nat.reduceSub, Int.reduceEq, Int.reduceLT, Int.reduceLE, Int.reduceToNat]
  refine vcCall.f (tScalar_ok n _ _) ?_
  simp only [Bool.or_assoc, go_sem, ↓reduceIte, Nat.reduceEqDiff, Nat.reduceBEq, Nat.reduceAdd, Nat.reduceLeDiff, Nat.reduceLT, reduceCtorEq, Nat.reduceMul, Nat.reduceSub, Int.reduceEq, Int.reduceLT, Int.reduceLE, Int.reduceToNat]
end Go.Proofs.YtgollgfifnmaaaaDoor
namespace Go.Proofs.YtgollgfifnmaaaaDoor
open Go.Eng
set_option linter.unusedVariables false
set_option linter.unusedSimpArgs false
set_option maxRecDepth 20000
/-- An object's item. -/
noncomputable def getV (v : Val) (k : ByteArray) : Option Val := if v.k = 6 then (if 0 ≤ ix k v.keys 0 then v.items[(ix k v.keys 0).toNat]? else none) else none
noncomputable def resV (o : Option Val) : AV := .tp [vx (o.getD zVal), .b o.isSome]
attribute [go_sem] resV zVal Option.getD_none Option.getD_some Option.isSome_none Option.isSome_some
theorem get_ok (v : Val) (hv : v.Fit) (k : ByteArray) (hp : CH) (m : Nat) : MeetsF Tryd.prog 91 hp m [vx v, .s k] (resV (getV v k)) := by
  refine meetsF Tryd.func91 (by kernel_rfl) cc91 cr91 rfl fun hf => ?_; unfold ck91
  have h1 := hv.l
  have h2 := ix_lt k v.keys 0
  simp only [go_sem, ↓reduceIte, Nat.reduceEqDiff, Nat.reduceBEq, Nat.reduceAdd, Nat.reduceLeDiff, Nat.reduceLT, reduceCtorEq, Nat.reduceMul, Nat.reduceSub, Int.reduceEq, Int.reduceLT, Int.reduceLE, Int.reduceToNat]
  refine vcCall.f (index_ok v.keys k (by omega) _ _) ?_
  simp only [go_sem, ↓reduceIte, Nat.reduceEqDiff, Nat.reduceBEq, Nat.reduceAdd, Nat.reduceLeDiff, Nat.reduceLT, reduceCtorEq, Nat.reduceMul, Nat.reduceSub, Int.reduceEq, Int.reduceLT, Int.reduceLE, Int.reduceToNat]
  refine cdK_of (fun c => ?_) (fun c => ?_)
  · have e : getV v k = none := by
      unfold getV
      simp at c
      grind
    rw [e]
    simp only [go_sem, ↓reduceIte, Nat.reduceEqDiff, Nat.reduceBEq, Nat.reduceAdd, Nat.reduceLeDiff, Nat.reduceLT, reduceCtorEq, Nat.reduceMul, Nat.reduceSub, Int.reduceEq, Int.reduceLT, Int.reduceLE, Int.reduceToNat]
  · simp at c
    obtain ⟨x, ex⟩ : ∃ x, v.items[(ix k v.keys 0).toNat]? = some x := ⟨v.items[(ix k v.keys 0).toNat], List.getElem?_eq_getElem (by omega)⟩
    have e : getV v k = some x := by unfold getV; rw [if_pos c.1.1, if_pos c.1.2, ex]
    have hx := hv.x (List.mem_of_getElem? ex)
    have c3 : (ix k v.keys 0).toNat < v.items.length := by omega
    rw [e]
    simp only [c3, c.1.2, getK_s (mapC_get valC ex), go_sem, ↓reduceIte, Nat.reduceEqDiff, Nat.reduceBEq, Nat.reduceAdd, Nat.reduceLeDiff, Nat.reduceLT, reduceCtorEq, Nat.reduceMul, Nat.reduceSub, Int.reduceEq, Int.reduceLT, Int.reduceLE, Int.reduceToNat]
    refine vcCall.f (copy_ok x hx _ _) ?_
    simp only [go_sem, ↓reduceIte, Nat.reduceEqDiff, Nat.reduceBEq, Nat.reduceAdd, Nat.reduceLeDiff, Nat.reduceLT, reduceCtorEq, Nat.reduceMul, Nat.reduceSub, Int.reduceEq, Int.reduceLT, Int.reduceLE, Int.reduceToNat]
theorem getV_none {v : Val} {k : ByteArray} (h : v.k ≠ 6) : getV v k = none := by unfold getV; rw [if_neg h]
theorem rget_ok (v : Val) (hv : v.Fit) (k : ByteArray) (hp : CH) (m : Nat) : MeetsF Tryd.prog 53 hp m [vx v, .s k] (resV (getV v k)) := by
  refine meetsF Tryd.func53 (by kernel_rfl) cc53 cr53 rfl fun hf => ?_; unfold ck53
  have h1 := hv.l
  have h3 := hv.i
  simp only [go_sem, ↓reduceIte, Nat.reduceEqDiff, Nat.reduceBEq, Nat.reduceAdd, Nat.reduceLeDiff, Nat.reduceLT, reduceCtorEq, Nat.reduceMul, Nat.reduceSub, Int.reduceEq, Int.reduceLT, Int.reduceLE, Int.reduceToNat]
  refine cdK_of (fun c => ?_) (fun c => ?_)
  · have c : v.k ≠ 6 := by simpa using c
    rw [getV_none c]
    simp only [go_sem, ↓reduceIte, Nat.reduceEqDiff, Nat.reduceBEq, Nat.reduceAdd, Nat.reduceLeDiff, Nat.reduceLT, reduceCtorEq, Nat.reduceMul, Nat.reduceSub, Int.reduceEq, Int.reduceLT, Int.reduceLE, Int.reduceToNat]
  have c : v.k = 6 := by simpa using c
  simp only [go_sem, ↓reduceIte, Nat.reduceEqDiff, Nat.reduceBEq, Nat.reduceAdd, Nat.reduceLeDiff, Nat.reduceLT, reduceCtorEq, Nat.reduceMul, Nat.reduceSub, Int.reduceEq, Int.reduceLT, Int.reduceLE, Int.reduceToNat]
  refine loop (fun p : Nat × Nat => ⟨[(1, .s k), (2, .bx m 0), (4, .bx (m + 1) 0), (6, .i .i64 p.1)], (m + 1, .bx [.i .i64 0, .i .i64 0, .s ⟨#[]⟩, .e0, .e0]) :: (m, .bx [.i .i64 v.k, .i .i64 v.n, .s v.s, .ds (mapC valC v.items), .ds (stC v.keys)]) :: hp, p.2⟩)
    (fun p => p.1 ≤ v.keys.length ∧ m + 2 ≤ p.2 ∧ ix k v.keys 0 = ix k (v.keys.drop p.1) p.1) (fun p => v.keys.length - p.1) (0, m + 2) ?_ ?_ (fun ⟨j, n⟩ hj => ?_)
  · grind
  · refine weak_ok ?_ (Sub.refl _) (Nat.le_refl _)
    simp only [go_sem, ↓reduceIte, Nat.reduceEqDiff, Nat.reduceBEq, Nat.reduceAdd, Nat.reduceLeDiff, Nat.reduceLT, reduceCtorEq, Nat.reduceMul, Nat.reduceSub, Int.reduceEq, Int.reduceLT, Int.reduceLE, Int.reduceToNat]
  dsimp only at hj
  simp only [go_sem, ↓reduceIte, Nat.reduceEqDiff, Nat.reduceBEq, Nat.reduceAdd, Nat.reduceLeDiff, Nat.reduceLT, reduceCtorEq, Nat.reduceMul, Nat.reduceSub, Int.reduceEq, Int.reduceLT, Int.reduceLE, Int.reduceToNat]
  refine cdK_of (fun d => ?_) (fun d => ?_)
  · have d : j < v.keys.length := by simpa using d
    obtain ⟨y, ey⟩ : ∃ y, v.keys[j]? = some y := ⟨v.keys[j], by simp [d]⟩
    have e := drop_at ey
    rw [e, ix] at hj
    simp only [d, getK_s (mapC_get st1 ey), go_sem, ↓reduceIte, Nat.reduceEqDiff, Nat.reduceBEq, Nat.reduceAdd, Nat.reduceLeDiff, Nat.reduceLT, reduceCtorEq, Nat.reduceMul, Nat.reduceSub, Int.reduceEq, Int.reduceLT, Int.reduceLE, Int.reduceToNat]
    refine cdK_of (fun d1 => ?_) (fun d1 => ?_)
    · have d1 : k = y := by simp at d1; exact d1.symm
      rw [if_pos d1] at hj
      simp only [go_sem, ↓reduceIte, Nat.reduceEqDiff, Nat.reduceBEq, Nat.reduceAdd, Nat.reduceLeDiff, Nat.reduceLT, reduceCtorEq, Nat.reduceMul, Nat.reduceSub, Int.reduceEq, Int.reduceLT, Int.reduceLE, Int.reduceToNat]
      refine cdK_of (fun d2 => ?_) (fun d2 => ?_)
      · have e : getV v k = none := by
          unfold getV
          rw [if_pos c, hj.2.2, if_pos (by omega), List.getElem?_eq_none (by simp at d2; omega)]
        rw [e]
        simp only [go_sem, ↓reduceIte, Nat.reduceEqDiff, Nat.reduceBEq, Nat.reduceAdd, Nat.reduceLeDiff, Nat.reduceLT, reduceCtorEq, Nat.reduceMul, Nat.reduceSub, Int.reduceEq, Int.reduceLT, Int.reduceLE, Int.reduceToNat]
      · have d2 : j < v.items.length := by simp at d2; omega
        obtain ⟨x, ex⟩ : ∃ x, v.items[j]? = some x := ⟨v.items[j], by simp [d2]⟩
        have e : getV v k = some x := by
          unfold getV
          rw [if_pos c, hj.2.2, if_pos (by omega), Int.toNat_natCast, ex]
        rw [e]
        have hx := hv.x (List.mem_of_getElem? ex)
        simp only [d2, getK_s (mapC_get valC ex), go_sem, ↓reduceIte, Nat.reduceEqDiff, Nat.reduceBEq, Nat.reduceAdd, Nat.reduceLeDiff, Nat.reduceLT, reduceCtorEq, Nat.reduceMul, Nat.reduceSub, Int.reduceEq, Int.reduceLT, Int.reduceLE, Int.reduceToNat]
        refine vcCall.f (rcopy_ok x hx _ _) ?_
        simp only [go_sem, ↓reduceIte, Nat.reduceEqDiff, Nat.reduceBEq, Nat.reduceAdd, Nat.reduceLeDiff, Nat.reduceLT, reduceCtorEq, Nat.reduceMul, Nat.reduceSub, Int.reduceEq, Int.reduceLT, Int.reduceLE, Int.reduceToNat]
    · have d1 : ¬ k = y := by simp at d1; exact fun e => d1 e.symm
      rw [if_neg d1] at hj
      simp only [go_sem, ↓reduceIte, Nat.reduceEqDiff, Nat.reduceBEq, Nat.reduceAdd, Nat.reduceLeDiff, Nat.reduceLT, reduceCtorEq, Nat.reduceMul, Nat.reduceSub, Int.reduceEq, Int.reduceLT, Int.reduceLE, Int.reduceToNat]
      refine ⟨(j + 1, n), by dsimp only; omega, by dsimp only; omega, weak_ok ?_ (Sub.refl _) (Nat.le_refl _)⟩
      simp only [wr64s j (by omega), go_sem, ↓reduceIte, Nat.reduceEqDiff, Nat.reduceBEq, Nat.reduceAdd, Nat.reduceLeDiff, Nat.reduceLT, reduceCtorEq, Nat.reduceMul, Nat.reduceSub, Int.reduceEq, Int.reduceLT, Int.reduceLE, Int.reduceToNat]
  · have d : j = v.keys.length := by simp at d; omega
    subst d
    rw [List.drop_length, ix] at hj
    have e : getV v k = none := by
      unfold getV
      rw [if_pos c, hj.2.2, if_neg (by omega)]
    rw [e]
    simp only [go_sem, ↓reduceIte, Nat.reduceEqDiff, Nat.reduceBEq, Nat.reduceAdd, Nat.reduceLeDiff, Nat.reduceLT, reduceCtorEq, Nat.reduceMul, Nat.reduceSub, Int.reduceEq, Int.reduceLT, Int.reduceLE, Int.reduceToNat]
theorem zval_fit : zVal.Fit := .mk _ (by simp [zVal, Val.items_mk]) (by simp [zVal, Val.keys_mk]) (by simp [zVal, Val.items_mk])
theorem getV_mem {v x : Val} {k : ByteArray} (h : getV v k = some x) : x ∈ v.items := by
  unfold getV at h
  split at h
  · split at h
    · exact List.mem_of_getElem? h
    · cases h
  · cases h
end Go.Proofs.YtgollgfifnmaaaaDoor
