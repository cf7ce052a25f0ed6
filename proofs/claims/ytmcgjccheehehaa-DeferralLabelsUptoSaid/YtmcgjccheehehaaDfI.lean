/-
  Labels of picks are collected. Conditions: none.
-/
import Derived.Test.YtmcgjccheehehaaDfH
namespace Go.Proofs.Ytmcgjccheehehaa
open Go.Eng
set_option linter.unusedVariables false
set_option linter.unusedSimpArgs false
set_option maxRecDepth 20000
/-- The contract of labels on a list, with a row. -/
def Lab (l : List Pk) : Prop := ∀ (out : List ByteArray) (c g len : Nat) (hp : CH) (m : Nat), out.length = len → gc hp c = .rw g 1 (stC out) → out.length + wtKs l ≤ 1000000000000 →
  MeetsX Try.prog 52 hp m [.ds (mapC pkC l), .rw c g len] ((c, .rw (g + ((labL l out).length - len)) 1 (stC (labL l out))) :: hp) m (.rw c (g + ((labL l out).length - len)) (labL l out).length)
theorem labels_of (l : List Pk) (h : ∀ p ∈ l, Lab p.picks) : Lab l := by
  intro out c g len hp m hn hk hw
  subst hn
  obtain ⟨L, hL⟩ : ∃ L, labL l out = L := ⟨_, rfl⟩
  have hLl := labL_lens l out
  have hlen := wtKs_len l
  rw [hL] at hLl ⊢
  refine meetsUpd Try.func52 (by kernel_rfl) cc52 cr52 rfl trivial (fun hf => rw_lt hf (by assumption)) fun hf => ?_; unfold ck52
  have hc := rw_lt hf hk
  simp only [hk, go_sem, ↓reduceIte, Nat.reduceEqDiff, Nat.reduceBEq, Nat.reduceAdd, Nat.reduceLeDiff, Nat.reduceLT, reduceCtorEq, Nat.reduceMul, Nat.reduceSub, Int.reduceEq, Int.reduceLT, Int.reduceLE, Int.reduceToNat]
  refine loop (fun p : Nat × (List ByteArray × Nat) × Nat => ⟨[(1, .rw c p.2.1.2 p.2.1.1.length), (7, .ds (mapC pkC l)), (8, .i .i64 l.length), (9, .i .i64 p.1)], (c, .rw p.2.1.2 1 (stC p.2.1.1)) :: hp, p.2.2⟩)
    (fun p => p.1 ≤ l.length ∧ m ≤ p.2.2 ∧ L = labL (l.drop p.1) p.2.1.1 ∧ p.2.1.2 + out.length = g + p.2.1.1.length ∧ out.length ≤ p.2.1.1.length ∧ p.2.1.1.length + wtKs (l.drop p.1) ≤ 1000000000000) (fun p => l.length - p.1) (0, (out, g), m) ?_ ?_ (fun ⟨j, ⟨o, G⟩, n⟩ hj => ?_)
  · exact ⟨by simp, by simp, hL.symm, by simp, by simp, hw⟩
  · refine weak_ok ?_ (Sub.cons ?_ (Sub.refl _)) (Nat.le_refl _)
    all_goals
      simp only [hk, go_sem, ↓reduceIte, Nat.reduceEqDiff, Nat.reduceBEq, Nat.reduceAdd, Nat.reduceLeDiff, Nat.reduceLT, reduceCtorEq, Nat.reduceMul, Nat.reduceSub, Int.reduceEq, Int.reduceLT, Int.reduceLE, Int.reduceToNat]
  dsimp only at hj
  obtain ⟨hj1, hj2, hj3, hj4, hj5, hj6⟩ := hj
  simp only [go_sem, ↓reduceIte, Nat.reduceEqDiff, Nat.reduceBEq, Nat.reduceAdd, Nat.reduceLeDiff, Nat.reduceLT, reduceCtorEq, Nat.reduceMul, Nat.reduceSub, Int.reduceEq, Int.reduceLT, Int.reduceLE, Int.reduceToNat]
  refine cdK_of (fun d => ?_) (fun d => ?_)
  · have d : j < l.length := by simpa using d
    obtain ⟨x, ex⟩ : ∃ x, l[j]? = some x := ⟨l[j], by simp [d]⟩
    have hx := h x (List.mem_of_getElem? ex)
    rw [drop_at ex] at hj3 hj6
    rw [labL, labP_eq] at hj3
    rw [wtKs, wtK_eq] at hj6
    have z1 : ¬ n = c := by omega
    have z3 : ¬ c = n := by omega
    have z2 : m ≤ n := hj2
    simp only [z1, z2, d, getK_s (mapC_get pkC ex), go_sem, ↓reduceIte, Nat.reduceEqDiff, Nat.reduceBEq, Nat.reduceAdd, Nat.reduceLeDiff, Nat.reduceLT, reduceCtorEq, Nat.reduceMul, Nat.reduceSub, Int.reduceEq, Int.reduceLT, Int.reduceLE, Int.reduceToNat]
    refine gCall.f (fun _ => contains_r o x.label (by omega) c G _ rfl _ _ (by simp only [gc_cons, if_neg z1]; simp)) ?_
    simp only [z1, z2, z3, go_sem, ↓reduceIte, Nat.reduceEqDiff, Nat.reduceBEq, Nat.reduceAdd, Nat.reduceLeDiff, Nat.reduceLT, reduceCtorEq, Nat.reduceMul, Nat.reduceSub, Int.reduceEq, Int.reduceLT, Int.reduceLE, Int.reduceToNat]
    refine cdK_of (fun q => ?_) (fun q => ?_)
    · have q : ¬ x.label = ⟨#[]⟩ ∧ ¬ 0 ≤ ix x.label o 0 := by
        simp only [Bool.and_eq_true, Bool.not_eq_true', decide_eq_false_iff_not] at q
        exact q
      rw [addLb, if_pos q] at hj3
      have hl2 := labL_lens x.picks (o ++ [x.label])
      simp only [List.length_append, List.length_cons, List.length_nil, Nat.zero_add] at hl2
      simp only [z1, z2, z3, go_sem, ↓reduceIte, Nat.reduceEqDiff, Nat.reduceBEq, Nat.reduceAdd, Nat.reduceLeDiff, Nat.reduceLT, reduceCtorEq, Nat.reduceMul, Nat.reduceSub, Int.reduceEq, Int.reduceLT, Int.reduceLE, Int.reduceToNat]
      refine ⟨by omega, by omega, ?_⟩
      refine vcCall.x (hx (o ++ [x.label]) c (G + 1) (o.length + 1) _ _ (by simp) (gc_same _ _ _) (by simp; omega)) ?_
      simp only [z1, z2, z3, go_sem, ↓reduceIte, Nat.reduceEqDiff, Nat.reduceBEq, Nat.reduceAdd, Nat.reduceLeDiff, Nat.reduceLT, reduceCtorEq, Nat.reduceMul, Nat.reduceSub, Int.reduceEq, Int.reduceLT, Int.reduceLE, Int.reduceToNat]
      refine ⟨(j + 1, (labL x.picks (o ++ [x.label]), G + (1 + ((labL x.picks (o ++ [x.label])).length - (o.length + 1)))), _), ?_, ?_, weak_ok ?_ (Sub.base (free_upd hf hc) (up_upd ?_ fun i hi hn => ?_)) (Nat.le_refl _)⟩
      · exact ⟨by dsimp only; omega, by dsimp only; omega, hj3, by dsimp only; omega, by dsimp only; omega, by dsimp only; omega⟩
      · dsimp only; omega
      · simp only [wr64s j (by omega), go_sem, ↓reduceIte, Nat.reduceEqDiff, Nat.reduceBEq, Nat.reduceAdd, Nat.reduceLeDiff, Nat.reduceLT, reduceCtorEq, Nat.reduceMul, Nat.reduceSub, Int.reduceEq, Int.reduceLT, Int.reduceLE, Int.reduceToNat]
      · exact gc_same _ _ _
      · simp only [gc_cons]
        repeat rw [if_neg (by omega)]
    · have q : ¬ (¬ x.label = ⟨#[]⟩ ∧ ¬ 0 ≤ ix x.label o 0) := fun hq => by
        simp [hq.1] at q
        exact hq.2 q
      rw [addLb, if_neg q] at hj3
      have hl2 := labL_lens x.picks o
      simp only [z1, z2, z3, go_sem, ↓reduceIte, Nat.reduceEqDiff, Nat.reduceBEq, Nat.reduceAdd, Nat.reduceLeDiff, Nat.reduceLT, reduceCtorEq, Nat.reduceMul, Nat.reduceSub, Int.reduceEq, Int.reduceLT, Int.reduceLE, Int.reduceToNat]
      refine vcCall.x (hx o c G o.length _ _ rfl (by simp only [gc_cons, if_neg z1]; simp) (by omega)) ?_
      simp only [z1, z2, z3, go_sem, ↓reduceIte, Nat.reduceEqDiff, Nat.reduceBEq, Nat.reduceAdd, Nat.reduceLeDiff, Nat.reduceLT, reduceCtorEq, Nat.reduceMul, Nat.reduceSub, Int.reduceEq, Int.reduceLT, Int.reduceLE, Int.reduceToNat]
      refine ⟨(j + 1, (labL x.picks o, G + ((labL x.picks o).length - o.length)), _), ?_, ?_, weak_ok ?_ (Sub.base (free_upd hf hc) (up_upd ?_ fun i hi hn => ?_)) (Nat.le_refl _)⟩
      · exact ⟨by dsimp only; omega, by dsimp only; omega, hj3, by dsimp only; omega, by dsimp only; omega, by dsimp only; omega⟩
      · dsimp only; omega
      · simp only [wr64s j (by omega), go_sem, ↓reduceIte, Nat.reduceEqDiff, Nat.reduceBEq, Nat.reduceAdd, Nat.reduceLeDiff, Nat.reduceLT, reduceCtorEq, Nat.reduceMul, Nat.reduceSub, Int.reduceEq, Int.reduceLT, Int.reduceLE, Int.reduceToNat]
      · exact gc_same _ _ _
      · simp only [gc_cons]
        repeat rw [if_neg (by omega)]
  · have d : j = l.length := by simp at d; omega
    subst d
    rw [List.drop_length, labL] at hj3
    subst hj3
    simp only [go_sem, ↓reduceIte, Nat.reduceEqDiff, Nat.reduceBEq, Nat.reduceAdd, Nat.reduceLeDiff, Nat.reduceLT, reduceCtorEq, Nat.reduceMul, Nat.reduceSub, Int.reduceEq, Int.reduceLT, Int.reduceLE, Int.reduceToNat]
    have e : g + (L.length - out.length) = G := by omega
    rw [e]
    exact ⟨fun _ _ => rfl, rfl, hc⟩
theorem labels_r (l : List Pk) : Lab l := labels_of l fun p _ => Pk.ind (Q := fun p => Lab p.picks) (fun v ih => labels_of v.picks ih) p
theorem labels_0 (l : List Pk) (hw : wtKs l ≤ 1000000000000) (hp : CH) (m : Nat) : MeetsF Try.prog 52 hp m [.ds (mapC pkC l), .e0] (.ds (stC (labL l []))) := by
  obtain ⟨L, hL⟩ : ∃ L, labL l [] = L := ⟨_, rfl⟩
  have hLl := labL_lens l []
  have hlen := wtKs_len l
  rw [hL] at hLl ⊢
  simp only [List.length_nil, Nat.zero_add] at hLl
  refine meetsF Try.func52 (by kernel_rfl) cc52 cr52 rfl fun hf => ?_; unfold ck52
  simp only [go_sem, ↓reduceIte, Nat.reduceEqDiff, Nat.reduceBEq, Nat.reduceAdd, Nat.reduceLeDiff, Nat.reduceLT, reduceCtorEq, Nat.reduceMul, Nat.reduceSub, Int.reduceEq, Int.reduceLT, Int.reduceLE, Int.reduceToNat]
  refine loop (fun p : Nat × (List ByteArray × Nat) × Nat => ⟨[(1, .rw m p.2.1.2 p.2.1.1.length), (7, .ds (mapC pkC l)), (8, .i .i64 l.length), (9, .i .i64 p.1)], (m, .rw p.2.1.2 1 (stC p.2.1.1)) :: hp, p.2.2⟩)
    (fun p => p.1 ≤ l.length ∧ m + 1 ≤ p.2.2 ∧ L = labL (l.drop p.1) p.2.1.1 ∧ p.2.1.1.length + wtKs (l.drop p.1) ≤ 1000000000000) (fun p => l.length - p.1) (0, ([], 0), m + 1) ?_ ?_ (fun ⟨j, ⟨o, G⟩, n⟩ hj => ?_)
  · exact ⟨by simp, by simp, hL.symm, by simpa using hw⟩
  · refine (weak_e0 (t := 1) (m := 1) ?_).trans (weak_ok ?_ (Sub.cons ?_ (Sub.base hf ?_)) (Nat.le_refl _))
    all_goals simp only [go_sem, ↓reduceIte, Nat.reduceEqDiff, Nat.reduceBEq, Nat.reduceAdd, Nat.reduceLeDiff, Nat.reduceLT, reduceCtorEq, Nat.reduceMul, Nat.reduceSub, Int.reduceEq, Int.reduceLT, Int.reduceLE, Int.reduceToNat]
  dsimp only at hj
  obtain ⟨hj1, hj2, hj3, hj6⟩ := hj
  simp only [go_sem, ↓reduceIte, Nat.reduceEqDiff, Nat.reduceBEq, Nat.reduceAdd, Nat.reduceLeDiff, Nat.reduceLT, reduceCtorEq, Nat.reduceMul, Nat.reduceSub, Int.reduceEq, Int.reduceLT, Int.reduceLE, Int.reduceToNat]
  refine cdK_of (fun d => ?_) (fun d => ?_)
  · have d : j < l.length := by simpa using d
    obtain ⟨x, ex⟩ : ∃ x, l[j]? = some x := ⟨l[j], by simp [d]⟩
    have hx := labels_r x.picks
    rw [drop_at ex] at hj3 hj6
    rw [labL, labP_eq] at hj3
    rw [wtKs, wtK_eq] at hj6
    have z1 : ¬ n = m := by omega
    have z3 : ¬ m = n := by omega
    have z2 : m ≤ n := by omega
    simp only [z1, z2, d, getK_s (mapC_get pkC ex), go_sem, ↓reduceIte, Nat.reduceEqDiff, Nat.reduceBEq, Nat.reduceAdd, Nat.reduceLeDiff, Nat.reduceLT, reduceCtorEq, Nat.reduceMul, Nat.reduceSub, Int.reduceEq, Int.reduceLT, Int.reduceLE, Int.reduceToNat]
    refine gCall.f (fun _ => contains_r o x.label (by omega) m G _ rfl _ _ (by simp only [gc_cons, if_neg z1]; simp)) ?_
    simp only [z1, z2, z3, go_sem, ↓reduceIte, Nat.reduceEqDiff, Nat.reduceBEq, Nat.reduceAdd, Nat.reduceLeDiff, Nat.reduceLT, reduceCtorEq, Nat.reduceMul, Nat.reduceSub, Int.reduceEq, Int.reduceLT, Int.reduceLE, Int.reduceToNat]
    refine cdK_of (fun q => ?_) (fun q => ?_)
    · have q : ¬ x.label = ⟨#[]⟩ ∧ ¬ 0 ≤ ix x.label o 0 := by
        simp only [Bool.and_eq_true, Bool.not_eq_true', decide_eq_false_iff_not] at q
        exact q
      rw [addLb, if_pos q] at hj3
      have hl2 := labL_lens x.picks (o ++ [x.label])
      simp only [List.length_append, List.length_cons, List.length_nil, Nat.zero_add] at hl2
      simp only [z1, z2, z3, go_sem, ↓reduceIte, Nat.reduceEqDiff, Nat.reduceBEq, Nat.reduceAdd, Nat.reduceLeDiff, Nat.reduceLT, reduceCtorEq, Nat.reduceMul, Nat.reduceSub, Int.reduceEq, Int.reduceLT, Int.reduceLE, Int.reduceToNat]
      refine ⟨by omega, by omega, ?_⟩
      refine vcCall.x (hx (o ++ [x.label]) m (G + 1) (o.length + 1) _ _ (by simp) (gc_same _ _ _) (by simp; omega)) ?_
      simp only [z1, z2, z3, go_sem, ↓reduceIte, Nat.reduceEqDiff, Nat.reduceBEq, Nat.reduceAdd, Nat.reduceLeDiff, Nat.reduceLT, reduceCtorEq, Nat.reduceMul, Nat.reduceSub, Int.reduceEq, Int.reduceLT, Int.reduceLE, Int.reduceToNat]
      refine ⟨(j + 1, (labL x.picks (o ++ [x.label]), G + 1 + ((labL x.picks (o ++ [x.label])).length - (o.length + 1))), _), ?_, ?_, weak_ok ?_ (Sub.cons ?_ (Sub.base hf ?_)) (Nat.le_refl _)⟩
      · exact ⟨by dsimp only; omega, by dsimp only; omega, hj3, by dsimp only; omega⟩
      · dsimp only; omega
      all_goals
        simp only [z1, z2, z3, wr64s j (by omega), go_sem, ↓reduceIte, Nat.reduceEqDiff, Nat.reduceBEq, Nat.reduceAdd, Nat.reduceLeDiff, Nat.reduceLT, reduceCtorEq, Nat.reduceMul, Nat.reduceSub, Int.reduceEq, Int.reduceLT, Int.reduceLE, Int.reduceToNat]
    · have q : ¬ (¬ x.label = ⟨#[]⟩ ∧ ¬ 0 ≤ ix x.label o 0) := fun hq => by
        simp [hq.1] at q
        exact hq.2 q
      rw [addLb, if_neg q] at hj3
      have hl2 := labL_lens x.picks o
      simp only [z1, z2, z3, go_sem, ↓reduceIte, Nat.reduceEqDiff, Nat.reduceBEq, Nat.reduceAdd, Nat.reduceLeDiff, Nat.reduceLT, reduceCtorEq, Nat.reduceMul, Nat.reduceSub, Int.reduceEq, Int.reduceLT, Int.reduceLE, Int.reduceToNat]
      refine vcCall.x (hx o m G o.length _ _ rfl (by simp only [gc_cons, if_neg z1]; simp) (by omega)) ?_
      simp only [z1, z2, z3, go_sem, ↓reduceIte, Nat.reduceEqDiff, Nat.reduceBEq, Nat.reduceAdd, Nat.reduceLeDiff, Nat.reduceLT, reduceCtorEq, Nat.reduceMul, Nat.reduceSub, Int.reduceEq, Int.reduceLT, Int.reduceLE, Int.reduceToNat]
      refine ⟨(j + 1, (labL x.picks o, G + ((labL x.picks o).length - o.length)), _), ?_, ?_, weak_ok ?_ (Sub.cons ?_ (Sub.base hf ?_)) (Nat.le_refl _)⟩
      · exact ⟨by dsimp only; omega, by dsimp only; omega, hj3, by dsimp only; omega⟩
      · dsimp only; omega
      all_goals
        simp only [z1, z2, z3, wr64s j (by omega), go_sem, ↓reduceIte, Nat.reduceEqDiff, Nat.reduceBEq, Nat.reduceAdd, Nat.reduceLeDiff, Nat.reduceLT, reduceCtorEq, Nat.reduceMul, Nat.reduceSub, Int.reduceEq, Int.reduceLT, Int.reduceLE, Int.reduceToNat]
  · have d : j = l.length := by simp at d; omega
    subst d
    rw [List.drop_length, labL] at hj3
    subst hj3
    simp only [go_sem, ↓reduceIte, Nat.reduceEqDiff, Nat.reduceBEq, Nat.reduceAdd, Nat.reduceLeDiff, Nat.reduceLT, reduceCtorEq, Nat.reduceMul, Nat.reduceSub, Int.reduceEq, Int.reduceLT, Int.reduceLE, Int.reduceToNat]
theorem Labels_ok (l : List Pk) (hw : wtKs l ≤ 1000000000000) (hp : CH) (m : Nat) : MeetsF Try.prog 18 hp m [.ds (mapC pkC l)] (.ds (stC (labL l []))) := by
  refine meetsF Try.func18 (by kernel_rfl) cc18 cr18 rfl fun hf => ?_; unfold ck18
  simp only [go_sem, ↓reduceIte, Nat.reduceEqDiff, Nat.reduceBEq, Nat.reduceAdd, Nat.reduceLeDiff, Nat.reduceLT, reduceCtorEq, Nat.reduceMul, Nat.reduceSub, Int.reduceEq, Int.reduceLT, Int.reduceLE, Int.reduceToNat]
  refine vcCall.f (labels_0 l hw _ _) ?_
  simp only [go_sem, ↓reduceIte, Nat.reduceEqDiff, Nat.reduceBEq, Nat.reduceAdd, Nat.reduceLeDiff, Nat.reduceLT, reduceCtorEq, Nat.reduceMul, Nat.reduceSub, Int.reduceEq, Int.reduceLT, Int.reduceLE, Int.reduceToNat]
end Go.Proofs.Ytmcgjccheehehaa
