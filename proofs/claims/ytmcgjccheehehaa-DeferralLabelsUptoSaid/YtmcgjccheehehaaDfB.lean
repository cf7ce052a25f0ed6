/-
  The fields of a patch are added. Conditions: none.
-/
import Derived.Test.YtmcgjccheehehaaDfA
namespace Go.Proofs.Ytmcgjccheehehaa
open Go.Eng
set_option linter.unusedVariables false
set_option linter.unusedSimpArgs false
set_option maxRecDepth 20000
theorem index_r (l : List ByteArray) (k : ByteArray) (hl : l.length ≤ 9223372036854775806) (c g len : Nat) (hn : l.length = len) (hp : CH) (m : Nat) (hk : gc hp c = .rw g 1 (stC l)) : MeetsF Try.prog 96 hp m [.rw c g len, .s k] (.i .i64 (ix k l 0)) := by
  subst hn
  refine meetsF Try.func96 (by kernel_rfl) cc96 cr96 rfl fun hf => ?_; unfold ck96
  simp only [hk, go_sem, ↓reduceIte, Nat.reduceEqDiff, Nat.reduceBEq, Nat.reduceAdd, Nat.reduceLeDiff, Nat.reduceLT, reduceCtorEq, Nat.reduceMul, Nat.reduceSub, Int.reduceEq, Int.reduceLT, Int.reduceLE, Int.reduceToNat]
  refine loop (fun p : Nat × Nat => ⟨[(0, .rw c g l.length), (1, .s k), (7, .i .i64 l.length), (8, .i .i64 p.1)], hp, p.2⟩) (fun p => p.1 ≤ l.length ∧ ix k l 0 = ix k (l.drop p.1) p.1) (fun p => l.length - p.1) (0, m) ?_ ?_ (fun ⟨j, n⟩ hj => ?_)
  · grind
  · refine weak_ok ?_ (Sub.refl _) (Nat.le_refl _)
    simp only [go_sem, ↓reduceIte, Nat.reduceEqDiff, Nat.reduceBEq, Nat.reduceAdd, Nat.reduceLeDiff, Nat.reduceLT, reduceCtorEq, Nat.reduceMul, Nat.reduceSub, Int.reduceEq, Int.reduceLT, Int.reduceLE, Int.reduceToNat]
  dsimp only at hj
  simp only [hk, go_sem, ↓reduceIte, Nat.reduceEqDiff, Nat.reduceBEq, Nat.reduceAdd, Nat.reduceLeDiff, Nat.reduceLT, reduceCtorEq, Nat.reduceMul, Nat.reduceSub, Int.reduceEq, Int.reduceLT, Int.reduceLE, Int.reduceToNat]
  refine cdK_of (fun d => ?_) (fun d => ?_)
  · have d : j < l.length := by simpa using d
    obtain ⟨x, ex⟩ : ∃ x, l[j]? = some x := ⟨l[j], by simp [d]⟩
    have e := drop_at ex
    rw [e, ix] at hj
    simp only [hk, d, getK_s (mapC_get st1 ex), go_sem, ↓reduceIte, Nat.reduceEqDiff, Nat.reduceBEq, Nat.reduceAdd, Nat.reduceLeDiff, Nat.reduceLT, reduceCtorEq, Nat.reduceMul, Nat.reduceSub, Int.reduceEq, Int.reduceLT, Int.reduceLE, Int.reduceToNat]
    refine cdK_of (fun c1 => ?_) (fun c1 => ?_)
    · have c1 : k = x := by simpa using c1
      simp only [go_sem, ↓reduceIte, Nat.reduceEqDiff, Nat.reduceBEq, Nat.reduceAdd, Nat.reduceLeDiff, Nat.reduceLT, reduceCtorEq, Nat.reduceMul, Nat.reduceSub, Int.reduceEq, Int.reduceLT, Int.reduceLE, Int.reduceToNat]
      rw [hj.2, if_pos c1]
    · have c1 : ¬ k = x := by simpa using c1
      rw [if_neg c1] at hj
      simp only [go_sem, ↓reduceIte, Nat.reduceEqDiff, Nat.reduceBEq, Nat.reduceAdd, Nat.reduceLeDiff, Nat.reduceLT, reduceCtorEq, Nat.reduceMul, Nat.reduceSub, Int.reduceEq, Int.reduceLT, Int.reduceLE, Int.reduceToNat]
      refine ⟨(j + 1, n), by dsimp only; omega, by dsimp only; omega, weak_ok ?_ (Sub.refl _) (Nat.le_refl _)⟩
      simp only [wr64s j (by omega), go_sem, ↓reduceIte, Nat.reduceEqDiff, Nat.reduceBEq, Nat.reduceAdd, Nat.reduceLeDiff, Nat.reduceLT, reduceCtorEq, Nat.reduceMul, Nat.reduceSub, Int.reduceEq, Int.reduceLT, Int.reduceLE, Int.reduceToNat]
  · have d : j = l.length := by simp at d; omega
    subst d
    rw [List.drop_length, ix] at hj
    simp only [go_sem, ↓reduceIte, Nat.reduceEqDiff, Nat.reduceBEq, Nat.reduceAdd, Nat.reduceLeDiff, Nat.reduceLT, reduceCtorEq, Nat.reduceMul, Nat.reduceSub, Int.reduceEq, Int.reduceLT, Int.reduceLE, Int.reduceToNat]
    rw [hj.2]
theorem contains_r (l : List ByteArray) (k : ByteArray) (hl : l.length ≤ 9223372036854775806) (c g len : Nat) (hn : l.length = len) (hp : CH) (m : Nat) (hk : gc hp c = .rw g 1 (stC l)) : MeetsF Try.prog 84 hp m [.rw c g len, .s k] (.b (decide (0 ≤ ix k l 0))) := by
  refine meetsF Try.func84 (by kernel_rfl) cc84 cr84 rfl fun hf => ?_; unfold ck84
  simp only [hk, go_sem, ↓reduceIte, Nat.reduceEqDiff, Nat.reduceBEq, Nat.reduceAdd, Nat.reduceLeDiff, Nat.reduceLT, reduceCtorEq, Nat.reduceMul, Nat.reduceSub, Int.reduceEq, Int.reduceLT, Int.reduceLE, Int.reduceToNat]
  refine vcCall.f (index_r l k hl c g len hn _ _ hk) ?_
  simp only [go_sem, ↓reduceIte, Nat.reduceEqDiff, Nat.reduceBEq, Nat.reduceAdd, Nat.reduceLeDiff, Nat.reduceLT, reduceCtorEq, Nat.reduceMul, Nat.reduceSub, Int.reduceEq, Int.reduceLT, Int.reduceLE, Int.reduceToNat]
theorem add1_ok (v d : Val) (hv : v.Fit) (hd : d.Fit) (hi : (v.items.length + d.items.length) * 80 ≤ 140737488355327) (hk : (v.keys.length + d.keys.length) * 16 ≤ 140737488355327) (hp : CH) (m : Nat) : MeetsF Try.prog 76 hp m [vx v, vx d] (resE (addV v d)) := by
  refine meetsF Try.func76 (by kernel_rfl) cc76 cr76 rfl fun hf => ?_; unfold ck76
  simp only [go_sem, ↓reduceIte, Nat.reduceEqDiff, Nat.reduceBEq, Nat.reduceAdd, Nat.reduceLeDiff, Nat.reduceLT, reduceCtorEq, Nat.reduceMul, Nat.reduceSub, Int.reduceEq, Int.reduceLT, Int.reduceLE, Int.reduceToNat]
  refine cdK_of (fun c => ?_) (fun c => ?_)
  · have c : v.k = 6 ∧ d.k = 6 := by simpa using c
    rw [addV, if_pos c]
    simp only [go_sem, ↓reduceIte, Nat.reduceEqDiff, Nat.reduceBEq, Nat.reduceAdd, Nat.reduceLeDiff, Nat.reduceLT, reduceCtorEq, Nat.reduceMul, Nat.reduceSub, Int.reduceEq, Int.reduceLT, Int.reduceLE, Int.reduceToNat]
    refine vcCall.x (copy_r v hv _ _) ?_
    simp only [go_sem, ↓reduceIte, Nat.reduceEqDiff, Nat.reduceBEq, Nat.reduceAdd, Nat.reduceLeDiff, Nat.reduceLT, reduceCtorEq, Nat.reduceMul, Nat.reduceSub, Int.reduceEq, Int.reduceLT, Int.reduceLE, Int.reduceToNat]
    refine loop (fun p : Nat × (List ByteArray × List Val) × Nat => ⟨[(3, .bx (m + 1) 0), (4, .bx (m + 2) 0), (6, .bx (m + 5) 0), (7, .i .i64 p.1)],
        (m + 5, .bx [.i .i64 v.k, .i .i64 v.n, .s v.s, .rw (m + 3) p.1 p.2.1.2.length, .rw (m + 4) p.1 p.2.1.1.length]) :: (m + 3, .rw p.1 5 (mapC valC p.2.1.2)) :: (m + 4, .rw p.1 1 (stC p.2.1.1)) :: (m + 2, .bx [.i .i64 0, .i .i64 0, .s ⟨#[]⟩, .e0, .e0]) ::
        (m + 1, .bx [.i .i64 d.k, .i .i64 d.n, .s d.s, .ds (mapC valC d.items), .ds (stC d.keys)]) :: hp, p.2.2⟩)
      (fun p => p.1 ≤ d.keys.length ∧ p.1 ≤ d.items.length ∧ p.2.1.2.length = v.items.length + p.1 ∧ p.2.1.1.length = v.keys.length + p.1 ∧ m + 6 ≤ p.2.2 ∧ adL d.keys d.items v.keys v.items = adL (d.keys.drop p.1) (d.items.drop p.1) p.2.1.1 p.2.1.2)
      (fun p => d.keys.length - p.1) (0, (v.keys, v.items), m + 6) ?_ ?_ (fun ⟨j, ⟨ks, is⟩, n⟩ hj => ?_)
    · exact ⟨by simp, by simp, by simp, by simp, by simp, rfl⟩
    · refine weak_ok ?_ (Sub.cons ?_ (Sub.cons ?_ (Sub.cons ?_ (Sub.cons ?_ (Sub.cons ?_ (Sub.base hf ?_)))))) (Nat.le_refl _)
      all_goals simp only [go_sem, ↓reduceIte, Nat.reduceEqDiff, Nat.reduceBEq, Nat.reduceAdd, Nat.reduceLeDiff, Nat.reduceLT, reduceCtorEq, Nat.reduceMul, Nat.reduceSub, Int.reduceEq, Int.reduceLT, Int.reduceLE, Int.reduceToNat]
    dsimp only at hj
    obtain ⟨hj1, hj2, hj3, hj4, hj5, hj6⟩ := hj
    simp only [go_sem, ↓reduceIte, Nat.reduceEqDiff, Nat.reduceBEq, Nat.reduceAdd, Nat.reduceLeDiff, Nat.reduceLT, reduceCtorEq, Nat.reduceMul, Nat.reduceSub, Int.reduceEq, Int.reduceLT, Int.reduceLE, Int.reduceToNat]
    refine cdK_of (fun q => ?_) (fun q => ?_)
    · simp at q
      obtain ⟨q1, q2⟩ := q
      obtain ⟨y, ey⟩ : ∃ y, d.keys[j]? = some y := ⟨d.keys[j], by simp [q1]⟩
      obtain ⟨x, ex⟩ : ∃ x, d.items[j]? = some x := ⟨d.items[j], by simp [q2]⟩
      have hx := hd.x (List.mem_of_getElem? ex)
      rw [drop_at ey, drop_at ex, adL] at hj6
      simp only [q1, q2, getK_s (mapC_get valC ex), getK_s (mapC_get st1 ey), go_sem, ↓reduceIte, Nat.reduceEqDiff, Nat.reduceBEq, Nat.reduceAdd, Nat.reduceLeDiff, Nat.reduceLT, reduceCtorEq, Nat.reduceMul, Nat.reduceSub, Int.reduceEq, Int.reduceLT, Int.reduceLE, Int.reduceToNat]
      refine dCallR.f (fun _ hp' hh => contains_r ks y (by omega) (m + 4) j _ rfl _ _ ((hh _ (.inl (by omega))).trans (by simp only [go_sem, ↓reduceIte, Nat.reduceEqDiff, Nat.reduceBEq, Nat.reduceAdd, Nat.reduceLeDiff, Nat.reduceLT, reduceCtorEq, Nat.reduceMul, Nat.reduceSub, Int.reduceEq, Int.reduceLT, Int.reduceLE, Int.reduceToNat]))) ?_
      simp only [go_sem, ↓reduceIte, Nat.reduceEqDiff, Nat.reduceBEq, Nat.reduceAdd, Nat.reduceLeDiff, Nat.reduceLT, reduceCtorEq, Nat.reduceMul, Nat.reduceSub, Int.reduceEq, Int.reduceLT, Int.reduceLE, Int.reduceToNat]
      refine cdK_of (fun q3 => ?_) (fun q3 => ?_)
      · have q3 : 0 ≤ ix y ks 0 := by simpa using q3
        rw [hj6, if_pos q3, adR]
        simp only [go_sem, ↓reduceIte, Nat.reduceEqDiff, Nat.reduceBEq, Nat.reduceAdd, Nat.reduceLeDiff, Nat.reduceLT, reduceCtorEq, Nat.reduceMul, Nat.reduceSub, Int.reduceEq, Int.reduceLT, Int.reduceLE, Int.reduceToNat]
      · have q3 : ¬ 0 ≤ ix y ks 0 := by simpa using q3
        rw [if_neg q3] at hj6
        simp only [q1, q2, getK_s (mapC_get valC ex), getK_s (mapC_get st1 ey), go_sem, ↓reduceIte, Nat.reduceEqDiff, Nat.reduceBEq, Nat.reduceAdd, Nat.reduceLeDiff, Nat.reduceLT, reduceCtorEq, Nat.reduceMul, Nat.reduceSub, Int.reduceEq, Int.reduceLT, Int.reduceLE, Int.reduceToNat]
        refine ⟨⟨by omega, by omega⟩, ?_⟩
        first | refine dCallR.f (fun _ _ _ => copy_ok x hx _ _) ?_ | refine dCall.f (fun _ _ _ => copy_ok x hx _ _) ?_
        simp only [go_sem, ↓reduceIte, Nat.reduceEqDiff, Nat.reduceBEq, Nat.reduceAdd, Nat.reduceLeDiff, Nat.reduceLT, reduceCtorEq, Nat.reduceMul, Nat.reduceSub, Int.reduceEq, Int.reduceLT, Int.reduceLE, Int.reduceToNat]
        refine ⟨⟨by omega, by omega⟩, (j + 1, (ks ++ [y], is ++ [x]), _), ?_, ?_, weak_ok ?_ (Sub.cons ?_ (Sub.cons ?_ (Sub.cons ?_ (Sub.cons ?_ (Sub.cons ?_ (Sub.base hf ?_)))))) (Nat.le_refl _)⟩
        · exact ⟨by dsimp only; omega, by dsimp only; omega, by dsimp only; simp; omega, by dsimp only; simp; omega, by dsimp only; omega, hj6⟩
        · dsimp only; omega
        all_goals
          simp only [wr64s j (by omega), List.length_append, go_sem, ↓reduceIte, Nat.reduceEqDiff, Nat.reduceBEq, Nat.reduceAdd, Nat.reduceLeDiff, Nat.reduceLT, reduceCtorEq, Nat.reduceMul, Nat.reduceSub, Int.reduceEq, Int.reduceLT, Int.reduceLE, Int.reduceToNat]
    · have e : adL (d.keys.drop j) (d.items.drop j) ks is = some (ks, is) := by
        simp at q
        rcases Nat.lt_or_ge j d.keys.length with q1 | q1
        · obtain ⟨y, ey⟩ : ∃ y, d.keys[j]? = some y := ⟨d.keys[j], by simp [q1]⟩
          have e3 : d.items.drop j = [] := List.drop_eq_nil_of_le (by have := q q1; omega)
          rw [drop_at ey, e3, adL]
        · rw [List.drop_eq_nil_of_le q1, adL]
      rw [hj6, e, adR]
      simp only [go_sem, ↓reduceIte, Nat.reduceEqDiff, Nat.reduceBEq, Nat.reduceAdd, Nat.reduceLeDiff, Nat.reduceLT, reduceCtorEq, Nat.reduceMul, Nat.reduceSub, Int.reduceEq, Int.reduceLT, Int.reduceLE, Int.reduceToNat]
  · have c : ¬ (v.k = 6 ∧ d.k = 6) := by simpa using c
    rw [addV, if_neg c]
    simp only [go_sem, ↓reduceIte, Nat.reduceEqDiff, Nat.reduceBEq, Nat.reduceAdd, Nat.reduceLeDiff, Nat.reduceLT, reduceCtorEq, Nat.reduceMul, Nat.reduceSub, Int.reduceEq, Int.reduceLT, Int.reduceLE, Int.reduceToNat]
    refine cdK_of (fun q => ?_) (fun q => ?_)
    · have q : d.k = 0 := by simpa using q
      rw [if_pos q]
      simp only [go_sem, ↓reduceIte, Nat.reduceEqDiff, Nat.reduceBEq, Nat.reduceAdd, Nat.reduceLeDiff, Nat.reduceLT, reduceCtorEq, Nat.reduceMul, Nat.reduceSub, Int.reduceEq, Int.reduceLT, Int.reduceLE, Int.reduceToNat]
    · have q : ¬ d.k = 0 := by simpa using q
      rw [if_neg q]
      simp only [go_sem, ↓reduceIte, Nat.reduceEqDiff, Nat.reduceBEq, Nat.reduceAdd, Nat.reduceLeDiff, Nat.reduceLT, reduceCtorEq, Nat.reduceMul, Nat.reduceSub, Int.reduceEq, Int.reduceLT, Int.reduceLE, Int.reduceToNat]
end Go.Proofs.Ytmcgjccheehehaa
