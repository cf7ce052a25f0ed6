/-
  The fields of a patch are added by the reference. Conditions: none.
-/
import Derived.Test.YtmcgjccheehehaaDfB
namespace Go.Proofs.Ytmcgjccheehehaa
open Go.Eng
set_option linter.unusedVariables false
set_option linter.unusedSimpArgs false
set_option maxRecDepth 20000
theorem rw_lt {hp : CH} {m a g n : Nat} {l : List (List AV)} (hf : ∀ k, m ≤ k → gc hp k = .no) (h : gc hp a = .rw g n l) : a < m := by
  rcases Nat.lt_or_ge a m with q | q
  · exact q
  · rw [hf a q] at h; cases h
theorem rget_r (v : Val) (hv : v.Fit) (k : ByteArray) (a g b g' li lk : Nat) (e1 : v.items.length = li) (e2 : v.keys.length = lk) (hp : CH) (m : Nat) (hi : gc hp a = .rw g 5 (mapC valC v.items)) (hk : gc hp b = .rw g' 1 (stC v.keys)) :
    MeetsF Try.prog 72 hp m [.ag [.i .i64 v.k, .i .i64 v.n, .s v.s, .rw a g li, .rw b g' lk], .s k] (resV (getV v k)) := by
  subst e1 e2
  refine meetsF Try.func72 (by kernel_rfl) cc72 cr72 rfl fun hf => ?_; unfold ck72
  have h1 := hv.l
  have h3 := hv.i
  have ha := rw_lt hf hi
  have hb := rw_lt hf hk
  have n1 : m ≠ a := by omega
  have n2 : m + 1 ≠ a := by omega
  have n3 : m ≠ b := by omega
  have n4 : m + 1 ≠ b := by omega
  simp only [go_sem, ↓reduceIte, Nat.reduceEqDiff, Nat.reduceBEq, Nat.reduceAdd, Nat.reduceLeDiff, Nat.reduceLT, reduceCtorEq, Nat.reduceMul, Nat.reduceSub, Int.reduceEq, Int.reduceLT, Int.reduceLE, Int.reduceToNat]
  refine cdK_of (fun c => ?_) (fun c => ?_)
  · have c : v.k ≠ 6 := by simpa using c
    rw [getV_none c]
    simp only [go_sem, ↓reduceIte, Nat.reduceEqDiff, Nat.reduceBEq, Nat.reduceAdd, Nat.reduceLeDiff, Nat.reduceLT, reduceCtorEq, Nat.reduceMul, Nat.reduceSub, Int.reduceEq, Int.reduceLT, Int.reduceLE, Int.reduceToNat]
  have c : v.k = 6 := by simpa using c
  simp only [go_sem, ↓reduceIte, Nat.reduceEqDiff, Nat.reduceBEq, Nat.reduceAdd, Nat.reduceLeDiff, Nat.reduceLT, reduceCtorEq, Nat.reduceMul, Nat.reduceSub, Int.reduceEq, Int.reduceLT, Int.reduceLE, Int.reduceToNat]
  refine loop (fun p : Nat × Nat => ⟨[(1, .s k), (2, .bx m 0), (4, .bx (m + 1) 0), (6, .i .i64 p.1)], (m + 1, .bx [.i .i64 0, .i .i64 0, .s ⟨#[]⟩, .e0, .e0]) :: (m, .bx [.i .i64 v.k, .i .i64 v.n, .s v.s, .rw a g v.items.length, .rw b g' v.keys.length]) :: hp, p.2⟩)
    (fun p => p.1 ≤ v.keys.length ∧ m + 2 ≤ p.2 ∧ ix k v.keys 0 = ix k (v.keys.drop p.1) p.1) (fun p => v.keys.length - p.1) (0, m + 2) ?_ ?_ (fun ⟨j, n⟩ hj => ?_)
  · grind
  · refine weak_ok ?_ (Sub.refl _) (Nat.le_refl _)
    simp only [go_sem, ↓reduceIte, Nat.reduceEqDiff, Nat.reduceBEq, Nat.reduceAdd, Nat.reduceLeDiff, Nat.reduceLT, reduceCtorEq, Nat.reduceMul, Nat.reduceSub, Int.reduceEq, Int.reduceLT, Int.reduceLE, Int.reduceToNat]
  dsimp only at hj
  simp only [n1, n2, n3, n4, hi, hk, go_sem, ↓reduceIte, Nat.reduceEqDiff, Nat.reduceBEq, Nat.reduceAdd, Nat.reduceLeDiff, Nat.reduceLT, reduceCtorEq, Nat.reduceMul, Nat.reduceSub, Int.reduceEq, Int.reduceLT, Int.reduceLE, Int.reduceToNat]
  refine cdK_of (fun d => ?_) (fun d => ?_)
  · have d : j < v.keys.length := by simpa using d
    obtain ⟨y, ey⟩ : ∃ y, v.keys[j]? = some y := ⟨v.keys[j], by simp [d]⟩
    have e := drop_at ey
    rw [e, ix] at hj
    simp only [n1, n2, n3, n4, hi, hk, d, getK_s (mapC_get st1 ey), go_sem, ↓reduceIte, Nat.reduceEqDiff, Nat.reduceBEq, Nat.reduceAdd, Nat.reduceLeDiff, Nat.reduceLT, reduceCtorEq, Nat.reduceMul, Nat.reduceSub, Int.reduceEq, Int.reduceLT, Int.reduceLE, Int.reduceToNat]
    refine cdK_of (fun d1 => ?_) (fun d1 => ?_)
    · have d1 : k = y := by simp at d1; exact d1.symm
      rw [if_pos d1] at hj
      simp only [n1, n2, n3, n4, hi, hk, go_sem, ↓reduceIte, Nat.reduceEqDiff, Nat.reduceBEq, Nat.reduceAdd, Nat.reduceLeDiff, Nat.reduceLT, reduceCtorEq, Nat.reduceMul, Nat.reduceSub, Int.reduceEq, Int.reduceLT, Int.reduceLE, Int.reduceToNat]
      refine cdK_of (fun d2 => ?_) (fun d2 => ?_)
      · have e : getV v k = none := by
          unfold getV
          rw [if_pos c, hj.2.2, if_pos (by omega), List.getElem?_eq_none (by simp at d2; omega)]
        rw [e]
        simp only [go_sem, ↓reduceIte, Nat.reduceEqDiff, Nat.reduceBEq, Nat.reduceAdd, Nat.reduceLeDiff, Nat.reduceLT, reduceCtorEq, Nat.reduceMul, Nat.reduceSub, Int.reduceEq, Int.reduceLT, Int.reduceLE, Int.reduceToNat]
      · have d2 : j < v.items.length := by simp at d2; omega
        obtain ⟨x, ex⟩ : ∃ x, v.items[j]? = some x := ⟨v.items[j], by simp [d2]⟩
        have e : getV v k = some x := by
          unfold getV
          rw [if_pos c, hj.2.2, if_pos (by omega), Int.toNat_natCast, ex]
        rw [e]
        have hx := hv.x (List.mem_of_getElem? ex)
        simp only [n1, n2, n3, n4, hi, hk, d2, getK_s (mapC_get valC ex), go_sem, ↓reduceIte, Nat.reduceEqDiff, Nat.reduceBEq, Nat.reduceAdd, Nat.reduceLeDiff, Nat.reduceLT, reduceCtorEq, Nat.reduceMul, Nat.reduceSub, Int.reduceEq, Int.reduceLT, Int.reduceLE, Int.reduceToNat]
        refine vcCall.f (rcopy_ok x hx _ _) ?_
        simp only [go_sem, ↓reduceIte, Nat.reduceEqDiff, Nat.reduceBEq, Nat.reduceAdd, Nat.reduceLeDiff, Nat.reduceLT, reduceCtorEq, Nat.reduceMul, Nat.reduceSub, Int.reduceEq, Int.reduceLT, Int.reduceLE, Int.reduceToNat]
    · have d1 : ¬ k = y := by simp at d1; exact fun e => d1 e.symm
      rw [if_neg d1] at hj
      simp only [go_sem, ↓reduceIte, Nat.reduceEqDiff, Nat.reduceBEq, Nat.reduceAdd, Nat.reduceLeDiff, Nat.reduceLT, reduceCtorEq, Nat.reduceMul, Nat.reduceSub, Int.reduceEq, Int.reduceLT, Int.reduceLE, Int.reduceToNat]
      refine ⟨(j + 1, n), by dsimp only; omega, by dsimp only; omega, weak_ok ?_ (Sub.refl _) (Nat.le_refl _)⟩
      simp only [wr64s j (by omega), go_sem, ↓reduceIte, Nat.reduceEqDiff, Nat.reduceBEq, Nat.reduceAdd, Nat.reduceLeDiff, Nat.reduceLT, reduceCtorEq, Nat.reduceMul, Nat.reduceSub, Int.reduceEq, Int.reduceLT, Int.reduceLE, Int.reduceToNat]
  · have d : j = v.keys.length := by simp at d; omega
    subst d
    rw [List.drop_length, ix] at hj
    have e : getV v k = none := by
      unfold getV
      rw [if_pos c, hj.2.2, if_neg (by omega)]
    rw [e]
    simp only [go_sem, ↓reduceIte, Nat.reduceEqDiff, Nat.reduceBEq, Nat.reduceAdd, Nat.reduceLeDiff, Nat.reduceLT, reduceCtorEq, Nat.reduceMul, Nat.reduceSub, Int.reduceEq, Int.reduceLT, Int.reduceLE, Int.reduceToNat]
theorem getV_some (v : Val) (k : ByteArray) (h6 : v.k = 6) (hl : v.keys.length = v.items.length) : (getV v k).isSome = decide (0 ≤ ix k v.keys 0) := by
  unfold getV
  rw [if_pos h6]
  have := ix_lt k v.keys 0
  by_cases h : 0 ≤ ix k v.keys 0
  · rw [if_pos h, List.getElem?_eq_getElem (by omega)]
    simp [h]
  · rw [if_neg h]
    simp [h]
theorem add2_ok (v d : Val) (hv : v.Fit) (hd : d.Fit) (h6 : v.k = 6) (hd6 : d.k = 6) (hl : v.keys.length = v.items.length) (hi : (v.items.length + d.items.length) * 80 ≤ 140737488355327) (hk : (v.keys.length + d.keys.length) * 16 ≤ 140737488355327) (hp : CH) (m : Nat) : MeetsF Try.prog 79 hp m [vx v, vx d] (resE (addV v d)) := by
  refine meetsF Try.func79 (by kernel_rfl) cc79 cr79 rfl fun hf => ?_; unfold ck79
  rw [addV, if_pos ⟨h6, hd6⟩]
  simp only [go_sem, ↓reduceIte, Nat.reduceEqDiff, Nat.reduceBEq, Nat.reduceAdd, Nat.reduceLeDiff, Nat.reduceLT, reduceCtorEq, Nat.reduceMul, Nat.reduceSub, Int.reduceEq, Int.reduceLT, Int.reduceLE, Int.reduceToNat]
  refine vcCall.x (rcopy_r v hv _ _) ?_
  simp only [go_sem, ↓reduceIte, Nat.reduceEqDiff, Nat.reduceBEq, Nat.reduceAdd, Nat.reduceLeDiff, Nat.reduceLT, reduceCtorEq, Nat.reduceMul, Nat.reduceSub, Int.reduceEq, Int.reduceLT, Int.reduceLE, Int.reduceToNat]
  refine loop (fun p : Nat × (List ByteArray × List Val) × Nat => ⟨[(3, .bx (m + 1) 0), (4, .bx (m + 2) 0), (6, .bx (m + 5) 0), (7, .i .i64 p.1)],
      (m + 5, .bx [.i .i64 v.k, .i .i64 v.n, .s v.s, .rw (m + 3) p.1 p.2.1.2.length, .rw (m + 4) p.1 p.2.1.1.length]) :: (m + 3, .rw p.1 5 (mapC valC p.2.1.2)) :: (m + 4, .rw p.1 1 (stC p.2.1.1)) :: (m + 2, .bx [.i .i64 0, .i .i64 0, .s ⟨#[]⟩, .e0, .e0]) ::
      (m + 1, .bx [.i .i64 d.k, .i .i64 d.n, .s d.s, .ds (mapC valC d.items), .ds (stC d.keys)]) :: hp, p.2.2⟩)
    (fun p => p.1 ≤ d.keys.length ∧ p.1 ≤ d.items.length ∧ p.2.1.2.length = v.items.length + p.1 ∧ p.2.1.1.length = v.keys.length + p.1 ∧ m + 6 ≤ p.2.2 ∧ (∀ x ∈ p.2.1.2, x.Fit) ∧ adL d.keys d.items v.keys v.items = adL (d.keys.drop p.1) (d.items.drop p.1) p.2.1.1 p.2.1.2)
    (fun p => d.keys.length - p.1) (0, (v.keys, v.items), m + 6) ?_ ?_ (fun ⟨j, ⟨ks, is⟩, n⟩ hj => ?_)
  · exact ⟨by simp, by simp, by simp, by simp, by simp, fun x hx => hv.x hx, rfl⟩
  · refine weak_ok ?_ (Sub.cons ?_ (Sub.cons ?_ (Sub.cons ?_ (Sub.cons ?_ (Sub.cons ?_ (Sub.base hf ?_)))))) (Nat.le_refl _)
    all_goals simp only [go_sem, ↓reduceIte, Nat.reduceEqDiff, Nat.reduceBEq, Nat.reduceAdd, Nat.reduceLeDiff, Nat.reduceLT, reduceCtorEq, Nat.reduceMul, Nat.reduceSub, Int.reduceEq, Int.reduceLT, Int.reduceLE, Int.reduceToNat]
  dsimp only at hj
  obtain ⟨hj1, hj2, hj3, hj4, hj5, hj7, hj6⟩ := hj
  simp only [go_sem, ↓reduceIte, Nat.reduceEqDiff, Nat.reduceBEq, Nat.reduceAdd, Nat.reduceLeDiff, Nat.reduceLT, reduceCtorEq, Nat.reduceMul, Nat.reduceSub, Int.reduceEq, Int.reduceLT, Int.reduceLE, Int.reduceToNat]
  refine cdK_of (fun q => ?_) (fun q => ?_)
  · simp at q
    obtain ⟨q2, q1⟩ := q
    obtain ⟨y, ey⟩ : ∃ y, d.keys[j]? = some y := ⟨d.keys[j], by simp [q1]⟩
    obtain ⟨x, ex⟩ : ∃ x, d.items[j]? = some x := ⟨d.items[j], by simp [q2]⟩
    have hx := hd.x (List.mem_of_getElem? ex)
    rw [drop_at ey, drop_at ex, adL] at hj6
    simp only [q1, q2, getK_s (mapC_get valC ex), getK_s (mapC_get st1 ey), go_sem, ↓reduceIte, Nat.reduceEqDiff, Nat.reduceBEq, Nat.reduceAdd, Nat.reduceLeDiff, Nat.reduceLT, reduceCtorEq, Nat.reduceMul, Nat.reduceSub, Int.reduceEq, Int.reduceLT, Int.reduceLE, Int.reduceToNat]
    have hw : (Val.mk v.k v.n v.s is ks).Fit := .mk _ (by simp only [Val.items_mk]; omega) (by simp only [Val.keys_mk]; omega) (by simpa only [Val.items_mk] using hj7)
    have hg := getV_some (Val.mk v.k v.n v.s is ks) y h6 (by simp only [Val.items_mk, Val.keys_mk]; omega)
    simp only [Val.keys_mk] at hg
    refine dCallR.f (fun _ hp' hh => rget_r (Val.mk v.k v.n v.s is ks) hw y (m + 3) j (m + 4) j is.length ks.length rfl rfl _ _ ((hh _ (.inl (by omega))).trans (by simp only [go_sem, ↓reduceIte, Nat.reduceEqDiff, Nat.reduceBEq, Nat.reduceAdd, Nat.reduceLeDiff, Nat.reduceLT, reduceCtorEq, Nat.reduceMul, Nat.reduceSub, Int.reduceEq, Int.reduceLT, Int.reduceLE, Int.reduceToNat])) ((hh _ (.inl (by omega))).trans (by simp only [go_sem, ↓reduceIte, Nat.reduceEqDiff, Nat.reduceBEq, Nat.reduceAdd, Nat.reduceLeDiff, Nat.reduceLT, reduceCtorEq, Nat.reduceMul, Nat.reduceSub, Int.reduceEq, Int.reduceLT, Int.reduceLE, Int.reduceToNat]))) ?_
    have z6 : m ≤ n + 10 := by omega
    have z1 : ¬ n + 10 = m + 1 := by omega
    have z2 : ¬ n + 10 = m + 2 := by omega
    have z3 : ¬ n + 10 = m + 3 := by omega
    have z4 : ¬ n + 10 = m + 4 := by omega
    have z5 : ¬ n + 10 = m + 5 := by omega
    simp only [hg, go_sem, ↓reduceIte, Nat.reduceEqDiff, Nat.reduceBEq, Nat.reduceAdd, Nat.reduceLeDiff, Nat.reduceLT, reduceCtorEq, Nat.reduceMul, Nat.reduceSub, Int.reduceEq, Int.reduceLT, Int.reduceLE, Int.reduceToNat]
    refine ⟨⟨by omega, by omega⟩, ?_⟩
    refine cdK_of (fun q3 => ?_) (fun q3 => ?_)
    · have q3 : 0 ≤ ix y ks 0 := of_decide_eq_true q3
      rw [hj6, if_pos q3, adR]
      simp only [z1, z2, z3, z4, z5, z6, go_sem, ↓reduceIte, Nat.reduceEqDiff, Nat.reduceBEq, Nat.reduceAdd, Nat.reduceLeDiff, Nat.reduceLT, reduceCtorEq, Nat.reduceMul, Nat.reduceSub, Int.reduceEq, Int.reduceLT, Int.reduceLE, Int.reduceToNat]
    · have q3 : ¬ 0 ≤ ix y ks 0 := of_decide_eq_false q3
      rw [if_neg q3] at hj6
      simp only [z1, z2, z3, z4, z5, z6, q1, q2, getK_s (mapC_get valC ex), getK_s (mapC_get st1 ey), go_sem, ↓reduceIte, Nat.reduceEqDiff, Nat.reduceBEq, Nat.reduceAdd, Nat.reduceLeDiff, Nat.reduceLT, reduceCtorEq, Nat.reduceMul, Nat.reduceSub, Int.reduceEq, Int.reduceLT, Int.reduceLE, Int.reduceToNat]
      refine ⟨⟨by omega, by omega⟩, ?_⟩
      refine dCallR.f (fun _ _ _ => rcopy_ok x hx _ _) ?_
      simp only [z1, z2, z3, z4, z5, z6, q1, q2, go_sem, ↓reduceIte, Nat.reduceEqDiff, Nat.reduceBEq, Nat.reduceAdd, Nat.reduceLeDiff, Nat.reduceLT, reduceCtorEq, Nat.reduceMul, Nat.reduceSub, Int.reduceEq, Int.reduceLT, Int.reduceLE, Int.reduceToNat]
      refine ⟨⟨by omega, by omega⟩, (j + 1, (ks ++ [y], is ++ [x]), _), ?_, ?_, weak_ok ?_ (Sub.cons ?_ (Sub.cons ?_ (Sub.cons ?_ (Sub.cons ?_ (Sub.cons ?_ (Sub.base hf ?_)))))) (Nat.le_refl _)⟩
      · refine ⟨by dsimp only; omega, by dsimp only; omega, by dsimp only; simp; omega, by dsimp only; simp; omega, by dsimp only; omega, ?_, hj6⟩
        intro z hz
        rcases List.mem_append.1 hz with hz | hz
        · exact hj7 z hz
        · simp at hz; subst hz; exact hx
      · dsimp only; omega
      all_goals
        simp only [z1, z2, z3, z4, z5, z6, wr64s j (by omega), List.length_append, go_sem, ↓reduceIte, Nat.reduceEqDiff, Nat.reduceBEq, Nat.reduceAdd, Nat.reduceLeDiff, Nat.reduceLT, reduceCtorEq, Nat.reduceMul, Nat.reduceSub, Int.reduceEq, Int.reduceLT, Int.reduceLE, Int.reduceToNat]
  · have e : adL (d.keys.drop j) (d.items.drop j) ks is = some (ks, is) := by
      simp at q
      rcases Nat.lt_or_ge j d.keys.length with q1 | q1
      · obtain ⟨y, ey⟩ : ∃ y, d.keys[j]? = some y := ⟨d.keys[j], by simp [q1]⟩
        have e3 : d.items.drop j = [] := List.drop_eq_nil_of_le (by omega)
        rw [drop_at ey, e3, adL]
      · rw [List.drop_eq_nil_of_le q1, adL]
    rw [hj6, e, adR]
    simp only [go_sem, ↓reduceIte, Nat.reduceEqDiff, Nat.reduceBEq, Nat.reduceAdd, Nat.reduceLeDiff, Nat.reduceLT, reduceCtorEq, Nat.reduceMul, Nat.reduceSub, Int.reduceEq, Int.reduceLT, Int.reduceLE, Int.reduceToNat]
end Go.Proofs.Ytmcgjccheehehaa
