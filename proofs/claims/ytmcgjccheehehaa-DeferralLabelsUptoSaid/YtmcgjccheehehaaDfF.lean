/-
  Patches are merged. Conditions: none.
-/
import Derived.Test.YtmcgjccheehehaaDfE
namespace Go.Proofs.Ytmcgjccheehehaa
open Go.Eng
set_option linter.unusedVariables false
set_option linter.unusedSimpArgs false
set_option maxRecDepth 20000
theorem apply2_ok (d : Val) (hpd : prd d = true) : ∀ (p : List Val) (v : Val), prd v = true → wtV v + wtV d ≤ 1000000000000 → ∀ hp m, MeetsF Try.prog 50 hp m [vx v, .ds (mapC valC p), vx d] (resE (apV d p v))
  | s :: p, v, hpv, hw, hp, m => apply2_of d s p hpd (apply2_ok d hpd p) v hpv hw hp m
  | [], v, hpv, hw, hp, m => by
    have hv := wtV_fit v (by omega)
    have hd := wtV_fit d (by omega)
    have w1 := wtV_eq v
    have w2 := wtV_eq d
    have w3 := wtL_len v.items
    have w4 := wtL_len d.items
    obtain ⟨R, hR⟩ : ∃ R, addV v d = R := ⟨_, rfl⟩
    rw [apV, hR]
    have h0 : v.k = 6 → d.k = 6 → ∀ hp m, MeetsF Try.prog 79 hp m [vx v, vx d] (resE R) := fun a b hp m => by
      rw [← hR]
      exact add2_ok v d hv hd a b (prd_len hpv a) (by omega) (by omega) hp m
    rw [addV] at hR
    refine meetsF Try.func50 (by kernel_rfl) cc50 cr50 rfl fun hf => ?_; unfold ck50
    simp only [go_sem, ↓reduceIte, Nat.reduceEqDiff, Nat.reduceBEq, Nat.reduceAdd, Nat.reduceLeDiff, Nat.reduceLT, reduceCtorEq, Nat.reduceMul, Nat.reduceSub, Int.reduceEq, Int.reduceLT, Int.reduceLE, Int.reduceToNat]
    refine cdK_of (fun c => ?_) (fun c => ?_)
    · have c : d.k = 0 := by simpa using c
      rw [if_neg (fun h => by omega), if_pos c] at hR
      subst hR
      simp only [go_sem, ↓reduceIte, Nat.reduceEqDiff, Nat.reduceBEq, Nat.reduceAdd, Nat.reduceLeDiff, Nat.reduceLT, reduceCtorEq, Nat.reduceMul, Nat.reduceSub, Int.reduceEq, Int.reduceLT, Int.reduceLE, Int.reduceToNat]
      refine vcCall.f (rcopy_ok v hv _ _) ?_
      simp only [go_sem, ↓reduceIte, Nat.reduceEqDiff, Nat.reduceBEq, Nat.reduceAdd, Nat.reduceLeDiff, Nat.reduceLT, reduceCtorEq, Nat.reduceMul, Nat.reduceSub, Int.reduceEq, Int.reduceLT, Int.reduceLE, Int.reduceToNat]
    · have c : ¬ d.k = 0 := by simpa using c
      simp only [go_sem, ↓reduceIte, Nat.reduceEqDiff, Nat.reduceBEq, Nat.reduceAdd, Nat.reduceLeDiff, Nat.reduceLT, reduceCtorEq, Nat.reduceMul, Nat.reduceSub, Int.reduceEq, Int.reduceLT, Int.reduceLE, Int.reduceToNat]
      refine cdK_of (fun q => ?_) (fun q => ?_)
      · have q : ¬ (v.k = 6 ∧ d.k = 6) := fun h => by simp [h.1, h.2] at q
        rw [if_neg q, if_neg c] at hR
        subst hR
        simp only [go_sem, ↓reduceIte, Nat.reduceEqDiff, Nat.reduceBEq, Nat.reduceAdd, Nat.reduceLeDiff, Nat.reduceLT, reduceCtorEq, Nat.reduceMul, Nat.reduceSub, Int.reduceEq, Int.reduceLT, Int.reduceLE, Int.reduceToNat]
      · have q : v.k = 6 ∧ d.k = 6 := by simpa using q
        simp only [go_sem, ↓reduceIte, Nat.reduceEqDiff, Nat.reduceBEq, Nat.reduceAdd, Nat.reduceLeDiff, Nat.reduceLT, reduceCtorEq, Nat.reduceMul, Nat.reduceSub, Int.reduceEq, Int.reduceLT, Int.reduceLE, Int.reduceToNat]
        refine vcCall.f (h0 q.1 q.2 _ _) ?_
        simp only [go_sem, ↓reduceIte, Nat.reduceEqDiff, Nat.reduceBEq, Nat.reduceAdd, Nat.reduceLeDiff, Nat.reduceLT, reduceCtorEq, Nat.reduceMul, Nat.reduceSub, Int.reduceEq, Int.reduceLT, Int.reduceLE, Int.reduceToNat]
/-- What an addition of fields yields. -/
theorem adL_spec : ∀ (l : List ByteArray) (r : List Val) (ks : List ByteArray) (is : List Val) (ks' : List ByteArray) (is' : List Val), adL l r ks is = some (ks', is') →
    wtL is' ≤ wtL is + wtL r ∧ ks'.length ≤ ks.length + l.length ∧ ks'.length + is.length = ks.length + is'.length ∧ ((∀ x ∈ is, prd x = true) → (∀ x ∈ r, prd x = true) → ∀ x ∈ is', prd x = true)
  | [], r, ks, is, ks', is', h => by
    rw [adL] at h
    cases h
    exact ⟨by omega, by omega, by omega, fun a _ => a⟩
  | k :: l, [], ks, is, ks', is', h => by
    rw [adL] at h
    cases h
    exact ⟨by omega, by omega, by omega, fun a _ => a⟩
  | k :: l, x :: r, ks, is, ks', is', h => by
    rw [adL] at h
    split at h
    · cases h
    · obtain ⟨h1, h2, h3, h4⟩ := adL_spec l r _ _ _ _ h
      rw [wtL_app, wtL, wtL] at h1
      simp only [List.length_append, List.length_cons, List.length_nil] at h2 h3
      refine ⟨by rw [wtL]; omega, by simp; omega, by omega, fun a b => h4 (fun y hy => ?_) (fun y hy => b y (by simp [hy]))⟩
      rcases List.mem_append.1 hy with hy | hy
      · exact a y hy
      · simp at hy; subst hy; exact b _ (by simp)
theorem wtL_set (y : Val) : ∀ (l : List Val) (i : Nat) (x : Val), l[i]? = some x → wtL (l.set i y) + wtV x = wtL l + wtV y
  | z :: l, 0, x, h => by
    simp at h
    subst h
    rw [List.set_cons_zero, wtL, wtL]
    omega
  | z :: l, i + 1, x, h => by
    have := wtL_set y l i x (by simpa using h)
    rw [List.set_cons_succ, wtL, wtL]
    omega
theorem addV_spec (v d : Val) (h : (addV v d).2 = 0) : wtV (addV v d).1 ≤ wtV v + wtV d ∧ (prd v = true → prd d = true → prd (addV v d).1 = true) := by
  rw [addV] at h ⊢
  by_cases c : v.k = 6 ∧ d.k = 6
  · rw [if_pos c] at h ⊢
    cases e : adL d.keys d.items v.keys v.items with
    | none => rw [e, adR] at h; exact absurd h (by decide)
    | some o =>
      obtain ⟨ks, is⟩ := o
      obtain ⟨h1, h2, h3, h4⟩ := adL_spec _ _ _ _ _ _ e
      rw [adR]
      refine ⟨?_, fun a b => ?_⟩
      · rw [wtV_eq v, wtV_eq d, wtV_eq]
        simp only [Val.items_mk, Val.keys_mk]
        omega
      · have q := prd_len a c.1
        rw [prd_eq]
        simp only [Val.items_mk, Val.keys_mk, Val.k_mk, Bool.and_eq_true]
        refine ⟨?_, (prdL_all _).2 (h4 (fun x hx => prd_x a hx) (fun x hx => prd_x b hx))⟩
        have : ks.length = is.length := by omega
        simp [this]
  · rw [if_neg c] at h ⊢
    by_cases c2 : d.k = 0
    · rw [if_pos c2] at h ⊢
      exact ⟨by dsimp only; omega, fun a _ => a⟩
    · rw [if_neg c2] at h
      exact absurd h (by decide)
theorem apV_spec (d : Val) : ∀ (p : List Val) (v : Val), (apV d p v).2 = 0 → wtV (apV d p v).1 ≤ wtV v + wtV d ∧ (prd v = true → prd d = true → prd (apV d p v).1 = true)
  | [], v, h => by
    rw [apV] at h ⊢
    exact addV_spec v d h
  | s :: p, v, h => by
    rw [apV] at h ⊢
    by_cases c : p.length = 0 ∧ s.k = 2 ∧ v.k = 5 ∧ s.n = v.items.length
    · rw [if_pos c] at h ⊢
      refine ⟨?_, fun a b => ?_⟩
      · rw [wtV_eq v, wtV_eq (Val.mk v.k v.n v.s (v.items ++ [d]) v.keys)]
        simp only [Val.items_mk, Val.keys_mk]
        rw [wtL_app, wtL, wtL]
        omega
      · rw [prd_eq]
        simp only [Val.items_mk, Val.keys_mk, Val.k_mk, Bool.and_eq_true]
        refine ⟨by simp [c.2.2.1], (prdL_all _).2 fun x hx => ?_⟩
        rcases List.mem_append.1 hx with hx | hx
        · exact prd_x a hx
        · simp at hx; subst hx; exact b
    · rw [if_neg c] at h ⊢
      by_cases c1 : stp v s < 0
      · rw [if_pos c1] at h
        exact absurd h (by decide)
      rw [if_neg c1] at h ⊢
      cases ex : v.items[(stp v s).toNat]? with
      | none => rw [ex] at h; exact absurd (show (8 : Int) = 0 from h) (by decide)
      | some x =>
        rw [ex] at h
        simp only at h ⊢
        by_cases c2 : (apV d p x).2 = 0
        · rw [if_pos c2] at h ⊢
          obtain ⟨i1, i2⟩ := apV_spec d p x c2
          have hs := wtL_set (apV d p x).1 v.items _ x ex
          refine ⟨?_, fun a b => ?_⟩
          · rw [wtV_eq v, wtV_eq (Val.mk v.k v.n v.s _ v.keys)]
            simp only [Val.items_mk, Val.keys_mk]
            omega
          · have hx := i2 (prd_x a (List.mem_of_getElem? ex)) b
            rw [prd_eq] at a ⊢
            simp only [Bool.and_eq_true] at a
            simp only [Val.items_mk, Val.keys_mk, Val.k_mk, Bool.and_eq_true, List.length_set]
            refine ⟨a.1, (prdL_all _).2 fun y hy => ?_⟩
            rcases List.mem_or_eq_of_mem_set hy with hy | hy
            · exact (prdL_all _).1 a.2 y hy
            · subst hy; exact hx
        · rw [if_neg c2] at h
          exact absurd h c2
end Go.Proofs.Ytmcgjccheehehaa
