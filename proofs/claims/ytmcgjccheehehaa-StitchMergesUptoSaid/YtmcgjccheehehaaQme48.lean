/-
  The parts SaV of the proof, in one file. Conditions: none.
-/
import Derived.Test.YtmcgjccheehehaaQme47
namespace Go.Proofs.Ytmcgjccheehehaa
open Go.Eng
set_option linter.unusedVariables false
set_option linter.unusedSimpArgs false
set_option maxRecDepth 20000
set_option maxHeartbeats 4000000
theorem sub_c {m c : Nat} {hp X : CH} {C : Chunk} (hf : ∀ k, m ≤ k → gc hp k = .no) (h1 : gc X c = C) (h2 : ∀ k, k < m → ¬ c = k → gc X k = gc hp k) : Sub X ((c, C) :: hp) := fun j => by
  by_cases q : c = j
  · subst q; left; rw [gc_cons_same, h1]
  · rw [gc_cons_ne q]
    rcases Nat.lt_or_ge j m with r | r
    · left; rw [h2 j r q]
    · right; rw [hf j r]
theorem up_c {m c : Nat} {hp X : CH} {C : Chunk} (h1 : gc X c = C) (h2 : ∀ k, k < m → ¬ c = k → gc X k = gc hp k) : Up m ((c, C) :: hp) X := fun j hj => by
  by_cases q : c = j
  · subst q; rw [gc_cons_same, h1]
  · rw [gc_cons_ne q, h2 j hj q]
theorem subG_c {n m c : Nat} {h0 hp X : CH} {C : Chunk} (hf : ∀ k, m ≤ k → gc hp k = .no) (hm : m ≤ n) (hc : c < m) (hC : C.und n) (h1 : gc X c = C) (h2 : ∀ k, k < m → ¬ c = k → gc X k = gc hp k) (h3 : ∀ k, k < m → ¬ c = k → gc h0 k = gc hp k) : SubG n h0 X ((c, C) :: hp) := fun j => by
  by_cases q : c = j
  · subst q; right; rw [gc_cons_same]; exact ⟨h1, by omega, .inl hC⟩
  · rw [gc_cons_ne q]
    rcases Nat.lt_or_ge j m with r | r
    · exact .inr ⟨h2 j r q, by omega, .inr (h3 j r q).symm⟩
    · left; rw [hf j r]
theorem mgSt_snd (f : Fet) (v : Val) (s : List Val) (hb : ∀ x ∈ s, wtV x ≤ 100000000000) : ∀ x ∈ (mgSt f v s).2, wtV x ≤ 100000000000 := by
  unfold mgSt
  split
  · split
    · exact hb
    · exact fun x hx => hb x (List.mem_of_mem_drop hx)
  · exact hb
theorem chg_mg (f : Fet) (v : Val) : ∀ (p : List Hop) (s : List Val), (∀ x ∈ s, wtV x ≤ 100000000000) → ∀ x ∈ (chg (mgSt f) p v s).2, wtV x ≤ 100000000000 :=
  Val.ind (Q := fun v => ∀ (p : List Hop) (s : List Val), (∀ x ∈ s, wtV x ≤ 100000000000) → ∀ x ∈ (chg (mgSt f) p v s).2, wtV x ≤ 100000000000) (fun v ih p s hb => by
    have hL : ∀ (l : List Val), (∀ x ∈ l, x ∈ v.items) → ∀ s, (∀ x ∈ s, wtV x ≤ 100000000000) → ∀ x ∈ (chgL (mgSt f) p l s).2, wtV x ≤ 100000000000 := by
      intro l
      induction l with
      | nil => intro _ s hb; rw [chgL]; exact hb
      | cons y l ihl =>
        intro hm s hb
        rw [chgL]
        exact ihl (fun x hx => hm x (by simp [hx])) _ (ih y (hm y (by simp)) p s hb)
    rw [chg_eq]
    split
    · exact hL v.items (fun x hx => hx) s hb
    · split
      · split
        · exact mgSt_snd f v s hb
        · rename_i h p'
          split
          · rename_i hc
            obtain ⟨x, ex⟩ := ixO_at hc.2
            rw [chgN_at _ p' _ _ _ s ex]
            exact ih x (List.mem_of_getElem? ex) p' s hb
          · exact hb
      · exact hb) v
theorem ix_first (k : ByteArray) : ∀ (l : List ByteArray) (j i : Nat), l[i]? = some k → 0 ≤ ix k l j ∧ ix k l j ≤ (j + i : Nat)
  | [], j, i, h => by simp at h
  | x :: r, j, 0, h => by
    simp at h
    unfold ix
    rw [if_pos h.symm]
    omega
  | x :: r, j, i + 1, h => by
    have := ix_first k r (j + 1) i (by simpa using h)
    unfold ix
    split <;> omega
theorem ix_at (k : ByteArray) : ∀ (l : List ByteArray) (j : Nat), 0 ≤ ix k l j → l[(ix k l j - j).toNat]? = some k
  | [], j, h => by simp [ix] at h
  | x :: r, j, h => by
    unfold ix at h ⊢
    split
    · rename_i q
      rw [Int.sub_self, q]
      rfl
    · rename_i q
      rw [if_neg q] at h
      have h1 := ix_at k r (j + 1) h
      have h2 := ix_lt k r (j + 1)
      obtain ⟨z, hz⟩ : ∃ z : Nat, ix k r (j + 1) = (j + 1 + z : Nat) := ⟨(ix k r (j + 1) - (j + 1 : Nat)).toNat, by omega⟩
      rw [hz] at h1 ⊢
      rw [show (((j + 1 + z : Nat) : Int) - ((j + 1 : Nat) : Int)).toNat = z by omega] at h1
      rw [show (((j + 1 + z : Nat) : Int) - (j : Int)).toNat = z + 1 by omega, List.getElem?_cons_succ, h1]
theorem ixO_first {v : Val} {k : ByteArray} {i : Nat} (h : v.keys[i]? = some k) (hi : i < v.items.length) : 0 ≤ ixO v k ∧ ixO v k ≤ i := by
  have h1 := (List.getElem?_eq_some_iff.1 h).1
  have := ix_first k (v.keys.take (szO v)) 0 i (by rw [List.getElem?_take, if_pos (by unfold szO; omega), h])
  rw [Nat.zero_add] at this
  exact this
theorem ixO_key {v : Val} {k : ByteArray} (h : 0 ≤ ixO v k) : v.keys[(ixO v k).toNat]? = some k := by
  have := ix_at k (v.keys.take (szO v)) 0 h
  rw [Int.ofNat_zero, Int.sub_zero, List.getElem?_take] at this
  split at this
  · exact this
  · cases this
theorem at_of (f : Fet) (c : Nat) (hpk : wtKs f.pk ≤ 100000000) (hk : f.ks.length * 80 ≤ 100000000000000) (hs : ∀ s ∈ f.ks, s.size ≤ 100000000000000) (v : Val) (hw : wtV v ≤ 100000000000)
    (ih : ∀ x ∈ v.items, ∀ (p : List Hop) (s : List Val), p.length ≤ 1000000000 → (∀ x ∈ s, wtV x ≤ 100000000000) → ∀ (hp : CH) (m : Nat), c < m → gc hp c = wkC f s →
      MeetsX Try.prog 65 hp m [.bx c 0, .ds (mapC hopC p), vx x] ((c, wkC f (chg (mgSt f) p x s).2) :: hp) m (vx (chg (mgSt f) p x s).1))
    (p : List Hop) (s : List Val) (hpl : p.length ≤ 1000000000) (hb : ∀ x ∈ s, wtV x ≤ 100000000000) (hp : CH) (m : Nat) (hc1 : c < m) (hc2 : gc hp c = wkC f s) :
    MeetsX Try.prog 65 hp m [.bx c 0, .ds (mapC hopC p), vx v] ((c, wkC f (chg (mgSt f) p v s).2) :: hp) m (vx (chg (mgSt f) p v s).1) := by
  have hv : v.Fit := wtV_fit v (by omega)
  have lv : v.items.length ≤ 100000000000 := by have := wtL_len v.items; have := wtV_eq v; omega
  have e := chg_eq (mgSt f) p v s
  obtain ⟨R, hR⟩ : ∃ R, chg (mgSt f) p v s = R := ⟨_, rfl⟩
  rw [hR] at e ⊢
  refine meetsWs (ws := [(c, wkC f R.2)]) Try.func65 (by kernel_rfl) cc65 cr65 rfl (fun k h => ?_) (fun hp k h => ?_) fun hf => ?_
  · simp only [keys, List.map_cons, List.map_nil, List.mem_cons, List.not_mem_nil, or_false] at h
    rw [h]
    exact hc1
  · simp only [keys, List.map_cons, List.map_nil, List.mem_cons, List.not_mem_nil, or_false] at h
    subst h
    rw [List.cons_append, gc_cons_same]
    exact cOk_lt1 (ks := [k]) (by simp; omega) (by simp [cOk, asOk, aOk, AV.pur])
  unfold ck65
  rw [List.cons_append, List.nil_append]
  have ac : ∀ i, ¬ m + i = c := fun i => by omega
  have bc : ∀ i, ¬ c = m + i := fun i => by omega
  have ac0 : ¬ m = c := by omega
  have bc0 : ¬ c = m := by omega
  have hc3 : ∀ i, c < m + i := fun i => by omega
  have upS : Up m ((c, wkC f s) :: hp) hp := up_c hc2 fun _ _ _ => rfl
  simp only [ac, bc, ac0, bc0, go_sem, ↓reduceIte, Nat.reduceEqDiff, Nat.reduceBEq, Nat.reduceAdd, Nat.reduceLeDiff, Nat.reduceLT, reduceCtorEq, Nat.reduceMul, Nat.reduceSub, Int.reduceEq, Int.reduceLT, Int.reduceLE, Int.reduceToNat]
  refine cdK_of (fun d0 => ?_) (fun d0 => ?_)
  · have d0 : v.k = 5 := by simpa using d0
    rw [if_pos d0] at e
    simp only [ac, bc, ac0, bc0, go_sem, ↓reduceIte, Nat.reduceEqDiff, Nat.reduceBEq, Nat.reduceAdd, Nat.reduceLeDiff, Nat.reduceLT, reduceCtorEq, Nat.reduceMul, Nat.reduceSub, Int.reduceEq, Int.reduceLT, Int.reduceLE, Int.reduceToNat]
    refine loopg (fun q : Nat × List Val × List Val => ⟨[(0, .bx c 0), (1, .ds (mapC hopC p)), (5, .bx m 0), (6, .bx (m + 1) 0), (7, .bx (m + 2) 0), (8, .i .i64 q.1)],
        (m + 2, .bx [.i .i64 v.k, .i .i64 v.n, .s v.s, .rw (m + 3) q.1 q.1, .ds (stC v.keys)]) :: (m + 3, .rw q.1 5 (mapC valC q.2.1)) ::
        (m + 1, .bx [.i .i64 0, .i .i64 0, .s ⟨#[]⟩, .e0, .e0]) :: (m, .bx [.i .i64 v.k, .i .i64 v.n, .s v.s, .ds (mapC valC v.items), .ds (stC v.keys)]) :: (c, wkC f q.2.2) :: hp, m + 4⟩)
      (fun q => q.1 ≤ v.items.length ∧ q.2.1.length = q.1 ∧ chgL (mgSt f) p (v.items.take q.1) s = (q.2.1, q.2.2) ∧ ∀ x ∈ q.2.2, wtV x ≤ 100000000000) (fun q => v.items.length - q.1) (0, [], s) ?_ ?_ (fun ⟨j, l, t⟩ hj => ?_)
    · exact ⟨Nat.zero_le _, rfl, by simp only [List.take_zero]; rw [chgL], hb⟩
    · refine (weak_b0 (c := m + 2) (i := 3) (m := 5) (cs := [.i .i64 v.k, .i .i64 v.n, .s v.s, .e0, .ds (stC v.keys)]) gc_cons_same rfl).trans (weak_ok ?_ (Sub.cons ?_ (Sub.cons ?_ (Sub.cons ?_ (Sub.cons ?_ (sub_c hf ?_ fun k hk hn => ?_))))) (Nat.le_refl _))
      all_goals first | ((simp only [ac, bc, ac0, bc0, hc2, go_sem, ↓reduceIte, Nat.reduceEqDiff, Nat.reduceBEq, Nat.reduceAdd, Nat.reduceLeDiff, Nat.reduceLT, reduceCtorEq, Nat.reduceMul, Nat.reduceSub, Int.reduceEq, Int.reduceLT, Int.reduceLE, Int.reduceToNat]); done) | ((simp only [ac, bc, ac0, bc0, hc2, go_sem, ↓reduceIte, Nat.reduceEqDiff, Nat.reduceBEq, Nat.reduceAdd, Nat.reduceLeDiff, Nat.reduceLT, reduceCtorEq, Nat.reduceMul, Nat.reduceSub, Int.reduceEq, Int.reduceLT, Int.reduceLE, Int.reduceToNat]); rfl) | (simp only [gc_cons]; repeat rw [if_neg (by omega)]) | trace_state
    dsimp only at hj
    obtain ⟨hj1, hj3, hj4, hj5⟩ := hj
    simp only [ac, bc, ac0, bc0, hj3, go_sem, ↓reduceIte, Nat.reduceEqDiff, Nat.reduceBEq, Nat.reduceAdd, Nat.reduceLeDiff, Nat.reduceLT, reduceCtorEq, Nat.reduceMul, Nat.reduceSub, Int.reduceEq, Int.reduceLT, Int.reduceLE, Int.reduceToNat]
    refine cdK_of (fun d => ?_) (fun d => ?_)
    · have d : j < v.items.length := by simpa using d
      obtain ⟨x, ex⟩ : ∃ x, v.items[j]? = some x := ⟨v.items[j]'(by omega), by simp⟩
      have hxm := List.mem_of_getElem? ex
      have hx := ih x hxm p t hpl hj5
      have hsn := chgL_snoc (mgSt f) p x (v.items.take j) s
      rw [take_snoc ex, hj4] at hsn
      dsimp only at hsn
      have hnext := chg_mg f x p t hj5
      obtain ⟨Y, hY⟩ : ∃ Y, chg (mgSt f) p x t = Y := ⟨_, rfl⟩
      rw [hY] at hsn hx hnext
      have k2 : (j + 1) * 80 ≤ 140737488355328 := by omega
      have k4 : j ≤ 9223372036854775806 := by omega
      have k5 : v.items.length - (j + 1) < v.items.length - j := by omega
      have k6 : j < 9223372036854775807 := by omega
      simp only [ac, bc, ac0, bc0, d, getK_s (mapC_get valC ex), go_sem, ↓reduceIte, Nat.reduceEqDiff, Nat.reduceBEq, Nat.reduceAdd, Nat.reduceLeDiff, Nat.reduceLT, reduceCtorEq, Nat.reduceMul, Nat.reduceSub, Int.reduceEq, Int.reduceLT, Int.reduceLE, Int.reduceToNat]
      refine vcCall.x (hx _ _ (by omega) (by (simp only [ac, bc, ac0, bc0, go_sem, ↓reduceIte, Nat.reduceEqDiff, Nat.reduceBEq, Nat.reduceAdd, Nat.reduceLeDiff, Nat.reduceLT, reduceCtorEq, Nat.reduceMul, Nat.reduceSub, Int.reduceEq, Int.reduceLT, Int.reduceLE, Int.reduceToNat]))) ?_
      simp only [ac, bc, ac0, bc0, d, getK_s (mapC_get valC ex), hj3, k2, k4, go_sem, ↓reduceIte, Nat.reduceEqDiff, Nat.reduceBEq, Nat.reduceAdd, Nat.reduceLeDiff, Nat.reduceLT, reduceCtorEq, Nat.reduceMul, Nat.reduceSub, Int.reduceEq, Int.reduceLT, Int.reduceLE, Int.reduceToNat]
      refine ⟨(j + 1, l ++ [Y.1], Y.2), ⟨d, by simp [hj3], hsn, hnext⟩, k5, weakG_ok ?_ (SubG.cons ?_ ?_ ?_ (SubG.cons ?_ ?_ ?_ (SubG.cons ?_ ?_ ?_ (SubG.cons ?_ ?_ ?_ (subG_c hf ?_ hc1 ?_ ?_ (fun k hk hn => ?_) fun k hk hn => ?_)))))⟩
      all_goals first | ((simp only [ac, bc, ac0, bc0, wr64s j k6, hc3, go_sem, ↓reduceIte, Nat.reduceEqDiff, Nat.reduceBEq, Nat.reduceAdd, Nat.reduceLeDiff, Nat.reduceLT, reduceCtorEq, Nat.reduceMul, Nat.reduceSub, Int.reduceEq, Int.reduceLT, Int.reduceLE, Int.reduceToNat]); done) | (dsimp only; omega) | (simp only [gc_cons]; repeat rw [if_neg (by omega)]) | trace_state
    · have d : j = v.items.length := by simp at d; omega
      subst d
      rw [List.take_length] at hj4
      rw [hj4] at e
      subst e
      have ht : l.take v.items.length = l := List.take_of_length_le (by omega)
      simp only [ac, bc, ac0, bc0, hj3, ht, go_sem, ↓reduceIte, Nat.reduceEqDiff, Nat.reduceBEq, Nat.reduceAdd, Nat.reduceLeDiff, Nat.reduceLT, reduceCtorEq, Nat.reduceMul, Nat.reduceSub, Int.reduceEq, Int.reduceLT, Int.reduceLE, Int.reduceToNat]
  have d0 : ¬ v.k = 5 := by simpa using d0
  rw [if_neg d0] at e
  by_cases d1 : v.k = 6
  · rw [if_pos d1] at e
    have k6 := eq_true d1
    cases p with
    | nil =>
      dsimp only at e
      simp only [ac, bc, ac0, bc0, k6, go_sem, ↓reduceIte, Nat.reduceEqDiff, Nat.reduceBEq, Nat.reduceAdd, Nat.reduceLeDiff, Nat.reduceLT, reduceCtorEq, Nat.reduceMul, Nat.reduceSub, Int.reduceEq, Int.reduceLT, Int.reduceLE, Int.reduceToNat]
      refine dCall.f (fun _ hp' _ => rtypeOf_ok v hv hp' _) ?_
      simp only [ac, bc, ac0, bc0, k6, hc2, go_sem, ↓reduceIte, Nat.reduceEqDiff, Nat.reduceBEq, Nat.reduceAdd, Nat.reduceLeDiff, Nat.reduceLT, reduceCtorEq, Nat.reduceMul, Nat.reduceSub, Int.reduceEq, Int.reduceLT, Int.reduceLE, Int.reduceToNat]
      refine cdK_of (fun d2 => ?_) (fun d2 => ?_)
      · have d2 : typT v = f.t := by simpa using d2
        have ho := one_ok f c hpk hk hs v hv hw d2 s hb
        rw [← e] at ho
        simp only [ac, bc, ac0, bc0, k6, go_sem, ↓reduceIte, Nat.reduceEqDiff, Nat.reduceBEq, Nat.reduceAdd, Nat.reduceLeDiff, Nat.reduceLT, reduceCtorEq, Nat.reduceMul, Nat.reduceSub, Int.reduceEq, Int.reduceLT, Int.reduceLE, Int.reduceToNat]
        refine vcCall.x (ho _ _ (by omega) (by (simp only [ac, bc, ac0, bc0, hc2, go_sem, ↓reduceIte, Nat.reduceEqDiff, Nat.reduceBEq, Nat.reduceAdd, Nat.reduceLeDiff, Nat.reduceLT, reduceCtorEq, Nat.reduceMul, Nat.reduceSub, Int.reduceEq, Int.reduceLT, Int.reduceLE, Int.reduceToNat]))) ?_
        simp only [ac, bc, ac0, bc0, k6, go_sem, ↓reduceIte, Nat.reduceEqDiff, Nat.reduceBEq, Nat.reduceAdd, Nat.reduceLeDiff, Nat.reduceLT, reduceCtorEq, Nat.reduceMul, Nat.reduceSub, Int.reduceEq, Int.reduceLT, Int.reduceLE, Int.reduceToNat]
        refine up_c ?_ fun k hk hn => ?_
        · (simp only [ac, bc, ac0, bc0, go_sem, ↓reduceIte, Nat.reduceEqDiff, Nat.reduceBEq, Nat.reduceAdd, Nat.reduceLeDiff, Nat.reduceLT, reduceCtorEq, Nat.reduceMul, Nat.reduceSub, Int.reduceEq, Int.reduceLT, Int.reduceLE, Int.reduceToNat])
        · simp only [gc_cons]
          repeat rw [if_neg (by omega)]
      · have d2 : ¬ typT v = f.t := by simpa using d2
        rw [mgSt, if_neg d2] at e
        subst e
        simp only [ac, bc, ac0, bc0, k6, d2, List.getElem?_nil, Option.map_none, Option.getD_none, go_sem, ↓reduceIte, Nat.reduceEqDiff, Nat.reduceBEq, Nat.reduceAdd, Nat.reduceLeDiff, Nat.reduceLT, reduceCtorEq, Nat.reduceMul, Nat.reduceSub, Int.reduceEq, Int.reduceLT, Int.reduceLE, Int.reduceToNat]
        refine dCall.f (fun _ hp' _ => rtypeOf_ok v hv hp' _) ?_
        simp only [ac, bc, ac0, bc0, k6, d2, List.getElem?_nil, Option.map_none, Option.getD_none, go_sem, ↓reduceIte, Nat.reduceEqDiff, Nat.reduceBEq, Nat.reduceAdd, Nat.reduceLeDiff, Nat.reduceLT, reduceCtorEq, Nat.reduceMul, Nat.reduceSub, Int.reduceEq, Int.reduceLT, Int.reduceLE, Int.reduceToNat]
        exact upS
    | cons h p' =>
      dsimp only at e
      have hz : (((p'.length + 1 : Nat) : Int) = 0) = False := eq_false (by omega)
      simp only [ac, bc, ac0, bc0, k6, hz, hc2, go_sem, ↓reduceIte, Nat.reduceEqDiff, Nat.reduceBEq, Nat.reduceAdd, Nat.reduceLeDiff, Nat.reduceLT, reduceCtorEq, Nat.reduceMul, Nat.reduceSub, Int.reduceEq, Int.reduceLT, Int.reduceLE, Int.reduceToNat]
      refine dCall.f (fun _ hp' _ => rtypeOf_ok v hv hp' _) ?_
      simp only [ac, bc, ac0, bc0, k6, hz, hc2, go_sem, ↓reduceIte, Nat.reduceEqDiff, Nat.reduceBEq, Nat.reduceAdd, Nat.reduceLeDiff, Nat.reduceLT, reduceCtorEq, Nat.reduceMul, Nat.reduceSub, Int.reduceEq, Int.reduceLT, Int.reduceLE, Int.reduceToNat]
      refine dCall.f (fun _ hp' _ => rtypeOf_ok v hv hp' _) ?_
      simp only [ac, bc, ac0, bc0, k6, hz, hc2, go_sem, ↓reduceIte, Nat.reduceEqDiff, Nat.reduceBEq, Nat.reduceAdd, Nat.reduceLeDiff, Nat.reduceLT, reduceCtorEq, Nat.reduceMul, Nat.reduceSub, Int.reduceEq, Int.reduceLT, Int.reduceLE, Int.reduceToNat]
      refine cdK_of (fun d2 => ?_) (fun d2 => ?_)
      · have d2 : ¬ h.o = typT v := by simpa using d2
        rw [if_neg (fun q => d2 q.1)] at e
        subst e
        simp only [ac, bc, ac0, bc0, k6, hz, go_sem, ↓reduceIte, Nat.reduceEqDiff, Nat.reduceBEq, Nat.reduceAdd, Nat.reduceLeDiff, Nat.reduceLT, reduceCtorEq, Nat.reduceMul, Nat.reduceSub, Int.reduceEq, Int.reduceLT, Int.reduceLE, Int.reduceToNat]
        exact upS
      have d2 : h.o = typT v := by simpa using d2
      simp only [ac, bc, ac0, bc0, k6, hz, hc2, go_sem, ↓reduceIte, Nat.reduceEqDiff, Nat.reduceBEq, Nat.reduceAdd, Nat.reduceLeDiff, Nat.reduceLT, reduceCtorEq, Nat.reduceMul, Nat.reduceSub, Int.reduceEq, Int.reduceLT, Int.reduceLE, Int.reduceToNat]
      obtain ⟨E, hE⟩ : ∃ E, ixO v h.k = E := ⟨_, rfl⟩
      have hE1 : ∀ i, i < v.items.length → v.keys[i]? = some h.k → 0 ≤ E ∧ E ≤ i := fun i hi hq => by rw [← hE]; exact ixO_first hq hi
      have hE2 : 0 ≤ E → v.keys[E.toNat]? = some h.k := fun q => by rw [← hE] at q ⊢; exact ixO_key q
      have hE3 : 0 ≤ E → ∃ x, v.items[E.toNat]? = some x := fun q => by rw [← hE] at q ⊢; exact ixO_at q
      have hpl' : p'.length ≤ 1000000000 := by simp only [List.length_cons] at hpl; omega
      obtain ⟨Y, hY⟩ : ∃ Y : Val × List Val, 0 ≤ E → ∀ x, v.items[E.toNat]? = some x → chg (mgSt f) p' x s = Y := by
        by_cases q : 0 ≤ E
        · obtain ⟨x, ex⟩ := hE3 q
          exact ⟨_, fun _ y ey => by rw [ex] at ey; cases ey; rfl⟩
        · exact ⟨(v, s), fun q' => absurd q' q⟩
      rw [hE] at e
      have e1 : 0 ≤ E → R = (.mk v.k v.n v.s (v.items.set E.toNat Y.1) v.keys, Y.2) := fun q => by
        obtain ⟨x, ex⟩ := hE3 q
        rw [e, if_pos ⟨d2, q⟩, chgN_at _ p' _ _ _ s ex, hY q x ex]
      have e2 : ¬ 0 ≤ E → R = (v, s) := fun q => by rw [e, if_neg (fun q' => q q'.2)]
      refine loopg (fun q : Nat × Bool × List Val × List Val => ⟨[(0, .bx c 0), (1, .ds (mapC hopC (h :: p'))), (5, .bx m 0), (6, .bx (m + 1) 0), (7, .bx (m + 2) 0), (10, .b q.2.1), (11, .i .i64 q.1)],
          (m + 2, .bx [.i .i64 v.k, .i .i64 v.n, .s v.s, .rw (m + 38) q.1 q.1, .ds (stC v.keys)]) :: (m + 38, .rw q.1 5 (mapC valC q.2.2.1)) ::
          (m + 1, .bx [.i .i64 0, .i .i64 0, .s ⟨#[]⟩, .e0, .e0]) :: (m, .bx [.i .i64 v.k, .i .i64 v.n, .s v.s, .ds (mapC valC v.items), .ds (stC v.keys)]) :: (c, wkC f q.2.2.2) :: hp, m + 39⟩)
        (fun q => q.1 ≤ v.items.length ∧ q.2.2.1.length = q.1 ∧ (q.2.1 = false ∧ q.2.2.1 = v.items.take q.1 ∧ q.2.2.2 = s ∧ ¬ (0 ≤ E ∧ E < q.1) ∨ q.2.1 = true ∧ q.2.2.1 = (v.items.take q.1).set E.toNat Y.1 ∧ q.2.2.2 = Y.2 ∧ 0 ≤ E ∧ E < q.1))
        (fun q => v.items.length - q.1) (0, false, [], s) ?_ ?_ (fun ⟨j, b, l, t⟩ hj => ?_)
      · exact ⟨Nat.zero_le _, rfl, .inl ⟨rfl, rfl, rfl, by simp only [Int.ofNat_zero]; omega⟩⟩
      · refine (weak_b0 (c := m + 2) (i := 3) (m := 5) (cs := [.i .i64 v.k, .i .i64 v.n, .s v.s, .e0, .ds (stC v.keys)]) gc_cons_same rfl).trans (weak_ok ?_ (Sub.cons ?_ (Sub.cons ?_ (Sub.cons ?_ (Sub.cons ?_ (sub_c hf ?_ fun k hk hn => ?_))))) (Nat.le_refl _))
        all_goals first | ((simp only [ac, bc, ac0, bc0, hc2, go_sem, ↓reduceIte, Nat.reduceEqDiff, Nat.reduceBEq, Nat.reduceAdd, Nat.reduceLeDiff, Nat.reduceLT, reduceCtorEq, Nat.reduceMul, Nat.reduceSub, Int.reduceEq, Int.reduceLT, Int.reduceLE, Int.reduceToNat]); done) | ((simp only [ac, bc, ac0, bc0, hc2, go_sem, ↓reduceIte, Nat.reduceEqDiff, Nat.reduceBEq, Nat.reduceAdd, Nat.reduceLeDiff, Nat.reduceLT, reduceCtorEq, Nat.reduceMul, Nat.reduceSub, Int.reduceEq, Int.reduceLT, Int.reduceLE, Int.reduceToNat]); rfl) | (simp only [gc_cons]; repeat rw [if_neg (by omega)]) | trace_state
      dsimp only at hj
      obtain ⟨hj1, hj3, hj4⟩ := hj
      by_cases d : j < v.items.length
      · obtain ⟨x, ex⟩ : ∃ x, v.items[j]? = some x := ⟨v.items[j]'(by omega), by simp⟩
        have hxm := List.mem_of_getElem? ex
        have d' := eq_true (show (j : Int) < (v.items.length : Int) by omega)
        have k2 : (j + 1) * 80 ≤ 140737488355328 := by omega
        have k4 : j ≤ 9223372036854775806 := by omega
        have k5 : v.items.length - (j + 1) < v.items.length - j := by omega
        have k6' : j < 9223372036854775807 := by omega
        have ht1 : v.items.take j ++ [x] = v.items.take (j + 1) := take_snoc ex
        have hl1 : (v.items.take j).length = j := by simp; omega
        rcases hj4 with ⟨rfl, rfl, rfl, hn⟩ | ⟨rfl, rfl, rfl, h0, h1⟩
        · by_cases dk : j < v.keys.length
          · obtain ⟨y, ey⟩ : ∃ y, v.keys[j]? = some y := ⟨v.keys[j]'dk, by simp⟩
            have dk' := eq_true (show (j : Int) < (v.keys.length : Int) by omega)
            by_cases dy : y = h.k
            · have hEj : E = j := by
                have := hE1 j d (by rw [ey, dy])
                omega
              have hYx : chg (mgSt f) p' x t = Y := hY (by omega) x (by rw [hEj]; exact ex)
              have hx := ih x hxm p' t hpl' hb
              rw [hYx] at hx
              have hst : (v.items.take (j + 1)).set E.toNat Y.1 = v.items.take j ++ [Y.1] := by
                rw [hEj, Int.toNat_natCast, ← ht1, List.set_append_right _ _ (by omega), hl1]
                simp
              simp only [ac, bc, ac0, bc0, hj3, d, d', dk, dk', getK_s (mapC_get valC ex), mapC_get st1 ey, dy, go_sem, ↓reduceIte, Nat.reduceEqDiff, Nat.reduceBEq, Nat.reduceAdd, Nat.reduceLeDiff, Nat.reduceLT, reduceCtorEq, Nat.reduceMul, Nat.reduceSub, Int.reduceEq, Int.reduceLT, Int.reduceLE, Int.reduceToNat]
              refine ⟨⟨by omega, Int.le_refl _⟩, dCallR.w (ws := [(c, wkC f Y.2)]) ?_ rfl (fun hp' hh => hx hp' _ (by omega) ?_) ?_⟩
              · (simp only [ac, bc, ac0, bc0, hc3, go_sem, ↓reduceIte, Nat.reduceEqDiff, Nat.reduceBEq, Nat.reduceAdd, Nat.reduceLeDiff, Nat.reduceLT, reduceCtorEq, Nat.reduceMul, Nat.reduceSub, Int.reduceEq, Int.reduceLT, Int.reduceLE, Int.reduceToNat])
              · rw [hh c (.inl (by omega))]
                (simp only [ac, bc, ac0, bc0, go_sem, ↓reduceIte, Nat.reduceEqDiff, Nat.reduceBEq, Nat.reduceAdd, Nat.reduceLeDiff, Nat.reduceLT, reduceCtorEq, Nat.reduceMul, Nat.reduceSub, Int.reduceEq, Int.reduceLT, Int.reduceLE, Int.reduceToNat])
              simp only [ac, bc, ac0, bc0, hj3, k2, k4, hl1, go_sem, ↓reduceIte, Nat.reduceEqDiff, Nat.reduceBEq, Nat.reduceAdd, Nat.reduceLeDiff, Nat.reduceLT, reduceCtorEq, Nat.reduceMul, Nat.reduceSub, Int.reduceEq, Int.reduceLT, Int.reduceLE, Int.reduceToNat]
              refine ⟨(j + 1, true, v.items.take j ++ [Y.1], Y.2), ⟨d, by simp [hl1], .inr ⟨rfl, hst.symm, rfl, by omega, by omega⟩⟩, k5, weakG_ok ?_ (SubG.cons ?_ ?_ ?_ (SubG.cons ?_ ?_ ?_ (SubG.cons ?_ ?_ ?_ (SubG.cons ?_ ?_ ?_ (subG_c hf ?_ hc1 ?_ ?_ (fun k hk hn => ?_) fun k hk hn => ?_)))))⟩
              all_goals first | ((simp only [ac, bc, ac0, bc0, wr64s j k6', hc3, go_sem, ↓reduceIte, Nat.reduceEqDiff, Nat.reduceBEq, Nat.reduceAdd, Nat.reduceLeDiff, Nat.reduceLT, reduceCtorEq, Nat.reduceMul, Nat.reduceSub, Int.reduceEq, Int.reduceLT, Int.reduceLE, Int.reduceToNat]); done) | (dsimp only; omega) | (simp only [gc_cons]; repeat rw [if_neg (by omega)]) | trace_state
            · simp only [ac, bc, ac0, bc0, hj3, d, d', dk, dk', getK_s (mapC_get valC ex), mapC_get st1 ey, dy, go_sem, ↓reduceIte, Nat.reduceEqDiff, Nat.reduceBEq, Nat.reduceAdd, Nat.reduceLeDiff, Nat.reduceLT, reduceCtorEq, Nat.reduceMul, Nat.reduceSub, Int.reduceEq, Int.reduceLT, Int.reduceLE, Int.reduceToNat]
              simp only [ac, bc, ac0, bc0, hj3, k2, k4, hl1, go_sem, ↓reduceIte, Nat.reduceEqDiff, Nat.reduceBEq, Nat.reduceAdd, Nat.reduceLeDiff, Nat.reduceLT, reduceCtorEq, Nat.reduceMul, Nat.reduceSub, Int.reduceEq, Int.reduceLT, Int.reduceLE, Int.reduceToNat]
              refine ⟨(j + 1, false, v.items.take (j + 1), t), ⟨d, by simp; omega, .inl ⟨rfl, rfl, rfl, fun q => ?_⟩⟩, k5, weakG_ok ?_ (SubG.cons ?_ ?_ ?_ (SubG.cons ?_ ?_ ?_ (SubG.cons ?_ ?_ ?_ (SubG.cons ?_ ?_ ?_ (subG_c hf ?_ hc1 ?_ ?_ (fun k hk hn => ?_) fun k hk hn => ?_)))))⟩
              · have hEj : E = j := by dsimp only at q; omega
                have := hE2 q.1
                rw [hEj, Int.toNat_natCast, ey] at this
                cases this
                exact dy rfl
              all_goals first | ((simp only [ac, bc, ac0, bc0, wr64s j k6', hc3, ht1, go_sem, ↓reduceIte, Nat.reduceEqDiff, Nat.reduceBEq, Nat.reduceAdd, Nat.reduceLeDiff, Nat.reduceLT, reduceCtorEq, Nat.reduceMul, Nat.reduceSub, Int.reduceEq, Int.reduceLT, Int.reduceLE, Int.reduceToNat]); done) | (dsimp only; omega) | (simp only [gc_cons]; repeat rw [if_neg (by omega)]) | trace_state
          · have dk' := eq_false (show ¬ (j : Int) < (v.keys.length : Int) by omega)
            have ek : (mapC st1 v.keys)[j]? = none := by simp [mapC]; omega
            simp only [ac, bc, ac0, bc0, hj3, d, d', dk, dk', getK_s (mapC_get valC ex), ek, Option.map_none, Option.getD_none, go_sem, ↓reduceIte, Nat.reduceEqDiff, Nat.reduceBEq, Nat.reduceAdd, Nat.reduceLeDiff, Nat.reduceLT, reduceCtorEq, Nat.reduceMul, Nat.reduceSub, Int.reduceEq, Int.reduceLT, Int.reduceLE, Int.reduceToNat]
            simp only [ac, bc, ac0, bc0, hj3, k2, k4, hl1, go_sem, ↓reduceIte, Nat.reduceEqDiff, Nat.reduceBEq, Nat.reduceAdd, Nat.reduceLeDiff, Nat.reduceLT, reduceCtorEq, Nat.reduceMul, Nat.reduceSub, Int.reduceEq, Int.reduceLT, Int.reduceLE, Int.reduceToNat]
            refine ⟨(j + 1, false, v.items.take (j + 1), t), ⟨d, by simp; omega, .inl ⟨rfl, rfl, rfl, fun q => ?_⟩⟩, k5, weakG_ok ?_ (SubG.cons ?_ ?_ ?_ (SubG.cons ?_ ?_ ?_ (SubG.cons ?_ ?_ ?_ (SubG.cons ?_ ?_ ?_ (subG_c hf ?_ hc1 ?_ ?_ (fun k hk hn => ?_) fun k hk hn => ?_)))))⟩
            · have hEj : E = j := by dsimp only at q; omega
              have := hE2 q.1
              rw [hEj, Int.toNat_natCast] at this
              exact dk (List.getElem?_eq_some_iff.1 this).1
            all_goals first | ((simp only [ac, bc, ac0, bc0, wr64s j k6', hc3, ht1, go_sem, ↓reduceIte, Nat.reduceEqDiff, Nat.reduceBEq, Nat.reduceAdd, Nat.reduceLeDiff, Nat.reduceLT, reduceCtorEq, Nat.reduceMul, Nat.reduceSub, Int.reduceEq, Int.reduceLT, Int.reduceLE, Int.reduceToNat]); done) | (dsimp only; omega) | (simp only [gc_cons]; repeat rw [if_neg (by omega)]) | trace_state
        · have hst : (v.items.take j).set E.toNat Y.1 ++ [x] = (v.items.take (j + 1)).set E.toNat Y.1 := by
            rw [← ht1, List.set_append_left _ _ (by omega)]
          obtain ⟨o, ho⟩ : ∃ o : Option ByteArray, (mapC st1 v.keys)[j]? = o.map st1 := ⟨v.keys[j]?, by simp [mapC]⟩
          cases o
          · have ho : (mapC st1 v.keys)[j]? = none := ho
            simp only [ac, bc, ac0, bc0, hj3, d, d', getK_s (mapC_get valC ex), ho, Option.map_none, Option.getD_none, go_sem, ↓reduceIte, Nat.reduceEqDiff, Nat.reduceBEq, Nat.reduceAdd, Nat.reduceLeDiff, Nat.reduceLT, reduceCtorEq, Nat.reduceMul, Nat.reduceSub, Int.reduceEq, Int.reduceLT, Int.reduceLE, Int.reduceToNat]
            simp only [ac, bc, ac0, bc0, hj3, k2, k4, hl1, go_sem, ↓reduceIte, Nat.reduceEqDiff, Nat.reduceBEq, Nat.reduceAdd, Nat.reduceLeDiff, Nat.reduceLT, reduceCtorEq, Nat.reduceMul, Nat.reduceSub, Int.reduceEq, Int.reduceLT, Int.reduceLE, Int.reduceToNat]
            refine ⟨(j + 1, true, (v.items.take (j + 1)).set E.toNat Y.1, Y.2), ⟨d, by simp; omega, .inr ⟨rfl, rfl, rfl, h0, by dsimp only; omega⟩⟩, k5, weakG_ok ?_ (SubG.cons ?_ ?_ ?_ (SubG.cons ?_ ?_ ?_ (SubG.cons ?_ ?_ ?_ (SubG.cons ?_ ?_ ?_ (subG_c hf ?_ hc1 ?_ ?_ (fun k hk hn => ?_) fun k hk hn => ?_)))))⟩
            all_goals first | ((simp only [ac, bc, ac0, bc0, wr64s j k6', hc3, hst, mapC_snoc, snoc_val, go_sem, ↓reduceIte, Nat.reduceEqDiff, Nat.reduceBEq, Nat.reduceAdd, Nat.reduceLeDiff, Nat.reduceLT, reduceCtorEq, Nat.reduceMul, Nat.reduceSub, Int.reduceEq, Int.reduceLT, Int.reduceLE, Int.reduceToNat]); done) | (dsimp only; omega) | (simp only [gc_cons]; repeat rw [if_neg (by omega)]) | trace_state
          · rename_i y
            have ho : (mapC st1 v.keys)[j]? = some [.s y] := ho
            simp only [ac, bc, ac0, bc0, hj3, d, d', getK_s (mapC_get valC ex), ho, go_sem, ↓reduceIte, Nat.reduceEqDiff, Nat.reduceBEq, Nat.reduceAdd, Nat.reduceLeDiff, Nat.reduceLT, reduceCtorEq, Nat.reduceMul, Nat.reduceSub, Int.reduceEq, Int.reduceLT, Int.reduceLE, Int.reduceToNat]
            simp only [ac, bc, ac0, bc0, hj3, k2, k4, hl1, go_sem, ↓reduceIte, Nat.reduceEqDiff, Nat.reduceBEq, Nat.reduceAdd, Nat.reduceLeDiff, Nat.reduceLT, reduceCtorEq, Nat.reduceMul, Nat.reduceSub, Int.reduceEq, Int.reduceLT, Int.reduceLE, Int.reduceToNat]
            refine ⟨(j + 1, true, (v.items.take (j + 1)).set E.toNat Y.1, Y.2), ⟨d, by simp; omega, .inr ⟨rfl, rfl, rfl, h0, by dsimp only; omega⟩⟩, k5, weakG_ok ?_ (SubG.cons ?_ ?_ ?_ (SubG.cons ?_ ?_ ?_ (SubG.cons ?_ ?_ ?_ (SubG.cons ?_ ?_ ?_ (subG_c hf ?_ hc1 ?_ ?_ (fun k hk hn => ?_) fun k hk hn => ?_)))))⟩
            all_goals first | ((simp only [ac, bc, ac0, bc0, wr64s j k6', hc3, hst, mapC_snoc, snoc_val, go_sem, ↓reduceIte, Nat.reduceEqDiff, Nat.reduceBEq, Nat.reduceAdd, Nat.reduceLeDiff, Nat.reduceLT, reduceCtorEq, Nat.reduceMul, Nat.reduceSub, Int.reduceEq, Int.reduceLT, Int.reduceLE, Int.reduceToNat]); done) | (dsimp only; omega) | (simp only [gc_cons]; repeat rw [if_neg (by omega)]) | trace_state
      · have d : j = v.items.length := by omega
        subst d
        have d' := eq_false (show ¬ (v.items.length : Int) < (v.items.length : Int) by omega)
        rcases hj4 with ⟨rfl, rfl, rfl, hn⟩ | ⟨rfl, rfl, rfl, h0, h1⟩
        · have he0 : ¬ 0 ≤ E := fun q => by
            obtain ⟨x, ex⟩ := hE3 q
            have := (List.getElem?_eq_some_iff.1 ex).1
            omega
          rw [e2 he0]
          simp only [ac, bc, ac0, bc0, hj3, d', List.take_length, go_sem, ↓reduceIte, Nat.reduceEqDiff, Nat.reduceBEq, Nat.reduceAdd, Nat.reduceLeDiff, Nat.reduceLT, reduceCtorEq, Nat.reduceMul, Nat.reduceSub, Int.reduceEq, Int.reduceLT, Int.reduceLE, Int.reduceToNat]
        · rw [e1 h0]
          simp only [ac, bc, ac0, bc0, hj3, d', List.take_length, go_sem, ↓reduceIte, Nat.reduceEqDiff, Nat.reduceBEq, Nat.reduceAdd, Nat.reduceLeDiff, Nat.reduceLT, reduceCtorEq, Nat.reduceMul, Nat.reduceSub, Int.reduceEq, Int.reduceLT, Int.reduceLE, Int.reduceToNat]
  · rw [if_neg d1] at e
    subst e
    cases p with
    | nil =>
      simp only [ac, bc, ac0, bc0, d1, hc2, go_sem, ↓reduceIte, Nat.reduceEqDiff, Nat.reduceBEq, Nat.reduceAdd, Nat.reduceLeDiff, Nat.reduceLT, reduceCtorEq, Nat.reduceMul, Nat.reduceSub, Int.reduceEq, Int.reduceLT, Int.reduceLE, Int.reduceToNat]
      refine dCall.f (fun _ hp' _ => rtypeOf_ok v hv hp' _) ?_
      simp only [ac, bc, ac0, bc0, d1, hc2, go_sem, ↓reduceIte, Nat.reduceEqDiff, Nat.reduceBEq, Nat.reduceAdd, Nat.reduceLeDiff, Nat.reduceLT, reduceCtorEq, Nat.reduceMul, Nat.reduceSub, Int.reduceEq, Int.reduceLT, Int.reduceLE, Int.reduceToNat]
      refine dCall.f (fun _ hp' _ => rtypeOf_ok v hv hp' _) ?_
      simp only [ac, bc, ac0, bc0, d1, hc2, List.getElem?_nil, Option.map_none, Option.getD_none, go_sem, ↓reduceIte, Nat.reduceEqDiff, Nat.reduceBEq, Nat.reduceAdd, Nat.reduceLeDiff, Nat.reduceLT, reduceCtorEq, Nat.reduceMul, Nat.reduceSub, Int.reduceEq, Int.reduceLT, Int.reduceLE, Int.reduceToNat]
      exact upS
    | cons h p' =>
      simp only [ac, bc, ac0, bc0, d1, hc2, go_sem, ↓reduceIte, Nat.reduceEqDiff, Nat.reduceBEq, Nat.reduceAdd, Nat.reduceLeDiff, Nat.reduceLT, reduceCtorEq, Nat.reduceMul, Nat.reduceSub, Int.reduceEq, Int.reduceLT, Int.reduceLE, Int.reduceToNat]
      refine dCall.f (fun _ hp' _ => rtypeOf_ok v hv hp' _) ?_
      simp only [ac, bc, ac0, bc0, d1, hc2, go_sem, ↓reduceIte, Nat.reduceEqDiff, Nat.reduceBEq, Nat.reduceAdd, Nat.reduceLeDiff, Nat.reduceLT, reduceCtorEq, Nat.reduceMul, Nat.reduceSub, Int.reduceEq, Int.reduceLT, Int.reduceLE, Int.reduceToNat]
      refine dCall.f (fun _ hp' _ => rtypeOf_ok v hv hp' _) ?_
      simp only [ac, bc, ac0, bc0, d1, hc2, go_sem, ↓reduceIte, Nat.reduceEqDiff, Nat.reduceBEq, Nat.reduceAdd, Nat.reduceLeDiff, Nat.reduceLT, reduceCtorEq, Nat.reduceMul, Nat.reduceSub, Int.reduceEq, Int.reduceLT, Int.reduceLE, Int.reduceToNat]
      exact upS
end Go.Proofs.Ytmcgjccheehehaa
