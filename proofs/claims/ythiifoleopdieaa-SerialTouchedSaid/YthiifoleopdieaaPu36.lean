/-
  The parts DaJ of the proof, in one file. Conditions: none.
-/
import Derived.Test.YthiifoleopdieaaPu35
namespace Go.Proofs.Ythiifoleopdieaa
open Go.Eng
set_option linter.unusedVariables false
set_option linter.unusedSimpArgs false
set_option maxRecDepth 20000
/-- The elements of a row of items, whose cells lie in rows between lo and hi. -/
structure Nst (H : CH) (lo hi : Nat) (l : List Itm) (A : List (List AV)) : Prop where
  len : A.length = l.length
  get : ∀ (i : Nat) x, l[i]? = some x → ∃ k g, lo ≤ k ∧ k < hi ∧ A[i]? = some [.s x.t, .rw k g x.l.length] ∧ gc H k = .rw g 7 (mapC celC x.l)
  inj : ∀ (i i' : Nat) t t' k g g' z z', A[i]? = some [.s t, .rw k g z] → A[i']? = some [.s t', .rw k g' z'] → i = i'
theorem Nst.nil (H : CH) (lo hi : Nat) : Nst H lo hi [] [] := ⟨rfl, fun i x e => by simp at e, fun i i' t t' k g g' z z' e => by simp at e⟩
theorem Nst.frame {H H' : CH} {lo hi hi' : Nat} {l : List Itm} {A : List (List AV)} (h : Nst H lo hi l A) (hh : hi ≤ hi') (e : ∀ k, lo ≤ k → k < hi → gc H' k = gc H k) : Nst H' lo hi' l A :=
  ⟨h.len, fun i x q => by
    obtain ⟨k, g, h1, h2, h3, h4⟩ := h.get i x q
    exact ⟨k, g, h1, Nat.lt_of_lt_of_le h2 hh, h3, by rw [e k h1 h2]; exact h4⟩, h.inj⟩
theorem Nst.row {H : CH} {lo hi : Nat} {l : List Itm} {A : List (List AV)} (h : Nst H lo hi l A) {i : Nat} {t : ByteArray} {k g z : Nat} (e : A[i]? = some [.s t, .rw k g z]) : lo ≤ k ∧ k < hi := by
  have hi' : i < l.length := by rw [← h.len]; exact (List.getElem?_eq_some_iff.1 e).1
  obtain ⟨k', g', h1, h2, h3, _⟩ := h.get i l[i] (by simp [hi'])
  rw [e] at h3
  simp only [Option.some.injEq, List.cons.injEq, AV.rw.injEq] at h3
  omega
theorem Nst.snoc {H : CH} {lo hi hi' : Nat} {l : List Itm} {A : List (List AV)} (h : Nst H lo hi l A) {x : Itm} {k g : Nat} (hk : hi ≤ k) (hl : lo ≤ k) (hh : k < hi') (e : gc H k = .rw g 7 (mapC celC x.l)) :
    Nst H lo hi' (l ++ [x]) (A ++ [[.s x.t, .rw k g x.l.length]]) := by
  refine ⟨by simp [h.len], fun i y q => ?_, fun i i' t t' k1 g1 g2 z z' e1 e2 => ?_⟩
  · rw [List.getElem?_append] at q
    split at q
    · rename_i hi
      obtain ⟨k', g', h1, h2, h3, h4⟩ := h.get i y q
      exact ⟨k', g', h1, by omega, by rw [List.getElem?_append_left (by rw [h.len]; exact hi)]; exact h3, h4⟩
    · rename_i hi
      have : i - l.length = 0 := by have := (List.getElem?_eq_some_iff.1 q).1; simp at this; omega
      rw [this] at q
      simp at q
      subst q
      exact ⟨k, g, hl, hh, by rw [List.getElem?_append_right (by rw [h.len]; omega), h.len, this]; rfl, e⟩
  · rw [List.getElem?_append] at e1 e2
    have key : ∀ {j : Nat} {t : ByteArray} {k1 g1 z : Nat}, (if j < A.length then A[j]? else [[AV.s x.t, AV.rw k g x.l.length]][j - A.length]?) = some [AV.s t, AV.rw k1 g1 z] → (j < A.length ∧ k1 < hi) ∨ (j = A.length ∧ k1 = k) := fun {j t k1 g1 z} q => by
      split at q
      · rename_i hj
        exact .inl ⟨hj, (h.row q).2⟩
      · rename_i hj
        have : j - A.length = 0 := by have := (List.getElem?_eq_some_iff.1 q).1; simp at this; omega
        rw [this] at q
        simp only [List.getElem?_cons_zero, Option.some.injEq, List.cons.injEq, AV.rw.injEq] at q
        exact .inr ⟨by omega, q.2.1.1.symm⟩
    rcases key e1 with ⟨a1, a2⟩ | ⟨a1, a2⟩ <;> rcases key e2 with ⟨b1, b2⟩ | ⟨b1, b2⟩
    · rw [if_pos a1] at e1
      rw [if_pos b1] at e2
      exact h.inj i i' t t' k1 g1 g2 z z' e1 e2
    · omega
    · omega
    · omega
/-- A dataset in rows of its own, as a result. -/
def NestR (d : Dat) (m : Nat) (hp : CH) (hp' : CH) (n' : Nat) (r : AV) : Prop :=
  ∃ ko go A kw gw, r = .ag [.rw ko go d.i.length, .rw kw gw d.w.length] ∧ gc hp' ko = .rn go 2 A ∧ gc hp' kw = .rw gw 10 (mapC wrC d.w) ∧ Up m hp hp' ∧ (m ≤ ko ∧ ko < n') ∧ (m ≤ kw ∧ kw < n') ∧ Nst hp' m n' d.i A ∧ ∀ k, n' ≤ k → gc hp' k = .no
theorem snoc_cel (l : List Cel) (c : Cel) : mapC celC l ++ [[AV.s c.f, .s c.a, .i .i64 c.v.k, .i .i64 c.v.n, .s c.v.s, .ds (mapC valC c.v.items), .ds (stC c.v.keys)]] = mapC celC (l ++ [c]) := mapC_snoc celC l c
theorem snoc_wri (l : List Wri) (x : Wri) : mapC wrC l ++ [[AV.s x.f, .s x.a, .i .i64 x.i, .s x.c.f, .s x.c.a, .i .i64 x.c.v.k, .i .i64 x.c.v.n, .s x.c.v.s, .ds (mapC valC x.c.v.items), .ds (stC x.c.v.keys)]] = mapC wrC (l ++ [x]) := mapC_snoc wrC l x
attribute [go_sem] snoc_cel snoc_wri
/-- At the head of the loop over the items. -/
structure ClI (d : Dat) (m : Nat) (hp H : CH) (n j g : Nat) (A : List (List AV)) : Prop where
  lj : j ≤ d.i.length
  ln : m + 4 ≤ n
  b0 : gc H m = .bx [.ds (mapC itC d.i), .ds (mapC wrC d.w)]
  b1 : gc H (m + 1) = .bx [.e0, .e0]
  b2 : gc H (m + 2) = .bx [.rw (m + 3) g j, .e0]
  b3 : gc H (m + 3) = .rn g 2 A
  up : Up m hp H
  nst : Nst H (m + 4) n (d.i.take j) A
  fr : ∀ k, n ≤ k → gc H k = .no
theorem gcs_no {hp : CH} {n : Nat} (h : ∀ k, n ≤ k → gc hp k = .no) {j n' : Nat} {c : Chunk} (hj : j < n') (hn : n ≤ n') : ∀ k, n' ≤ k → gc ((j, c) :: hp) k = .no := fun k hk => by
  rw [gc_ne _ _ (by omega)]
  exact h k (by omega)
theorem up_in {m : Nat} {hp H : CH} {j : Nat} {c : Chunk} (h : Up m hp H) (hj : m ≤ j) : Up m hp ((j, c) :: H) := h.cons c hj
set_option maxHeartbeats 1000000 in
theorem rclone_ok (d : Dat) (hd : d.Fit) (hw : d.w.length ≤ 200) (hp : CH) (m : Nat) : Meets Try.prog 23 hp m [dx d] (NestR d m hp) := by
  have h1 := hd.li
  have h2 := hd.lw
  refine meetsN Try.func23 (by kernel_rfl) cc23 cr23 rfl fun hf => ?_
  unfold ck23
  simp only [go_sem, ↓reduceIte, Nat.reduceEqDiff, Nat.reduceBEq, Nat.reduceAdd, Nat.reduceLeDiff, Nat.reduceLT, reduceCtorEq, Nat.reduceMul, Nat.reduceSub, Int.reduceEq, Int.reduceLT, Int.reduceLE, Int.reduceToNat]
  refine loop (fun q : Nat × CH × Nat × List (List AV) × Nat => ⟨[(1, .bx m 0), (2, .bx (m + 1) 0), (3, .bx (m + 2) 0), (4, .i .i64 q.1)], q.2.1, q.2.2.1⟩)
    (fun q => ClI d m hp q.2.1 q.2.2.1 q.1 q.2.2.2.2 q.2.2.2.1)
    (fun q => d.i.length - q.1) (0, (m + 3, .rn 0 2 []) :: (m + 2, .bx [.rw (m + 3) 0 0, .e0]) :: (m + 3, .rw 0 2 []) :: (m + 2, .bx [.e0, .e0]) :: (m + 1, .bx [.e0, .e0]) :: (m, .bx [.ds (mapC itC d.i), .ds (mapC wrC d.w)]) :: hp, m + 4, [], 0) ?_ ?_ (fun ⟨j, H, n, A, g⟩ hj => ?_)
  · dsimp only
    refine ⟨Nat.zero_le _, Nat.le_refl _, by simp only [go_sem, ↓reduceIte, Nat.reduceEqDiff, Nat.reduceBEq, Nat.reduceAdd, Nat.reduceLeDiff, Nat.reduceLT, reduceCtorEq, Nat.reduceMul, Nat.reduceSub, Int.reduceEq, Int.reduceLT, Int.reduceLE, Int.reduceToNat], by simp only [go_sem, ↓reduceIte, Nat.reduceEqDiff, Nat.reduceBEq, Nat.reduceAdd, Nat.reduceLeDiff, Nat.reduceLT, reduceCtorEq, Nat.reduceMul, Nat.reduceSub, Int.reduceEq, Int.reduceLT, Int.reduceLE, Int.reduceToNat], by simp only [go_sem, ↓reduceIte, Nat.reduceEqDiff, Nat.reduceBEq, Nat.reduceAdd, Nat.reduceLeDiff, Nat.reduceLT, reduceCtorEq, Nat.reduceMul, Nat.reduceSub, Int.reduceEq, Int.reduceLT, Int.reduceLE, Int.reduceToNat], by simp only [go_sem, ↓reduceIte, Nat.reduceEqDiff, Nat.reduceBEq, Nat.reduceAdd, Nat.reduceLeDiff, Nat.reduceLT, reduceCtorEq, Nat.reduceMul, Nat.reduceSub, Int.reduceEq, Int.reduceLT, Int.reduceLE, Int.reduceToNat], ?_, by rw [List.take_zero]; exact Nst.nil _ _ _, ?_⟩
    · exact up_in (up_in (up_in (up_in (up_in (up_in (Up.refl m hp) (by omega)) (by omega)) (by omega)) (by omega)) (by omega)) (by omega)
    · exact gcs_no (gcs_no (gcs_no (gcs_no (gcs_no (gcs_no hf (Nat.lt_succ_self m) (Nat.le_succ m)) (Nat.lt_succ_self _) (Nat.le_succ _)) (Nat.lt_succ_self _) (Nat.le_succ _)) (Nat.lt_succ_self _) (Nat.le_succ _)) (by omega) (Nat.le_refl _)) (by omega) (Nat.le_refl _)
  · exact (weak_b0 (c := m + 2) (i := 0) (m := 2) (cs := [.e0, .e0]) (by simp only [go_sem, ↓reduceIte, Nat.reduceEqDiff, Nat.reduceBEq, Nat.reduceAdd, Nat.reduceLeDiff, Nat.reduceLT, reduceCtorEq, Nat.reduceMul, Nat.reduceSub, Int.reduceEq, Int.reduceLT, Int.reduceLE, Int.reduceToNat]) rfl).trans ((weak_rn (k := m + 3) (by simp only [go_sem, ↓reduceIte, Nat.reduceEqDiff, Nat.reduceBEq, Nat.reduceAdd, Nat.reduceLeDiff, Nat.reduceLT, reduceCtorEq, Nat.reduceMul, Nat.reduceSub, Int.reduceEq, Int.reduceLT, Int.reduceLE, Int.reduceToNat])).trans (weak_ok (by simp only [go_sem, ↓reduceIte, Nat.reduceEqDiff, Nat.reduceBEq, Nat.reduceAdd, Nat.reduceLeDiff, Nat.reduceLT, reduceCtorEq, Nat.reduceMul, Nat.reduceSub, Int.reduceEq, Int.reduceLT, Int.reduceLE, Int.reduceToNat]) (Sub.refl _) (Nat.le_refl _)))
  dsimp only at hj
  have i0 := hj.ln
  have i1 := hj.b0
  have i2 := hj.b1
  have i3 := hj.b2
  have i4 := hj.b3
  simp only [i1, i2, i3, i4, go_sem, ↓reduceIte, Nat.reduceEqDiff, Nat.reduceBEq, Nat.reduceAdd, Nat.reduceLeDiff, Nat.reduceLT, reduceCtorEq, Nat.reduceMul, Nat.reduceSub, Int.reduceEq, Int.reduceLT, Int.reduceLE, Int.reduceToNat]
  refine cdK_of (fun c => ?_) (fun c => ?_)
  · have c : j < d.i.length := by simpa using c
    obtain ⟨x, ex⟩ : ∃ x, d.i[j]? = some x := ⟨d.i[j], by simp [c]⟩
    have hx := hd.ll (List.mem_of_getElem? ex)
    simp only [c, i1, i2, i3, i4, getK_s (mapC_get itC ex), go_sem, ↓reduceIte, Nat.reduceEqDiff, Nat.reduceBEq, Nat.reduceAdd, Nat.reduceLeDiff, Nat.reduceLT, reduceCtorEq, Nat.reduceMul, Nat.reduceSub, Int.reduceEq, Int.reduceLT, Int.reduceLE, Int.reduceToNat]
    refine loopg (fun k : Nat => ⟨[(1, .bx m 0), (2, .bx (m + 1) 0), (3, .bx (m + 2) 0), (4, .i .i64 j), (5, .bx n 0), (6, .i .i64 k)], (n, .bx [.s x.t, .rw (n + 1) k k]) :: (n + 1, .rw k 7 (mapC celC (x.l.take k))) :: H, n + 2⟩)
      (fun k => k ≤ x.l.length) (fun k => x.l.length - k) 0 (Nat.zero_le _) ?_ (fun k hk => ?_)
    · refine (weak_b0 (c := n) (i := 1) (m := 7) (cs := [.s x.t, .e0]) (by simp only [go_sem, ↓reduceIte, Nat.reduceEqDiff, Nat.reduceBEq, Nat.reduceAdd, Nat.reduceLeDiff, Nat.reduceLT, reduceCtorEq, Nat.reduceMul, Nat.reduceSub, Int.reduceEq, Int.reduceLT, Int.reduceLE, Int.reduceToNat]) rfl).trans (weak_ok ?_ (Sub.cons ?_ (Sub.cons ?_ (Sub.base hj.fr ?_))) (Nat.le_refl _))
      all_goals first | ((simp only [List.set_cons_succ, List.set_cons_zero, List.take_zero, mapC_nil, go_sem, ↓reduceIte, Nat.reduceEqDiff, Nat.reduceBEq, Nat.reduceAdd, Nat.reduceLeDiff, Nat.reduceLT, reduceCtorEq, Nat.reduceMul, Nat.reduceSub, Int.reduceEq, Int.reduceLT, Int.reduceLE, Int.reduceToNat]); done) | (dsimp only; omega) | trace_state
    have n1 : ¬ n = m := by omega
    have n2 : ¬ n = m + 1 := by omega
    have n3 : ¬ n = m + 2 := by omega
    have n4 : ¬ n = m + 3 := by omega
    have n5 : ¬ n + 1 = m := by omega
    have n6 : ¬ n + 1 = m + 1 := by omega
    have n7 : ¬ n + 1 = m + 2 := by omega
    have n8 : ¬ n + 1 = m + 3 := by omega
    have n9 : ¬ n + 2 = m := by omega
    have n10 : ¬ n + 2 = m + 1 := by omega
    have n11 : ¬ n + 2 = m + 2 := by omega
    have n12 : ¬ n + 2 = m + 3 := by omega
    have n13 : m < n + 2 := by omega
    have n14 : m + 1 < n + 2 := by omega
    have n15 : m + 2 < n + 2 := by omega
    simp only [c, i1, i2, i3, i4, n1, n2, n3, n4, n5, n6, n7, n8, getK_s (mapC_get itC ex), go_sem, ↓reduceIte, Nat.reduceEqDiff, Nat.reduceBEq, Nat.reduceAdd, Nat.reduceLeDiff, Nat.reduceLT, reduceCtorEq, Nat.reduceMul, Nat.reduceSub, Int.reduceEq, Int.reduceLT, Int.reduceLE, Int.reduceToNat]
    refine cdK_of (fun q => ?_) (fun q => ?_)
    · have q : k < x.l.length := by simpa using q
      obtain ⟨y, ey⟩ : ∃ y, x.l[k]? = some y := ⟨x.l[k], by simp [q]⟩
      have fy := hd.c (List.mem_of_getElem? ex) (List.mem_of_getElem? ey)
      have hlk : (x.l.take k).length = k := by rw [List.length_take]; omega
      simp only [c, q, i1, i2, i3, i4, n1, n2, n3, n4, n5, n6, n7, n8, n9, n10, n11, n12, getK_s (mapC_get itC ex), getK_s (mapC_get celC ey), go_sem, ↓reduceIte, Nat.reduceEqDiff, Nat.reduceBEq, Nat.reduceAdd, Nat.reduceLeDiff, Nat.reduceLT, reduceCtorEq, Nat.reduceMul, Nat.reduceSub, Int.reduceEq, Int.reduceLT, Int.reduceLE, Int.reduceToNat]
      refine vcCall.f (rcopy_ok y.v fy _ _) ?_
      simp only [c, q, n1, n2, n3, n4, n5, n6, n7, n8, n9, n10, n11, n12, hlk, go_sem, ↓reduceIte, Nat.reduceEqDiff, Nat.reduceBEq, Nat.reduceAdd, Nat.reduceLeDiff, Nat.reduceLT, reduceCtorEq, Nat.reduceMul, Nat.reduceSub, Int.reduceEq, Int.reduceLT, Int.reduceLE, Int.reduceToNat]
      have k8 : (k + 1) * 112 ≤ 140737489403904 ∧ k ≤ 9223372036854775806 := by omega
      have k6 : k < 9223372036854775807 := by omega
      simp only [wr64s k k6, take_snoc ey, go_sem, ↓reduceIte, Nat.reduceEqDiff, Nat.reduceBEq, Nat.reduceAdd, Nat.reduceLeDiff, Nat.reduceLT, reduceCtorEq, Nat.reduceMul, Nat.reduceSub, Int.reduceEq, Int.reduceLT, Int.reduceLE, Int.reduceToNat]
      refine ⟨k8.1, k8.2, k + 1, q, by omega, weakG_ok ?_ (SubG.cons ?_ ?_ ?_ (SubG.cons ?_ ?_ ?_ (SubG.base hj.fr ?_ ?_ ?_)))⟩
      all_goals first | ((simp only [n13, n14, n15, go_sem, ↓reduceIte, Nat.reduceEqDiff, Nat.reduceBEq, Nat.reduceAdd, Nat.reduceLeDiff, Nat.reduceLT, reduceCtorEq, Nat.reduceMul, Nat.reduceSub, Int.reduceEq, Int.reduceLT, Int.reduceLE, Int.reduceToNat]); done) | (dsimp only; omega) | trace_state
    · have q : k = x.l.length := by simp at q; omega
      subst q
      rw [List.take_length]
      have j8 : (j + 1) * 40 ≤ 140737489403904 ∧ j ≤ 9223372036854775806 := by omega
      have j6 : j < 9223372036854775807 := by omega
      have hA : A.length = j := by rw [hj.nst.len, List.length_take]; omega
      simp only [i3, i4, n1, n2, n3, n4, n5, n6, n7, n8, n9, n10, n11, n12, hA, wr64s j j6, go_sem, ↓reduceIte, Nat.reduceEqDiff, Nat.reduceBEq, Nat.reduceAdd, Nat.reduceLeDiff, Nat.reduceLT, reduceCtorEq, Nat.reduceMul, Nat.reduceSub, Int.reduceEq, Int.reduceLT, Int.reduceLE, Int.reduceToNat]
      refine ⟨j8.1, j8.2, (j + 1, _, _, A ++ [[.s x.t, .rw (n + 1) x.l.length x.l.length]], g + 1), ?_, by dsimp only; omega, weak_ok ?_ (Sub.refl _) (Nat.le_refl _)⟩
      · dsimp only
        refine ⟨c, by omega, ?_, ?_, ?_, ?_, ?_, ?_, ?_⟩
        · simp only [i1, n1, n5, n9, go_sem, ↓reduceIte, Nat.reduceEqDiff, Nat.reduceBEq, Nat.reduceAdd, Nat.reduceLeDiff, Nat.reduceLT, reduceCtorEq, Nat.reduceMul, Nat.reduceSub, Int.reduceEq, Int.reduceLT, Int.reduceLE, Int.reduceToNat]
        · simp only [i2, n2, n6, n10, go_sem, ↓reduceIte, Nat.reduceEqDiff, Nat.reduceBEq, Nat.reduceAdd, Nat.reduceLeDiff, Nat.reduceLT, reduceCtorEq, Nat.reduceMul, Nat.reduceSub, Int.reduceEq, Int.reduceLT, Int.reduceLE, Int.reduceToNat]
        · simp only [go_sem, ↓reduceIte, Nat.reduceEqDiff, Nat.reduceBEq, Nat.reduceAdd, Nat.reduceLeDiff, Nat.reduceLT, reduceCtorEq, Nat.reduceMul, Nat.reduceSub, Int.reduceEq, Int.reduceLT, Int.reduceLE, Int.reduceToNat]
        · simp only [go_sem, ↓reduceIte, Nat.reduceEqDiff, Nat.reduceBEq, Nat.reduceAdd, Nat.reduceLeDiff, Nat.reduceLT, reduceCtorEq, Nat.reduceMul, Nat.reduceSub, Int.reduceEq, Int.reduceLT, Int.reduceLE, Int.reduceToNat]
        · exact up_in (up_in (up_in (up_in (up_in hj.up (by omega)) (by omega)) (by omega)) (by omega)) (by omega)
        · rw [← take_snoc ex]
          refine (hj.nst.frame (hi' := n) (Nat.le_refl _) fun k k1 k2 => ?_).snoc (k := n + 1) (by omega) (by omega) (by omega) ?_
          · rw [gc_ne _ _ (by omega), gc_ne _ _ (by omega), gc_ne _ _ (by omega), gc_ne _ _ (by omega), gc_ne _ _ (by omega)]
          · rw [gc_ne _ _ (by omega), gc_ne _ _ (by omega), gc_ne _ _ (by omega), gc_ne _ _ (by omega), gc_same]
        · intro k hk
          rw [gc_ne _ _ (by omega), gc_ne _ _ (by omega), gc_ne _ _ (by omega), gc_ne _ _ (by omega), gc_ne _ _ (by omega)]
          exact hj.fr k (by omega)
      · simp only [go_sem, ↓reduceIte, Nat.reduceEqDiff, Nat.reduceBEq, Nat.reduceAdd, Nat.reduceLeDiff, Nat.reduceLT, reduceCtorEq, Nat.reduceMul, Nat.reduceSub, Int.reduceEq, Int.reduceLT, Int.reduceLE, Int.reduceToNat]
  · have c : j = d.i.length := by have := hj.lj; simp at c; omega
    subst c
    simp only [i1, i2, i3, i4, go_sem, ↓reduceIte, Nat.reduceEqDiff, Nat.reduceBEq, Nat.reduceAdd, Nat.reduceLeDiff, Nat.reduceLT, reduceCtorEq, Nat.reduceMul, Nat.reduceSub, Int.reduceEq, Int.reduceLT, Int.reduceLE, Int.reduceToNat]
    have n1 : ¬ n = m := by omega
    have n2 : ¬ n = m + 1 := by omega
    have n3 : ¬ n = m + 2 := by omega
    have n3' : ¬ m + 2 = n := by omega
    have n13 : m < n + 1 := by omega
    have n14 : m + 1 < n + 1 := by omega
    have n15 : m + 2 < n + 1 := by omega
    have n16 : m + 3 < n + 1 := by omega
    have n5 : ¬ n + 1 = m := by omega
    have n6 : ¬ n + 1 = m + 1 := by omega
    have n7 : ¬ n + 1 = m + 2 := by omega
    have n8 : ¬ n + 1 = m + 3 := by omega
    refine loopg (fun k : Nat => ⟨[(1, .bx m 0), (2, .bx (m + 1) 0), (3, .bx (m + 2) 0), (8, .i .i64 k)], (m + 2, .bx [.rw (m + 3) g d.i.length, .rw n k k]) :: (n, .rw k 10 (mapC wrC (d.w.take k))) :: H, n + 1⟩)
      (fun k => k ≤ d.w.length) (fun k => d.w.length - k) 0 (Nat.zero_le _) ?_ (fun k hk => ?_)
    · refine (weak_b0 (c := m + 2) (i := 1) (m := 10) (cs := [.rw (m + 3) g d.i.length, .e0]) i3 rfl).trans (weak_ok ?_ (SubX.sub (SubX.cons ?_ (SubX.cons ?_ (SubX.base hj.fr ?_)))) (Nat.le_refl _))
      all_goals first | ((simp only [List.set_cons_succ, List.set_cons_zero, List.take_zero, mapC_nil, n3, n3', go_sem, ↓reduceIte, Nat.reduceEqDiff, Nat.reduceBEq, Nat.reduceAdd, Nat.reduceLeDiff, Nat.reduceLT, reduceCtorEq, Nat.reduceMul, Nat.reduceSub, Int.reduceEq, Int.reduceLT, Int.reduceLE, Int.reduceToNat]); done) | (dsimp only; omega) | trace_state
    simp only [i1, i2, n1, n2, n3, go_sem, ↓reduceIte, Nat.reduceEqDiff, Nat.reduceBEq, Nat.reduceAdd, Nat.reduceLeDiff, Nat.reduceLT, reduceCtorEq, Nat.reduceMul, Nat.reduceSub, Int.reduceEq, Int.reduceLT, Int.reduceLE, Int.reduceToNat]
    refine cdK_of (fun q => ?_) (fun q => ?_)
    · have q : k < d.w.length := by simpa using q
      obtain ⟨y, ey⟩ : ∃ y, d.w[k]? = some y := ⟨d.w[k], by simp [q]⟩
      have fy := hd.w (List.mem_of_getElem? ey)
      have hlk : (d.w.take k).length = k := by rw [List.length_take]; omega
      have hw2 : (k : Int) < d.w.length := by omega
      simp only [q, hw2, i1, i2, n1, n2, n3, n3', n5, n6, n7, n8, getK_s (mapC_get wrC ey), go_sem, ↓reduceIte, Nat.reduceEqDiff, Nat.reduceBEq, Nat.reduceAdd, Nat.reduceLeDiff, Nat.reduceLT, reduceCtorEq, Nat.reduceMul, Nat.reduceSub, Int.reduceEq, Int.reduceLT, Int.reduceLE, Int.reduceToNat]
      refine vcCall.f (rcopy_ok y.c.v fy _ _) ?_
      have k8 : (k + 1) * 152 ≤ 140737489403904 ∧ k ≤ 9223372036854775806 := by omega
      have k6 : k < 9223372036854775807 := by omega
      simp only [q, n1, n2, n3, n3', n5, n6, n7, n8, hlk, wr64s k k6, take_snoc ey, go_sem, ↓reduceIte, Nat.reduceEqDiff, Nat.reduceBEq, Nat.reduceAdd, Nat.reduceLeDiff, Nat.reduceLT, reduceCtorEq, Nat.reduceMul, Nat.reduceSub, Int.reduceEq, Int.reduceLT, Int.reduceLE, Int.reduceToNat]
      refine ⟨k8.1, k8.2, k + 1, q, by omega, weakG_ok ?_ (SubGX.sub (SubGX.cons ?_ ?_ ?_ (SubGX.cons ?_ ?_ ?_ (SubGX.base hj.fr ?_ ?_ ?_))))⟩
      all_goals first | ((simp only [n3, n3', n13, n14, n15, n16, go_sem, ↓reduceIte, Nat.reduceEqDiff, Nat.reduceBEq, Nat.reduceAdd, Nat.reduceLeDiff, Nat.reduceLT, reduceCtorEq, Nat.reduceMul, Nat.reduceSub, Int.reduceEq, Int.reduceLT, Int.reduceLE, Int.reduceToNat]); done) | (dsimp only; omega) | trace_state
    · have q : k = d.w.length := by simp at q; omega
      subst q
      rw [List.take_length]
      simp only [i2, n1, n2, n3, go_sem, ↓reduceIte, Nat.reduceEqDiff, Nat.reduceBEq, Nat.reduceAdd, Nat.reduceLeDiff, Nat.reduceLT, reduceCtorEq, Nat.reduceMul, Nat.reduceSub, Int.reduceEq, Int.reduceLT, Int.reduceLE, Int.reduceToNat]
      refine ⟨m + 3, g, A, n, d.w.length, rfl, ?_, ?_, ?_, by omega, by omega, ?_, ?_⟩
      · rw [gc_ne _ _ (by omega), gc_ne _ _ (by omega), gc_ne _ _ (by omega)]
        exact i4
      · rw [gc_ne _ _ (by omega), gc_ne _ _ (by omega), gc_same]
      · exact up_in (up_in (up_in hj.up (by omega)) (by omega)) (by omega)
      · have h := hj.nst
        rw [List.take_length] at h
        refine ⟨h.len, fun i x e => ?_, h.inj⟩
        obtain ⟨k, g', k1, k2, k3, k4⟩ := h.get i x e
        refine ⟨k, g', by omega, by omega, k3, ?_⟩
        rw [gc_ne _ _ (by omega), gc_ne _ _ (by omega), gc_ne _ _ (by omega)]
        exact k4
      · intro k hk
        rw [gc_ne _ _ (by omega), gc_ne _ _ (by omega), gc_ne _ _ (by omega)]
        exact hj.fr k (by omega)
set_option maxHeartbeats 1000000 in
theorem dcopied_ok (d : Dat) (hd : d.Fit) (hw : d.w.length ≤ 200) (hp : CH) (m : Nat) : Meets Try.prog 39 hp m [dx d] (NestR d m hp) := by
  have h1 := hd.li
  have h2 := hd.lw
  refine meetsN Try.func39 (by kernel_rfl) cc39 cr39 rfl fun hf => ?_
  unfold ck39
  simp only [go_sem, ↓reduceIte, Nat.reduceEqDiff, Nat.reduceBEq, Nat.reduceAdd, Nat.reduceLeDiff, Nat.reduceLT, reduceCtorEq, Nat.reduceMul, Nat.reduceSub, Int.reduceEq, Int.reduceLT, Int.reduceLE, Int.reduceToNat]
  refine loop (fun q : Nat × CH × Nat × List (List AV) × Nat => ⟨[(1, .bx m 0), (2, .bx (m + 1) 0), (3, .bx (m + 2) 0), (12, .ds (mapC itC d.i)), (13, .i .i64 d.i.length), (14, .i .i64 q.1)], q.2.1, q.2.2.1⟩)
    (fun q => ClI d m hp q.2.1 q.2.2.1 q.1 q.2.2.2.2 q.2.2.2.1)
    (fun q => d.i.length - q.1) (0, (m + 3, .rn 0 2 []) :: (m + 2, .bx [.rw (m + 3) 0 0, .e0]) :: (m + 3, .rw 0 2 []) :: (m + 2, .bx [.e0, .e0]) :: (m + 1, .bx [.e0, .e0]) :: (m, .bx [.ds (mapC itC d.i), .ds (mapC wrC d.w)]) :: hp, m + 4, [], 0) ?_ ?_ (fun ⟨j, H, n, A, g⟩ hj => ?_)
  · dsimp only
    refine ⟨Nat.zero_le _, Nat.le_refl _, by simp only [go_sem, ↓reduceIte, Nat.reduceEqDiff, Nat.reduceBEq, Nat.reduceAdd, Nat.reduceLeDiff, Nat.reduceLT, reduceCtorEq, Nat.reduceMul, Nat.reduceSub, Int.reduceEq, Int.reduceLT, Int.reduceLE, Int.reduceToNat], by simp only [go_sem, ↓reduceIte, Nat.reduceEqDiff, Nat.reduceBEq, Nat.reduceAdd, Nat.reduceLeDiff, Nat.reduceLT, reduceCtorEq, Nat.reduceMul, Nat.reduceSub, Int.reduceEq, Int.reduceLT, Int.reduceLE, Int.reduceToNat], by simp only [go_sem, ↓reduceIte, Nat.reduceEqDiff, Nat.reduceBEq, Nat.reduceAdd, Nat.reduceLeDiff, Nat.reduceLT, reduceCtorEq, Nat.reduceMul, Nat.reduceSub, Int.reduceEq, Int.reduceLT, Int.reduceLE, Int.reduceToNat], by simp only [go_sem, ↓reduceIte, Nat.reduceEqDiff, Nat.reduceBEq, Nat.reduceAdd, Nat.reduceLeDiff, Nat.reduceLT, reduceCtorEq, Nat.reduceMul, Nat.reduceSub, Int.reduceEq, Int.reduceLT, Int.reduceLE, Int.reduceToNat], ?_, by rw [List.take_zero]; exact Nst.nil _ _ _, ?_⟩
    · exact up_in (up_in (up_in (up_in (up_in (up_in (Up.refl m hp) (by omega)) (by omega)) (by omega)) (by omega)) (by omega)) (by omega)
    · exact gcs_no (gcs_no (gcs_no (gcs_no (gcs_no (gcs_no hf (Nat.lt_succ_self m) (Nat.le_succ m)) (Nat.lt_succ_self _) (Nat.le_succ _)) (Nat.lt_succ_self _) (Nat.le_succ _)) (Nat.lt_succ_self _) (Nat.le_succ _)) (by omega) (Nat.le_refl _)) (by omega) (Nat.le_refl _)
  · exact (weak_b0 (c := m + 2) (i := 0) (m := 2) (cs := [.e0, .e0]) (by simp only [go_sem, ↓reduceIte, Nat.reduceEqDiff, Nat.reduceBEq, Nat.reduceAdd, Nat.reduceLeDiff, Nat.reduceLT, reduceCtorEq, Nat.reduceMul, Nat.reduceSub, Int.reduceEq, Int.reduceLT, Int.reduceLE, Int.reduceToNat]) rfl).trans ((weak_rn (k := m + 3) (by simp only [go_sem, ↓reduceIte, Nat.reduceEqDiff, Nat.reduceBEq, Nat.reduceAdd, Nat.reduceLeDiff, Nat.reduceLT, reduceCtorEq, Nat.reduceMul, Nat.reduceSub, Int.reduceEq, Int.reduceLT, Int.reduceLE, Int.reduceToNat])).trans (weak_ok (by simp only [go_sem, ↓reduceIte, Nat.reduceEqDiff, Nat.reduceBEq, Nat.reduceAdd, Nat.reduceLeDiff, Nat.reduceLT, reduceCtorEq, Nat.reduceMul, Nat.reduceSub, Int.reduceEq, Int.reduceLT, Int.reduceLE, Int.reduceToNat]) (Sub.refl _) (Nat.le_refl _)))
  dsimp only at hj
  have i0 := hj.ln
  have i1 := hj.b0
  have i2 := hj.b1
  have i3 := hj.b2
  have i4 := hj.b3
  simp only [i1, i2, i3, i4, go_sem, ↓reduceIte, Nat.reduceEqDiff, Nat.reduceBEq, Nat.reduceAdd, Nat.reduceLeDiff, Nat.reduceLT, reduceCtorEq, Nat.reduceMul, Nat.reduceSub, Int.reduceEq, Int.reduceLT, Int.reduceLE, Int.reduceToNat]
  refine cdK_of (fun c => ?_) (fun c => ?_)
  · have c : j < d.i.length := by simpa using c
    obtain ⟨x, ex⟩ : ∃ x, d.i[j]? = some x := ⟨d.i[j], by simp [c]⟩
    have hx := hd.ll (List.mem_of_getElem? ex)
    simp only [c, i1, i2, i3, i4, getK_s (mapC_get itC ex), go_sem, ↓reduceIte, Nat.reduceEqDiff, Nat.reduceBEq, Nat.reduceAdd, Nat.reduceLeDiff, Nat.reduceLT, reduceCtorEq, Nat.reduceMul, Nat.reduceSub, Int.reduceEq, Int.reduceLT, Int.reduceLE, Int.reduceToNat]
    refine loopg (fun k : Nat => ⟨[(1, .bx m 0), (2, .bx (m + 1) 0), (3, .bx (m + 2) 0), (6, .bx (n + 1) 0), (12, .ds (mapC itC d.i)), (13, .i .i64 d.i.length), (14, .i .i64 j), (22, .ds (mapC celC x.l)), (23, .i .i64 x.l.length), (24, .i .i64 k)], (n + 1, .bx [.s x.t, .rw (n + 2) k k]) :: (n + 2, .rw k 7 (mapC celC (x.l.take k))) :: H, n + 3⟩)
      (fun k => k ≤ x.l.length) (fun k => x.l.length - k) 0 (Nat.zero_le _) ?_ (fun k hk => ?_)
    · refine (weak_b0 (c := n + 1) (i := 1) (m := 7) (cs := [.s x.t, .e0]) (by simp only [go_sem, ↓reduceIte, Nat.reduceEqDiff, Nat.reduceBEq, Nat.reduceAdd, Nat.reduceLeDiff, Nat.reduceLT, reduceCtorEq, Nat.reduceMul, Nat.reduceSub, Int.reduceEq, Int.reduceLT, Int.reduceLE, Int.reduceToNat]) rfl).trans (weak_ok ?_ (Sub.cons ?_ (Sub.cons ?_ (Sub.base hj.fr ?_))) (Nat.le_refl _))
      all_goals first | ((simp only [List.set_cons_succ, List.set_cons_zero, List.take_zero, mapC_nil, go_sem, ↓reduceIte, Nat.reduceEqDiff, Nat.reduceBEq, Nat.reduceAdd, Nat.reduceLeDiff, Nat.reduceLT, reduceCtorEq, Nat.reduceMul, Nat.reduceSub, Int.reduceEq, Int.reduceLT, Int.reduceLE, Int.reduceToNat]); done) | (dsimp only; omega) | trace_state
    have n1 : ¬ n = m := by omega
    have n2 : ¬ n = m + 1 := by omega
    have n3 : ¬ n = m + 2 := by omega
    have n4 : ¬ n = m + 3 := by omega
    have n5 : ¬ n + 1 = m := by omega
    have n6 : ¬ n + 1 = m + 1 := by omega
    have n7 : ¬ n + 1 = m + 2 := by omega
    have n8 : ¬ n + 1 = m + 3 := by omega
    have n9 : ¬ n + 2 = m := by omega
    have n10 : ¬ n + 2 = m + 1 := by omega
    have n11 : ¬ n + 2 = m + 2 := by omega
    have n12 : ¬ n + 2 = m + 3 := by omega
    have n13 : ¬ n + 3 = m := by omega
    have n14 : ¬ n + 3 = m + 1 := by omega
    have n15 : ¬ n + 3 = m + 2 := by omega
    have n16 : ¬ n + 3 = m + 3 := by omega
    have n17 : ¬ n + 4 = m := by omega
    have n18 : ¬ n + 4 = m + 1 := by omega
    have n19 : ¬ n + 4 = m + 2 := by omega
    have n20 : ¬ n + 4 = m + 3 := by omega
    have n21 : m < n + 3 := by omega
    have n22 : m + 1 < n + 3 := by omega
    have n23 : m + 2 < n + 3 := by omega
    simp only [c, i1, i2, i3, i4, n1, n2, n3, n4, n5, n6, n7, n8, n9, n10, n11, n12, n13, n14, n15, n16, n17, n18, n19, n20, getK_s (mapC_get itC ex), go_sem, ↓reduceIte, Nat.reduceEqDiff, Nat.reduceBEq, Nat.reduceAdd, Nat.reduceLeDiff, Nat.reduceLT, reduceCtorEq, Nat.reduceMul, Nat.reduceSub, Int.reduceEq, Int.reduceLT, Int.reduceLE, Int.reduceToNat]
    refine cdK_of (fun q => ?_) (fun q => ?_)
    · have q : k < x.l.length := by simpa using q
      obtain ⟨y, ey⟩ : ∃ y, x.l[k]? = some y := ⟨x.l[k], by simp [q]⟩
      have fy := hd.c (List.mem_of_getElem? ex) (List.mem_of_getElem? ey)
      have hlk : (x.l.take k).length = k := by rw [List.length_take]; omega
      simp only [c, q, i1, i2, i3, i4, n1, n2, n3, n4, n5, n6, n7, n8, n9, n10, n11, n12, n13, n14, n15, n16, n17, n18, n19, n20, n9, n10, n11, n12, n13, n14, n15, n16, n17, n18, n19, n20, getK_s (mapC_get itC ex), getK_s (mapC_get celC ey), go_sem, ↓reduceIte, Nat.reduceEqDiff, Nat.reduceBEq, Nat.reduceAdd, Nat.reduceLeDiff, Nat.reduceLT, reduceCtorEq, Nat.reduceMul, Nat.reduceSub, Int.reduceEq, Int.reduceLT, Int.reduceLE, Int.reduceToNat]
      refine vcCall.f (copy_ok y.v fy _ _) ?_
      simp only [c, q, n1, n2, n3, n4, n5, n6, n7, n8, n9, n10, n11, n12, n13, n14, n15, n16, n17, n18, n19, n20, n9, n10, n11, n12, n13, n14, n15, n16, n17, n18, n19, n20, hlk, go_sem, ↓reduceIte, Nat.reduceEqDiff, Nat.reduceBEq, Nat.reduceAdd, Nat.reduceLeDiff, Nat.reduceLT, reduceCtorEq, Nat.reduceMul, Nat.reduceSub, Int.reduceEq, Int.reduceLT, Int.reduceLE, Int.reduceToNat]
      have k8 : (k + 1) * 112 ≤ 140737489403904 ∧ k ≤ 9223372036854775806 := by omega
      have k6 : k < 9223372036854775807 := by omega
      simp only [wr64s k k6, take_snoc ey, go_sem, ↓reduceIte, Nat.reduceEqDiff, Nat.reduceBEq, Nat.reduceAdd, Nat.reduceLeDiff, Nat.reduceLT, reduceCtorEq, Nat.reduceMul, Nat.reduceSub, Int.reduceEq, Int.reduceLT, Int.reduceLE, Int.reduceToNat]
      refine ⟨k8.1, k8.2, k + 1, q, by omega, weakG_ok ?_ (SubG.cons ?_ ?_ ?_ (SubG.cons ?_ ?_ ?_ (SubG.base hj.fr ?_ ?_ ?_)))⟩
      all_goals first | ((simp only [n21, n22, n23, go_sem, ↓reduceIte, Nat.reduceEqDiff, Nat.reduceBEq, Nat.reduceAdd, Nat.reduceLeDiff, Nat.reduceLT, reduceCtorEq, Nat.reduceMul, Nat.reduceSub, Int.reduceEq, Int.reduceLT, Int.reduceLE, Int.reduceToNat]); done) | (dsimp only; omega) | trace_state
    · have q : k = x.l.length := by simp at q; omega
      subst q
      rw [List.take_length]
      have j8 : (j + 1) * 40 ≤ 140737489403904 ∧ j ≤ 9223372036854775806 := by omega
      have j6 : j < 9223372036854775807 := by omega
      have hA : A.length = j := by rw [hj.nst.len, List.length_take]; omega
      simp only [i3, i4, n1, n2, n3, n4, n5, n6, n7, n8, n9, n10, n11, n12, n13, n14, n15, n16, n17, n18, n19, n20, n9, n10, n11, n12, n13, n14, n15, n16, n17, n18, n19, n20, hA, wr64s j j6, go_sem, ↓reduceIte, Nat.reduceEqDiff, Nat.reduceBEq, Nat.reduceAdd, Nat.reduceLeDiff, Nat.reduceLT, reduceCtorEq, Nat.reduceMul, Nat.reduceSub, Int.reduceEq, Int.reduceLT, Int.reduceLE, Int.reduceToNat]
      refine ⟨j8.1, j8.2, (j + 1, _, _, A ++ [[.s x.t, .rw (n + 2) x.l.length x.l.length]], g + 1), ?_, by dsimp only; omega, weak_ok ?_ (Sub.refl _) (Nat.le_refl _)⟩
      · dsimp only
        refine ⟨c, by omega, ?_, ?_, ?_, ?_, ?_, ?_, ?_⟩
        · simp only [i1, n1, n2, n3, n4, n5, n6, n7, n8, n9, n10, n11, n12, n13, n14, n15, n16, n17, n18, n19, n20, go_sem, ↓reduceIte, Nat.reduceEqDiff, Nat.reduceBEq, Nat.reduceAdd, Nat.reduceLeDiff, Nat.reduceLT, reduceCtorEq, Nat.reduceMul, Nat.reduceSub, Int.reduceEq, Int.reduceLT, Int.reduceLE, Int.reduceToNat]
        · simp only [i2, n1, n2, n3, n4, n5, n6, n7, n8, n9, n10, n11, n12, n13, n14, n15, n16, n17, n18, n19, n20, go_sem, ↓reduceIte, Nat.reduceEqDiff, Nat.reduceBEq, Nat.reduceAdd, Nat.reduceLeDiff, Nat.reduceLT, reduceCtorEq, Nat.reduceMul, Nat.reduceSub, Int.reduceEq, Int.reduceLT, Int.reduceLE, Int.reduceToNat]
        · simp only [n1, n2, n3, n4, n5, n6, n7, n8, n9, n10, n11, n12, n13, n14, n15, n16, n17, n18, n19, n20, go_sem, ↓reduceIte, Nat.reduceEqDiff, Nat.reduceBEq, Nat.reduceAdd, Nat.reduceLeDiff, Nat.reduceLT, reduceCtorEq, Nat.reduceMul, Nat.reduceSub, Int.reduceEq, Int.reduceLT, Int.reduceLE, Int.reduceToNat]
        · simp only [n1, n2, n3, n4, n5, n6, n7, n8, n9, n10, n11, n12, n13, n14, n15, n16, n17, n18, n19, n20, go_sem, ↓reduceIte, Nat.reduceEqDiff, Nat.reduceBEq, Nat.reduceAdd, Nat.reduceLeDiff, Nat.reduceLT, reduceCtorEq, Nat.reduceMul, Nat.reduceSub, Int.reduceEq, Int.reduceLT, Int.reduceLE, Int.reduceToNat]
        · exact up_in (up_in (up_in (up_in (up_in hj.up (by omega)) (by omega)) (by omega)) (by omega)) (by omega)
        · rw [← take_snoc ex]
          refine (hj.nst.frame (hi' := n) (Nat.le_refl _) fun k k1 k2 => ?_).snoc (k := n + 2) (by omega) (by omega) (by omega) ?_
          · rw [gc_ne _ _ (by omega), gc_ne _ _ (by omega), gc_ne _ _ (by omega), gc_ne _ _ (by omega), gc_ne _ _ (by omega)]
          · rw [gc_ne _ _ (by omega), gc_ne _ _ (by omega), gc_ne _ _ (by omega), gc_ne _ _ (by omega), gc_same]
        · intro k hk
          rw [gc_ne _ _ (by omega), gc_ne _ _ (by omega), gc_ne _ _ (by omega), gc_ne _ _ (by omega), gc_ne _ _ (by omega)]
          exact hj.fr k (by omega)
      · simp only [go_sem, ↓reduceIte, Nat.reduceEqDiff, Nat.reduceBEq, Nat.reduceAdd, Nat.reduceLeDiff, Nat.reduceLT, reduceCtorEq, Nat.reduceMul, Nat.reduceSub, Int.reduceEq, Int.reduceLT, Int.reduceLE, Int.reduceToNat]
  · have c : j = d.i.length := by have := hj.lj; simp at c; omega
    subst c
    simp only [i1, i2, i3, i4, go_sem, ↓reduceIte, Nat.reduceEqDiff, Nat.reduceBEq, Nat.reduceAdd, Nat.reduceLeDiff, Nat.reduceLT, reduceCtorEq, Nat.reduceMul, Nat.reduceSub, Int.reduceEq, Int.reduceLT, Int.reduceLE, Int.reduceToNat]
    have n1 : ¬ n = m := by omega
    have n2 : ¬ n = m + 1 := by omega
    have n3 : ¬ n = m + 2 := by omega
    have n3' : ¬ m + 2 = n := by omega
    have n13 : m < n + 1 := by omega
    have n14 : m + 1 < n + 1 := by omega
    have n15 : m + 2 < n + 1 := by omega
    have n16 : m + 3 < n + 1 := by omega
    have n5 : ¬ n + 1 = m := by omega
    have n6 : ¬ n + 1 = m + 1 := by omega
    have n7 : ¬ n + 1 = m + 2 := by omega
    have n8 : ¬ n + 1 = m + 3 := by omega
    refine loopg (fun k : Nat => ⟨[(2, .bx (m + 1) 0), (3, .bx (m + 2) 0), (47, .ds (mapC wrC d.w)), (48, .i .i64 d.w.length), (49, .i .i64 k)], (m + 2, .bx [.rw (m + 3) g d.i.length, .rw n k k]) :: (n, .rw k 10 (mapC wrC (d.w.take k))) :: H, n + 1⟩)
      (fun k => k ≤ d.w.length) (fun k => d.w.length - k) 0 (Nat.zero_le _) ?_ (fun k hk => ?_)
    · refine (weak_b0 (c := m + 2) (i := 1) (m := 10) (cs := [.rw (m + 3) g d.i.length, .e0]) i3 rfl).trans (weak_ok ?_ (SubX.sub (SubX.cons ?_ (SubX.cons ?_ (SubX.base hj.fr ?_)))) (Nat.le_refl _))
      all_goals first | ((simp only [List.set_cons_succ, List.set_cons_zero, List.take_zero, mapC_nil, n3, n3', go_sem, ↓reduceIte, Nat.reduceEqDiff, Nat.reduceBEq, Nat.reduceAdd, Nat.reduceLeDiff, Nat.reduceLT, reduceCtorEq, Nat.reduceMul, Nat.reduceSub, Int.reduceEq, Int.reduceLT, Int.reduceLE, Int.reduceToNat]); done) | (dsimp only; omega) | trace_state
    simp only [i1, i2, n1, n2, n3, go_sem, ↓reduceIte, Nat.reduceEqDiff, Nat.reduceBEq, Nat.reduceAdd, Nat.reduceLeDiff, Nat.reduceLT, reduceCtorEq, Nat.reduceMul, Nat.reduceSub, Int.reduceEq, Int.reduceLT, Int.reduceLE, Int.reduceToNat]
    refine cdK_of (fun q => ?_) (fun q => ?_)
    · have q : k < d.w.length := by simpa using q
      obtain ⟨y, ey⟩ : ∃ y, d.w[k]? = some y := ⟨d.w[k], by simp [q]⟩
      have fy := hd.w (List.mem_of_getElem? ey)
      have hlk : (d.w.take k).length = k := by rw [List.length_take]; omega
      have hw2 : (k : Int) < d.w.length := by omega
      simp only [q, hw2, i1, i2, n1, n2, n3, n3', n5, n6, n7, n8, getK_s (mapC_get wrC ey), go_sem, ↓reduceIte, Nat.reduceEqDiff, Nat.reduceBEq, Nat.reduceAdd, Nat.reduceLeDiff, Nat.reduceLT, reduceCtorEq, Nat.reduceMul, Nat.reduceSub, Int.reduceEq, Int.reduceLT, Int.reduceLE, Int.reduceToNat]
      refine vcCall.f (copy_ok y.c.v fy _ _) ?_
      have k8 : (k + 1) * 152 ≤ 140737489403904 ∧ k ≤ 9223372036854775806 := by omega
      have k6 : k < 9223372036854775807 := by omega
      simp only [q, n1, n2, n3, n3', n5, n6, n7, n8, hlk, wr64s k k6, take_snoc ey, go_sem, ↓reduceIte, Nat.reduceEqDiff, Nat.reduceBEq, Nat.reduceAdd, Nat.reduceLeDiff, Nat.reduceLT, reduceCtorEq, Nat.reduceMul, Nat.reduceSub, Int.reduceEq, Int.reduceLT, Int.reduceLE, Int.reduceToNat]
      refine ⟨k8.1, k8.2, k + 1, q, by omega, weakG_ok ?_ (SubGX.sub (SubGX.cons ?_ ?_ ?_ (SubGX.cons ?_ ?_ ?_ (SubGX.base hj.fr ?_ ?_ ?_))))⟩
      all_goals first | ((simp only [n3, n3', n13, n14, n15, n16, go_sem, ↓reduceIte, Nat.reduceEqDiff, Nat.reduceBEq, Nat.reduceAdd, Nat.reduceLeDiff, Nat.reduceLT, reduceCtorEq, Nat.reduceMul, Nat.reduceSub, Int.reduceEq, Int.reduceLT, Int.reduceLE, Int.reduceToNat]); done) | (dsimp only; omega) | trace_state
    · have q : k = d.w.length := by simp at q; omega
      subst q
      rw [List.take_length]
      simp only [i2, n1, n2, n3, go_sem, ↓reduceIte, Nat.reduceEqDiff, Nat.reduceBEq, Nat.reduceAdd, Nat.reduceLeDiff, Nat.reduceLT, reduceCtorEq, Nat.reduceMul, Nat.reduceSub, Int.reduceEq, Int.reduceLT, Int.reduceLE, Int.reduceToNat]
      refine ⟨m + 3, g, A, n, d.w.length, rfl, ?_, ?_, ?_, by omega, by omega, ?_, ?_⟩
      · rw [gc_ne _ _ (by omega), gc_ne _ _ (by omega), gc_ne _ _ (by omega)]
        exact i4
      · rw [gc_ne _ _ (by omega), gc_ne _ _ (by omega), gc_same]
      · exact up_in (up_in (up_in hj.up (by omega)) (by omega)) (by omega)
      · have h := hj.nst
        rw [List.take_length] at h
        refine ⟨h.len, fun i x e => ?_, h.inj⟩
        obtain ⟨k, g', k1, k2, k3, k4⟩ := h.get i x e
        refine ⟨k, g', by omega, by omega, k3, ?_⟩
        rw [gc_ne _ _ (by omega), gc_ne _ _ (by omega), gc_ne _ _ (by omega)]
        exact k4
      · intro k hk
        rw [gc_ne _ _ (by omega), gc_ne _ _ (by omega), gc_ne _ _ (by omega)]
        exact hj.fr k (by omega)
end Go.Proofs.Ythiifoleopdieaa
