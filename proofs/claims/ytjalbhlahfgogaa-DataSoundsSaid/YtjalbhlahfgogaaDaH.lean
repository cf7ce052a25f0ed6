/-
  Keys of datasets identify items, or not. Conditions: none.
-/
import Derived.Test.YtjalbhlahfgogaaDaG
namespace Go.Proofs.Ytjalbhlahfgogaa
open Go.Eng
set_option linter.unusedVariables false
set_option linter.unusedSimpArgs false
set_option maxRecDepth 20000
/-- An earlier item has the same values. -/
noncomputable def dupD (d : Dat) (k : Ky) (j : Nat) (l : List Val) : Bool := (List.range j).any fun q => decide (typD d q = k.t) && alk l (valsD d q k.l)
noncomputable def okK (d : Dat) (k : Ky) (j : Nat) : Bool := !decide (typD d j = k.t) || (!((valsD d j k.l).any fun v => !leafV v) && !dupD d k j (valsD d j k.l))
noncomputable def sndF (d : Dat) (k : Ky) (j : Nat) : Bool := (List.range' j (d.i.length - j)).all (okK d k)
noncomputable def sndD (d : Dat) (K : List Ky) : Bool := !(d.w.any (mvW d K)) && K.all fun k => sndF d k 0
theorem sndF_at {d : Dat} {k : Ky} {j : Nat} (h : j < d.i.length) : sndF d k j = (okK d k j && sndF d k (j + 1)) := by
  rw [sndF, show d.i.length - j = (d.i.length - (j + 1)) + 1 by omega, List.range'_succ, List.all_cons, sndF]
theorem sndF_end {d : Dat} {k : Ky} : sndF d k d.i.length = true := by rw [sndF, Nat.sub_self]; rfl
theorem dupD_snoc (d : Dat) (k : Ky) (j : Nat) (l : List Val) : dupD d k (j + 1) l = (dupD d k j l || (decide (typD d j = k.t) && alk l (valsD d j k.l))) := by
  rw [dupD, List.range_succ, List.any_append]
  simp [dupD]
/-- The lists of values so far. -/
structure Seen (d : Dat) (k : Ky) (i : Nat) (s : List (List Val)) : Prop where
  a : ∀ y ∈ s, y.length = k.l.length ∧ ∀ v ∈ y, v.Fit
  b : s.length ≤ i
  c : ∀ l, s.any (alk l) = dupD d k i l
theorem Seen.zero (d : Dat) (k : Ky) : Seen d k 0 [] := ⟨(fun y hy => (by cases hy)), Nat.le_refl _, fun l => rfl⟩
theorem Seen.skip {d : Dat} {k : Ky} {i : Nat} {s : List (List Val)} (h : Seen d k i s) (hi : ¬ typD d i = k.t) : Seen d k (i + 1) s :=
  ⟨h.a, Nat.le_succ_of_le h.b, fun l => by rw [dupD_snoc, h.c, decide_eq_false hi, Bool.false_and, Bool.or_false]⟩
theorem Seen.snoc {d : Dat} (hd : d.Fit) {k : Ky} {i : Nat} {s : List (List Val)} (h : Seen d k i s) (hi : typD d i = k.t) : Seen d k (i + 1) (s ++ [valsD d i k.l]) :=
  ⟨fun y hy => by
    rcases List.mem_append.1 hy with q | q
    · exact h.a y q
    · simp at q
      subst q
      exact ⟨valsD_len _ _ _, valsD_fit hd _ _⟩, by have := h.b; simp; omega, fun l => by
    rw [dupD_snoc, ← h.c, decide_eq_true hi, Bool.true_and, List.any_append]
    simp⟩
theorem seen_eq {d : Dat} {k : Ky} {i : Nat} {s : List (List Val)} (h : Seen d k i s) {l : List Val} (hl : l.length = k.l.length) : s.any (eqK l) = dupD d k i l := by
  rw [← h.c]
  have key : ∀ y ∈ s, eqK l y = alk l y := fun y hy => by rw [eqK, decide_eq_true (by rw [hl, (h.a y hy).1]), Bool.true_and]
  rw [Bool.eq_iff_iff, List.any_eq_true, List.any_eq_true]
  exact ⟨fun ⟨y, hy, e⟩ => ⟨y, hy, by rw [← key y hy]; exact e⟩, fun ⟨y, hy, e⟩ => ⟨y, hy, by rw [key y hy]; exact e⟩⟩
theorem fidx_any' {α : Type} (q : α → Bool) (l : List α) : decide (0 ≤ fidx q l 0) = l.any q := fidx_any q l 0
theorem dSound_ok (d : Dat) (hd : d.Fit) (K : List Ky) (hK : K.length ≤ 1000000000) (hkl : ∀ k ∈ K, k.l.length ≤ 1000000000) (hp : CH) (m : Nat) : MeetsF Try.prog 26 hp m [sx' K, dx d] (.b (sndD d K)) := by
  have hli := hd.li
  obtain ⟨R, hR⟩ : ∃ R, sndD d K = R := ⟨_, rfl⟩
  have e := hR
  rw [sndD] at e
  rw [hR]
  refine meetsF Try.func26 (by kernel_rfl) cc26 cr26 rfl fun hf => ?_; unfold ck26
  simp only [go_sem, ↓reduceIte, Nat.reduceEqDiff, Nat.reduceBEq, Nat.reduceAdd, Nat.reduceLeDiff, Nat.reduceLT, reduceCtorEq, Nat.reduceMul, Nat.reduceSub, Int.reduceEq, Int.reduceLT, Int.reduceLE, Int.reduceToNat]
  refine vcCall.f (dWritesKey_ok d hd K (by omega) (fun k hk => by have := hkl k hk; omega) _ _) ?_
  simp only [go_sem, ↓reduceIte, Nat.reduceEqDiff, Nat.reduceBEq, Nat.reduceAdd, Nat.reduceLeDiff, Nat.reduceLT, reduceCtorEq, Nat.reduceMul, Nat.reduceSub, Int.reduceEq, Int.reduceLT, Int.reduceLE, Int.reduceToNat]
  refine cdK_of (fun c => ?_) (fun c => ?_)
  · rw [c] at e
    subst e
    simp only [go_sem, ↓reduceIte, Nat.reduceEqDiff, Nat.reduceBEq, Nat.reduceAdd, Nat.reduceLeDiff, Nat.reduceLT, reduceCtorEq, Nat.reduceMul, Nat.reduceSub, Int.reduceEq, Int.reduceLT, Int.reduceLE, Int.reduceToNat]
  rw [c, Bool.not_false, Bool.true_and] at e
  simp only [go_sem, ↓reduceIte, Nat.reduceEqDiff, Nat.reduceBEq, Nat.reduceAdd, Nat.reduceLeDiff, Nat.reduceLT, reduceCtorEq, Nat.reduceMul, Nat.reduceSub, Int.reduceEq, Int.reduceLT, Int.reduceLE, Int.reduceToNat]
  refine loop (fun p : Nat × Nat => ⟨[(3, .bx (m + 1) 0), (21, .ds (mapC kyC K)), (22, .i .i64 K.length), (23, .i .i64 p.1)], (m + 1, .bx [.ds (mapC itC d.i), .ds (mapC wrC d.w)]) :: hp, p.2⟩)
    (fun p => p.1 ≤ K.length ∧ m + 2 ≤ p.2 ∧ R = (K.drop p.1).all fun k => sndF d k 0) (fun p => K.length - p.1) (0, m + 2) ?_ ?_ (fun ⟨j, n⟩ hj => ?_)
  · exact ⟨by simp, by simp, e.symm⟩
  · refine weak_ok ?_ (Sub.cons ?_ (Sub.base hf ?_)) (Nat.le_refl _)
    all_goals simp only [go_sem, ↓reduceIte, Nat.reduceEqDiff, Nat.reduceBEq, Nat.reduceAdd, Nat.reduceLeDiff, Nat.reduceLT, reduceCtorEq, Nat.reduceMul, Nat.reduceSub, Int.reduceEq, Int.reduceLT, Int.reduceLE, Int.reduceToNat]
  dsimp only at hj
  obtain ⟨hj1, hj2, hj3⟩ := hj
  have z0 : ¬ m + 1 = n := by omega
  have z1 : ¬ m + 1 = n + 1 := by omega
  have z2 : ¬ n = m + 1 := by omega
  have z3 : ¬ n + 1 = m + 1 := by omega
  have z4 : m ≤ n := by omega
  have z5 : m ≤ n + 1 := by omega
  simp only [z0, z1, z2, z3, z4, z5, go_sem, ↓reduceIte, Nat.reduceEqDiff, Nat.reduceBEq, Nat.reduceAdd, Nat.reduceLeDiff, Nat.reduceLT, reduceCtorEq, Nat.reduceMul, Nat.reduceSub, Int.reduceEq, Int.reduceLT, Int.reduceLE, Int.reduceToNat]
  refine cdK_of (fun q => ?_) (fun q => ?_)
  · have q : j < K.length := by simpa using q
    obtain ⟨k, ek⟩ : ∃ k, K[j]? = some k := ⟨K[j], by simp [q]⟩
    have hk := hkl k (List.mem_of_getElem? ek)
    rw [drop_at ek, List.all_cons] at hj3
    simp only [z0, z1, z2, z3, z4, z5, q, getK_s (mapC_get kyC ek), go_sem, ↓reduceIte, Nat.reduceEqDiff, Nat.reduceBEq, Nat.reduceAdd, Nat.reduceLeDiff, Nat.reduceLT, reduceCtorEq, Nat.reduceMul, Nat.reduceSub, Int.reduceEq, Int.reduceLT, Int.reduceLE, Int.reduceToNat]
    refine loop (fun p : Nat × List (List Val) × Nat => ⟨[(3, .bx (m + 1) 0), (6, .bx n 0), (7, .rw (n + 1) p.2.1.length p.2.1.length), (21, .ds (mapC kyC K)), (22, .i .i64 K.length), (23, .i .i64 j), (28, .ds (mapC itC d.i)), (29, .i .i64 d.i.length), (30, .i .i64 p.1)], (n + 1, .rw p.2.1.length 1 (mapC llC p.2.1)) :: (n, .bx [.s k.t, .i .i64 k.g, .ds (stC k.l)]) :: (m + 1, .bx [.ds (mapC itC d.i), .ds (mapC wrC d.w)]) :: hp, p.2.2⟩)
      (fun p => p.1 ≤ d.i.length ∧ n + 2 ≤ p.2.2 ∧ Seen d k p.1 p.2.1 ∧ sndF d k 0 = sndF d k p.1) (fun p => d.i.length - p.1) (0, [], n + 2) ?_ ?_ (fun ⟨i, s, n2⟩ hi => ?_)
    · exact ⟨by simp, by simp, Seen.zero d k, rfl⟩
    · refine (weak_e0 (t := 7) (m := 1) ?_).trans (weak_ok ?_ (Sub.cons ?_ (Sub.cons ?_ (Sub.cons ?_ (Sub.base hf ?_)))) (Nat.le_refl _))
      all_goals try (simp only [z0, z1, z2, z3, z4, z5, mapC_nil, List.length_nil, go_sem, ↓reduceIte, Nat.reduceEqDiff, Nat.reduceBEq, Nat.reduceAdd, Nat.reduceLeDiff, Nat.reduceLT, reduceCtorEq, Nat.reduceMul, Nat.reduceSub, Int.reduceEq, Int.reduceLT, Int.reduceLE, Int.reduceToNat])
      all_goals first | done | rfl | trace_state
    dsimp only at hi
    obtain ⟨hi1, hi2, hi3, hi4⟩ := hi
    have hsb := hi3.b
    have z0 : ¬ m + 1 = n := by omega
    have z1 : ¬ m + 1 = n + 1 := by omega
    have z2 : ¬ m + 1 = n2 := by omega
    have z3 : ¬ m + 1 = n2 + 1 := by omega
    have z4 : ¬ m + 1 = n2 + 2 := by omega
    have z5 : ¬ n = m + 1 := by omega
    have z6 : ¬ n + 1 = m + 1 := by omega
    have z7 : ¬ n = n2 := by omega
    have z8 : ¬ n = n2 + 1 := by omega
    have z9 : ¬ n = n2 + 2 := by omega
    have z10 : ¬ n + 1 = n2 := by omega
    have z11 : ¬ n + 1 = n2 + 1 := by omega
    have z12 : ¬ n + 1 = n2 + 2 := by omega
    have z13 : ¬ n2 = m + 1 := by omega
    have z14 : ¬ n2 + 1 = m + 1 := by omega
    have z15 : ¬ n2 + 2 = m + 1 := by omega
    have z16 : ¬ n2 = n := by omega
    have z17 : ¬ n2 = n + 1 := by omega
    have z18 : ¬ n2 + 1 = n := by omega
    have z19 : ¬ n2 + 1 = n + 1 := by omega
    have z20 : ¬ n2 + 2 = n := by omega
    have z21 : ¬ n2 + 2 = n + 1 := by omega
    have z22 : m ≤ n := by omega
    have z23 : m ≤ n + 1 := by omega
    have z24 : m ≤ n2 := by omega
    have z25 : m ≤ n2 + 1 := by omega
    have z26 : m ≤ n2 + 2 := by omega
    simp only [z0, z1, z2, z3, z4, z5, z6, z7, z8, z9, z10, z11, z12, z13, z14, z15, z16, z17, z18, z19, z20, z21, z22, z23, z24, z25, z26, go_sem, ↓reduceIte, Nat.reduceEqDiff, Nat.reduceBEq, Nat.reduceAdd, Nat.reduceLeDiff, Nat.reduceLT, reduceCtorEq, Nat.reduceMul, Nat.reduceSub, Int.reduceEq, Int.reduceLT, Int.reduceLE, Int.reduceToNat]
    refine cdK_of (fun q2 => ?_) (fun q2 => ?_)
    · have q2 : i < d.i.length := by simpa using q2
      obtain ⟨x, ex⟩ : ∃ x, d.i[i]? = some x := ⟨d.i[i], by simp [q2]⟩
      have et := typD_at ex
      rw [sndF_at q2, okK, et] at hi4
      simp only [z0, z1, z2, z3, z4, z5, z6, z7, z8, z9, z10, z11, z12, z13, z14, z15, z16, z17, z18, z19, z20, z21, z22, z23, z24, z25, z26, q2, getK_s (mapC_get itC ex), go_sem, ↓reduceIte, Nat.reduceEqDiff, Nat.reduceBEq, Nat.reduceAdd, Nat.reduceLeDiff, Nat.reduceLT, reduceCtorEq, Nat.reduceMul, Nat.reduceSub, Int.reduceEq, Int.reduceLT, Int.reduceLE, Int.reduceToNat]
      refine cdK_of (fun c1 => ?_) (fun c1 => ?_)
      · have c1 : ¬ x.t = k.t := by simpa using c1
        rw [decide_eq_false c1, Bool.not_false, Bool.true_or, Bool.true_and] at hi4
        simp only [z0, z1, z2, z3, z4, z5, z6, z7, z8, z9, z10, z11, z12, z13, z14, z15, z16, z17, z18, z19, z20, z21, z22, z23, z24, z25, z26, go_sem, ↓reduceIte, Nat.reduceEqDiff, Nat.reduceBEq, Nat.reduceAdd, Nat.reduceLeDiff, Nat.reduceLT, reduceCtorEq, Nat.reduceMul, Nat.reduceSub, Int.reduceEq, Int.reduceLT, Int.reduceLE, Int.reduceToNat]
        refine ⟨(i + 1, s, _), ⟨by dsimp only; omega, by dsimp only; omega, hi3.skip (by rw [et]; exact c1), hi4⟩, by dsimp only; omega, weak_ok ?_ (Sub.cons ?_ (Sub.cons ?_ (Sub.cons ?_ (Sub.base hf ?_)))) (Nat.le_refl _)⟩
        all_goals
          simp only [z0, z1, z2, z3, z4, z5, z6, z7, z8, z9, z10, z11, z12, z13, z14, z15, z16, z17, z18, z19, z20, z21, z22, z23, z24, z25, z26, wr64s i (by omega), go_sem, ↓reduceIte, Nat.reduceEqDiff, Nat.reduceBEq, Nat.reduceAdd, Nat.reduceLeDiff, Nat.reduceLT, reduceCtorEq, Nat.reduceMul, Nat.reduceSub, Int.reduceEq, Int.reduceLT, Int.reduceLE, Int.reduceToNat]
      have c1 : x.t = k.t := by simpa using c1
      rw [decide_eq_true c1, Bool.not_true, Bool.false_or] at hi4
      simp only [z0, z1, z2, z3, z4, z5, z6, z7, z8, z9, z10, z11, z12, z13, z14, z15, z16, z17, z18, z19, z20, z21, z22, z23, z24, z25, z26, go_sem, ↓reduceIte, Nat.reduceEqDiff, Nat.reduceBEq, Nat.reduceAdd, Nat.reduceLeDiff, Nat.reduceLT, reduceCtorEq, Nat.reduceMul, Nat.reduceSub, Int.reduceEq, Int.reduceLT, Int.reduceLE, Int.reduceToNat]
      refine loop (fun p : Nat × Nat => ⟨[(3, .bx (m + 1) 0), (6, .bx n 0), (7, .rw (n + 1) s.length s.length), (8, .i .i64 i), (10, .bx (n2 + 1) 0), (21, .ds (mapC kyC K)), (22, .i .i64 K.length), (23, .i .i64 j), (28, .ds (mapC itC d.i)), (29, .i .i64 d.i.length), (30, .i .i64 i), (41, .ds (stC k.l)), (42, .i .i64 k.l.length), (43, .i .i64 p.1)], (n2 + 1, .bx [.rw (n2 + 2) p.1 p.1]) :: (n2 + 2, .rw p.1 5 (mapC valC (valsD d i (k.l.take p.1)))) :: (n + 1, .rw s.length 1 (mapC llC s)) :: (n, .bx [.s k.t, .i .i64 k.g, .ds (stC k.l)]) :: (m + 1, .bx [.ds (mapC itC d.i), .ds (mapC wrC d.w)]) :: hp, p.2⟩)
        (fun p => p.1 ≤ k.l.length ∧ n2 + 3 ≤ p.2) (fun p => k.l.length - p.1) (0, n2 + 3) ?_ ?_ (fun ⟨f, n3⟩ hg => ?_)
      · exact ⟨by simp, by simp⟩
      · refine (weak_b0 (c := n2 + 1) (i := 0) (m := 5) (gc_same _ _ _) rfl).trans (weak_ok ?_ (Sub.cons ?_ (Sub.cons ?_ (Sub.cons ?_ (Sub.cons ?_ (Sub.cons ?_ (Sub.base hf ?_)))))) (Nat.le_refl _))
        all_goals
          simp only [z0, z1, z2, z3, z4, z5, z6, z7, z8, z9, z10, z11, z12, z13, z14, z15, z16, z17, z18, z19, z20, z21, z22, z23, z24, z25, z26, go_sem, ↓reduceIte, Nat.reduceEqDiff, Nat.reduceBEq, Nat.reduceAdd, Nat.reduceLeDiff, Nat.reduceLT, reduceCtorEq, Nat.reduceMul, Nat.reduceSub, Int.reduceEq, Int.reduceLT, Int.reduceLE, Int.reduceToNat]
        all_goals rfl
      dsimp only at hg
      obtain ⟨hg1, hg2⟩ := hg
      have hvl := valsD_len d i (k.l.take f)
      rw [List.length_take, Nat.min_eq_left hg1] at hvl
      have z0 : ¬ m + 1 = n := by omega
      have z1 : ¬ m + 1 = n + 1 := by omega
      have z2 : ¬ m + 1 = n2 := by omega
      have z3 : ¬ m + 1 = n2 + 1 := by omega
      have z4 : ¬ m + 1 = n2 + 2 := by omega
      have z5 : ¬ m + 1 = n3 := by omega
      have z6 : ¬ n = m + 1 := by omega
      have z7 : ¬ n + 1 = m + 1 := by omega
      have z8 : ¬ n = n2 := by omega
      have z9 : ¬ n = n2 + 1 := by omega
      have z10 : ¬ n = n2 + 2 := by omega
      have z11 : ¬ n + 1 = n2 := by omega
      have z12 : ¬ n + 1 = n2 + 1 := by omega
      have z13 : ¬ n + 1 = n2 + 2 := by omega
      have z14 : ¬ n = n3 := by omega
      have z15 : ¬ n + 1 = n3 := by omega
      have z16 : ¬ n2 = m + 1 := by omega
      have z17 : ¬ n2 + 1 = m + 1 := by omega
      have z18 : ¬ n2 + 2 = m + 1 := by omega
      have z19 : ¬ n2 = n := by omega
      have z20 : ¬ n2 = n + 1 := by omega
      have z21 : ¬ n2 + 1 = n := by omega
      have z22 : ¬ n2 + 1 = n + 1 := by omega
      have z23 : ¬ n2 + 2 = n := by omega
      have z24 : ¬ n2 + 2 = n + 1 := by omega
      have z25 : ¬ n2 = n3 := by omega
      have z26 : ¬ n2 + 1 = n3 := by omega
      have z27 : ¬ n2 + 2 = n3 := by omega
      have z28 : ¬ n3 = m + 1 := by omega
      have z29 : ¬ n3 = n := by omega
      have z30 : ¬ n3 = n + 1 := by omega
      have z31 : ¬ n3 = n2 := by omega
      have z32 : ¬ n3 = n2 + 1 := by omega
      have z33 : ¬ n3 = n2 + 2 := by omega
      have z34 : m ≤ n := by omega
      have z35 : m ≤ n + 1 := by omega
      have z36 : m ≤ n2 := by omega
      have z37 : m ≤ n2 + 1 := by omega
      have z38 : m ≤ n2 + 2 := by omega
      have z39 : m ≤ n3 := by omega
      simp only [z0, z1, z2, z3, z4, z5, z6, z7, z8, z9, z10, z11, z12, z13, z14, z15, z16, z17, z18, z19, z20, z21, z22, z23, z24, z25, z26, z27, z28, z29, z30, z31, z32, z33, z34, z35, z36, z37, z38, z39, go_sem, ↓reduceIte, Nat.reduceEqDiff, Nat.reduceBEq, Nat.reduceAdd, Nat.reduceLeDiff, Nat.reduceLT, reduceCtorEq, Nat.reduceMul, Nat.reduceSub, Int.reduceEq, Int.reduceLT, Int.reduceLE, Int.reduceToNat]
      refine cdK_of (fun q3 => ?_) (fun q3 => ?_)
      · have q3 : f < k.l.length := by simpa using q3
        obtain ⟨y, ey⟩ : ∃ y, k.l[f]? = some y := ⟨k.l[f], by simp [q3]⟩
        simp only [z0, z1, z2, z3, z4, z5, z6, z7, z8, z9, z10, z11, z12, z13, z14, z15, z16, z17, z18, z19, z20, z21, z22, z23, z24, z25, z26, z27, z28, z29, z30, z31, z32, z33, z34, z35, z36, z37, z38, z39, q3, getK_s (mapC_get st1 ey), go_sem, ↓reduceIte, Nat.reduceEqDiff, Nat.reduceBEq, Nat.reduceAdd, Nat.reduceLeDiff, Nat.reduceLT, reduceCtorEq, Nat.reduceMul, Nat.reduceSub, Int.reduceEq, Int.reduceLT, Int.reduceLE, Int.reduceToNat]
        first | refine dCallR.f (fun _ _ _ => dLookup_ok d hd _ _ _ _ _) ?_ | refine dCall.f (fun _ _ _ => dLookup_ok d hd _ _ _ _ _) ?_
        simp only [go_sem, ↓reduceIte, Nat.reduceEqDiff, Nat.reduceBEq, Nat.reduceAdd, Nat.reduceLeDiff, Nat.reduceLT, reduceCtorEq, Nat.reduceMul, Nat.reduceSub, Int.reduceEq, Int.reduceLT, Int.reduceLE, Int.reduceToNat]
        have hvt := valsD_take (d := d) (i := i) ey
        obtain ⟨X, hX⟩ : ∃ X, lookV d i y ⟨#[]⟩ = X := ⟨_, rfl⟩
        obtain ⟨V, hV⟩ : ∃ V, valsD d i (k.l.take f) = V := ⟨_, rfl⟩
        rw [hX, hV] at hvt
        rw [hV] at hvl ⊢
        rw [hX]
        have s0 : mapC valC V ++ [[AV.i .i64 0, .i .i64 0, .s ⟨#[]⟩, .ds [], .ds []]] = mapC valC (V ++ [zVal]) := mapC_snoc valC V zVal
        have s1 : V.take f = V := List.take_of_length_le (by omega)
        have s2 : (V ++ [zVal]).take (f + 1) = V ++ [zVal] := List.take_of_length_le (by simp; omega)
        have s3 : (V ++ [zVal]).length = f + 1 := by simp; omega
        have s4 : (V ++ [zVal])[f]? = some zVal := by rw [← hvl]; simp
        have s5 : (V ++ [zVal]).set f X = V ++ [X] := by rw [← hvl]; simp
        have s6 : f < f + 1 := by omega
        simp only [z0, z1, z2, z3, z4, z5, z6, z7, z8, z9, z10, z11, z12, z13, z14, z15, z16, z17, z18, z19, z20, z21, z22, z23, z24, z25, z26, z27, z28, z29, z30, z31, z32, z33, z34, z35, z36, z37, z38, z39, hvl, s0, s1, s2, s3, s5, s6, mapC_get valC s4, getK_s (mapC_get valC s4), go_sem, ↓reduceIte, Nat.reduceEqDiff, Nat.reduceBEq, Nat.reduceAdd, Nat.reduceLeDiff, Nat.reduceLT, reduceCtorEq, Nat.reduceMul, Nat.reduceSub, Int.reduceEq, Int.reduceLT, Int.reduceLE, Int.reduceToNat]
        refine ⟨⟨by omega, by omega⟩, (f + 1, _), ⟨by dsimp only; omega, by dsimp only; omega⟩, by dsimp only; omega, weak_ok ?_ (Sub.cons ?_ (Sub.cons ?_ (Sub.cons ?_ (Sub.cons ?_ (Sub.cons ?_ (Sub.base hf ?_)))))) (Nat.le_refl _)⟩
        all_goals
          simp only [z0, z1, z2, z3, z4, z5, z6, z7, z8, z9, z10, z11, z12, z13, z14, z15, z16, z17, z18, z19, z20, z21, z22, z23, z24, z25, z26, z27, z28, z29, z30, z31, z32, z33, z34, z35, z36, z37, z38, z39, wr64s f (by omega), hvt, go_sem, ↓reduceIte, Nat.reduceEqDiff, Nat.reduceBEq, Nat.reduceAdd, Nat.reduceLeDiff, Nat.reduceLT, reduceCtorEq, Nat.reduceMul, Nat.reduceSub, Int.reduceEq, Int.reduceLT, Int.reduceLE, Int.reduceToNat]
      · have q3 : f = k.l.length := by simp at q3; omega
        subst q3
        rw [List.take_length] at hvl ⊢
        simp only [z0, z1, z2, z3, z4, z5, z6, z7, z8, z9, z10, z11, z12, z13, z14, z15, z16, z17, z18, z19, z20, z21, z22, z23, z24, z25, z26, z27, z28, z29, z30, z31, z32, z33, z34, z35, z36, z37, z38, z39, hvl, go_sem, ↓reduceIte, Nat.reduceEqDiff, Nat.reduceBEq, Nat.reduceAdd, Nat.reduceLeDiff, Nat.reduceLT, reduceCtorEq, Nat.reduceMul, Nat.reduceSub, Int.reduceEq, Int.reduceLT, Int.reduceLE, Int.reduceToNat]
        have hLf := valsD_fit hd i k.l
        have hLl := valsD_len d i k.l
        obtain ⟨L, hL⟩ : ∃ L, valsD d i k.l = L := ⟨_, rfl⟩
        rw [hL] at hLf hLl hi4 ⊢
        have hLt : L.take k.l.length = L := List.take_of_length_le (by omega)
        refine vcCall.f (MeetsF.lend (R := [(n2 + 2, .sh k.l.length 5 (mapC valC L))]) (B := []) ?_ ?_ ?_ ?_ (first_val L (fun v => !leafV v) 56 [] (by omega) _ _ fun v hv hp' n' _ _ => sound1_ok v (hLf v hv) _ _)) ?_
        · simp only [z0, z1, z2, z3, z4, z5, z6, z7, z8, z9, z10, z11, z12, z13, z14, z15, z16, z17, z18, z19, z20, z21, z22, z23, z24, z25, z26, z27, z28, z29, z30, z31, z32, z33, z34, z35, z36, z37, z38, z39, go_sem, ↓reduceIte, Nat.reduceEqDiff, Nat.reduceBEq, Nat.reduceAdd, Nat.reduceLeDiff, Nat.reduceLT, reduceCtorEq, Nat.reduceMul, Nat.reduceSub, Int.reduceEq, Int.reduceLT, Int.reduceLE, Int.reduceToNat]
        · simp only [go_sem, ↓reduceIte, Nat.reduceEqDiff, Nat.reduceBEq, Nat.reduceAdd, Nat.reduceLeDiff, Nat.reduceLT, reduceCtorEq, Nat.reduceMul, Nat.reduceSub, Int.reduceEq, Int.reduceLT, Int.reduceLE, Int.reduceToNat]
        · simp only [hLl, go_sem, ↓reduceIte, Nat.reduceEqDiff, Nat.reduceBEq, Nat.reduceAdd, Nat.reduceLeDiff, Nat.reduceLT, reduceCtorEq, Nat.reduceMul, Nat.reduceSub, Int.reduceEq, Int.reduceLT, Int.reduceLE, Int.reduceToNat]
          rw [hLt]
        · rfl
        simp only [z0, z1, z2, z3, z4, z5, z6, z7, z8, z9, z10, z11, z12, z13, z14, z15, z16, z17, z18, z19, z20, z21, z22, z23, z24, z25, z26, z27, z28, z29, z30, z31, z32, z33, z34, z35, z36, z37, z38, z39, fidx_any', go_sem, ↓reduceIte, Nat.reduceEqDiff, Nat.reduceBEq, Nat.reduceAdd, Nat.reduceLeDiff, Nat.reduceLT, reduceCtorEq, Nat.reduceMul, Nat.reduceSub, Int.reduceEq, Int.reduceLT, Int.reduceLE, Int.reduceToNat]
        refine cdK_of (fun c2 => ?_) (fun c2 => ?_)
        · rw [c2, Bool.not_true, Bool.false_and, Bool.false_and] at hi4
          rw [hi4, Bool.false_and] at hj3
          subst hj3
          simp only [z0, z1, z2, z3, z4, z5, z6, z7, z8, z9, z10, z11, z12, z13, z14, z15, z16, z17, z18, z19, z20, z21, z22, z23, z24, z25, z26, z27, z28, z29, z30, z31, z32, z33, z34, z35, z36, z37, z38, z39, go_sem, ↓reduceIte, Nat.reduceEqDiff, Nat.reduceBEq, Nat.reduceAdd, Nat.reduceLeDiff, Nat.reduceLT, reduceCtorEq, Nat.reduceMul, Nat.reduceSub, Int.reduceEq, Int.reduceLT, Int.reduceLE, Int.reduceToNat]
        rw [c2, Bool.not_false, Bool.true_and] at hi4
        simp only [z0, z1, z2, z3, z4, z5, z6, z7, z8, z9, z10, z11, z12, z13, z14, z15, z16, z17, z18, z19, z20, z21, z22, z23, z24, z25, z26, z27, z28, z29, z30, z31, z32, z33, z34, z35, z36, z37, z38, z39, go_sem, ↓reduceIte, Nat.reduceEqDiff, Nat.reduceBEq, Nat.reduceAdd, Nat.reduceLeDiff, Nat.reduceLT, reduceCtorEq, Nat.reduceMul, Nat.reduceSub, Int.reduceEq, Int.reduceLT, Int.reduceLE, Int.reduceToNat]
        have hst : s.take s.length = s := List.take_length
        refine vcCall.f (MeetsF.lend (R := [(n + 1, .sh s.length 1 (mapC llC s)), (n2 + 2, .sh k.l.length 5 (mapC valC L))]) (B := [(n2 + 1, .ro [.ds (mapC valC L)])]) ?_ ?_ ?_ ?_ (first_ll s (eqK L) 59 [.bx (n2 + 1) 0] (by omega) _ _ fun y hy n' => sound2_ok L y (by omega) hLf (hi3.a y hy).2 (n2 + 1) _ _ ?_)) ?_
        · simp only [z0, z1, z2, z3, z4, z5, z6, z7, z8, z9, z10, z11, z12, z13, z14, z15, z16, z17, z18, z19, z20, z21, z22, z23, z24, z25, z26, z27, z28, z29, z30, z31, z32, z33, z34, z35, z36, z37, z38, z39, go_sem, ↓reduceIte, Nat.reduceEqDiff, Nat.reduceBEq, Nat.reduceAdd, Nat.reduceLeDiff, Nat.reduceLT, reduceCtorEq, Nat.reduceMul, Nat.reduceSub, Int.reduceEq, Int.reduceLT, Int.reduceLE, Int.reduceToNat]
        · simp only [z0, z1, z2, z3, z4, z5, z6, z7, z8, z9, z10, z11, z12, z13, z14, z15, z16, z17, z18, z19, z20, z21, z22, z23, z24, z25, z26, z27, z28, z29, z30, z31, z32, z33, z34, z35, z36, z37, z38, z39, hLl, go_sem, ↓reduceIte, Nat.reduceEqDiff, Nat.reduceBEq, Nat.reduceAdd, Nat.reduceLeDiff, Nat.reduceLT, reduceCtorEq, Nat.reduceMul, Nat.reduceSub, Int.reduceEq, Int.reduceLT, Int.reduceLE, Int.reduceToNat]
          refine ⟨_, rfl, ?_⟩
          simp only [z0, z1, z2, z3, z4, z5, z6, z7, z8, z9, z10, z11, z12, z13, z14, z15, z16, z17, z18, z19, z20, z21, z22, z23, z24, z25, z26, z27, z28, z29, z30, z31, z32, z33, z34, z35, z36, z37, z38, z39, hLl, hLt, go_sem, ↓reduceIte, Nat.reduceEqDiff, Nat.reduceBEq, Nat.reduceAdd, Nat.reduceLeDiff, Nat.reduceLT, reduceCtorEq, Nat.reduceMul, Nat.reduceSub, Int.reduceEq, Int.reduceLT, Int.reduceLE, Int.reduceToNat]
        · simp only [z0, z1, z2, z3, z4, z5, z6, z7, z8, z9, z10, z11, z12, z13, z14, z15, z16, z17, z18, z19, z20, z21, z22, z23, z24, z25, z26, z27, z28, z29, z30, z31, z32, z33, z34, z35, z36, z37, z38, z39, hst, go_sem, ↓reduceIte, Nat.reduceEqDiff, Nat.reduceBEq, Nat.reduceAdd, Nat.reduceLeDiff, Nat.reduceLT, reduceCtorEq, Nat.reduceMul, Nat.reduceSub, Int.reduceEq, Int.reduceLT, Int.reduceLE, Int.reduceToNat]
        · rfl
        · simp only [z0, z1, z2, z3, z4, z5, z6, z7, z8, z9, z10, z11, z12, z13, z14, z15, z16, z17, z18, z19, z20, z21, z22, z23, z24, z25, z26, z27, z28, z29, z30, z31, z32, z33, z34, z35, z36, z37, z38, z39, go_sem, ↓reduceIte, Nat.reduceEqDiff, Nat.reduceBEq, Nat.reduceAdd, Nat.reduceLeDiff, Nat.reduceLT, reduceCtorEq, Nat.reduceMul, Nat.reduceSub, Int.reduceEq, Int.reduceLT, Int.reduceLE, Int.reduceToNat]
        simp only [z0, z1, z2, z3, z4, z5, z6, z7, z8, z9, z10, z11, z12, z13, z14, z15, z16, z17, z18, z19, z20, z21, z22, z23, z24, z25, z26, z27, z28, z29, z30, z31, z32, z33, z34, z35, z36, z37, z38, z39, fidx_any', seen_eq hi3 hLl, go_sem, ↓reduceIte, Nat.reduceEqDiff, Nat.reduceBEq, Nat.reduceAdd, Nat.reduceLeDiff, Nat.reduceLT, reduceCtorEq, Nat.reduceMul, Nat.reduceSub, Int.reduceEq, Int.reduceLT, Int.reduceLE, Int.reduceToNat]
        refine cdK_of (fun c3 => ?_) (fun c3 => ?_)
        · rw [c3, Bool.not_true, Bool.false_and] at hi4
          rw [hi4, Bool.false_and] at hj3
          subst hj3
          simp only [z0, z1, z2, z3, z4, z5, z6, z7, z8, z9, z10, z11, z12, z13, z14, z15, z16, z17, z18, z19, z20, z21, z22, z23, z24, z25, z26, z27, z28, z29, z30, z31, z32, z33, z34, z35, z36, z37, z38, z39, go_sem, ↓reduceIte, Nat.reduceEqDiff, Nat.reduceBEq, Nat.reduceAdd, Nat.reduceLeDiff, Nat.reduceLT, reduceCtorEq, Nat.reduceMul, Nat.reduceSub, Int.reduceEq, Int.reduceLT, Int.reduceLE, Int.reduceToNat]
        rw [c3, Bool.not_false, Bool.true_and] at hi4
        simp only [z0, z1, z2, z3, z4, z5, z6, z7, z8, z9, z10, z11, z12, z13, z14, z15, z16, z17, z18, z19, z20, z21, z22, z23, z24, z25, z26, z27, z28, z29, z30, z31, z32, z33, z34, z35, z36, z37, z38, z39, hLl, hLt, go_sem, ↓reduceIte, Nat.reduceEqDiff, Nat.reduceBEq, Nat.reduceAdd, Nat.reduceLeDiff, Nat.reduceLT, reduceCtorEq, Nat.reduceMul, Nat.reduceSub, Int.reduceEq, Int.reduceLT, Int.reduceLE, Int.reduceToNat]
        have hsl : (s ++ [L]).length = s.length + 1 := by simp
        refine ⟨by omega, by omega, (i + 1, s ++ [L], _), ⟨by dsimp only; omega, by dsimp only; omega, by rw [← hL]; exact hi3.snoc hd (by rw [et]; exact c1), hi4⟩, by dsimp only; omega, weak_ok ?_ (Sub.cons ?_ (Sub.cons ?_ (Sub.cons ?_ (Sub.base hf ?_)))) (Nat.le_refl _)⟩
        all_goals
          simp only [z0, z1, z2, z3, z4, z5, z6, z7, z8, z9, z10, z11, z12, z13, z14, z15, z16, z17, z18, z19, z20, z21, z22, z23, z24, z25, z26, z27, z28, z29, z30, z31, z32, z33, z34, z35, z36, z37, z38, z39, wr64s i (by omega), hsl, go_sem, ↓reduceIte, Nat.reduceEqDiff, Nat.reduceBEq, Nat.reduceAdd, Nat.reduceLeDiff, Nat.reduceLT, reduceCtorEq, Nat.reduceMul, Nat.reduceSub, Int.reduceEq, Int.reduceLT, Int.reduceLE, Int.reduceToNat]
    · have q2 : i = d.i.length := by simp at q2; omega
      subst q2
      rw [sndF_end] at hi4
      rw [hi4, Bool.true_and] at hj3
      simp only [z0, z1, z2, z3, z4, z5, z6, z7, z8, z9, z10, z11, z12, z13, z14, z15, z16, z17, z18, z19, z20, z21, z22, z23, z24, z25, z26, go_sem, ↓reduceIte, Nat.reduceEqDiff, Nat.reduceBEq, Nat.reduceAdd, Nat.reduceLeDiff, Nat.reduceLT, reduceCtorEq, Nat.reduceMul, Nat.reduceSub, Int.reduceEq, Int.reduceLT, Int.reduceLE, Int.reduceToNat]
      refine ⟨(j + 1, _), ⟨by dsimp only; omega, by dsimp only; omega, hj3⟩, by dsimp only; omega, weak_ok ?_ (Sub.cons ?_ (Sub.base hf ?_)) (Nat.le_refl _)⟩
      all_goals
        simp only [z0, z1, z2, z3, z4, z5, z6, z7, z8, z9, z10, z11, z12, z13, z14, z15, z16, z17, z18, z19, z20, z21, z22, z23, z24, z25, z26, wr64s j (by omega), go_sem, ↓reduceIte, Nat.reduceEqDiff, Nat.reduceBEq, Nat.reduceAdd, Nat.reduceLeDiff, Nat.reduceLT, reduceCtorEq, Nat.reduceMul, Nat.reduceSub, Int.reduceEq, Int.reduceLT, Int.reduceLE, Int.reduceToNat]
  · have q : j = K.length := by simp at q; omega
    subst q
    rw [List.drop_length, List.all_nil] at hj3
    simp only [z0, z1, z2, z3, z4, z5, hj3, go_sem, ↓reduceIte, Nat.reduceEqDiff, Nat.reduceBEq, Nat.reduceAdd, Nat.reduceLeDiff, Nat.reduceLT, reduceCtorEq, Nat.reduceMul, Nat.reduceSub, Int.reduceEq, Int.reduceLT, Int.reduceLE, Int.reduceToNat]
end Go.Proofs.Ytjalbhlahfgogaa
