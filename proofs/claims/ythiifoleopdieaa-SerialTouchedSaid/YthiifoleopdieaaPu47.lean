/-
  The parts SeB of the proof, in one file. Conditions: none.
-/
import Derived.Test.YthiifoleopdieaaPu46
namespace Go.Proofs.Ythiifoleopdieaa
open Go.Eng
set_option linter.unusedVariables false
set_option linter.unusedSimpArgs false
set_option maxRecDepth 20000
/-- Is item i touched? -/
def tcB (f a : ByteArray) (ws : List Wri) (i : Nat) : Bool := ws.any fun w => hits f a w && decide (w.i = (i : Int))
def tcL (f a : ByteArray) (ws : List Wri) (n : Nat) : List Int := ((List.range n).filter (tcB f a ws)).map fun (i : Nat) => (i : Int)
theorem tcL_step (f a : ByteArray) (ws : List Wri) (n : Nat) : tcL f a ws (n + 1) = if tcB f a ws n = true then tcL f a ws n ++ [(n : Int)] else tcL f a ws n := by
  unfold tcL
  rw [List.range_succ, List.filter_append, List.map_append]
  by_cases c : tcB f a ws n = true
  · rw [if_pos c]; simp [c]
  · rw [if_neg c]; simp [c]
theorem tcL_len (f a : ByteArray) (ws : List Wri) (n : Nat) : (tcL f a ws n).length ≤ n := by
  unfold tcL
  rw [List.length_map]
  have := List.length_filter_le (tcB f a ws) (List.range n)
  rw [List.length_range] at this
  exact this
theorem tcL_mem {f a : ByteArray} {ws : List Wri} {n : Nat} {x : Int} : x ∈ tcL f a ws n ↔ ∃ w ∈ ws, hits f a w = true ∧ 0 ≤ w.i ∧ w.i < (n : Int) ∧ w.i = x := by
  unfold tcL tcB
  simp only [List.mem_map, List.mem_filter, List.mem_range, List.any_eq_true, Bool.and_eq_true, decide_eq_true_eq]
  constructor
  · rintro ⟨i, ⟨hi, w, hw, h1, h2⟩, rfl⟩
    exact ⟨w, hw, h1, by omega, by omega, h2⟩
  · rintro ⟨w, hw, h1, h2, h3, rfl⟩
    exact ⟨w.i.toNat, ⟨by omega, w, hw, h1, by omega⟩, by omega⟩
theorem tchL_mem {f a : ByteArray} {n : Nat} : ∀ (ws : List Wri) (l : List Int) (x : Int), x ∈ ws.foldl (tchS f a n) l ↔ x ∈ l ∨ ∃ w ∈ ws, hits f a w = true ∧ 0 ≤ w.i ∧ w.i < (n : Int) ∧ w.i = x
  | [], l, x => by simp
  | w :: ws, l, x => by
    rw [List.foldl_cons, tchL_mem ws]
    have : x ∈ tchS f a n l w ↔ x ∈ l ∨ (hits f a w = true ∧ 0 ≤ w.i ∧ w.i < (n : Int) ∧ w.i = x) := by
      unfold tchS
      split
      · rename_i h
        rw [List.mem_append, List.mem_singleton]
        exact ⟨fun q => q.imp id fun e => ⟨h.1, h.2.1, h.2.2.1, e.symm⟩, fun q => q.imp id fun e => e.2.2.2.symm⟩
      · rename_i h
        refine ⟨.inl, fun q => q.elim id fun e => Classical.byContradiction fun nx => h ⟨e.1, e.2.1, e.2.2.1, by rw [e.2.2.2]; exact nx⟩⟩
    rw [this, or_assoc]
    simp only [List.mem_cons, exists_eq_or_imp]
theorem tchL_nodup {f a : ByteArray} {n : Nat} : ∀ (ws : List Wri) (l : List Int), l.Nodup → (ws.foldl (tchS f a n) l).Nodup
  | [], l, h => h
  | w :: ws, l, h => by
    rw [List.foldl_cons]
    refine tchL_nodup ws _ ?_
    unfold tchS
    split
    · rename_i q
      rw [List.nodup_append]
      exact ⟨h, by simp, fun x hx y hy e => by simp at hy; subst hy; exact q.2.2.2 (e ▸ hx)⟩
    · exact h
theorem tcL_lt (f a : ByteArray) (ws : List Wri) (n : Nat) : (tcL f a ws n).Pairwise (· < ·) := by
  unfold tcL
  rw [List.pairwise_map]
  exact (List.Pairwise.sublist List.filter_sublist List.pairwise_lt_range).imp fun h => by omega
theorem tchD_eq (d : Dat) (f a : ByteArray) : tchD d f a = tcL f (argA d f a) d.w d.i.length := by
  unfold tchD
  have hp : (srtI (tchL f (argA d f a) d.i.length d.w)).Perm (tchL f (argA d f a) d.i.length d.w) := List.mergeSort_perm _ _
  have hs : (srtI (tchL f (argA d f a) d.i.length d.w)).Pairwise (· ≤ ·) := by
    have := List.pairwise_mergeSort (le := fun x y : Int => decide (x ≤ y)) (fun a b c h1 h2 => by simp at *; omega) (fun a b => by simp; omega) (tchL f (argA d f a) d.i.length d.w)
    exact this.imp fun h => by simpa using h
  have hl := tcL_lt f (argA d f a) d.w d.i.length
  refine List.Perm.eq_of_pairwise (le := (· ≤ ·)) (fun a b _ _ h1 h2 => by omega) hs (hl.imp fun h => by omega) (hp.trans ?_)
  refine (List.perm_ext_iff_of_nodup (tchL_nodup _ _ (by simp)) (hl.imp fun h => by omega)).2 fun x => ?_
  rw [tcL_mem, tchL_mem]
  simp
theorem any_take {α : Type} (q : α → Bool) {l : List α} {j : Nat} {x : α} (h : l[j]? = some x) : (l.take (j + 1)).any q = ((l.take j).any q || q x) := by
  rw [← take_snoc h, List.any_append]
  simp
theorem rTouched_ok (d : Dat) (hd : d.Fit) (f a : ByteArray) (hp : CH) (m : Nat) : MeetsF Try.prog 16 hp m [dx d, .s f, .s a] (.ds (mapC in1 (tcL f (argA d f a) d.w d.i.length))) := by
  have h1 := hd.li
  have h2 := hd.lw
  refine meetsF Try.func16 (by kernel_rfl) cc16 cr16 rfl fun hf => ?_; unfold ck16
  simp only [go_sem, ↓reduceIte, Nat.reduceEqDiff, Nat.reduceBEq, Nat.reduceAdd, Nat.reduceLeDiff, Nat.reduceLT, reduceCtorEq, Nat.reduceMul, Nat.reduceSub, Int.reduceEq, Int.reduceLT, Int.reduceLE, Int.reduceToNat]
  refine loop (fun p : Nat × Nat => ⟨[(1, .s f), (2, .s a), (3, .bx m 0), (7, .s (if (d.w.take p.1).any (hits f a) = true then a else ⟨#[]⟩)), (8, .i .i64 p.1)], (m, .bx [.ds (mapC itC d.i), .ds (mapC wrC d.w)]) :: hp, p.2⟩)
    (fun p => p.1 ≤ d.w.length ∧ m + 1 ≤ p.2) (fun p => d.w.length - p.1) (0, m + 1) ?_ ?_ (fun ⟨j, n⟩ hj => ?_)
  · simp
  · refine weak_ok ?_ (Sub.cons ?_ (Sub.base hf ?_)) (Nat.le_refl _)
    all_goals (simp (disch := omega) only [ite_ne, go_sem, ↓reduceIte, Nat.reduceEqDiff, Nat.reduceBEq, Nat.reduceAdd, Nat.reduceLeDiff, Nat.reduceLT, reduceCtorEq, Nat.reduceMul, Nat.reduceSub, Int.reduceEq, Int.reduceLT, Int.reduceLE, Int.reduceToNat])
    all_goals rfl
  dsimp only at hj
  obtain ⟨hj1, hj2⟩ := hj
  simp (disch := omega) only [ite_ne, go_sem, ↓reduceIte, Nat.reduceEqDiff, Nat.reduceBEq, Nat.reduceAdd, Nat.reduceLeDiff, Nat.reduceLT, reduceCtorEq, Nat.reduceMul, Nat.reduceSub, Int.reduceEq, Int.reduceLT, Int.reduceLE, Int.reduceToNat]
  refine cdK_of (fun q => ?_) (fun q => ?_)
  · have q : j < d.w.length := by simpa using q
    obtain ⟨w, ew⟩ : ∃ w, d.w[j]? = some w := ⟨d.w[j], by simp [q]⟩
    have hst := any_take (hits f a) ew
    simp (disch := omega) only [ite_ne, q, getK_s (mapC_get wrC ew), mapC_get wrC ew, go_sem, ↓reduceIte, Nat.reduceEqDiff, Nat.reduceBEq, Nat.reduceAdd, Nat.reduceLeDiff, Nat.reduceLT, reduceCtorEq, Nat.reduceMul, Nat.reduceSub, Int.reduceEq, Int.reduceLT, Int.reduceLE, Int.reduceToNat]
    refine grK_of (fun g => ?_) (fun g => ?_)
    rotate_left
    · have e : hits f a w = false := by rw [hits, g, Bool.false_and]
      rw [e, Bool.or_false] at hst
      simp (disch := omega) only [ite_ne, g, go_sem, ↓reduceIte, Nat.reduceEqDiff, Nat.reduceBEq, Nat.reduceAdd, Nat.reduceLeDiff, Nat.reduceLT, reduceCtorEq, Nat.reduceMul, Nat.reduceSub, Int.reduceEq, Int.reduceLT, Int.reduceLE, Int.reduceToNat]
      refine ⟨(j + 1, _), ⟨by dsimp only; omega, by dsimp only; omega⟩, by dsimp only; omega, weak_ok ?_ (Sub.cons ?_ (Sub.base hf ?_)) (Nat.le_refl _)⟩
      all_goals
        simp (disch := omega) only [ite_ne, wr64s j (by omega), hst, go_sem, ↓reduceIte, Nat.reduceEqDiff, Nat.reduceBEq, Nat.reduceAdd, Nat.reduceLeDiff, Nat.reduceLT, reduceCtorEq, Nat.reduceMul, Nat.reduceSub, Int.reduceEq, Int.reduceLT, Int.reduceLE, Int.reduceToNat]
    simp (disch := omega) only [ite_ne, q, g, getK_s (mapC_get wrC ew), mapC_get wrC ew, go_sem, ↓reduceIte, Nat.reduceEqDiff, Nat.reduceBEq, Nat.reduceAdd, Nat.reduceLeDiff, Nat.reduceLT, reduceCtorEq, Nat.reduceMul, Nat.reduceSub, Int.reduceEq, Int.reduceLT, Int.reduceLE, Int.reduceToNat]
    refine cdK_of (fun c => ?_) (fun c => ?_)
    · have e : hits f a w = true := by rw [hits, g, Bool.true_and]; exact c
      rw [e, Bool.or_true] at hst
      simp (disch := omega) only [ite_ne, go_sem, ↓reduceIte, Nat.reduceEqDiff, Nat.reduceBEq, Nat.reduceAdd, Nat.reduceLeDiff, Nat.reduceLT, reduceCtorEq, Nat.reduceMul, Nat.reduceSub, Int.reduceEq, Int.reduceLT, Int.reduceLE, Int.reduceToNat]
      refine ⟨(j + 1, _), ⟨by dsimp only; omega, by dsimp only; omega⟩, by dsimp only; omega, weak_ok ?_ (Sub.cons ?_ (Sub.base hf ?_)) (Nat.le_refl _)⟩
      all_goals
        simp (disch := omega) only [ite_ne, wr64s j (by omega), hst, go_sem, ↓reduceIte, Nat.reduceEqDiff, Nat.reduceBEq, Nat.reduceAdd, Nat.reduceLeDiff, Nat.reduceLT, reduceCtorEq, Nat.reduceMul, Nat.reduceSub, Int.reduceEq, Int.reduceLT, Int.reduceLE, Int.reduceToNat]
    · have e : hits f a w = false := by rw [hits, g, Bool.true_and]; exact c
      rw [e, Bool.or_false] at hst
      simp (disch := omega) only [ite_ne, go_sem, ↓reduceIte, Nat.reduceEqDiff, Nat.reduceBEq, Nat.reduceAdd, Nat.reduceLeDiff, Nat.reduceLT, reduceCtorEq, Nat.reduceMul, Nat.reduceSub, Int.reduceEq, Int.reduceLT, Int.reduceLE, Int.reduceToNat]
      refine ⟨(j + 1, _), ⟨by dsimp only; omega, by dsimp only; omega⟩, by dsimp only; omega, weak_ok ?_ (Sub.cons ?_ (Sub.base hf ?_)) (Nat.le_refl _)⟩
      all_goals
        simp (disch := omega) only [ite_ne, wr64s j (by omega), hst, go_sem, ↓reduceIte, Nat.reduceEqDiff, Nat.reduceBEq, Nat.reduceAdd, Nat.reduceLeDiff, Nat.reduceLT, reduceCtorEq, Nat.reduceMul, Nat.reduceSub, Int.reduceEq, Int.reduceLT, Int.reduceLE, Int.reduceToNat]
  · have q : j = d.w.length := by simp at q; omega
    subst q
    rw [List.take_length]
    change vc Try.prog _ ⟨[_, _, _, _, (7, .s (argA d f a)), _], _, _⟩ _
    obtain ⟨A, hA⟩ : ∃ A, argA d f a = A := ⟨_, rfl⟩
    rw [hA]
    simp (disch := omega) only [ite_ne, go_sem, ↓reduceIte, Nat.reduceEqDiff, Nat.reduceBEq, Nat.reduceAdd, Nat.reduceLeDiff, Nat.reduceLT, reduceCtorEq, Nat.reduceMul, Nat.reduceSub, Int.reduceEq, Int.reduceLT, Int.reduceLE, Int.reduceToNat]
    refine loop (fun p : Nat × Nat => ⟨[(1, .s f), (3, .bx m 0), (7, .s A), (9, .rw n (tcL f A d.w p.1).length (tcL f A d.w p.1).length), (10, .i .i64 p.1)], (m, .bx [.ds (mapC itC d.i), .ds (mapC wrC d.w)]) :: (n, .rw (tcL f A d.w p.1).length 1 (mapC in1 (tcL f A d.w p.1))) :: hp, p.2⟩)
      (fun p => p.1 ≤ d.i.length ∧ n + 1 ≤ p.2) (fun p => d.i.length - p.1) (0, n + 1) ?_ ?_ (fun ⟨i, n2⟩ hi => ?_)
    · simp
    · refine (weak_e0 (t := 9) (m := 1) ?_).trans (weak_ok ?_ (Sub.cons ?_ (Sub.cons ?_ (Sub.base hf ?_))) (Nat.le_refl _))
      all_goals (simp (disch := omega) only [ite_ne, go_sem, ↓reduceIte, Nat.reduceEqDiff, Nat.reduceBEq, Nat.reduceAdd, Nat.reduceLeDiff, Nat.reduceLT, reduceCtorEq, Nat.reduceMul, Nat.reduceSub, Int.reduceEq, Int.reduceLT, Int.reduceLE, Int.reduceToNat])
      all_goals rfl
    dsimp only at hi
    obtain ⟨hi1, hi2⟩ := hi
    have hL := tcL_len f A d.w i
    simp (disch := omega) only [ite_ne, go_sem, ↓reduceIte, Nat.reduceEqDiff, Nat.reduceBEq, Nat.reduceAdd, Nat.reduceLeDiff, Nat.reduceLT, reduceCtorEq, Nat.reduceMul, Nat.reduceSub, Int.reduceEq, Int.reduceLT, Int.reduceLE, Int.reduceToNat]
    refine cdK_of (fun q => ?_) (fun q => ?_)
    · have q : i < d.i.length := by simpa using q
      have hst := tcL_step f A d.w i
      obtain ⟨O, hO⟩ : ∃ O, tcL f A d.w i = O := ⟨_, rfl⟩
      rw [hO] at hst hL ⊢
      simp (disch := omega) only [ite_ne, go_sem, ↓reduceIte, Nat.reduceEqDiff, Nat.reduceBEq, Nat.reduceAdd, Nat.reduceLeDiff, Nat.reduceLT, reduceCtorEq, Nat.reduceMul, Nat.reduceSub, Int.reduceEq, Int.reduceLT, Int.reduceLE, Int.reduceToNat]
      refine loop (fun p : Nat × Nat => ⟨[(1, .s f), (3, .bx m 0), (7, .s A), (9, .rw n O.length O.length), (10, .i .i64 i), (11, .b ((d.w.take p.1).any fun w => hits f A w && decide (w.i = (i : Int)))), (12, .i .i64 p.1)], (m, .bx [.ds (mapC itC d.i), .ds (mapC wrC d.w)]) :: (n, .rw O.length 1 (mapC in1 O)) :: hp, p.2⟩)
        (fun p => p.1 ≤ d.w.length ∧ n + 1 ≤ p.2) (fun p => d.w.length - p.1) (0, n2) ?_ ?_ (fun ⟨j, n3⟩ hj => ?_)
      · simp; omega
      · refine weak_ok ?_ (Sub.cons ?_ (Sub.cons ?_ (Sub.base hf ?_))) (Nat.le_refl _)
        all_goals (simp (disch := omega) only [ite_ne, go_sem, ↓reduceIte, Nat.reduceEqDiff, Nat.reduceBEq, Nat.reduceAdd, Nat.reduceLeDiff, Nat.reduceLT, reduceCtorEq, Nat.reduceMul, Nat.reduceSub, Int.reduceEq, Int.reduceLT, Int.reduceLE, Int.reduceToNat])
        all_goals rfl
      dsimp only at hj
      obtain ⟨hj1, hj2⟩ := hj
      simp (disch := omega) only [ite_ne, go_sem, ↓reduceIte, Nat.reduceEqDiff, Nat.reduceBEq, Nat.reduceAdd, Nat.reduceLeDiff, Nat.reduceLT, reduceCtorEq, Nat.reduceMul, Nat.reduceSub, Int.reduceEq, Int.reduceLT, Int.reduceLE, Int.reduceToNat]
      refine cdK_of (fun q => ?_) (fun q => ?_)
      · have q : j < d.w.length := by simpa using q
        obtain ⟨w, ew⟩ : ∃ w, d.w[j]? = some w := ⟨d.w[j], by simp [q]⟩
        have hs2 := any_take (fun w => hits f A w && decide (w.i = (i : Int))) ew
        obtain ⟨F, hF⟩ : ∃ F, (d.w.take j).any (fun w => hits f A w && decide (w.i = (i : Int))) = F := ⟨_, rfl⟩
        rw [hF] at hs2 ⊢
        cases F with
        | true =>
          rw [Bool.true_or] at hs2
          simp (disch := omega) only [ite_ne, q, getK_s (mapC_get wrC ew), mapC_get wrC ew, go_sem, ↓reduceIte, Nat.reduceEqDiff, Nat.reduceBEq, Nat.reduceAdd, Nat.reduceLeDiff, Nat.reduceLT, reduceCtorEq, Nat.reduceMul, Nat.reduceSub, Int.reduceEq, Int.reduceLT, Int.reduceLE, Int.reduceToNat]
          refine ⟨(j + 1, _), ⟨by dsimp only; omega, by dsimp only; omega⟩, by dsimp only; omega, weak_ok ?_ (Sub.cons ?_ (Sub.cons ?_ (Sub.base hf ?_))) (Nat.le_refl _)⟩
          all_goals
            simp (disch := omega) only [ite_ne, wr64s j (by omega), hs2, go_sem, ↓reduceIte, Nat.reduceEqDiff, Nat.reduceBEq, Nat.reduceAdd, Nat.reduceLeDiff, Nat.reduceLT, reduceCtorEq, Nat.reduceMul, Nat.reduceSub, Int.reduceEq, Int.reduceLT, Int.reduceLE, Int.reduceToNat]
        | false =>
          rw [Bool.false_or] at hs2
          rw [show hits f A w = (decide (w.f = f) && decide (w.a = A)) from rfl] at hs2
          simp (disch := omega) only [ite_ne, q, getK_s (mapC_get wrC ew), mapC_get wrC ew, go_sem, ↓reduceIte, Nat.reduceEqDiff, Nat.reduceBEq, Nat.reduceAdd, Nat.reduceLeDiff, Nat.reduceLT, reduceCtorEq, Nat.reduceMul, Nat.reduceSub, Int.reduceEq, Int.reduceLT, Int.reduceLE, Int.reduceToNat]
          refine grK_of (fun g => ?_) (fun g => ?_)
          rotate_left
          · rw [g, Bool.false_and, Bool.false_and] at hs2
            simp (disch := omega) only [ite_ne, g, go_sem, ↓reduceIte, Nat.reduceEqDiff, Nat.reduceBEq, Nat.reduceAdd, Nat.reduceLeDiff, Nat.reduceLT, reduceCtorEq, Nat.reduceMul, Nat.reduceSub, Int.reduceEq, Int.reduceLT, Int.reduceLE, Int.reduceToNat]
            refine ⟨(j + 1, _), ⟨by dsimp only; omega, by dsimp only; omega⟩, by dsimp only; omega, weak_ok ?_ (Sub.cons ?_ (Sub.cons ?_ (Sub.base hf ?_))) (Nat.le_refl _)⟩
            all_goals
              simp (disch := omega) only [ite_ne, wr64s j (by omega), hs2, go_sem, ↓reduceIte, Nat.reduceEqDiff, Nat.reduceBEq, Nat.reduceAdd, Nat.reduceLeDiff, Nat.reduceLT, reduceCtorEq, Nat.reduceMul, Nat.reduceSub, Int.reduceEq, Int.reduceLT, Int.reduceLE, Int.reduceToNat]
          rw [g, Bool.true_and] at hs2
          simp (disch := omega) only [ite_ne, q, g, getK_s (mapC_get wrC ew), mapC_get wrC ew, go_sem, ↓reduceIte, Nat.reduceEqDiff, Nat.reduceBEq, Nat.reduceAdd, Nat.reduceLeDiff, Nat.reduceLT, reduceCtorEq, Nat.reduceMul, Nat.reduceSub, Int.reduceEq, Int.reduceLT, Int.reduceLE, Int.reduceToNat]
          refine grK_of (fun g2 => ?_) (fun g2 => ?_)
          rotate_left
          · rw [g2, Bool.false_and] at hs2
            simp (disch := omega) only [ite_ne, g2, go_sem, ↓reduceIte, Nat.reduceEqDiff, Nat.reduceBEq, Nat.reduceAdd, Nat.reduceLeDiff, Nat.reduceLT, reduceCtorEq, Nat.reduceMul, Nat.reduceSub, Int.reduceEq, Int.reduceLT, Int.reduceLE, Int.reduceToNat]
            refine ⟨(j + 1, _), ⟨by dsimp only; omega, by dsimp only; omega⟩, by dsimp only; omega, weak_ok ?_ (Sub.cons ?_ (Sub.cons ?_ (Sub.base hf ?_))) (Nat.le_refl _)⟩
            all_goals
              simp (disch := omega) only [ite_ne, wr64s j (by omega), hs2, go_sem, ↓reduceIte, Nat.reduceEqDiff, Nat.reduceBEq, Nat.reduceAdd, Nat.reduceLeDiff, Nat.reduceLT, reduceCtorEq, Nat.reduceMul, Nat.reduceSub, Int.reduceEq, Int.reduceLT, Int.reduceLE, Int.reduceToNat]
          rw [g2, Bool.true_and] at hs2
          simp (disch := omega) only [ite_ne, q, g2, getK_s (mapC_get wrC ew), mapC_get wrC ew, go_sem, ↓reduceIte, Nat.reduceEqDiff, Nat.reduceBEq, Nat.reduceAdd, Nat.reduceLeDiff, Nat.reduceLT, reduceCtorEq, Nat.reduceMul, Nat.reduceSub, Int.reduceEq, Int.reduceLT, Int.reduceLE, Int.reduceToNat]
          refine ⟨(j + 1, _), ⟨by dsimp only; omega, by dsimp only; omega⟩, by dsimp only; omega, weak_ok ?_ (Sub.cons ?_ (Sub.cons ?_ (Sub.base hf ?_))) (Nat.le_refl _)⟩
          all_goals
            simp (disch := omega) only [ite_ne, wr64s j (by omega), hs2, go_sem, ↓reduceIte, Nat.reduceEqDiff, Nat.reduceBEq, Nat.reduceAdd, Nat.reduceLeDiff, Nat.reduceLT, reduceCtorEq, Nat.reduceMul, Nat.reduceSub, Int.reduceEq, Int.reduceLT, Int.reduceLE, Int.reduceToNat]
      · have q : j = d.w.length := by simp at q; omega
        subst q
        rw [List.take_length]
        change vc Try.prog _ ⟨[_, _, _, _, _, _, (11, .b (tcB f A d.w i)), _], _, _⟩ _
        have k1 : (O.length + 1) * 8 ≤ 140737489403904 := by omega
        have k2 : O.length + 1 ≤ 9223372036854775807 := by omega
        simp (disch := omega) only [ite_ne, go_sem, ↓reduceIte, Nat.reduceEqDiff, Nat.reduceBEq, Nat.reduceAdd, Nat.reduceLeDiff, Nat.reduceLT, reduceCtorEq, Nat.reduceMul, Nat.reduceSub, Int.reduceEq, Int.reduceLT, Int.reduceLE, Int.reduceToNat]
        refine cdK_of (fun c => ?_) (fun c => ?_)
        · rw [if_pos c] at hst
          simp (disch := omega) only [ite_ne, k1, k2, go_sem, ↓reduceIte, Nat.reduceEqDiff, Nat.reduceBEq, Nat.reduceAdd, Nat.reduceLeDiff, Nat.reduceLT, reduceCtorEq, Nat.reduceMul, Nat.reduceSub, Int.reduceEq, Int.reduceLT, Int.reduceLE, Int.reduceToNat]
          refine ⟨(i + 1, _), ⟨by dsimp only; omega, by dsimp only; omega⟩, by dsimp only; omega, weak_ok ?_ (Sub.cons ?_ (Sub.cons ?_ (Sub.base hf ?_))) (Nat.le_refl _)⟩
          all_goals
            simp (disch := omega) only [ite_ne, wr64s i (by omega), hst, List.length_append, List.length_cons, List.length_nil, go_sem, ↓reduceIte, Nat.reduceEqDiff, Nat.reduceBEq, Nat.reduceAdd, Nat.reduceLeDiff, Nat.reduceLT, reduceCtorEq, Nat.reduceMul, Nat.reduceSub, Int.reduceEq, Int.reduceLT, Int.reduceLE, Int.reduceToNat]
        · rw [if_neg (by simp [c])] at hst
          simp (disch := omega) only [ite_ne, go_sem, ↓reduceIte, Nat.reduceEqDiff, Nat.reduceBEq, Nat.reduceAdd, Nat.reduceLeDiff, Nat.reduceLT, reduceCtorEq, Nat.reduceMul, Nat.reduceSub, Int.reduceEq, Int.reduceLT, Int.reduceLE, Int.reduceToNat]
          refine ⟨(i + 1, _), ⟨by dsimp only; omega, by dsimp only; omega⟩, by dsimp only; omega, weak_ok ?_ (Sub.cons ?_ (Sub.cons ?_ (Sub.base hf ?_))) (Nat.le_refl _)⟩
          all_goals
            simp (disch := omega) only [ite_ne, wr64s i (by omega), hst, go_sem, ↓reduceIte, Nat.reduceEqDiff, Nat.reduceBEq, Nat.reduceAdd, Nat.reduceLeDiff, Nat.reduceLT, reduceCtorEq, Nat.reduceMul, Nat.reduceSub, Int.reduceEq, Int.reduceLT, Int.reduceLE, Int.reduceToNat]
    · have q : i = d.i.length := by simp at q; omega
      subst q
      simp (disch := omega) only [ite_ne, go_sem, ↓reduceIte, Nat.reduceEqDiff, Nat.reduceBEq, Nat.reduceAdd, Nat.reduceLeDiff, Nat.reduceLT, reduceCtorEq, Nat.reduceMul, Nat.reduceSub, Int.reduceEq, Int.reduceLT, Int.reduceLE, Int.reduceToNat]
end Go.Proofs.Ythiifoleopdieaa
