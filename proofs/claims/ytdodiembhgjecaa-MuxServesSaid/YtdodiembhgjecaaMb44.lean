/-
  The parts MxQ of the proof, in one file. Conditions: none.
-/
import Derived.Test.YtdodiembhgjecaaMb43
namespace Go.Proofs.Ytdodiembhgjecaa
open Go.Eng
set_option linter.unusedVariables false
set_option linter.unusedSimpArgs false
set_option maxRecDepth 20000
set_option maxHeartbeats 1000000
def rfB (room last ack : Int) (kL gL nL kS gS nS : Nat) : Chunk := .bx [.i .i64 room, .i .i64 last, .i .i64 ack, .rw kL gL nL, .rw kS gS nS]
theorem filter_step {α : Type} {L : List α} {j : Nat} {x : α} (h : L[j]? = some x) (p : α → Bool) : (L.take (j + 1)).filter p = if p x = true then (L.take j).filter p ++ [x] else (L.take j).filter p := by
  rw [← take_snoc h, List.filter_append]
  by_cases c : p x = true
  · rw [if_pos c]; simp [c]
  · rw [if_neg c]; simp [c]
theorem filter_len {α : Type} (L : List α) (j : Nat) (p : α → Bool) : ((L.take j).filter p).length ≤ j := Nat.le_trans (List.length_filter_le _ _) (by rw [List.length_take]; omega)
theorem gMade_ok (room : Int) (hroom : 1 ≤ room) (a b c d : AV) (r : Nat) (hp : CH) (hr : gc hp r = .bx [.i .i64 room, a, b, c, d]) (m : Nat) : MeetsF Try.prog 41 hp m [.bx r 0] (.b true) := by
  have d1 : decide ((0 : Int) < room) = true := decide_eq_true (by omega)
  refine meetsF Try.func41 (by kernel_rfl) cc41 cr41 rfl fun hf => ?_; unfold ck41
  have hlt := bx_lt' hf hr
  simp (disch := omega) only [ite_ne, hr, d1, go_sem, ↓reduceIte, Nat.reduceEqDiff, Nat.reduceBEq, Nat.reduceAdd, Nat.reduceLeDiff, Nat.reduceLT, reduceCtorEq, Nat.reduceMul, Nat.reduceSub, Int.reduceEq, Int.reduceLT, Int.reduceLE, Int.reduceToNat]
theorem gLive_ok (x room last ack : Int) (S : List Int) (hS : S.length ≤ 1000000) (r kL gL nL kS gS : Nat) (hp : CH) (hr : gc hp r = rfB room last ack kL gL nL kS gS S.length) (hk : gc hp kS = .rw gS 1 (mapC in1 S)) (m : Nat) : MeetsF Try.prog 44 hp m [.bx r 0, .i .i64 x] (.b (decide (x ∈ S))) := by
  have hSl : (mapC in1 S).length = S.length := mapC_len _ _
  have htk : (mapC in1 S).take S.length = mapC in1 S := List.take_of_length_le (by omega)
  unfold rfB at hr
  obtain ⟨B, hB⟩ : ∃ B, decide (x ∈ S) = B := ⟨_, rfl⟩
  rw [hB]
  refine meetsF Try.func44 (by kernel_rfl) cc44 cr44 rfl fun hf => ?_; unfold ck44
  have hlt := bx_lt' hf hr
  have hlt2 := rw_lt hf hk
  simp (disch := omega) only [ite_ne, hr, hk, hSl, Nat.le_refl, htk, go_sem, ↓reduceIte, Nat.reduceEqDiff, Nat.reduceBEq, Nat.reduceAdd, Nat.reduceLeDiff, Nat.reduceLT, reduceCtorEq, Nat.reduceMul, Nat.reduceSub, Int.reduceEq, Int.reduceLT, Int.reduceLE, Int.reduceToNat]
  refine loop (fun q : Nat × Nat => ⟨[(0, .bx r 0), (1, .i .i64 x), (5, .i .i64 q.1)], hp, q.2⟩) (fun q => q.1 ≤ S.length ∧ x ∉ S.take q.1) (fun q => S.length - q.1) (0, m) ?_ ?_ (fun ⟨j, n⟩ hj => ?_)
  · exact ⟨Nat.zero_le _, by simp⟩
  · refine weak_ok ?_ (Sub.refl _) (Nat.le_refl _)
    simp (disch := omega) only [ite_ne, hr, hk, hSl, Nat.le_refl, htk, go_sem, ↓reduceIte, Nat.reduceEqDiff, Nat.reduceBEq, Nat.reduceAdd, Nat.reduceLeDiff, Nat.reduceLT, reduceCtorEq, Nat.reduceMul, Nat.reduceSub, Int.reduceEq, Int.reduceLT, Int.reduceLE, Int.reduceToNat]
  dsimp only at hj
  obtain ⟨hj1, hj2⟩ := hj
  simp (disch := omega) only [ite_ne, hr, hk, hSl, Nat.le_refl, htk, go_sem, ↓reduceIte, Nat.reduceEqDiff, Nat.reduceBEq, Nat.reduceAdd, Nat.reduceLeDiff, Nat.reduceLT, reduceCtorEq, Nat.reduceMul, Nat.reduceSub, Int.reduceEq, Int.reduceLT, Int.reduceLE, Int.reduceToNat]
  refine cdK_of (fun q => ?_) (fun q => ?_)
  · have q : j < S.length := by simpa using q
    obtain ⟨y, ey⟩ : ∃ y, S[j]? = some y := ⟨S[j], by simp [q]⟩
    simp (disch := omega) only [ite_ne, q, hr, hk, hSl, Nat.le_refl, htk, getK_s (mapC_get in1 ey), go_sem, ↓reduceIte, Nat.reduceEqDiff, Nat.reduceBEq, Nat.reduceAdd, Nat.reduceLeDiff, Nat.reduceLT, reduceCtorEq, Nat.reduceMul, Nat.reduceSub, Int.reduceEq, Int.reduceLT, Int.reduceLE, Int.reduceToNat]
    refine cdK_of (fun c1 => ?_) (fun c1 => ?_)
    · have c1 : y = x := by simpa using c1
      have hB1 : B = true := by rw [← hB]; exact decide_eq_true (by rw [← c1]; exact List.mem_of_getElem? ey)
      subst hB1
      simp only [go_sem, ↓reduceIte, Nat.reduceEqDiff, Nat.reduceBEq, Nat.reduceAdd, Nat.reduceLeDiff, Nat.reduceLT, reduceCtorEq, Nat.reduceMul, Nat.reduceSub, Int.reduceEq, Int.reduceLT, Int.reduceLE, Int.reduceToNat]
      try rfl
    · have c1 : ¬ y = x := by simpa using c1
      have hn : x ∉ S.take (j + 1) := by
        rw [← take_snoc ey, List.mem_append]
        intro h
        rcases h with h | h
        · exact hj2 h
        · simp at h; exact c1 h.symm
      simp (disch := omega) only [ite_ne, q, go_sem, ↓reduceIte, Nat.reduceEqDiff, Nat.reduceBEq, Nat.reduceAdd, Nat.reduceLeDiff, Nat.reduceLT, reduceCtorEq, Nat.reduceMul, Nat.reduceSub, Int.reduceEq, Int.reduceLT, Int.reduceLE, Int.reduceToNat]
      refine ⟨(j + 1, _), ⟨by dsimp only; omega, hn⟩, by dsimp only; omega, weak_ok ?_ (Sub.refl _) (Nat.le_refl _)⟩
      simp (disch := omega) only [ite_ne, wr64s j (by omega), go_sem, ↓reduceIte, Nat.reduceEqDiff, Nat.reduceBEq, Nat.reduceAdd, Nat.reduceLeDiff, Nat.reduceLT, reduceCtorEq, Nat.reduceMul, Nat.reduceSub, Int.reduceEq, Int.reduceLT, Int.reduceLE, Int.reduceToNat]
  · have q : j = S.length := by simp at q; omega
    rw [q, List.take_length] at hj2
    have hB1 : B = false := by rw [← hB]; exact decide_eq_false hj2
    subst hB1
    simp only [go_sem, ↓reduceIte, Nat.reduceEqDiff, Nat.reduceBEq, Nat.reduceAdd, Nat.reduceLeDiff, Nat.reduceLT, reduceCtorEq, Nat.reduceMul, Nat.reduceSub, Int.reduceEq, Int.reduceLT, Int.reduceLE, Int.reduceToNat]
    try rfl
def drL (x : Int) (S : List Int) : List Int := S.filter fun y => decide (y ≠ x)
theorem gDrop_ok (x room last ack : Int) (S : List Int) (hS : S.length ≤ 1000000) (r kL gL nL kS gS : Nat) (hp : CH) (hr : gc hp r = rfB room last ack kL gL nL kS gS S.length) (hk : gc hp kS = .rw gS 1 (mapC in1 S)) (m : Nat) (hLm : kL < m) :
    MeetsX Try.prog 35 hp m [.bx r 0, .i .i64 x] ([(r, rfB room last ack kL gL nL kS (gS + 1) (drL x S).length), (kS, .rw (gS + 1) 1 (mapC in1 (drL x S)))] ++ hp) m (.tp []) := by
  have hne : r ≠ kS := fun e => by subst e; rw [hr] at hk; cases hk
  have hne' : ¬ kS = r := fun e => hne e.symm
  have hSl : (mapC in1 S).length = S.length := mapC_len _ _
  have htk : (mapC in1 S).take S.length = mapC in1 S := List.take_of_length_le (by omega)
  have hst := fun j y (h : S[j]? = some y) => filter_step h fun y => decide (y ≠ x)
  have hln := fun j => filter_len S j fun y => decide (y ≠ x)
  unfold rfB at hr
  refine meetsWR r 4 kS 1 _ _ Try.func35 (by kernel_rfl) cc35 cr35 rfl (fun hf => ?_) fun hf => ?_
  · have h1 := bx_lt' hf hr
    have h2 := rw_lt hf hk
    exact ⟨h1, fun α h => by simp at h; rcases h with rfl | rfl | rfl | rfl | rfl <;> first | exact h2 | exact hLm | rfl | simp [AV.lt1, AV.pur], h2, trivial, trivial⟩
  unfold ck35
  have hlt := bx_lt' hf hr
  have hlt2 := rw_lt hf hk
  unfold rfB drL
  obtain ⟨R, hR⟩ : ∃ R, (S.filter fun y => decide (y ≠ x)) = R := ⟨_, rfl⟩
  rw [hR]
  simp (disch := omega) only [ite_ne, hr, hk, hSl, Nat.le_refl, htk, go_sem, ↓reduceIte, Nat.reduceEqDiff, Nat.reduceBEq, Nat.reduceAdd, Nat.reduceLeDiff, Nat.reduceLT, reduceCtorEq, Nat.reduceMul, Nat.reduceSub, Int.reduceEq, Int.reduceLT, Int.reduceLE, Int.reduceToNat]
  refine loop (fun q : Nat × List Int × Nat => ⟨[(0, .bx r 0), (1, .i .i64 x), (4, .rw m q.2.1.length q.2.1.length), (5, .i .i64 q.1)], (m, .rw q.2.1.length 1 (mapC in1 q.2.1)) :: hp, q.2.2⟩)
    (fun q => q.1 ≤ S.length ∧ m + 1 ≤ q.2.2 ∧ q.2.1 = (S.take q.1).filter fun y => decide (y ≠ x)) (fun q => S.length - q.1) (0, [], m + 1) ?_ ?_ (fun ⟨j, O, n⟩ hj => ?_)
  · exact ⟨by simp, by simp, rfl⟩
  · refine (weak_e0 (t := 4) (m := 1) ?_).trans (weak_ok ?_ (Sub.cons ?_ (Sub.base hf ?_)) (Nat.le_refl _))
    all_goals (simp (disch := omega) only [ite_ne, go_sem, ↓reduceIte, Nat.reduceEqDiff, Nat.reduceBEq, Nat.reduceAdd, Nat.reduceLeDiff, Nat.reduceLT, reduceCtorEq, Nat.reduceMul, Nat.reduceSub, Int.reduceEq, Int.reduceLT, Int.reduceLE, Int.reduceToNat])
    all_goals rfl
  dsimp only at hj
  obtain ⟨hj1, hj2, hj3⟩ := hj
  have hmn : m ≤ n := by omega
  have hrm : ¬ m = r := by omega
  have hkm : ¬ m = kS := by omega
  simp (disch := omega) only [ite_ne, hr, hk, hSl, Nat.le_refl, htk, hrm, hkm, go_sem, ↓reduceIte, Nat.reduceEqDiff, Nat.reduceBEq, Nat.reduceAdd, Nat.reduceLeDiff, Nat.reduceLT, reduceCtorEq, Nat.reduceMul, Nat.reduceSub, Int.reduceEq, Int.reduceLT, Int.reduceLE, Int.reduceToNat]
  refine cdK_of (fun q => ?_) (fun q => ?_)
  · have q : j < S.length := by simpa using q
    obtain ⟨y, ey⟩ : ∃ y, S[j]? = some y := ⟨S[j], by simp [q]⟩
    have hs := hst j y ey
    have hl := hln j
    rw [← hj3] at hs hl
    have hOl : (mapC in1 O).length = O.length := mapC_len _ _
    have k1 : (O.length + 1) * 8 ≤ 140737488355328 := by omega
    have k2 : O.length + 1 ≤ 9223372036854775807 := by omega
    have hsn : mapC in1 O ++ [[.i .i64 y]] = mapC in1 (O ++ [y]) := mapC_snoc in1 _ _
    simp (disch := omega) only [ite_ne, q, hr, hk, hSl, Nat.le_refl, htk, hrm, hkm, getK_s (mapC_get in1 ey), go_sem, ↓reduceIte, Nat.reduceEqDiff, Nat.reduceBEq, Nat.reduceAdd, Nat.reduceLeDiff, Nat.reduceLT, reduceCtorEq, Nat.reduceMul, Nat.reduceSub, Int.reduceEq, Int.reduceLT, Int.reduceLE, Int.reduceToNat]
    refine cdK_of (fun c1 => ?_) (fun c1 => ?_)
    · rw [if_pos (by simpa using c1)] at hs
      simp (disch := omega) only [ite_ne, q, hr, hk, hSl, Nat.le_refl, htk, hrm, hkm, getK_s (mapC_get in1 ey), hOl, k1, k2, go_sem, ↓reduceIte, Nat.reduceEqDiff, Nat.reduceBEq, Nat.reduceAdd, Nat.reduceLeDiff, Nat.reduceLT, reduceCtorEq, Nat.reduceMul, Nat.reduceSub, Int.reduceEq, Int.reduceLT, Int.reduceLE, Int.reduceToNat]
      refine ⟨(j + 1, O ++ [y], _), ⟨by dsimp only; omega, by dsimp only; omega, hs.symm⟩, by dsimp only; omega, weak_ok ?_ (Sub.cons ?_ (Sub.base hf ?_)) (Nat.le_refl _)⟩
      all_goals
        simp (disch := omega) only [ite_ne, wr64s j (by omega), hmn, hsn, List.length_append, List.length_cons, List.length_nil, go_sem, ↓reduceIte, Nat.reduceEqDiff, Nat.reduceBEq, Nat.reduceAdd, Nat.reduceLeDiff, Nat.reduceLT, reduceCtorEq, Nat.reduceMul, Nat.reduceSub, Int.reduceEq, Int.reduceLT, Int.reduceLE, Int.reduceToNat]
    · rw [if_neg (by simpa using c1)] at hs
      simp (disch := omega) only [ite_ne, hmn, go_sem, ↓reduceIte, Nat.reduceEqDiff, Nat.reduceBEq, Nat.reduceAdd, Nat.reduceLeDiff, Nat.reduceLT, reduceCtorEq, Nat.reduceMul, Nat.reduceSub, Int.reduceEq, Int.reduceLT, Int.reduceLE, Int.reduceToNat]
      refine ⟨(j + 1, O, _), ⟨by dsimp only; omega, by dsimp only; omega, hs.symm⟩, by dsimp only; omega, weak_ok ?_ (Sub.cons ?_ (Sub.base hf ?_)) (Nat.le_refl _)⟩
      all_goals
        simp (disch := omega) only [ite_ne, wr64s j (by omega), hmn, go_sem, ↓reduceIte, Nat.reduceEqDiff, Nat.reduceBEq, Nat.reduceAdd, Nat.reduceLeDiff, Nat.reduceLT, reduceCtorEq, Nat.reduceMul, Nat.reduceSub, Int.reduceEq, Int.reduceLT, Int.reduceLE, Int.reduceToNat]
  · have q : j = S.length := by simp at q; omega
    subst q
    rw [List.take_length, hR] at hj3
    subst hj3
    simp (disch := omega) only [ite_ne, hr, hk, hrm, hkm, hmn, go_sem, ↓reduceIte, Nat.reduceEqDiff, Nat.reduceBEq, Nat.reduceAdd, Nat.reduceLeDiff, Nat.reduceLT, reduceCtorEq, Nat.reduceMul, Nat.reduceSub, Int.reduceEq, Int.reduceLT, Int.reduceLE, Int.reduceToNat]
    refine renQ_of [.i .i64 room, .i .i64 last, .i .i64 ack, .rw kL gL nL, .rw m O.length O.length] gS m O.length O.length (mapC in1 O) (mapC in1 S) ?_ rfl ?_ ?_ (by omega) ?_
    · (simp (disch := omega) only [ite_ne, hr, hk, hrm, hkm, go_sem, ↓reduceIte, Nat.reduceEqDiff, Nat.reduceBEq, Nat.reduceAdd, Nat.reduceLeDiff, Nat.reduceLT, reduceCtorEq, Nat.reduceMul, Nat.reduceSub, Int.reduceEq, Int.reduceLT, Int.reduceLE, Int.reduceToNat])
    · (simp (disch := omega) only [ite_ne, hr, hk, hne, hrm, hkm, go_sem, ↓reduceIte, Nat.reduceEqDiff, Nat.reduceBEq, Nat.reduceAdd, Nat.reduceLeDiff, Nat.reduceLT, reduceCtorEq, Nat.reduceMul, Nat.reduceSub, Int.reduceEq, Int.reduceLT, Int.reduceLE, Int.reduceToNat])
    · (simp (disch := omega) only [ite_ne, hr, hk, hrm, hkm, go_sem, ↓reduceIte, Nat.reduceEqDiff, Nat.reduceBEq, Nat.reduceAdd, Nat.reduceLeDiff, Nat.reduceLT, reduceCtorEq, Nat.reduceMul, Nat.reduceSub, Int.reduceEq, Int.reduceLT, Int.reduceLE, Int.reduceToNat])
    simp only [List.set]
    simp (disch := omega) only [ite_ne, hr, hk, hne, hne', hrm, hkm, go_sem, ↓reduceIte, Nat.reduceEqDiff, Nat.reduceBEq, Nat.reduceAdd, Nat.reduceLeDiff, Nat.reduceLT, reduceCtorEq, Nat.reduceMul, Nat.reduceSub, Int.reduceEq, Int.reduceLT, Int.reduceLE, Int.reduceToNat]
    refine up_ws2 hne ?_ ?_ (fun j h1 h2 h3 => ?_)
    · (simp (disch := omega) only [ite_ne, hr, hk, hne, hne', go_sem, ↓reduceIte, Nat.reduceEqDiff, Nat.reduceBEq, Nat.reduceAdd, Nat.reduceLeDiff, Nat.reduceLT, reduceCtorEq, Nat.reduceMul, Nat.reduceSub, Int.reduceEq, Int.reduceLT, Int.reduceLE, Int.reduceToNat])
    · (simp (disch := omega) only [ite_ne, hr, hk, hne, hne', go_sem, ↓reduceIte, Nat.reduceEqDiff, Nat.reduceBEq, Nat.reduceAdd, Nat.reduceLeDiff, Nat.reduceLT, reduceCtorEq, Nat.reduceMul, Nat.reduceSub, Int.reduceEq, Int.reduceLT, Int.reduceLE, Int.reduceToNat])
    · repeat rw [gc_ne _ _ (by omega)]
end Go.Proofs.Ytdodiembhgjecaa
