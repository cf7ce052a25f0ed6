/-
  The parts MxR of the proof, in one file. Conditions: none.
-/
import Derived.Test.YtdodiembhgjecaaMb44
namespace Go.Proofs.Ytdodiembhgjecaa
open Go.Eng
set_option linter.unusedVariables false
set_option linter.unusedSimpArgs false
set_option maxRecDepth 20000
set_option maxHeartbeats 1000000
def cfL (n ack : Int) (L : List Frm) : List Frm := if n ≤ ack then L else L.filter fun y => decide (n < y.s)
def cfG (n ack : Int) (g : Nat) : Nat := if n ≤ ack then g else g + 1
theorem gConf_ok (x room last ack : Int) (L : List Frm) (hL : L.length ≤ 1000000) (r kL gL kS gS nS : Nat) (hp : CH) (hr : gc hp r = rfB room last ack kL gL L.length kS gS nS) (hk : gc hp kL = .rw gL 5 (mapC frC L)) (m : Nat) (hSm : kS < m) :
    MeetsX Try.prog 43 hp m [.bx r 0, .i .i64 x] ([(r, rfB room last (akA x ack) kL (cfG x ack gL) (cfL x ack L).length kS gS nS), (kL, .rw (cfG x ack gL) 5 (mapC frC (cfL x ack L)))] ++ hp) m (.tp []) := by
  have hne : r ≠ kL := fun e => by subst e; rw [hr] at hk; cases hk
  have hne' : ¬ kL = r := fun e => hne e.symm
  have hSl : (mapC frC L).length = L.length := mapC_len _ _
  have htk : (mapC frC L).take L.length = mapC frC L := List.take_of_length_le (by omega)
  have hst := fun j y (h : L[j]? = some y) => filter_step h fun y => decide (x < y.s)
  have hln := fun j => filter_len L j fun y => decide (x < y.s)
  unfold rfB at hr
  refine meetsWR r 3 kL 5 _ _ Try.func43 (by kernel_rfl) cc43 cr43 rfl (fun hf => ?_) fun hf => ?_
  · have h1 := bx_lt' hf hr
    have h2 := rw_lt hf hk
    exact ⟨h1, fun α h => by simp at h; rcases h with rfl | rfl | rfl | rfl | rfl <;> first | exact h2 | exact hSm | rfl | simp [AV.lt1, AV.pur], h2, trivial, trivial⟩
  unfold ck43
  have hlt := bx_lt' hf hr
  have hlt2 := rw_lt hf hk
  unfold rfB
  by_cases h1 : x ≤ ack
  · have x1 : akA x ack = ack := by simp [akA, h1]
    have x2 : cfG x ack gL = gL := by simp [cfG, h1]
    have x3 : cfL x ack L = L := by simp [cfL, h1]
    rw [x1, x2, x3]
    simp (disch := omega) only [ite_ne, hr, decide_eq_true h1, go_sem, ↓reduceIte, Nat.reduceEqDiff, Nat.reduceBEq, Nat.reduceAdd, Nat.reduceLeDiff, Nat.reduceLT, reduceCtorEq, Nat.reduceMul, Nat.reduceSub, Int.reduceEq, Int.reduceLT, Int.reduceLE, Int.reduceToNat]
    refine renQ_no ?_
    simp (disch := omega) only [ite_ne, hr, hk, go_sem, ↓reduceIte, Nat.reduceEqDiff, Nat.reduceBEq, Nat.reduceAdd, Nat.reduceLeDiff, Nat.reduceLT, reduceCtorEq, Nat.reduceMul, Nat.reduceSub, Int.reduceEq, Int.reduceLT, Int.reduceLE, Int.reduceToNat]
    refine up_ws2 hne ?_ ?_ (fun j h1 h2 h3 => ?_)
    · (simp (disch := omega) only [ite_ne, hr, hk, hne, hne', go_sem, ↓reduceIte, Nat.reduceEqDiff, Nat.reduceBEq, Nat.reduceAdd, Nat.reduceLeDiff, Nat.reduceLT, reduceCtorEq, Nat.reduceMul, Nat.reduceSub, Int.reduceEq, Int.reduceLT, Int.reduceLE, Int.reduceToNat])
    · (simp (disch := omega) only [ite_ne, hr, hk, hne, hne', go_sem, ↓reduceIte, Nat.reduceEqDiff, Nat.reduceBEq, Nat.reduceAdd, Nat.reduceLeDiff, Nat.reduceLT, reduceCtorEq, Nat.reduceMul, Nat.reduceSub, Int.reduceEq, Int.reduceLT, Int.reduceLE, Int.reduceToNat])
    · repeat rw [gc_ne _ _ (by omega)]
      try rfl
  have x1 : akA x ack = x := by simp [akA, h1]
  have x2 : cfG x ack gL = gL + 1 := by simp [cfG, h1]
  have x3 : cfL x ack L = L.filter fun y => decide (x < y.s) := by simp [cfL, h1]
  rw [x1, x2, x3]
  obtain ⟨R, hR⟩ : ∃ R, (L.filter fun y => decide (x < y.s)) = R := ⟨_, rfl⟩
  rw [hR]
  simp (disch := omega) only [ite_ne, hr, hk, hne, hne', hSl, Nat.le_refl, htk, decide_eq_false h1, go_sem, ↓reduceIte, Nat.reduceEqDiff, Nat.reduceBEq, Nat.reduceAdd, Nat.reduceLeDiff, Nat.reduceLT, reduceCtorEq, Nat.reduceMul, Nat.reduceSub, Int.reduceEq, Int.reduceLT, Int.reduceLE, Int.reduceToNat]
  refine loop (fun q : Nat × List Frm × Nat => ⟨[(0, .bx r 0), (1, .i .i64 x), (4, .rw m q.2.1.length q.2.1.length), (5, .i .i64 q.1)], (m, .rw q.2.1.length 5 (mapC frC q.2.1)) :: (r, .bx [.i .i64 room, .i .i64 last, .i .i64 x, .rw kL gL L.length, .rw kS gS nS]) :: hp, q.2.2⟩)
    (fun q => q.1 ≤ L.length ∧ m + 1 ≤ q.2.2 ∧ q.2.1 = (L.take q.1).filter fun y => decide (x < y.s)) (fun q => L.length - q.1) (0, [], m + 1) ?_ ?_ (fun ⟨j, O, n⟩ hj => ?_)
  · exact ⟨by simp, by simp, rfl⟩
  · refine (weak_e0 (t := 4) (m := 5) ?_).trans (weak_ok ?_ (Sub.refl _) (Nat.le_refl _))
    all_goals (simp (disch := omega) only [ite_ne, go_sem, ↓reduceIte, Nat.reduceEqDiff, Nat.reduceBEq, Nat.reduceAdd, Nat.reduceLeDiff, Nat.reduceLT, reduceCtorEq, Nat.reduceMul, Nat.reduceSub, Int.reduceEq, Int.reduceLT, Int.reduceLE, Int.reduceToNat])
    all_goals rfl
  dsimp only at hj
  obtain ⟨hj1, hj2, hj3⟩ := hj
  have hmn : m ≤ n := by omega
  have hrm : ¬ m = r := by omega
  have hkm : ¬ m = kL := by omega
  simp (disch := omega) only [ite_ne, hr, hk, hne, hne', hSl, Nat.le_refl, htk, hrm, hkm, go_sem, ↓reduceIte, Nat.reduceEqDiff, Nat.reduceBEq, Nat.reduceAdd, Nat.reduceLeDiff, Nat.reduceLT, reduceCtorEq, Nat.reduceMul, Nat.reduceSub, Int.reduceEq, Int.reduceLT, Int.reduceLE, Int.reduceToNat]
  refine cdK_of (fun q => ?_) (fun q => ?_)
  · have q : j < L.length := by simpa using q
    obtain ⟨y, ey⟩ : ∃ y, L[j]? = some y := ⟨L[j], by simp [q]⟩
    have hs := hst j y ey
    have hl := hln j
    rw [← hj3] at hs hl
    have hOl : (mapC frC O).length = O.length := mapC_len _ _
    have k1 : (O.length + 1) * 48 ≤ 140737488355328 := by omega
    have k2 : O.length + 1 ≤ 9223372036854775807 := by omega
    have hsn : mapC frC O ++ [[AV.i .i64 y.k, .i .i64 y.i, .i .i64 y.s, .i .i64 y.a, .s y.b]] = mapC frC (O ++ [y]) := mapC_snoc frC _ _
    simp (disch := omega) only [ite_ne, q, hr, hk, hne, hne', hSl, Nat.le_refl, htk, hrm, hkm, getK_s (mapC_get frC ey), go_sem, ↓reduceIte, Nat.reduceEqDiff, Nat.reduceBEq, Nat.reduceAdd, Nat.reduceLeDiff, Nat.reduceLT, reduceCtorEq, Nat.reduceMul, Nat.reduceSub, Int.reduceEq, Int.reduceLT, Int.reduceLE, Int.reduceToNat]
    refine cdK_of (fun c1 => ?_) (fun c1 => ?_)
    · rw [if_pos (by simpa using c1)] at hs
      simp (disch := omega) only [ite_ne, q, hr, hk, hne, hne', hSl, Nat.le_refl, htk, hrm, hkm, getK_s (mapC_get frC ey), hOl, k1, k2, go_sem, ↓reduceIte, Nat.reduceEqDiff, Nat.reduceBEq, Nat.reduceAdd, Nat.reduceLeDiff, Nat.reduceLT, reduceCtorEq, Nat.reduceMul, Nat.reduceSub, Int.reduceEq, Int.reduceLT, Int.reduceLE, Int.reduceToNat]
      refine ⟨(j + 1, O ++ [y], _), ⟨by dsimp only; omega, by dsimp only; omega, hs.symm⟩, by dsimp only; omega, weak_ok ?_ (SubX.sub (SubX.cons ?_ (SubX.cons ?_ (SubX.base hf fun a ha hax => ?_)))) (Nat.le_refl _)⟩
      · simp (disch := omega) only [ite_ne, wr64s j (by omega), hmn, hsn, List.length_append, List.length_cons, List.length_nil, go_sem, ↓reduceIte, Nat.reduceEqDiff, Nat.reduceBEq, Nat.reduceAdd, Nat.reduceLeDiff, Nat.reduceLT, reduceCtorEq, Nat.reduceMul, Nat.reduceSub, Int.reduceEq, Int.reduceLT, Int.reduceLE, Int.reduceToNat]
      · simp (disch := omega) only [ite_ne, wr64s j (by omega), hmn, hsn, List.length_append, List.length_cons, List.length_nil, go_sem, ↓reduceIte, Nat.reduceEqDiff, Nat.reduceBEq, Nat.reduceAdd, Nat.reduceLeDiff, Nat.reduceLT, reduceCtorEq, Nat.reduceMul, Nat.reduceSub, Int.reduceEq, Int.reduceLT, Int.reduceLE, Int.reduceToNat]
      · simp (disch := omega) only [ite_ne, hrm, hne, hne', go_sem, ↓reduceIte, Nat.reduceEqDiff, Nat.reduceBEq, Nat.reduceAdd, Nat.reduceLeDiff, Nat.reduceLT, reduceCtorEq, Nat.reduceMul, Nat.reduceSub, Int.reduceEq, Int.reduceLT, Int.reduceLE, Int.reduceToNat]
      · have hak : ¬ r = a := fun e => hax (by simp [e])
        repeat rw [gc_ne _ _ (by omega)]
    · rw [if_neg (by simpa using c1)] at hs
      simp (disch := omega) only [ite_ne, hmn, go_sem, ↓reduceIte, Nat.reduceEqDiff, Nat.reduceBEq, Nat.reduceAdd, Nat.reduceLeDiff, Nat.reduceLT, reduceCtorEq, Nat.reduceMul, Nat.reduceSub, Int.reduceEq, Int.reduceLT, Int.reduceLE, Int.reduceToNat]
      refine ⟨(j + 1, O, _), ⟨by dsimp only; omega, by dsimp only; omega, hs.symm⟩, by dsimp only; omega, weak_ok ?_ (Sub.refl _) (Nat.le_refl _)⟩
      all_goals
        simp (disch := omega) only [ite_ne, wr64s j (by omega), hmn, go_sem, ↓reduceIte, Nat.reduceEqDiff, Nat.reduceBEq, Nat.reduceAdd, Nat.reduceLeDiff, Nat.reduceLT, reduceCtorEq, Nat.reduceMul, Nat.reduceSub, Int.reduceEq, Int.reduceLT, Int.reduceLE, Int.reduceToNat]
  · have q : j = L.length := by simp at q; omega
    subst q
    rw [List.take_length, hR] at hj3
    subst hj3
    simp (disch := omega) only [ite_ne, hr, hk, hne, hne', hrm, hkm, hmn, go_sem, ↓reduceIte, Nat.reduceEqDiff, Nat.reduceBEq, Nat.reduceAdd, Nat.reduceLeDiff, Nat.reduceLT, reduceCtorEq, Nat.reduceMul, Nat.reduceSub, Int.reduceEq, Int.reduceLT, Int.reduceLE, Int.reduceToNat]
    refine renQ_of [.i .i64 room, .i .i64 last, .i .i64 x, .rw m O.length O.length, .rw kS gS nS] gL m O.length O.length (mapC frC O) (mapC frC L) ?_ rfl ?_ ?_ (by omega) ?_
    · (simp (disch := omega) only [ite_ne, hr, hk, hrm, hkm, go_sem, ↓reduceIte, Nat.reduceEqDiff, Nat.reduceBEq, Nat.reduceAdd, Nat.reduceLeDiff, Nat.reduceLT, reduceCtorEq, Nat.reduceMul, Nat.reduceSub, Int.reduceEq, Int.reduceLT, Int.reduceLE, Int.reduceToNat])
    · (simp (disch := omega) only [ite_ne, hr, hk, hne, hne', hrm, hkm, go_sem, ↓reduceIte, Nat.reduceEqDiff, Nat.reduceBEq, Nat.reduceAdd, Nat.reduceLeDiff, Nat.reduceLT, reduceCtorEq, Nat.reduceMul, Nat.reduceSub, Int.reduceEq, Int.reduceLT, Int.reduceLE, Int.reduceToNat])
    · (simp (disch := omega) only [ite_ne, hr, hk, hrm, hkm, go_sem, ↓reduceIte, Nat.reduceEqDiff, Nat.reduceBEq, Nat.reduceAdd, Nat.reduceLeDiff, Nat.reduceLT, reduceCtorEq, Nat.reduceMul, Nat.reduceSub, Int.reduceEq, Int.reduceLT, Int.reduceLE, Int.reduceToNat])
    simp only [List.set]
    simp (disch := omega) only [ite_ne, hr, hk, hne, hne', hrm, hkm, go_sem, ↓reduceIte, Nat.reduceEqDiff, Nat.reduceBEq, Nat.reduceAdd, Nat.reduceLeDiff, Nat.reduceLT, reduceCtorEq, Nat.reduceMul, Nat.reduceSub, Int.reduceEq, Int.reduceLT, Int.reduceLE, Int.reduceToNat]
    refine up_ws2 hne ?_ ?_ (fun j h1 h2 h3 => ?_)
    · (simp (disch := omega) only [ite_ne, hr, hk, hne, hne', go_sem, ↓reduceIte, Nat.reduceEqDiff, Nat.reduceBEq, Nat.reduceAdd, Nat.reduceLeDiff, Nat.reduceLT, reduceCtorEq, Nat.reduceMul, Nat.reduceSub, Int.reduceEq, Int.reduceLT, Int.reduceLE, Int.reduceToNat])
    · (simp (disch := omega) only [ite_ne, hr, hk, hne, hne', go_sem, ↓reduceIte, Nat.reduceEqDiff, Nat.reduceBEq, Nat.reduceAdd, Nat.reduceLeDiff, Nat.reduceLT, reduceCtorEq, Nat.reduceMul, Nat.reduceSub, Int.reduceEq, Int.reduceLT, Int.reduceLE, Int.reduceToNat])
    · repeat rw [gc_ne _ _ (by omega)]
def sgG (E : Int) (g : Nat) : Nat := if E = 0 then g + 1 else g
theorem gSend_ok (k id : Int) (b : ByteArray) (room last ack : Int) (hroom : 1 ≤ room) (hlast : 0 ≤ last ∧ last ≤ 1000000) (L : List Frm) (hL : L.length ≤ 1000000) (S : List Int) (hS : S.length ≤ 1000000) (r kL gL kS gS : Nat) (hp : CH)
    (hr : gc hp r = rfB room last ack kL gL L.length kS gS S.length) (hk : gc hp kL = .rw gL 5 (mapC frC L)) (hv : gc hp kS = .rw gS 1 (mapC in1 S)) (m : Nat) (E : Int) (hE : sdE (decide (id ∈ S)) b.size room L.length = E) (f : Frm) (hf : f = .mk k id 0 0 b) :
    MeetsX Try.prog 33 hp m [.bx r 0, .i .i64 k, .i .i64 id, .s b] ([(r, rfB room (sdN E last) ack kL (sgG E gL) (L ++ sdL E f last).length kS gS S.length), (kL, .rw (sgG E gL) 5 (mapC frC (L ++ sdL E f last)))] ++ hp) m (.tp [.ds (mapC frC (sdL E f last)), .i .i64 E]) := by
  subst hf
  have hne : r ≠ kL := fun e => by subst e; rw [hr] at hk; cases hk
  have hne' : ¬ kL = r := fun e => hne e.symm
  have hSl : (mapC frC L).length = L.length := mapC_len _ _
  have htk : (mapC frC L).take L.length = mapC frC L := List.take_of_length_le (by omega)
  have hr0 := hr
  have hB := fun hp' e1 e2 n' => gLive_ok id room last ack S hS r kL gL L.length kS gS hp' e1 e2 n'
  have hM := fun hp' e1 n' => gMade_ok room hroom (.i .i64 last) (.i .i64 ack) (.rw kL gL L.length) (.rw kS gS S.length) r hp' e1 n'
  unfold rfB at hr hB
  refine meetsW Try.func33 (by kernel_rfl) cc33 cr33 rfl (fun hf => ?_) fun hf => ?_
  · have h1 := bx_lt' hf hr
    have h2 := rw_lt hf hk
    have h3 := rw_lt hf hv
    exact ⟨h1, fun α h => by simp at h; rcases h with rfl | rfl | rfl | rfl | rfl <;> first | exact h2 | exact h3 | rfl | simp [AV.lt1, AV.pur], h2, trivial, trivial⟩
  unfold ck33
  have hlt := bx_lt' hf hr
  have hlt2 := rw_lt hf hk
  have hlt3 := rw_lt hf hv
  unfold rfB
  have w1 : IntKind.i64.wrap (last + 1) = last + 1 := wr64 (by omega)
  cases hh : decide (id ∈ S) with
  | false =>
    rw [hh] at hB hE
    obtain rfl : E = 8 := by rw [← hE]; rfl
    have x1 : sdL 8 (.mk k id 0 0 b) last = [] := rfl
    have x2 : sdN 8 last = last := rfl
    have x3 : sgG 8 gL = gL := rfl
    rw [x1, x2, x3, List.append_nil]
    simp only [go_sem, ↓reduceIte, Nat.reduceEqDiff, Nat.reduceBEq, Nat.reduceAdd, Nat.reduceLeDiff, Nat.reduceLT, reduceCtorEq, Nat.reduceMul, Nat.reduceSub, Int.reduceEq, Int.reduceLT, Int.reduceLE, Int.reduceToNat]
    refine vcCall.f (hM _ (by (simp (disch := omega) only [ite_ne, hr, go_sem, ↓reduceIte, Nat.reduceEqDiff, Nat.reduceBEq, Nat.reduceAdd, Nat.reduceLeDiff, Nat.reduceLT, reduceCtorEq, Nat.reduceMul, Nat.reduceSub, Int.reduceEq, Int.reduceLT, Int.reduceLE, Int.reduceToNat])) _) ?_
    simp (disch := omega) only [ite_ne, hr, go_sem, ↓reduceIte, Nat.reduceEqDiff, Nat.reduceBEq, Nat.reduceAdd, Nat.reduceLeDiff, Nat.reduceLT, reduceCtorEq, Nat.reduceMul, Nat.reduceSub, Int.reduceEq, Int.reduceLT, Int.reduceLE, Int.reduceToNat]
    refine vcCall.f (hB _ (by (simp (disch := omega) only [ite_ne, hr, go_sem, ↓reduceIte, Nat.reduceEqDiff, Nat.reduceBEq, Nat.reduceAdd, Nat.reduceLeDiff, Nat.reduceLT, reduceCtorEq, Nat.reduceMul, Nat.reduceSub, Int.reduceEq, Int.reduceLT, Int.reduceLE, Int.reduceToNat])) (by (simp (disch := omega) only [ite_ne, hv, go_sem, ↓reduceIte, Nat.reduceEqDiff, Nat.reduceBEq, Nat.reduceAdd, Nat.reduceLeDiff, Nat.reduceLT, reduceCtorEq, Nat.reduceMul, Nat.reduceSub, Int.reduceEq, Int.reduceLT, Int.reduceLE, Int.reduceToNat])) _) ?_
    try (simp (disch := omega) only [ite_ne, hr, hk, go_sem, ↓reduceIte, Nat.reduceEqDiff, Nat.reduceBEq, Nat.reduceAdd, Nat.reduceLeDiff, Nat.reduceLT, reduceCtorEq, Nat.reduceMul, Nat.reduceSub, Int.reduceEq, Int.reduceLT, Int.reduceLE, Int.reduceToNat])
    refine up_ws2 hne ?_ ?_ (fun j h1 h2 h3 => ?_)
    · (simp (disch := omega) only [ite_ne, hr, hk, hne, hne', go_sem, ↓reduceIte, Nat.reduceEqDiff, Nat.reduceBEq, Nat.reduceAdd, Nat.reduceLeDiff, Nat.reduceLT, reduceCtorEq, Nat.reduceMul, Nat.reduceSub, Int.reduceEq, Int.reduceLT, Int.reduceLE, Int.reduceToNat])
    · (simp (disch := omega) only [ite_ne, hr, hk, hne, hne', go_sem, ↓reduceIte, Nat.reduceEqDiff, Nat.reduceBEq, Nat.reduceAdd, Nat.reduceLeDiff, Nat.reduceLT, reduceCtorEq, Nat.reduceMul, Nat.reduceSub, Int.reduceEq, Int.reduceLT, Int.reduceLE, Int.reduceToNat])
    · repeat rw [gc_ne _ _ (by omega)]
      try rfl
  | true =>
    rw [hh] at hB hE
    simp only [go_sem, ↓reduceIte, Nat.reduceEqDiff, Nat.reduceBEq, Nat.reduceAdd, Nat.reduceLeDiff, Nat.reduceLT, reduceCtorEq, Nat.reduceMul, Nat.reduceSub, Int.reduceEq, Int.reduceLT, Int.reduceLE, Int.reduceToNat]
    refine vcCall.f (hM _ (by (simp (disch := omega) only [ite_ne, hr, go_sem, ↓reduceIte, Nat.reduceEqDiff, Nat.reduceBEq, Nat.reduceAdd, Nat.reduceLeDiff, Nat.reduceLT, reduceCtorEq, Nat.reduceMul, Nat.reduceSub, Int.reduceEq, Int.reduceLT, Int.reduceLE, Int.reduceToNat])) _) ?_
    simp (disch := omega) only [ite_ne, hr, go_sem, ↓reduceIte, Nat.reduceEqDiff, Nat.reduceBEq, Nat.reduceAdd, Nat.reduceLeDiff, Nat.reduceLT, reduceCtorEq, Nat.reduceMul, Nat.reduceSub, Int.reduceEq, Int.reduceLT, Int.reduceLE, Int.reduceToNat]
    refine vcCall.f (hB _ (by (simp (disch := omega) only [ite_ne, hr, go_sem, ↓reduceIte, Nat.reduceEqDiff, Nat.reduceBEq, Nat.reduceAdd, Nat.reduceLeDiff, Nat.reduceLT, reduceCtorEq, Nat.reduceMul, Nat.reduceSub, Int.reduceEq, Int.reduceLT, Int.reduceLE, Int.reduceToNat])) (by (simp (disch := omega) only [ite_ne, hv, go_sem, ↓reduceIte, Nat.reduceEqDiff, Nat.reduceBEq, Nat.reduceAdd, Nat.reduceLeDiff, Nat.reduceLT, reduceCtorEq, Nat.reduceMul, Nat.reduceSub, Int.reduceEq, Int.reduceLT, Int.reduceLE, Int.reduceToNat])) _) ?_
    by_cases h4 : (65536 : Int) < (b.size : Int)
    · have d4 := decide_eq_true h4
      obtain rfl : E = 4 := by rw [← hE]; unfold sdE; rw [if_neg (by simp), if_pos h4]
      have x1 : sdL 4 (.mk k id 0 0 b) last = [] := rfl
      have x2 : sdN 4 last = last := rfl
      have x3 : sgG 4 gL = gL := rfl
      rw [x1, x2, x3, List.append_nil]
      simp (disch := omega) only [ite_ne, hr, d4, go_sem, ↓reduceIte, Nat.reduceEqDiff, Nat.reduceBEq, Nat.reduceAdd, Nat.reduceLeDiff, Nat.reduceLT, reduceCtorEq, Nat.reduceMul, Nat.reduceSub, Int.reduceEq, Int.reduceLT, Int.reduceLE, Int.reduceToNat]
      try (simp (disch := omega) only [ite_ne, hr, hk, go_sem, ↓reduceIte, Nat.reduceEqDiff, Nat.reduceBEq, Nat.reduceAdd, Nat.reduceLeDiff, Nat.reduceLT, reduceCtorEq, Nat.reduceMul, Nat.reduceSub, Int.reduceEq, Int.reduceLT, Int.reduceLE, Int.reduceToNat])
      refine up_ws2 hne ?_ ?_ (fun j h1 h2 h3 => ?_)
      · (simp (disch := omega) only [ite_ne, hr, hk, hne, hne', go_sem, ↓reduceIte, Nat.reduceEqDiff, Nat.reduceBEq, Nat.reduceAdd, Nat.reduceLeDiff, Nat.reduceLT, reduceCtorEq, Nat.reduceMul, Nat.reduceSub, Int.reduceEq, Int.reduceLT, Int.reduceLE, Int.reduceToNat])
      · (simp (disch := omega) only [ite_ne, hr, hk, hne, hne', go_sem, ↓reduceIte, Nat.reduceEqDiff, Nat.reduceBEq, Nat.reduceAdd, Nat.reduceLeDiff, Nat.reduceLT, reduceCtorEq, Nat.reduceMul, Nat.reduceSub, Int.reduceEq, Int.reduceLT, Int.reduceLE, Int.reduceToNat])
      · repeat rw [gc_ne _ _ (by omega)]
        try rfl
    have d4 := decide_eq_false h4
    by_cases h5 : room ≤ (L.length : Int)
    · have d5 := decide_eq_true h5
      obtain rfl : E = 11 := by rw [← hE]; unfold sdE; rw [if_neg (by simp), if_neg h4, if_pos h5]
      have x1 : sdL 11 (.mk k id 0 0 b) last = [] := rfl
      have x2 : sdN 11 last = last := rfl
      have x3 : sgG 11 gL = gL := rfl
      rw [x1, x2, x3, List.append_nil]
      simp (disch := omega) only [ite_ne, hr, hk, hSl, htk, Nat.le_refl, d4, d5, go_sem, ↓reduceIte, Nat.reduceEqDiff, Nat.reduceBEq, Nat.reduceAdd, Nat.reduceLeDiff, Nat.reduceLT, reduceCtorEq, Nat.reduceMul, Nat.reduceSub, Int.reduceEq, Int.reduceLT, Int.reduceLE, Int.reduceToNat]
      try (simp (disch := omega) only [ite_ne, hr, hk, go_sem, ↓reduceIte, Nat.reduceEqDiff, Nat.reduceBEq, Nat.reduceAdd, Nat.reduceLeDiff, Nat.reduceLT, reduceCtorEq, Nat.reduceMul, Nat.reduceSub, Int.reduceEq, Int.reduceLT, Int.reduceLE, Int.reduceToNat])
      refine up_ws2 hne ?_ ?_ (fun j h1 h2 h3 => ?_)
      · (simp (disch := omega) only [ite_ne, hr, hk, hne, hne', go_sem, ↓reduceIte, Nat.reduceEqDiff, Nat.reduceBEq, Nat.reduceAdd, Nat.reduceLeDiff, Nat.reduceLT, reduceCtorEq, Nat.reduceMul, Nat.reduceSub, Int.reduceEq, Int.reduceLT, Int.reduceLE, Int.reduceToNat])
      · (simp (disch := omega) only [ite_ne, hr, hk, hne, hne', go_sem, ↓reduceIte, Nat.reduceEqDiff, Nat.reduceBEq, Nat.reduceAdd, Nat.reduceLeDiff, Nat.reduceLT, reduceCtorEq, Nat.reduceMul, Nat.reduceSub, Int.reduceEq, Int.reduceLT, Int.reduceLE, Int.reduceToNat])
      · repeat rw [gc_ne _ _ (by omega)]
        try rfl
    have d5 := decide_eq_false h5
    obtain rfl : E = 0 := by rw [← hE]; unfold sdE; rw [if_neg (by simp), if_neg h4, if_neg h5]
    have x1 : sdL 0 (.mk k id 0 0 b) last = [.mk k id (last + 1) 0 b] := rfl
    have x2 : sdN 0 last = last + 1 := rfl
    have x3 : sgG 0 gL = gL + 1 := rfl
    have x4 : (L ++ [Frm.mk k id (last + 1) 0 b]).length = L.length + 1 := by simp
    have hsn : mapC frC L ++ [[AV.i .i64 k, .i .i64 id, .i .i64 (last + 1), .i .i64 0, .s b]] = mapC frC (L ++ [.mk k id (last + 1) 0 b]) := mapC_snoc frC L (.mk k id (last + 1) 0 b)
    have k1 : (L.length + 1) * 48 ≤ 140737488355328 := by omega
    have k2 : L.length + 1 ≤ 9223372036854775807 := by omega
    rw [x1, x2, x3, x4]
    simp (disch := omega) only [ite_ne, hr, hk, hne, hne', hSl, htk, Nat.le_refl, d4, d5, w1, k1, k2, hsn, go_sem, ↓reduceIte, Nat.reduceEqDiff, Nat.reduceBEq, Nat.reduceAdd, Nat.reduceLeDiff, Nat.reduceLT, reduceCtorEq, Nat.reduceMul, Nat.reduceSub, Int.reduceEq, Int.reduceLT, Int.reduceLE, Int.reduceToNat]
    try (simp (disch := omega) only [ite_ne, hr, hk, go_sem, ↓reduceIte, Nat.reduceEqDiff, Nat.reduceBEq, Nat.reduceAdd, Nat.reduceLeDiff, Nat.reduceLT, reduceCtorEq, Nat.reduceMul, Nat.reduceSub, Int.reduceEq, Int.reduceLT, Int.reduceLE, Int.reduceToNat])
    refine up_ws2 hne ?_ ?_ (fun j h1 h2 h3 => ?_)
    · (simp (disch := omega) only [ite_ne, hr, hk, hne, hne', go_sem, ↓reduceIte, Nat.reduceEqDiff, Nat.reduceBEq, Nat.reduceAdd, Nat.reduceLeDiff, Nat.reduceLT, reduceCtorEq, Nat.reduceMul, Nat.reduceSub, Int.reduceEq, Int.reduceLT, Int.reduceLE, Int.reduceToNat])
    · (simp (disch := omega) only [ite_ne, hr, hk, hne, hne', go_sem, ↓reduceIte, Nat.reduceEqDiff, Nat.reduceBEq, Nat.reduceAdd, Nat.reduceLeDiff, Nat.reduceLT, reduceCtorEq, Nat.reduceMul, Nat.reduceSub, Int.reduceEq, Int.reduceLT, Int.reduceLE, Int.reduceToNat])
    · repeat rw [gc_ne _ _ (by omega)]
      try rfl
end Go.Proofs.Ytdodiembhgjecaa
