/-
  The parts MxN of the proof, in one file. Conditions: none.
-/
import Derived.Test.YtdodiembhgjecaaMc41
namespace Go.Proofs.Ytdodiembhgjecaa
open Go.Eng
set_option linter.unusedVariables false
set_option linter.unusedSimpArgs false
set_option maxRecDepth 20000
set_option maxHeartbeats 1000000
/-- What send answers. -/
def sdE (h : Bool) (bs room : Int) (n : Nat) : Int := if h = false then 8 else if 65536 < bs then 4 else if room ≤ (n : Int) then 11 else 0
def sdL (E : Int) (f : Frm) (last : Int) : List Frm := if E = 0 then [Frm.mk f.k f.i (last + 1) f.a f.b] else []
def sdN (E : Int) (last : Int) : Int := if E = 0 then last + 1 else last
/-- What stands in the row of kept messages after a message was sent. -/
def sdP (K : List Frm) (n : Nat) (E : Int) (f : Frm) (last : Int) (i : Nat × Nat × List Frm) : Prop := i.2.1 ≤ i.2.2.length ∧ i.2.2.length ≤ n + 1 ∧ i.2.2.drop i.2.1 = K ++ sdL E f last
def sdW (room last acked : Int) (c kk kl gl nl : Nat) (i : Nat × Nat × List Frm) : CH := [(c, svB room last acked kk i.1 i.2.1 (i.2.2.length - i.2.1) kl gl nl), (kk, .rw i.1 5 (mapC frC i.2.2))]
theorem mSend_ok (f : Frm) (room last acked : Int) (hroom : 1 ≤ room) (hlast : 0 ≤ last ∧ last ≤ 1000000) (KA : List Frm) (d : Nat) (hKA : KA.length ≤ 1000000) (hd : d ≤ KA.length) (LV : List Int) (hs : Asc LV) (hl : LV.length ≤ 1000000) (c kk g kl gl : Nat) (hp : CH)
    (hc : gc hp c = svB room last acked kk g d (KA.length - d) kl gl LV.length) (hk : gc hp kk = .rw g 5 (mapC frC KA)) (hv : gc hp kl = .rw gl 1 (mapC in1 LV)) (hkv : kk ≠ kl) (m : Nat) :
    Meets Try.prog 32 hp m [.bx c 0, f.av] (exQ (sdP (KA.drop d) KA.length (sdE (hasI f.i LV) f.b.size room (KA.length - d)) f last) fun i hp' n' r' => hp' = sdW room (sdN (sdE (hasI f.i LV) f.b.size room (KA.length - d)) last) acked c kk kl gl LV.length i ++ hp ∧ n' = m ∧ r' = .tp [.ds (mapC frC (sdL (sdE (hasI f.i LV) f.b.size room (KA.length - d)) f last)), .i .i64 (sdE (hasI f.i LV) f.b.size room (KA.length - d))]) := by
  have hne : c ≠ kk := fun e => by subst e; rw [hc] at hk; cases hk
  have hne' : ¬ kk = c := fun e => hne e.symm
  have hnl : c ≠ kl := fun e => by subst e; rw [hc] at hv; cases hv
  have hnl' : ¬ kl = c := fun e => hnl e.symm
  have hkv' : ¬ kl = kk := fun e => hkv e.symm
  have hGl : (mapC frC KA).length = KA.length := mapC_len _ _
  obtain ⟨E, hE⟩ : ∃ E, sdE (hasI f.i LV) f.b.size room (KA.length - d) = E := ⟨_, rfl⟩
  rw [hE]
  refine meetsWI (sdP (KA.drop d) KA.length E f last) (sdW room (sdN E last) acked c kk kl gl LV.length) (fun _ => .tp [.ds (mapC frC (sdL E f last)), .i .i64 E]) Try.func32 (by kernel_rfl) cc32 cr32 rfl (fun hf i hi => ?_) fun hf => ?_
  · have h1 : c < m := bx_lt' hf hc
    have h2 := rw_lt hf hk
    have h3 := rw_lt hf hv
    exact ⟨h1, fun α h => by simp at h; rcases h with rfl | rfl | rfl | rfl | rfl <;> first | exact h2 | exact h3 | rfl | simp [AV.lt1, AV.pur], h2, trivial, trivial⟩
  unfold svB at hc
  unfold ck32
  have hlt := bx_lt' hf hc
  have hlt2 := rw_lt hf hk
  have hlt3 := rw_lt hf hv
  have hB := fun hp' (e : gc hp' kl = .rw gl 1 (mapC in1 LV)) n' => bs_row f.i LV hs hl (hp := hp') e n'
  obtain ⟨k, i, s, a, b⟩ := f
  simp only [Frm.i_mk, Frm.b_mk, Frm.k_mk, Frm.a_mk] at hB hE
  have r1 : decide (room = 0) = false := decide_eq_false (by omega)
  have w1 : IntKind.i64.wrap (last + 1) = last + 1 := wr64 (by omega)
  obtain ⟨N, hN⟩ : ∃ N, KA.length - d = N := ⟨_, rfl⟩
  have hle : d + N ≤ KA.length := by omega
  have hln : (mapC frC (List.take N (List.drop d KA))).length = N := by rw [mapC_len, List.length_take, List.length_drop]; omega
  rw [hN] at hE hc
  cases hh : hasI i LV with
  | false =>
    rw [hh] at hB hE
    obtain rfl : E = 8 := by rw [← hE]; rfl
    simp (disch := omega) only [ite_ne, hc, hv, r1, go_sem, ↓reduceIte, Nat.reduceEqDiff, Nat.reduceBEq, Nat.reduceAdd, Nat.reduceLeDiff, Nat.reduceLT, reduceCtorEq, Nat.reduceMul, Nat.reduceSub, Int.reduceEq, Int.reduceLT, Int.reduceLE, Int.reduceToNat]
    refine dCallR.f (fun _ hp' e => hB hp' ((e kl (.inl (by omega))).trans (by (simp (disch := omega) only [ite_ne, hc, hv, go_sem, ↓reduceIte, Nat.reduceEqDiff, Nat.reduceBEq, Nat.reduceAdd, Nat.reduceLeDiff, Nat.reduceLT, reduceCtorEq, Nat.reduceMul, Nat.reduceSub, Int.reduceEq, Int.reduceLT, Int.reduceLE, Int.reduceToNat]))) _) ?_
    simp (disch := omega) only [ite_ne, hc, hk, r1, go_sem, ↓reduceIte, Nat.reduceEqDiff, Nat.reduceBEq, Nat.reduceAdd, Nat.reduceLeDiff, Nat.reduceLT, reduceCtorEq, Nat.reduceMul, Nat.reduceSub, Int.reduceEq, Int.reduceLT, Int.reduceLE, Int.reduceToNat]
    refine exQ_of (g, d, KA) ⟨hd, by simp, by simp [sdL]⟩ ?_
    unfold sdW svB
    simp only [sdN, sdL, hN]
    simp (disch := omega) only [ite_ne, hc, hk, go_sem, ↓reduceIte, Nat.reduceEqDiff, Nat.reduceBEq, Nat.reduceAdd, Nat.reduceLeDiff, Nat.reduceLT, reduceCtorEq, Nat.reduceMul, Nat.reduceSub, Int.reduceEq, Int.reduceLT, Int.reduceLE, Int.reduceToNat]
    refine up_ws2 hne ?_ ?_ (fun j h1 h2 h3 => ?_)
    · (simp (disch := omega) only [ite_ne, hc, hk, hne, hne', go_sem, ↓reduceIte, Nat.reduceEqDiff, Nat.reduceBEq, Nat.reduceAdd, Nat.reduceLeDiff, Nat.reduceLT, reduceCtorEq, Nat.reduceMul, Nat.reduceSub, Int.reduceEq, Int.reduceLT, Int.reduceLE, Int.reduceToNat])
    · (simp (disch := omega) only [ite_ne, hc, hk, hne, hne', go_sem, ↓reduceIte, Nat.reduceEqDiff, Nat.reduceBEq, Nat.reduceAdd, Nat.reduceLeDiff, Nat.reduceLT, reduceCtorEq, Nat.reduceMul, Nat.reduceSub, Int.reduceEq, Int.reduceLT, Int.reduceLE, Int.reduceToNat])
    · repeat rw [gc_ne _ _ (by omega)]
      try rfl
  | true =>
    rw [hh] at hB hE
    simp (disch := omega) only [ite_ne, hc, hv, r1, go_sem, ↓reduceIte, Nat.reduceEqDiff, Nat.reduceBEq, Nat.reduceAdd, Nat.reduceLeDiff, Nat.reduceLT, reduceCtorEq, Nat.reduceMul, Nat.reduceSub, Int.reduceEq, Int.reduceLT, Int.reduceLE, Int.reduceToNat]
    refine dCallR.f (fun _ hp' e => hB hp' ((e kl (.inl (by omega))).trans (by (simp (disch := omega) only [ite_ne, hc, hv, go_sem, ↓reduceIte, Nat.reduceEqDiff, Nat.reduceBEq, Nat.reduceAdd, Nat.reduceLeDiff, Nat.reduceLT, reduceCtorEq, Nat.reduceMul, Nat.reduceSub, Int.reduceEq, Int.reduceLT, Int.reduceLE, Int.reduceToNat]))) _) ?_
    by_cases h4 : (65536 : Int) < (b.size : Int)
    · have d4 := decide_eq_true h4
      obtain rfl : E = 4 := by rw [← hE]; unfold sdE; rw [if_neg (by simp), if_pos h4]
      simp (disch := omega) only [ite_ne, hc, hk, r1, d4, go_sem, ↓reduceIte, Nat.reduceEqDiff, Nat.reduceBEq, Nat.reduceAdd, Nat.reduceLeDiff, Nat.reduceLT, reduceCtorEq, Nat.reduceMul, Nat.reduceSub, Int.reduceEq, Int.reduceLT, Int.reduceLE, Int.reduceToNat]
      refine exQ_of (g, d, KA) ⟨hd, by simp, by simp [sdL]⟩ ?_
      unfold sdW svB
      simp only [sdN, sdL, hN]
      simp (disch := omega) only [ite_ne, hc, hk, go_sem, ↓reduceIte, Nat.reduceEqDiff, Nat.reduceBEq, Nat.reduceAdd, Nat.reduceLeDiff, Nat.reduceLT, reduceCtorEq, Nat.reduceMul, Nat.reduceSub, Int.reduceEq, Int.reduceLT, Int.reduceLE, Int.reduceToNat]
      refine up_ws2 hne ?_ ?_ (fun j h1 h2 h3 => ?_)
      · (simp (disch := omega) only [ite_ne, hc, hk, hne, hne', go_sem, ↓reduceIte, Nat.reduceEqDiff, Nat.reduceBEq, Nat.reduceAdd, Nat.reduceLeDiff, Nat.reduceLT, reduceCtorEq, Nat.reduceMul, Nat.reduceSub, Int.reduceEq, Int.reduceLT, Int.reduceLE, Int.reduceToNat])
      · (simp (disch := omega) only [ite_ne, hc, hk, hne, hne', go_sem, ↓reduceIte, Nat.reduceEqDiff, Nat.reduceBEq, Nat.reduceAdd, Nat.reduceLeDiff, Nat.reduceLT, reduceCtorEq, Nat.reduceMul, Nat.reduceSub, Int.reduceEq, Int.reduceLT, Int.reduceLE, Int.reduceToNat])
      · repeat rw [gc_ne _ _ (by omega)]
        try rfl
    have d4 := decide_eq_false h4
    by_cases h5 : room ≤ (N : Int)
    · have d5 := decide_eq_true h5
      obtain rfl : E = 11 := by rw [← hE]; unfold sdE; rw [if_neg (by simp), if_neg h4, if_pos h5]
      simp (disch := omega) only [ite_ne, hc, hk, r1, d4, d5, hle, hln, go_sem, ↓reduceIte, Nat.reduceEqDiff, Nat.reduceBEq, Nat.reduceAdd, Nat.reduceLeDiff, Nat.reduceLT, reduceCtorEq, Nat.reduceMul, Nat.reduceSub, Int.reduceEq, Int.reduceLT, Int.reduceLE, Int.reduceToNat]
      refine exQ_of (g, d, KA) ⟨hd, by simp, by simp [sdL]⟩ ?_
      unfold sdW svB
      simp only [sdN, sdL, hN]
      simp (disch := omega) only [ite_ne, hc, hk, go_sem, ↓reduceIte, Nat.reduceEqDiff, Nat.reduceBEq, Nat.reduceAdd, Nat.reduceLeDiff, Nat.reduceLT, reduceCtorEq, Nat.reduceMul, Nat.reduceSub, Int.reduceEq, Int.reduceLT, Int.reduceLE, Int.reduceToNat]
      refine up_ws2 hne ?_ ?_ (fun j h1 h2 h3 => ?_)
      · (simp (disch := omega) only [ite_ne, hc, hk, hne, hne', go_sem, ↓reduceIte, Nat.reduceEqDiff, Nat.reduceBEq, Nat.reduceAdd, Nat.reduceLeDiff, Nat.reduceLT, reduceCtorEq, Nat.reduceMul, Nat.reduceSub, Int.reduceEq, Int.reduceLT, Int.reduceLE, Int.reduceToNat])
      · (simp (disch := omega) only [ite_ne, hc, hk, hne, hne', go_sem, ↓reduceIte, Nat.reduceEqDiff, Nat.reduceBEq, Nat.reduceAdd, Nat.reduceLeDiff, Nat.reduceLT, reduceCtorEq, Nat.reduceMul, Nat.reduceSub, Int.reduceEq, Int.reduceLT, Int.reduceLE, Int.reduceToNat])
      · repeat rw [gc_ne _ _ (by omega)]
        try rfl
    have d5 := decide_eq_false h5
    obtain rfl : E = 0 := by rw [← hE]; unfold sdE; rw [if_neg (by simp), if_neg h4, if_neg h5]
    simp (disch := omega) only [ite_ne, hc, hk, r1, d4, d5, hle, hln, w1, go_sem, ↓reduceIte, Nat.reduceEqDiff, Nat.reduceBEq, Nat.reduceAdd, Nat.reduceLeDiff, Nat.reduceLT, reduceCtorEq, Nat.reduceMul, Nat.reduceSub, Int.reduceEq, Int.reduceLT, Int.reduceLE, Int.reduceToNat]
    refine wk_ofS (weak_open (k := kk) (g := g) (m := 5) (l := mapC frC KA) (by (simp (disch := omega) only [ite_ne, hk, hne, hne', go_sem, ↓reduceIte, Nat.reduceEqDiff, Nat.reduceBEq, Nat.reduceAdd, Nat.reduceLeDiff, Nat.reduceLT, reduceCtorEq, Nat.reduceMul, Nat.reduceSub, Int.reduceEq, Int.reduceLT, Int.reduceLE, Int.reduceToNat]))) ?_
    rintro _ ⟨cap, hcap, rfl⟩
    have hcap : KA.length ≤ cap := by rw [← hGl]; exact hcap
    have hdN : d + N = KA.length := by omega
    have k1 : (N + 1) * 48 ≤ 140737488355328 := by omega
    have k2 : N ≤ 9223372036854775806 := by omega
    have htk : List.take (d + N) (mapC frC KA) = mapC frC KA := List.take_of_length_le (by omega)
    have htk2 : List.take (N + d) (mapC frC KA) = mapC frC KA := List.take_of_length_le (by omega)
    have hsn : mapC frC KA ++ [[AV.i .i64 k, .i .i64 i, .i .i64 (last + 1), .i .i64 a, .s b]] = mapC frC (KA ++ [.mk k i (last + 1) a b]) := mapC_snoc frC KA (.mk k i (last + 1) a b)
    have htk3 : List.take N (List.drop d KA) = List.drop d KA := List.take_of_length_le (by rw [List.length_drop]; omega)
    have hsn2 : mapC frC (List.drop d KA) ++ [[AV.i .i64 k, .i .i64 i, .i .i64 (last + 1), .i .i64 a, .s b]] = mapC frC (List.drop d KA ++ [.mk k i (last + 1) a b]) := mapC_snoc frC _ (.mk k i (last + 1) a b)
    by_cases hr : d + (N + 1) ≤ cap
    · simp (disch := omega) only [ite_ne, hc, hk, hne, hne', hle, hln, k1, k2, hr, htk, htk2, hsn, go_sem, ↓reduceIte, Nat.reduceEqDiff, Nat.reduceBEq, Nat.reduceAdd, Nat.reduceLeDiff, Nat.reduceLT, reduceCtorEq, Nat.reduceMul, Nat.reduceSub, Int.reduceEq, Int.reduceLT, Int.reduceLE, Int.reduceToNat]
      refine wk_of (weak_close (k := kk) (g := g) (m := 5) (cap := cap) (l := mapC frC (KA ++ [.mk k i (last + 1) a b])) (by (simp (disch := omega) only [ite_ne, hne, hne', go_sem, ↓reduceIte, Nat.reduceEqDiff, Nat.reduceBEq, Nat.reduceAdd, Nat.reduceLeDiff, Nat.reduceLT, reduceCtorEq, Nat.reduceMul, Nat.reduceSub, Int.reduceEq, Int.reduceLT, Int.reduceLE, Int.reduceToNat]))) ?_
      simp (disch := omega) only [ite_ne, hc, hk, hne, hne', go_sem, ↓reduceIte, Nat.reduceEqDiff, Nat.reduceBEq, Nat.reduceAdd, Nat.reduceLeDiff, Nat.reduceLT, reduceCtorEq, Nat.reduceMul, Nat.reduceSub, Int.reduceEq, Int.reduceLT, Int.reduceLE, Int.reduceToNat]
      have hN2 : (KA ++ [Frm.mk k i (last + 1) a b]).length - d = N + 1 := by rw [List.length_append, List.length_singleton]; omega
      refine exQ_of (g, d, KA ++ [.mk k i (last + 1) a b]) ⟨by simp only [List.length_append]; omega, by simp, by rw [List.drop_append_of_le_length hd]; rfl⟩ ?_
      unfold sdW svB
      simp only [sdN, sdL, if_true, hN2]
      simp (disch := omega) only [ite_ne, hc, hk, go_sem, ↓reduceIte, Nat.reduceEqDiff, Nat.reduceBEq, Nat.reduceAdd, Nat.reduceLeDiff, Nat.reduceLT, reduceCtorEq, Nat.reduceMul, Nat.reduceSub, Int.reduceEq, Int.reduceLT, Int.reduceLE, Int.reduceToNat]
      refine up_ws2 hne ?_ ?_ (fun j h1 h2 h3 => ?_)
      · (simp (disch := omega) only [ite_ne, hc, hk, hne, hne', go_sem, ↓reduceIte, Nat.reduceEqDiff, Nat.reduceBEq, Nat.reduceAdd, Nat.reduceLeDiff, Nat.reduceLT, reduceCtorEq, Nat.reduceMul, Nat.reduceSub, Int.reduceEq, Int.reduceLT, Int.reduceLE, Int.reduceToNat])
      · (simp (disch := omega) only [ite_ne, hc, hk, hne, hne', go_sem, ↓reduceIte, Nat.reduceEqDiff, Nat.reduceBEq, Nat.reduceAdd, Nat.reduceLeDiff, Nat.reduceLT, reduceCtorEq, Nat.reduceMul, Nat.reduceSub, Int.reduceEq, Int.reduceLT, Int.reduceLE, Int.reduceToNat])
      · repeat rw [gc_ne _ _ (by omega)]
    · simp (disch := omega) only [ite_ne, hc, hk, hne, hne', hle, hln, k1, k2, hr, htk, htk2, htk3, hsn2, go_sem, ↓reduceIte, Nat.reduceEqDiff, Nat.reduceBEq, Nat.reduceAdd, Nat.reduceLeDiff, Nat.reduceLT, reduceCtorEq, Nat.reduceMul, Nat.reduceSub, Int.reduceEq, Int.reduceLT, Int.reduceLE, Int.reduceToNat]
      refine wk_of ((weak_close (k := kk) (g := g) (m := 5) (cap := cap) (l := mapC frC KA) (by (simp (disch := omega) only [ite_ne, hne, hne', go_sem, ↓reduceIte, Nat.reduceEqDiff, Nat.reduceBEq, Nat.reduceAdd, Nat.reduceLeDiff, Nat.reduceLT, reduceCtorEq, Nat.reduceMul, Nat.reduceSub, Int.reduceEq, Int.reduceLT, Int.reduceLE, Int.reduceToNat]))).trans (weak_ren (c := c) (cs := [.i .i64 room, .i .i64 (last + 1), .i .i64 acked, .rf (m + 30) 0 5 0 (N + 1), .rw kl gl LV.length]) (i := 3) (k := kk) (k0 := m + 30) (g := g) (g0 := 0) (m := 5) (off := 0) (len := N + 1) (l0 := mapC frC KA) (l := mapC frC (List.drop d KA ++ [.mk k i (last + 1) a b])) (by (simp (disch := omega) only [ite_ne, hne, hne', go_sem, ↓reduceIte, Nat.reduceEqDiff, Nat.reduceBEq, Nat.reduceAdd, Nat.reduceLeDiff, Nat.reduceLT, reduceCtorEq, Nat.reduceMul, Nat.reduceSub, Int.reduceEq, Int.reduceLT, Int.reduceLE, Int.reduceToNat])) rfl (by (simp (disch := omega) only [ite_ne, hne, hne', go_sem, ↓reduceIte, Nat.reduceEqDiff, Nat.reduceBEq, Nat.reduceAdd, Nat.reduceLeDiff, Nat.reduceLT, reduceCtorEq, Nat.reduceMul, Nat.reduceSub, Int.reduceEq, Int.reduceLT, Int.reduceLE, Int.reduceToNat])) (by (simp (disch := omega) only [ite_ne, hne, hne', go_sem, ↓reduceIte, Nat.reduceEqDiff, Nat.reduceBEq, Nat.reduceAdd, Nat.reduceLeDiff, Nat.reduceLT, reduceCtorEq, Nat.reduceMul, Nat.reduceSub, Int.reduceEq, Int.reduceLT, Int.reduceLE, Int.reduceToNat])) (by omega))) ?_
      simp only [List.set]
      simp (disch := omega) only [ite_ne, hc, hk, hne, hne', go_sem, ↓reduceIte, Nat.reduceEqDiff, Nat.reduceBEq, Nat.reduceAdd, Nat.reduceLeDiff, Nat.reduceLT, reduceCtorEq, Nat.reduceMul, Nat.reduceSub, Int.reduceEq, Int.reduceLT, Int.reduceLE, Int.reduceToNat]
      have hN2 : (List.drop d KA ++ [Frm.mk k i (last + 1) a b]).length - 0 = N + 1 := by rw [List.length_append, List.length_singleton, List.length_drop]; omega
      refine exQ_of (g + 1, 0, List.drop d KA ++ [.mk k i (last + 1) a b]) ⟨Nat.zero_le _, by simp, rfl⟩ ?_
      unfold sdW svB
      simp only [sdN, sdL, if_true, hN2]
      simp (disch := omega) only [ite_ne, hc, hk, go_sem, ↓reduceIte, Nat.reduceEqDiff, Nat.reduceBEq, Nat.reduceAdd, Nat.reduceLeDiff, Nat.reduceLT, reduceCtorEq, Nat.reduceMul, Nat.reduceSub, Int.reduceEq, Int.reduceLT, Int.reduceLE, Int.reduceToNat]
      refine up_ws2 hne ?_ ?_ (fun j h1 h2 h3 => ?_)
      · (simp (disch := omega) only [ite_ne, hc, hk, hne, hne', go_sem, ↓reduceIte, Nat.reduceEqDiff, Nat.reduceBEq, Nat.reduceAdd, Nat.reduceLeDiff, Nat.reduceLT, reduceCtorEq, Nat.reduceMul, Nat.reduceSub, Int.reduceEq, Int.reduceLT, Int.reduceLE, Int.reduceToNat])
      · (simp (disch := omega) only [ite_ne, hc, hk, hne, hne', go_sem, ↓reduceIte, Nat.reduceEqDiff, Nat.reduceBEq, Nat.reduceAdd, Nat.reduceLeDiff, Nat.reduceLT, reduceCtorEq, Nat.reduceMul, Nat.reduceSub, Int.reduceEq, Int.reduceLT, Int.reduceLE, Int.reduceToNat])
      · repeat rw [gc_ne _ _ (by omega)]
end Go.Proofs.Ytdodiembhgjecaa
