/-
  The parts MxO of the proof, in one file. Conditions: none.
-/
import Derived.Test.YtdodiembhgjecaaMc42
namespace Go.Proofs.Ytdodiembhgjecaa
open Go.Eng
set_option linter.unusedVariables false
set_option linter.unusedSimpArgs false
set_option maxRecDepth 20000
set_option maxHeartbeats 1000000
/-- What Receive answers, and what it leaves. -/
def rvE (f : Frm) (last acked : Int) (LV : List Int) : Int :=
  if chk f ≠ 0 then 3 else if f.k = 1 then opE f.a last acked else if f.k = 2 then (if hasI f.i LV = true then 7 else if 64 ≤ LV.length then 11 else 0) else if f.k = 3 then 0 else if f.k = 4 then (if last < f.a then 13 else 0) else 9
def rvL (f : Frm) (last acked : Int) (K : List Frm) : List Frm := if chk f ≠ 0 then [] else if f.k = 1 then opL f.a last acked K else []
def rvA (f : Frm) (last acked : Int) : Int := if chk f ≠ 0 then acked else if f.k = 1 then opA f.a last acked else if f.k = 4 then (if last < f.a then acked else akA f.a acked) else acked
def rvD (f : Frm) (last acked : Int) (K : List Frm) : Nat := if chk f ≠ 0 then 0 else if f.k = 1 then opD f.a last acked K else if f.k = 4 then (if last < f.a then 0 else akD f.a acked K) else 0
def bgI (x : Int) (L : List Int) : Bool := !hasI x L && decide (L.length < 64)
def rvV (f : Frm) (LV : List Int) : List Int := if chk f ≠ 0 then LV else if f.k = 2 then (if bgI f.i LV = true then insL LV (posI f.i LV) f.i else LV) else if f.k = 3 then stL f.i LV else LV
def rvG (f : Frm) (LV : List Int) (g : Nat) : Nat := if chk f ≠ 0 then g else if f.k = 2 then (if bgI f.i LV = true then g + 1 else g) else if f.k = 3 then stG f.i LV g else g
theorem sRecv_ok (f : Frm) (room last acked : Int) (hroom : 1 ≤ room) (KA : List Frm) (d : Nat) (hKA : KA.length ≤ 1000000) (hd : d ≤ KA.length) (LV : List Int) (hs : Asc LV) (hl : LV.length ≤ 1000) (c kk g kl gl : Nat) (hp : CH)
    (hc : gc hp c = svB room last acked kk g d (KA.length - d) kl gl LV.length) (hk : gc hp kk = .rw g 5 (mapC frC KA)) (hv : gc hp kl = .rw gl 1 (mapC in1 LV)) (hkv : kk ≠ kl) (m : Nat) :
    MeetsX Try.prog 14 hp m [.bx c 0, f.av] ([(c, svB room last (rvA f last acked) kk g (d + rvD f last acked (KA.drop d)) (KA.length - (d + rvD f last acked (KA.drop d))) kl (rvG f LV gl) (rvV f LV).length), (kl, .rw (rvG f LV gl) 1 (mapC in1 (rvV f LV)))] ++ hp) m (.tp [.ds (mapC frC (rvL f last acked (KA.drop d))), .i .i64 (rvE f last acked LV)]) := by
  have hne : c ≠ kk := fun e => by subst e; rw [hc] at hk; cases hk
  have hne' : ¬ kk = c := fun e => hne e.symm
  have hnl : c ≠ kl := fun e => by subst e; rw [hc] at hv; cases hv
  have hnl' : ¬ kl = c := fun e => hnl e.symm
  have hkv' : ¬ kl = kk := fun e => hkv e.symm
  have hR := right_ok f
  have hko := fun h => kOk_of (f := f) h
  have hB := fun x hp' (e : gc hp' kl = .rw gl 1 (mapC in1 LV)) n' => bs_row x LV hs (by omega) (hp := hp') e n'
  have hWS : (∀ k, m ≤ k → gc hp k = .no) → wsLt m [(c, svB room last (rvA f last acked) kk g (d + rvD f last acked (KA.drop d)) (KA.length - (d + rvD f last acked (KA.drop d))) kl (rvG f LV gl) (rvV f LV).length), (kl, .rw (rvG f LV gl) 1 (mapC in1 (rvV f LV)))] := fun hf => by
    have h1 : c < m := bx_lt' hf hc
    have h2 := rw_lt hf hk
    have h3 := rw_lt hf hv
    exact ⟨h1, fun α h => by simp at h; rcases h with rfl | rfl | rfl | rfl | rfl <;> first | exact h2 | exact h3 | rfl | simp [AV.lt1, AV.pur], h3, trivial, trivial⟩
  have hO := fun a hp' e1 e2 m' e3 => mOpen2_ok a room last acked KA d hKA hd c kk g kl gl LV.length hp' e1 e2 (fun e => hnl e.symm) m' e3
  have hA := fun a hp' e1 e2 m' e3 => mAck_ok a room last acked KA d hKA hd c kk g kl gl LV.length hp' e1 e2 (fun e => hnl e.symm) m' e3
  have hS := fun x hp' e1 e2 m' e3 => mStop_ok x room last acked LV hs (by omega) c kk g d (KA.length - d) kl gl hp' e1 e2 m' e3
  unfold svB at hc hO hA hS
  refine meetsW Try.func14 (by kernel_rfl) cc14 cr14 rfl hWS fun hf => ?_; unfold ck14
  have hlt := bx_lt' hf hc
  have hlt2 := rw_lt hf hk
  have hlt3 := rw_lt hf hv
  have r1 : decide (room = 0) = false := decide_eq_false (by omega)
  unfold svB
  obtain ⟨k, i, s, a, b⟩ := f
  simp only [Frm.k_mk, Frm.s_mk] at hko
  by_cases a1 : chk (.mk k i s a b) = 0
  case neg =>
    have d1 : decide (chk (.mk k i s a b) = 0) = false := by simp [a1]
    rw [d1] at hR
    have x1 : rvE (.mk k i s a b) last acked LV = 3 := by simp [rvE, a1, Frm.k_mk, Frm.i_mk, Frm.a_mk]
    have x2 : rvL (.mk k i s a b) last acked (KA.drop d) = [] := by simp [rvL, a1, Frm.k_mk, Frm.i_mk, Frm.a_mk]
    have x3 : rvA (.mk k i s a b) last acked = acked := by simp [rvA, a1, Frm.k_mk, Frm.i_mk, Frm.a_mk]
    have x4 : rvD (.mk k i s a b) last acked (KA.drop d) = 0 := by simp [rvD, a1, Frm.k_mk, Frm.i_mk, Frm.a_mk]
    have x5 : rvV (.mk k i s a b) LV = LV := by simp [rvV, a1, Frm.k_mk, Frm.i_mk, Frm.a_mk]
    have x6 : rvG (.mk k i s a b) LV gl = gl := by simp [rvG, a1, Frm.k_mk, Frm.i_mk, Frm.a_mk]
    rw [x1, x2, x3, x4, x5, x6]
    simp (disch := omega) only [ite_ne, hc, r1, go_sem, ↓reduceIte, Nat.reduceEqDiff, Nat.reduceBEq, Nat.reduceAdd, Nat.reduceLeDiff, Nat.reduceLT, reduceCtorEq, Nat.reduceMul, Nat.reduceSub, Int.reduceEq, Int.reduceLT, Int.reduceLE, Int.reduceToNat]
    refine vcCall.f (hR _ _) ?_
    simp (disch := omega) only [ite_ne, hc, hv, r1, go_sem, ↓reduceIte, Nat.reduceEqDiff, Nat.reduceBEq, Nat.reduceAdd, Nat.reduceLeDiff, Nat.reduceLT, reduceCtorEq, Nat.reduceMul, Nat.reduceSub, Int.reduceEq, Int.reduceLT, Int.reduceLE, Int.reduceToNat]
    refine up_ws2 hnl ?_ ?_ (fun j h1 h2 h3 => ?_)
    · (simp (disch := omega) only [ite_ne, hc, hv, hnl, hnl', go_sem, ↓reduceIte, Nat.reduceEqDiff, Nat.reduceBEq, Nat.reduceAdd, Nat.reduceLeDiff, Nat.reduceLT, reduceCtorEq, Nat.reduceMul, Nat.reduceSub, Int.reduceEq, Int.reduceLT, Int.reduceLE, Int.reduceToNat])
    · (simp (disch := omega) only [ite_ne, hc, hv, hnl, hnl', go_sem, ↓reduceIte, Nat.reduceEqDiff, Nat.reduceBEq, Nat.reduceAdd, Nat.reduceLeDiff, Nat.reduceLT, reduceCtorEq, Nat.reduceMul, Nat.reduceSub, Int.reduceEq, Int.reduceLT, Int.reduceLE, Int.reduceToNat])
    · repeat rw [gc_ne _ _ (by omega)]
      try rfl
  case pos =>
    have d1 : decide (chk (.mk k i s a b) = 0) = true := by simp [a1]
    rw [d1] at hR
    have hko := hko a1
    rcases kinds k with rfl | rfl | rfl | rfl | rfl | rfl | rfl | rfl | ⟨h1, h2, h3, h4, h5, h6, h7, h8⟩
    · have x1 : rvE (.mk 1 i s a b) last acked LV = opE a last acked := by simp [rvE, a1, Frm.k_mk, Frm.i_mk, Frm.a_mk]
      have x2 : rvL (.mk 1 i s a b) last acked (KA.drop d) = opL a last acked (KA.drop d) := by simp [rvL, a1, Frm.k_mk, Frm.i_mk, Frm.a_mk]
      have x3 : rvA (.mk 1 i s a b) last acked = opA a last acked := by simp [rvA, a1, Frm.k_mk, Frm.i_mk, Frm.a_mk]
      have x4 : rvD (.mk 1 i s a b) last acked (KA.drop d) = opD a last acked (KA.drop d) := by simp [rvD, a1, Frm.k_mk, Frm.i_mk, Frm.a_mk]
      have x5 : rvV (.mk 1 i s a b) LV = LV := by simp [rvV, a1, Frm.k_mk, Frm.i_mk, Frm.a_mk]
      have x6 : rvG (.mk 1 i s a b) LV gl = gl := by simp [rvG, a1, Frm.k_mk, Frm.i_mk, Frm.a_mk]
      rw [x1, x2, x3, x4, x5, x6]
      have hO := hO a
      obtain ⟨oE, hoE⟩ : ∃ x, opE a last acked = x := ⟨_, rfl⟩
      obtain ⟨oL, hoL⟩ : ∃ x, opL a last acked (KA.drop d) = x := ⟨_, rfl⟩
      obtain ⟨oA, hoA⟩ : ∃ x, opA a last acked = x := ⟨_, rfl⟩
      obtain ⟨oD, hoD⟩ : ∃ x, opD a last acked (KA.drop d) = x := ⟨_, rfl⟩
      rw [hoE, hoL, hoA, hoD] at hO ⊢
      simp (disch := omega) only [ite_ne, hc, r1, go_sem, ↓reduceIte, Nat.reduceEqDiff, Nat.reduceBEq, Nat.reduceAdd, Nat.reduceLeDiff, Nat.reduceLT, reduceCtorEq, Nat.reduceMul, Nat.reduceSub, Int.reduceEq, Int.reduceLT, Int.reduceLE, Int.reduceToNat]
      refine vcCall.f (hR _ _) ?_
      simp (disch := omega) only [ite_ne, hc, r1, go_sem, ↓reduceIte, Nat.reduceEqDiff, Nat.reduceBEq, Nat.reduceAdd, Nat.reduceLeDiff, Nat.reduceLT, reduceCtorEq, Nat.reduceMul, Nat.reduceSub, Int.reduceEq, Int.reduceLT, Int.reduceLE, Int.reduceToNat]
      refine vcCall.x (hO _ (by (simp (disch := omega) only [ite_ne, hc, go_sem, ↓reduceIte, Nat.reduceEqDiff, Nat.reduceBEq, Nat.reduceAdd, Nat.reduceLeDiff, Nat.reduceLT, reduceCtorEq, Nat.reduceMul, Nat.reduceSub, Int.reduceEq, Int.reduceLT, Int.reduceLE, Int.reduceToNat])) (by (simp (disch := omega) only [ite_ne, hk, go_sem, ↓reduceIte, Nat.reduceEqDiff, Nat.reduceBEq, Nat.reduceAdd, Nat.reduceLeDiff, Nat.reduceLT, reduceCtorEq, Nat.reduceMul, Nat.reduceSub, Int.reduceEq, Int.reduceLT, Int.reduceLE, Int.reduceToNat])) _ (by omega)) ?_
      simp only [List.cons_append, List.nil_append]
      simp (disch := omega) only [ite_ne, hc, hv, hnl, hnl', r1, go_sem, ↓reduceIte, Nat.reduceEqDiff, Nat.reduceBEq, Nat.reduceAdd, Nat.reduceLeDiff, Nat.reduceLT, reduceCtorEq, Nat.reduceMul, Nat.reduceSub, Int.reduceEq, Int.reduceLT, Int.reduceLE, Int.reduceToNat]
      refine up_ws2 hnl ?_ ?_ (fun j h1 h2 h3 => ?_)
      · (simp (disch := omega) only [ite_ne, hc, hv, hnl, hnl', go_sem, ↓reduceIte, Nat.reduceEqDiff, Nat.reduceBEq, Nat.reduceAdd, Nat.reduceLeDiff, Nat.reduceLT, reduceCtorEq, Nat.reduceMul, Nat.reduceSub, Int.reduceEq, Int.reduceLT, Int.reduceLE, Int.reduceToNat])
      · (simp (disch := omega) only [ite_ne, hc, hv, hnl, hnl', go_sem, ↓reduceIte, Nat.reduceEqDiff, Nat.reduceBEq, Nat.reduceAdd, Nat.reduceLeDiff, Nat.reduceLT, reduceCtorEq, Nat.reduceMul, Nat.reduceSub, Int.reduceEq, Int.reduceLT, Int.reduceLE, Int.reduceToNat])
      · repeat rw [gc_ne _ _ (by omega)]
        try rfl
    · have hB := hB i
      cases hh : hasI i LV with
      | true =>
        rw [hh] at hB
        have a2 : bgI i LV = false := by simp [bgI, hh]
        have x1 : rvE (.mk 2 i s a b) last acked LV = 7 := by simp [rvE, a1, hh, a2, Frm.k_mk, Frm.i_mk, Frm.a_mk]
        have x2 : rvL (.mk 2 i s a b) last acked (KA.drop d) = [] := by simp [rvL, a1, hh, a2, Frm.k_mk, Frm.i_mk, Frm.a_mk]
        have x3 : rvA (.mk 2 i s a b) last acked = acked := by simp [rvA, a1, hh, a2, Frm.k_mk, Frm.i_mk, Frm.a_mk]
        have x4 : rvD (.mk 2 i s a b) last acked (KA.drop d) = 0 := by simp [rvD, a1, hh, a2, Frm.k_mk, Frm.i_mk, Frm.a_mk]
        have x5 : rvV (.mk 2 i s a b) LV = LV := by simp [rvV, a1, hh, a2, Frm.k_mk, Frm.i_mk, Frm.a_mk]
        have x6 : rvG (.mk 2 i s a b) LV gl = gl := by simp [rvG, a1, hh, a2, Frm.k_mk, Frm.i_mk, Frm.a_mk]
        rw [x1, x2, x3, x4, x5, x6]
        simp (disch := omega) only [ite_ne, hc, r1, go_sem, ↓reduceIte, Nat.reduceEqDiff, Nat.reduceBEq, Nat.reduceAdd, Nat.reduceLeDiff, Nat.reduceLT, reduceCtorEq, Nat.reduceMul, Nat.reduceSub, Int.reduceEq, Int.reduceLT, Int.reduceLE, Int.reduceToNat]
        refine vcCall.f (hR _ _) ?_
        simp (disch := omega) only [ite_ne, hc, hv, r1, go_sem, ↓reduceIte, Nat.reduceEqDiff, Nat.reduceBEq, Nat.reduceAdd, Nat.reduceLeDiff, Nat.reduceLT, reduceCtorEq, Nat.reduceMul, Nat.reduceSub, Int.reduceEq, Int.reduceLT, Int.reduceLE, Int.reduceToNat]
        refine dCallR.f (fun _ hp' e => hB hp' ((e kl (.inl (by omega))).trans (by (simp (disch := omega) only [ite_ne, hv, go_sem, ↓reduceIte, Nat.reduceEqDiff, Nat.reduceBEq, Nat.reduceAdd, Nat.reduceLeDiff, Nat.reduceLT, reduceCtorEq, Nat.reduceMul, Nat.reduceSub, Int.reduceEq, Int.reduceLT, Int.reduceLE, Int.reduceToNat]))) _) ?_
        simp (disch := omega) only [ite_ne, hc, hv, r1, go_sem, ↓reduceIte, Nat.reduceEqDiff, Nat.reduceBEq, Nat.reduceAdd, Nat.reduceLeDiff, Nat.reduceLT, reduceCtorEq, Nat.reduceMul, Nat.reduceSub, Int.reduceEq, Int.reduceLT, Int.reduceLE, Int.reduceToNat]
        refine up_ws2 hnl ?_ ?_ (fun j h1 h2 h3 => ?_)
        · (simp (disch := omega) only [ite_ne, hc, hv, hnl, hnl', go_sem, ↓reduceIte, Nat.reduceEqDiff, Nat.reduceBEq, Nat.reduceAdd, Nat.reduceLeDiff, Nat.reduceLT, reduceCtorEq, Nat.reduceMul, Nat.reduceSub, Int.reduceEq, Int.reduceLT, Int.reduceLE, Int.reduceToNat])
        · (simp (disch := omega) only [ite_ne, hc, hv, hnl, hnl', go_sem, ↓reduceIte, Nat.reduceEqDiff, Nat.reduceBEq, Nat.reduceAdd, Nat.reduceLeDiff, Nat.reduceLT, reduceCtorEq, Nat.reduceMul, Nat.reduceSub, Int.reduceEq, Int.reduceLT, Int.reduceLE, Int.reduceToNat])
        · repeat rw [gc_ne _ _ (by omega)]
          try rfl
      | false =>
        rw [hh] at hB
        have hLl : (mapC in1 LV).length = LV.length := mapC_len _ _
        have htl : (mapC in1 LV).take LV.length = mapC in1 LV := List.take_of_length_le (by omega)
        by_cases h6 : 64 ≤ LV.length
        · have a2 : bgI i LV = false := by simp [bgI, hh]; omega
          have d6 : decide ((64 : Int) ≤ (LV.length : Int)) = true := decide_eq_true (by omega)
          have x1 : rvE (.mk 2 i s a b) last acked LV = 11 := by simp [rvE, a1, hh, a2, h6, Frm.k_mk, Frm.i_mk, Frm.a_mk]
          have x2 : rvL (.mk 2 i s a b) last acked (KA.drop d) = [] := by simp [rvL, a1, hh, a2, h6, Frm.k_mk, Frm.i_mk, Frm.a_mk]
          have x3 : rvA (.mk 2 i s a b) last acked = acked := by simp [rvA, a1, hh, a2, h6, Frm.k_mk, Frm.i_mk, Frm.a_mk]
          have x4 : rvD (.mk 2 i s a b) last acked (KA.drop d) = 0 := by simp [rvD, a1, hh, a2, h6, Frm.k_mk, Frm.i_mk, Frm.a_mk]
          have x5 : rvV (.mk 2 i s a b) LV = LV := by simp [rvV, a1, hh, a2, h6, Frm.k_mk, Frm.i_mk, Frm.a_mk]
          have x6 : rvG (.mk 2 i s a b) LV gl = gl := by simp [rvG, a1, hh, a2, h6, Frm.k_mk, Frm.i_mk, Frm.a_mk]
          rw [x1, x2, x3, x4, x5, x6]
          simp (disch := omega) only [ite_ne, hc, r1, go_sem, ↓reduceIte, Nat.reduceEqDiff, Nat.reduceBEq, Nat.reduceAdd, Nat.reduceLeDiff, Nat.reduceLT, reduceCtorEq, Nat.reduceMul, Nat.reduceSub, Int.reduceEq, Int.reduceLT, Int.reduceLE, Int.reduceToNat]
          refine vcCall.f (hR _ _) ?_
          simp (disch := omega) only [ite_ne, hc, hv, r1, go_sem, ↓reduceIte, Nat.reduceEqDiff, Nat.reduceBEq, Nat.reduceAdd, Nat.reduceLeDiff, Nat.reduceLT, reduceCtorEq, Nat.reduceMul, Nat.reduceSub, Int.reduceEq, Int.reduceLT, Int.reduceLE, Int.reduceToNat]
          refine dCallR.f (fun _ hp' e => hB hp' ((e kl (.inl (by omega))).trans (by (simp (disch := omega) only [ite_ne, hv, go_sem, ↓reduceIte, Nat.reduceEqDiff, Nat.reduceBEq, Nat.reduceAdd, Nat.reduceLeDiff, Nat.reduceLT, reduceCtorEq, Nat.reduceMul, Nat.reduceSub, Int.reduceEq, Int.reduceLT, Int.reduceLE, Int.reduceToNat]))) _) ?_
          simp (disch := omega) only [ite_ne, hc, hv, r1, d6, Nat.le_refl, hLl, htl, go_sem, ↓reduceIte, Nat.reduceEqDiff, Nat.reduceBEq, Nat.reduceAdd, Nat.reduceLeDiff, Nat.reduceLT, reduceCtorEq, Nat.reduceMul, Nat.reduceSub, Int.reduceEq, Int.reduceLT, Int.reduceLE, Int.reduceToNat]
          refine up_ws2 hnl ?_ ?_ (fun j h1 h2 h3 => ?_)
          · (simp (disch := omega) only [ite_ne, hc, hv, hnl, hnl', go_sem, ↓reduceIte, Nat.reduceEqDiff, Nat.reduceBEq, Nat.reduceAdd, Nat.reduceLeDiff, Nat.reduceLT, reduceCtorEq, Nat.reduceMul, Nat.reduceSub, Int.reduceEq, Int.reduceLT, Int.reduceLE, Int.reduceToNat])
          · (simp (disch := omega) only [ite_ne, hc, hv, hnl, hnl', go_sem, ↓reduceIte, Nat.reduceEqDiff, Nat.reduceBEq, Nat.reduceAdd, Nat.reduceLeDiff, Nat.reduceLT, reduceCtorEq, Nat.reduceMul, Nat.reduceSub, Int.reduceEq, Int.reduceLT, Int.reduceLE, Int.reduceToNat])
          · repeat rw [gc_ne _ _ (by omega)]
            try rfl
        · have a2 : bgI i LV = true := by simp [bgI, hh]; omega
          have d6 : decide ((64 : Int) ≤ (LV.length : Int)) = false := decide_eq_false (by omega)
          have h7 : ¬ 64 ≤ LV.length := h6
          have hpl := posI_le i LV
          have hI := fun hp' (e : gc hp' kl = .rw gl 1 (mapC in1 LV)) n' => meets_insI (x := i) (n := n') e hpl (by omega)
          have hil := insL_len hpl i
          have x1 : rvE (.mk 2 i s a b) last acked LV = 0 := by simp [rvE, a1, hh, a2, h7, Frm.k_mk, Frm.i_mk, Frm.a_mk]
          have x2 : rvL (.mk 2 i s a b) last acked (KA.drop d) = [] := by simp [rvL, a1, hh, a2, h7, Frm.k_mk, Frm.i_mk, Frm.a_mk]
          have x3 : rvA (.mk 2 i s a b) last acked = acked := by simp [rvA, a1, hh, a2, h7, Frm.k_mk, Frm.i_mk, Frm.a_mk]
          have x4 : rvD (.mk 2 i s a b) last acked (KA.drop d) = 0 := by simp [rvD, a1, hh, a2, h7, Frm.k_mk, Frm.i_mk, Frm.a_mk]
          have x5 : rvV (.mk 2 i s a b) LV = insL LV (posI i LV) i := by simp [rvV, a1, hh, a2, h7, Frm.k_mk, Frm.i_mk, Frm.a_mk]
          have x6 : rvG (.mk 2 i s a b) LV gl = gl + 1 := by simp [rvG, a1, hh, a2, h7, Frm.k_mk, Frm.i_mk, Frm.a_mk]
          rw [x1, x2, x3, x4, x5, x6]
          rw [hil]
          obtain ⟨P, hP⟩ : ∃ P, posI i LV = P := ⟨_, rfl⟩
          rw [hP] at hB hI ⊢
          simp (disch := omega) only [ite_ne, hc, r1, go_sem, ↓reduceIte, Nat.reduceEqDiff, Nat.reduceBEq, Nat.reduceAdd, Nat.reduceLeDiff, Nat.reduceLT, reduceCtorEq, Nat.reduceMul, Nat.reduceSub, Int.reduceEq, Int.reduceLT, Int.reduceLE, Int.reduceToNat]
          refine vcCall.f (hR _ _) ?_
          simp (disch := omega) only [ite_ne, hc, hv, r1, go_sem, ↓reduceIte, Nat.reduceEqDiff, Nat.reduceBEq, Nat.reduceAdd, Nat.reduceLeDiff, Nat.reduceLT, reduceCtorEq, Nat.reduceMul, Nat.reduceSub, Int.reduceEq, Int.reduceLT, Int.reduceLE, Int.reduceToNat]
          refine dCallR.f (fun _ hp' e => hB hp' ((e kl (.inl (by omega))).trans (by (simp (disch := omega) only [ite_ne, hv, go_sem, ↓reduceIte, Nat.reduceEqDiff, Nat.reduceBEq, Nat.reduceAdd, Nat.reduceLeDiff, Nat.reduceLT, reduceCtorEq, Nat.reduceMul, Nat.reduceSub, Int.reduceEq, Int.reduceLT, Int.reduceLE, Int.reduceToNat]))) _) ?_
          simp (disch := omega) only [ite_ne, hc, hv, r1, d6, Nat.le_refl, hLl, htl, go_sem, ↓reduceIte, Nat.reduceEqDiff, Nat.reduceBEq, Nat.reduceAdd, Nat.reduceLeDiff, Nat.reduceLT, reduceCtorEq, Nat.reduceMul, Nat.reduceSub, Int.reduceEq, Int.reduceLT, Int.reduceLE, Int.reduceToNat]
          refine dCallR.wr (ws := [(kl, .rw (gl + 1) 1 (mapC in1 (insL LV P i)))]) ⟨by omega, ?_, trivial, trivial⟩ (by simp [aOk, keys]) (fun hp' e => hI hp' ((e kl (.inl (by omega))).trans (by (simp (disch := omega) only [ite_ne, hv, go_sem, ↓reduceIte, Nat.reduceEqDiff, Nat.reduceBEq, Nat.reduceAdd, Nat.reduceLeDiff, Nat.reduceLT, reduceCtorEq, Nat.reduceMul, Nat.reduceSub, Int.reduceEq, Int.reduceLT, Int.reduceLE, Int.reduceToNat]))) _) ?_
          · simp (disch := omega) only [ite_ne, hv, go_sem, ↓reduceIte, Nat.reduceEqDiff, Nat.reduceBEq, Nat.reduceAdd, Nat.reduceLeDiff, Nat.reduceLT, reduceCtorEq, Nat.reduceMul, Nat.reduceSub, Int.reduceEq, Int.reduceLT, Int.reduceLE, Int.reduceToNat]
          simp (disch := omega) only [ite_ne, hc, hv, hnl, hnl', r1, go_sem, ↓reduceIte, Nat.reduceEqDiff, Nat.reduceBEq, Nat.reduceAdd, Nat.reduceLeDiff, Nat.reduceLT, reduceCtorEq, Nat.reduceMul, Nat.reduceSub, Int.reduceEq, Int.reduceLT, Int.reduceLE, Int.reduceToNat]
          refine up_ws2 hnl ?_ ?_ (fun j h1 h2 h3 => ?_)
          · (simp (disch := omega) only [ite_ne, hc, hv, hnl, hnl', go_sem, ↓reduceIte, Nat.reduceEqDiff, Nat.reduceBEq, Nat.reduceAdd, Nat.reduceLeDiff, Nat.reduceLT, reduceCtorEq, Nat.reduceMul, Nat.reduceSub, Int.reduceEq, Int.reduceLT, Int.reduceLE, Int.reduceToNat])
          · (simp (disch := omega) only [ite_ne, hc, hv, hnl, hnl', go_sem, ↓reduceIte, Nat.reduceEqDiff, Nat.reduceBEq, Nat.reduceAdd, Nat.reduceLeDiff, Nat.reduceLT, reduceCtorEq, Nat.reduceMul, Nat.reduceSub, Int.reduceEq, Int.reduceLT, Int.reduceLE, Int.reduceToNat])
          · repeat rw [gc_ne _ _ (by omega)]
            try rfl
    · have x1 : rvE (.mk 3 i s a b) last acked LV = 0 := by simp [rvE, a1, Frm.k_mk, Frm.i_mk, Frm.a_mk]
      have x2 : rvL (.mk 3 i s a b) last acked (KA.drop d) = [] := by simp [rvL, a1, Frm.k_mk, Frm.i_mk, Frm.a_mk]
      have x3 : rvA (.mk 3 i s a b) last acked = acked := by simp [rvA, a1, Frm.k_mk, Frm.i_mk, Frm.a_mk]
      have x4 : rvD (.mk 3 i s a b) last acked (KA.drop d) = 0 := by simp [rvD, a1, Frm.k_mk, Frm.i_mk, Frm.a_mk]
      have x5 : rvV (.mk 3 i s a b) LV = stL i LV := by simp [rvV, a1, Frm.k_mk, Frm.i_mk, Frm.a_mk]
      have x6 : rvG (.mk 3 i s a b) LV gl = stG i LV gl := by simp [rvG, a1, Frm.k_mk, Frm.i_mk, Frm.a_mk]
      rw [x1, x2, x3, x4, x5, x6]
      have hS := hS i
      obtain ⟨sL, hsL⟩ : ∃ x, stL i LV = x := ⟨_, rfl⟩
      obtain ⟨sG, hsG⟩ : ∃ x, stG i LV gl = x := ⟨_, rfl⟩
      rw [hsL, hsG] at hS ⊢
      simp (disch := omega) only [ite_ne, hc, r1, go_sem, ↓reduceIte, Nat.reduceEqDiff, Nat.reduceBEq, Nat.reduceAdd, Nat.reduceLeDiff, Nat.reduceLT, reduceCtorEq, Nat.reduceMul, Nat.reduceSub, Int.reduceEq, Int.reduceLT, Int.reduceLE, Int.reduceToNat]
      refine vcCall.f (hR _ _) ?_
      simp (disch := omega) only [ite_ne, hc, r1, go_sem, ↓reduceIte, Nat.reduceEqDiff, Nat.reduceBEq, Nat.reduceAdd, Nat.reduceLeDiff, Nat.reduceLT, reduceCtorEq, Nat.reduceMul, Nat.reduceSub, Int.reduceEq, Int.reduceLT, Int.reduceLE, Int.reduceToNat]
      refine vcCall.x (hS _ (by (simp (disch := omega) only [ite_ne, hc, go_sem, ↓reduceIte, Nat.reduceEqDiff, Nat.reduceBEq, Nat.reduceAdd, Nat.reduceLeDiff, Nat.reduceLT, reduceCtorEq, Nat.reduceMul, Nat.reduceSub, Int.reduceEq, Int.reduceLT, Int.reduceLE, Int.reduceToNat])) (by (simp (disch := omega) only [ite_ne, hv, go_sem, ↓reduceIte, Nat.reduceEqDiff, Nat.reduceBEq, Nat.reduceAdd, Nat.reduceLeDiff, Nat.reduceLT, reduceCtorEq, Nat.reduceMul, Nat.reduceSub, Int.reduceEq, Int.reduceLT, Int.reduceLE, Int.reduceToNat])) _ (by omega)) ?_
      simp only [List.cons_append, List.nil_append]
      simp (disch := omega) only [ite_ne, hc, hv, hnl, hnl', r1, go_sem, ↓reduceIte, Nat.reduceEqDiff, Nat.reduceBEq, Nat.reduceAdd, Nat.reduceLeDiff, Nat.reduceLT, reduceCtorEq, Nat.reduceMul, Nat.reduceSub, Int.reduceEq, Int.reduceLT, Int.reduceLE, Int.reduceToNat]
      refine up_ws2 hnl ?_ ?_ (fun j h1 h2 h3 => ?_)
      · (simp (disch := omega) only [ite_ne, hc, hv, hnl, hnl', go_sem, ↓reduceIte, Nat.reduceEqDiff, Nat.reduceBEq, Nat.reduceAdd, Nat.reduceLeDiff, Nat.reduceLT, reduceCtorEq, Nat.reduceMul, Nat.reduceSub, Int.reduceEq, Int.reduceLT, Int.reduceLE, Int.reduceToNat])
      · (simp (disch := omega) only [ite_ne, hc, hv, hnl, hnl', go_sem, ↓reduceIte, Nat.reduceEqDiff, Nat.reduceBEq, Nat.reduceAdd, Nat.reduceLeDiff, Nat.reduceLT, reduceCtorEq, Nat.reduceMul, Nat.reduceSub, Int.reduceEq, Int.reduceLT, Int.reduceLE, Int.reduceToNat])
      · repeat rw [gc_ne _ _ (by omega)]
        try rfl
    · have hA := hA a
      by_cases h6 : last < a
      · have d6 := decide_eq_true h6
        have x1 : rvE (.mk 4 i s a b) last acked LV = 13 := by simp [rvE, a1, h6, Frm.k_mk, Frm.i_mk, Frm.a_mk]
        have x2 : rvL (.mk 4 i s a b) last acked (KA.drop d) = [] := by simp [rvL, a1, h6, Frm.k_mk, Frm.i_mk, Frm.a_mk]
        have x3 : rvA (.mk 4 i s a b) last acked = acked := by simp [rvA, a1, h6, Frm.k_mk, Frm.i_mk, Frm.a_mk]
        have x4 : rvD (.mk 4 i s a b) last acked (KA.drop d) = 0 := by simp [rvD, a1, h6, Frm.k_mk, Frm.i_mk, Frm.a_mk]
        have x5 : rvV (.mk 4 i s a b) LV = LV := by simp [rvV, a1, h6, Frm.k_mk, Frm.i_mk, Frm.a_mk]
        have x6 : rvG (.mk 4 i s a b) LV gl = gl := by simp [rvG, a1, h6, Frm.k_mk, Frm.i_mk, Frm.a_mk]
        rw [x1, x2, x3, x4, x5, x6]
        simp (disch := omega) only [ite_ne, hc, r1, go_sem, ↓reduceIte, Nat.reduceEqDiff, Nat.reduceBEq, Nat.reduceAdd, Nat.reduceLeDiff, Nat.reduceLT, reduceCtorEq, Nat.reduceMul, Nat.reduceSub, Int.reduceEq, Int.reduceLT, Int.reduceLE, Int.reduceToNat]
        refine vcCall.f (hR _ _) ?_
        simp (disch := omega) only [ite_ne, hc, hv, r1, d6, go_sem, ↓reduceIte, Nat.reduceEqDiff, Nat.reduceBEq, Nat.reduceAdd, Nat.reduceLeDiff, Nat.reduceLT, reduceCtorEq, Nat.reduceMul, Nat.reduceSub, Int.reduceEq, Int.reduceLT, Int.reduceLE, Int.reduceToNat]
        refine up_ws2 hnl ?_ ?_ (fun j h1 h2 h3 => ?_)
        · (simp (disch := omega) only [ite_ne, hc, hv, hnl, hnl', go_sem, ↓reduceIte, Nat.reduceEqDiff, Nat.reduceBEq, Nat.reduceAdd, Nat.reduceLeDiff, Nat.reduceLT, reduceCtorEq, Nat.reduceMul, Nat.reduceSub, Int.reduceEq, Int.reduceLT, Int.reduceLE, Int.reduceToNat])
        · (simp (disch := omega) only [ite_ne, hc, hv, hnl, hnl', go_sem, ↓reduceIte, Nat.reduceEqDiff, Nat.reduceBEq, Nat.reduceAdd, Nat.reduceLeDiff, Nat.reduceLT, reduceCtorEq, Nat.reduceMul, Nat.reduceSub, Int.reduceEq, Int.reduceLT, Int.reduceLE, Int.reduceToNat])
        · repeat rw [gc_ne _ _ (by omega)]
          try rfl
      · have d6 := decide_eq_false h6
        have x1 : rvE (.mk 4 i s a b) last acked LV = 0 := by simp [rvE, a1, h6, Frm.k_mk, Frm.i_mk, Frm.a_mk]
        have x2 : rvL (.mk 4 i s a b) last acked (KA.drop d) = [] := by simp [rvL, a1, h6, Frm.k_mk, Frm.i_mk, Frm.a_mk]
        have x3 : rvA (.mk 4 i s a b) last acked = akA a acked := by simp [rvA, a1, h6, Frm.k_mk, Frm.i_mk, Frm.a_mk]
        have x4 : rvD (.mk 4 i s a b) last acked (KA.drop d) = akD a acked (KA.drop d) := by simp [rvD, a1, h6, Frm.k_mk, Frm.i_mk, Frm.a_mk]
        have x5 : rvV (.mk 4 i s a b) LV = LV := by simp [rvV, a1, h6, Frm.k_mk, Frm.i_mk, Frm.a_mk]
        have x6 : rvG (.mk 4 i s a b) LV gl = gl := by simp [rvG, a1, h6, Frm.k_mk, Frm.i_mk, Frm.a_mk]
        rw [x1, x2, x3, x4, x5, x6]
        obtain ⟨oA, hoA⟩ : ∃ x, akA a acked = x := ⟨_, rfl⟩
        obtain ⟨oD, hoD⟩ : ∃ x, akD a acked (KA.drop d) = x := ⟨_, rfl⟩
        rw [hoA, hoD] at hA ⊢
        simp (disch := omega) only [ite_ne, hc, r1, go_sem, ↓reduceIte, Nat.reduceEqDiff, Nat.reduceBEq, Nat.reduceAdd, Nat.reduceLeDiff, Nat.reduceLT, reduceCtorEq, Nat.reduceMul, Nat.reduceSub, Int.reduceEq, Int.reduceLT, Int.reduceLE, Int.reduceToNat]
        refine vcCall.f (hR _ _) ?_
        simp (disch := omega) only [ite_ne, hc, hv, r1, d6, go_sem, ↓reduceIte, Nat.reduceEqDiff, Nat.reduceBEq, Nat.reduceAdd, Nat.reduceLeDiff, Nat.reduceLT, reduceCtorEq, Nat.reduceMul, Nat.reduceSub, Int.reduceEq, Int.reduceLT, Int.reduceLE, Int.reduceToNat]
        refine vcCall.x (hA _ (by (simp (disch := omega) only [ite_ne, hc, go_sem, ↓reduceIte, Nat.reduceEqDiff, Nat.reduceBEq, Nat.reduceAdd, Nat.reduceLeDiff, Nat.reduceLT, reduceCtorEq, Nat.reduceMul, Nat.reduceSub, Int.reduceEq, Int.reduceLT, Int.reduceLE, Int.reduceToNat])) (by (simp (disch := omega) only [ite_ne, hk, go_sem, ↓reduceIte, Nat.reduceEqDiff, Nat.reduceBEq, Nat.reduceAdd, Nat.reduceLeDiff, Nat.reduceLT, reduceCtorEq, Nat.reduceMul, Nat.reduceSub, Int.reduceEq, Int.reduceLT, Int.reduceLE, Int.reduceToNat])) _ (by omega)) ?_
        simp only [List.cons_append, List.nil_append]
        simp (disch := omega) only [ite_ne, hc, hv, hnl, hnl', r1, go_sem, ↓reduceIte, Nat.reduceEqDiff, Nat.reduceBEq, Nat.reduceAdd, Nat.reduceLeDiff, Nat.reduceLT, reduceCtorEq, Nat.reduceMul, Nat.reduceSub, Int.reduceEq, Int.reduceLT, Int.reduceLE, Int.reduceToNat]
        refine up_ws2 hnl ?_ ?_ (fun j h1 h2 h3 => ?_)
        · (simp (disch := omega) only [ite_ne, hc, hv, hnl, hnl', go_sem, ↓reduceIte, Nat.reduceEqDiff, Nat.reduceBEq, Nat.reduceAdd, Nat.reduceLeDiff, Nat.reduceLT, reduceCtorEq, Nat.reduceMul, Nat.reduceSub, Int.reduceEq, Int.reduceLT, Int.reduceLE, Int.reduceToNat])
        · (simp (disch := omega) only [ite_ne, hc, hv, hnl, hnl', go_sem, ↓reduceIte, Nat.reduceEqDiff, Nat.reduceBEq, Nat.reduceAdd, Nat.reduceLeDiff, Nat.reduceLT, reduceCtorEq, Nat.reduceMul, Nat.reduceSub, Int.reduceEq, Int.reduceLT, Int.reduceLE, Int.reduceToNat])
        · repeat rw [gc_ne _ _ (by omega)]
          try rfl
    · have x1 : rvE (.mk 5 i s a b) last acked LV = 9 := by simp [rvE, a1, Frm.k_mk, Frm.i_mk, Frm.a_mk]
      have x2 : rvL (.mk 5 i s a b) last acked (KA.drop d) = [] := by simp [rvL, a1, Frm.k_mk, Frm.i_mk, Frm.a_mk]
      have x3 : rvA (.mk 5 i s a b) last acked = acked := by simp [rvA, a1, Frm.k_mk, Frm.i_mk, Frm.a_mk]
      have x4 : rvD (.mk 5 i s a b) last acked (KA.drop d) = 0 := by simp [rvD, a1, Frm.k_mk, Frm.i_mk, Frm.a_mk]
      have x5 : rvV (.mk 5 i s a b) LV = LV := by simp [rvV, a1, Frm.k_mk, Frm.i_mk, Frm.a_mk]
      have x6 : rvG (.mk 5 i s a b) LV gl = gl := by simp [rvG, a1, Frm.k_mk, Frm.i_mk, Frm.a_mk]
      rw [x1, x2, x3, x4, x5, x6]
      simp (disch := omega) only [ite_ne, hc, r1, go_sem, ↓reduceIte, Nat.reduceEqDiff, Nat.reduceBEq, Nat.reduceAdd, Nat.reduceLeDiff, Nat.reduceLT, reduceCtorEq, Nat.reduceMul, Nat.reduceSub, Int.reduceEq, Int.reduceLT, Int.reduceLE, Int.reduceToNat]
      refine vcCall.f (hR _ _) ?_
      simp (disch := omega) only [ite_ne, hc, hv, r1, go_sem, ↓reduceIte, Nat.reduceEqDiff, Nat.reduceBEq, Nat.reduceAdd, Nat.reduceLeDiff, Nat.reduceLT, reduceCtorEq, Nat.reduceMul, Nat.reduceSub, Int.reduceEq, Int.reduceLT, Int.reduceLE, Int.reduceToNat]
      refine up_ws2 hnl ?_ ?_ (fun j h1 h2 h3 => ?_)
      · (simp (disch := omega) only [ite_ne, hc, hv, hnl, hnl', go_sem, ↓reduceIte, Nat.reduceEqDiff, Nat.reduceBEq, Nat.reduceAdd, Nat.reduceLeDiff, Nat.reduceLT, reduceCtorEq, Nat.reduceMul, Nat.reduceSub, Int.reduceEq, Int.reduceLT, Int.reduceLE, Int.reduceToNat])
      · (simp (disch := omega) only [ite_ne, hc, hv, hnl, hnl', go_sem, ↓reduceIte, Nat.reduceEqDiff, Nat.reduceBEq, Nat.reduceAdd, Nat.reduceLeDiff, Nat.reduceLT, reduceCtorEq, Nat.reduceMul, Nat.reduceSub, Int.reduceEq, Int.reduceLT, Int.reduceLE, Int.reduceToNat])
      · repeat rw [gc_ne _ _ (by omega)]
        try rfl
    · have x1 : rvE (.mk 6 i s a b) last acked LV = 9 := by simp [rvE, a1, Frm.k_mk, Frm.i_mk, Frm.a_mk]
      have x2 : rvL (.mk 6 i s a b) last acked (KA.drop d) = [] := by simp [rvL, a1, Frm.k_mk, Frm.i_mk, Frm.a_mk]
      have x3 : rvA (.mk 6 i s a b) last acked = acked := by simp [rvA, a1, Frm.k_mk, Frm.i_mk, Frm.a_mk]
      have x4 : rvD (.mk 6 i s a b) last acked (KA.drop d) = 0 := by simp [rvD, a1, Frm.k_mk, Frm.i_mk, Frm.a_mk]
      have x5 : rvV (.mk 6 i s a b) LV = LV := by simp [rvV, a1, Frm.k_mk, Frm.i_mk, Frm.a_mk]
      have x6 : rvG (.mk 6 i s a b) LV gl = gl := by simp [rvG, a1, Frm.k_mk, Frm.i_mk, Frm.a_mk]
      rw [x1, x2, x3, x4, x5, x6]
      simp (disch := omega) only [ite_ne, hc, r1, go_sem, ↓reduceIte, Nat.reduceEqDiff, Nat.reduceBEq, Nat.reduceAdd, Nat.reduceLeDiff, Nat.reduceLT, reduceCtorEq, Nat.reduceMul, Nat.reduceSub, Int.reduceEq, Int.reduceLT, Int.reduceLE, Int.reduceToNat]
      refine vcCall.f (hR _ _) ?_
      simp (disch := omega) only [ite_ne, hc, hv, r1, go_sem, ↓reduceIte, Nat.reduceEqDiff, Nat.reduceBEq, Nat.reduceAdd, Nat.reduceLeDiff, Nat.reduceLT, reduceCtorEq, Nat.reduceMul, Nat.reduceSub, Int.reduceEq, Int.reduceLT, Int.reduceLE, Int.reduceToNat]
      refine up_ws2 hnl ?_ ?_ (fun j h1 h2 h3 => ?_)
      · (simp (disch := omega) only [ite_ne, hc, hv, hnl, hnl', go_sem, ↓reduceIte, Nat.reduceEqDiff, Nat.reduceBEq, Nat.reduceAdd, Nat.reduceLeDiff, Nat.reduceLT, reduceCtorEq, Nat.reduceMul, Nat.reduceSub, Int.reduceEq, Int.reduceLT, Int.reduceLE, Int.reduceToNat])
      · (simp (disch := omega) only [ite_ne, hc, hv, hnl, hnl', go_sem, ↓reduceIte, Nat.reduceEqDiff, Nat.reduceBEq, Nat.reduceAdd, Nat.reduceLeDiff, Nat.reduceLT, reduceCtorEq, Nat.reduceMul, Nat.reduceSub, Int.reduceEq, Int.reduceLT, Int.reduceLE, Int.reduceToNat])
      · repeat rw [gc_ne _ _ (by omega)]
        try rfl
    · have x1 : rvE (.mk 7 i s a b) last acked LV = 9 := by simp [rvE, a1, Frm.k_mk, Frm.i_mk, Frm.a_mk]
      have x2 : rvL (.mk 7 i s a b) last acked (KA.drop d) = [] := by simp [rvL, a1, Frm.k_mk, Frm.i_mk, Frm.a_mk]
      have x3 : rvA (.mk 7 i s a b) last acked = acked := by simp [rvA, a1, Frm.k_mk, Frm.i_mk, Frm.a_mk]
      have x4 : rvD (.mk 7 i s a b) last acked (KA.drop d) = 0 := by simp [rvD, a1, Frm.k_mk, Frm.i_mk, Frm.a_mk]
      have x5 : rvV (.mk 7 i s a b) LV = LV := by simp [rvV, a1, Frm.k_mk, Frm.i_mk, Frm.a_mk]
      have x6 : rvG (.mk 7 i s a b) LV gl = gl := by simp [rvG, a1, Frm.k_mk, Frm.i_mk, Frm.a_mk]
      rw [x1, x2, x3, x4, x5, x6]
      simp (disch := omega) only [ite_ne, hc, r1, go_sem, ↓reduceIte, Nat.reduceEqDiff, Nat.reduceBEq, Nat.reduceAdd, Nat.reduceLeDiff, Nat.reduceLT, reduceCtorEq, Nat.reduceMul, Nat.reduceSub, Int.reduceEq, Int.reduceLT, Int.reduceLE, Int.reduceToNat]
      refine vcCall.f (hR _ _) ?_
      simp (disch := omega) only [ite_ne, hc, hv, r1, go_sem, ↓reduceIte, Nat.reduceEqDiff, Nat.reduceBEq, Nat.reduceAdd, Nat.reduceLeDiff, Nat.reduceLT, reduceCtorEq, Nat.reduceMul, Nat.reduceSub, Int.reduceEq, Int.reduceLT, Int.reduceLE, Int.reduceToNat]
      refine up_ws2 hnl ?_ ?_ (fun j h1 h2 h3 => ?_)
      · (simp (disch := omega) only [ite_ne, hc, hv, hnl, hnl', go_sem, ↓reduceIte, Nat.reduceEqDiff, Nat.reduceBEq, Nat.reduceAdd, Nat.reduceLeDiff, Nat.reduceLT, reduceCtorEq, Nat.reduceMul, Nat.reduceSub, Int.reduceEq, Int.reduceLT, Int.reduceLE, Int.reduceToNat])
      · (simp (disch := omega) only [ite_ne, hc, hv, hnl, hnl', go_sem, ↓reduceIte, Nat.reduceEqDiff, Nat.reduceBEq, Nat.reduceAdd, Nat.reduceLeDiff, Nat.reduceLT, reduceCtorEq, Nat.reduceMul, Nat.reduceSub, Int.reduceEq, Int.reduceLT, Int.reduceLE, Int.reduceToNat])
      · repeat rw [gc_ne _ _ (by omega)]
        try rfl
    · have x1 : rvE (.mk 8 i s a b) last acked LV = 9 := by simp [rvE, a1, Frm.k_mk, Frm.i_mk, Frm.a_mk]
      have x2 : rvL (.mk 8 i s a b) last acked (KA.drop d) = [] := by simp [rvL, a1, Frm.k_mk, Frm.i_mk, Frm.a_mk]
      have x3 : rvA (.mk 8 i s a b) last acked = acked := by simp [rvA, a1, Frm.k_mk, Frm.i_mk, Frm.a_mk]
      have x4 : rvD (.mk 8 i s a b) last acked (KA.drop d) = 0 := by simp [rvD, a1, Frm.k_mk, Frm.i_mk, Frm.a_mk]
      have x5 : rvV (.mk 8 i s a b) LV = LV := by simp [rvV, a1, Frm.k_mk, Frm.i_mk, Frm.a_mk]
      have x6 : rvG (.mk 8 i s a b) LV gl = gl := by simp [rvG, a1, Frm.k_mk, Frm.i_mk, Frm.a_mk]
      rw [x1, x2, x3, x4, x5, x6]
      simp (disch := omega) only [ite_ne, hc, r1, go_sem, ↓reduceIte, Nat.reduceEqDiff, Nat.reduceBEq, Nat.reduceAdd, Nat.reduceLeDiff, Nat.reduceLT, reduceCtorEq, Nat.reduceMul, Nat.reduceSub, Int.reduceEq, Int.reduceLT, Int.reduceLE, Int.reduceToNat]
      refine vcCall.f (hR _ _) ?_
      simp (disch := omega) only [ite_ne, hc, hv, r1, go_sem, ↓reduceIte, Nat.reduceEqDiff, Nat.reduceBEq, Nat.reduceAdd, Nat.reduceLeDiff, Nat.reduceLT, reduceCtorEq, Nat.reduceMul, Nat.reduceSub, Int.reduceEq, Int.reduceLT, Int.reduceLE, Int.reduceToNat]
      refine up_ws2 hnl ?_ ?_ (fun j h1 h2 h3 => ?_)
      · (simp (disch := omega) only [ite_ne, hc, hv, hnl, hnl', go_sem, ↓reduceIte, Nat.reduceEqDiff, Nat.reduceBEq, Nat.reduceAdd, Nat.reduceLeDiff, Nat.reduceLT, reduceCtorEq, Nat.reduceMul, Nat.reduceSub, Int.reduceEq, Int.reduceLT, Int.reduceLE, Int.reduceToNat])
      · (simp (disch := omega) only [ite_ne, hc, hv, hnl, hnl', go_sem, ↓reduceIte, Nat.reduceEqDiff, Nat.reduceBEq, Nat.reduceAdd, Nat.reduceLeDiff, Nat.reduceLT, reduceCtorEq, Nat.reduceMul, Nat.reduceSub, Int.reduceEq, Int.reduceLT, Int.reduceLE, Int.reduceToNat])
      · repeat rw [gc_ne _ _ (by omega)]
        try rfl
    · exfalso
      unfold kOk at hko
      simp at hko
      omega
end Go.Proofs.Ytdodiembhgjecaa
