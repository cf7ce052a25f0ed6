/-
  The parts MxT of the proof, in one file. Conditions: none.
-/
import Derived.Test.YtdodiembhgjecaaMb46
namespace Go.Proofs.Ytdodiembhgjecaa
open Go.Eng
set_option linter.unusedVariables false
set_option linter.unusedSimpArgs false
set_option maxRecDepth 20000
set_option maxHeartbeats 1000000
def opR (a last ack : Int) (L : List Frm) : List Frm := if last < a then [] else if a < ack then [] else Frm.mk 8 0 0 last ⟨#[]⟩ :: cfL a ack L
def opC (a last ack : Int) (L : List Frm) : List Frm := if last < a then L else if a < ack then L else cfL a ack L
def opG (a last ack : Int) (g : Nat) : Nat := if last < a then g else if a < ack then g else cfG a ack g
def hasS (x : Int) (S : List Int) : Bool := decide (x ∈ S)
theorem gLiveB (x room last ack : Int) (S : List Int) (hS : S.length ≤ 1000000) (r kL gL nL kS gS : Nat) (hp : CH) (hr : gc hp r = rfB room last ack kL gL nL kS gS S.length) (hk : gc hp kS = .rw gS 1 (mapC in1 S)) (m : Nat) : MeetsF Try.prog 44 hp m [.bx r 0, .i .i64 x] (.b (hasS x S)) := gLive_ok x room last ack S hS r kL gL nL kS gS hp hr hk m
def bgS (x : Int) (S : List Int) : Bool := !hasS x S && decide (S.length < 64)
def rgE (f : Frm) (last acked : Int) (S : List Int) : Int :=
  if chk f ≠ 0 then 3 else if f.k = 1 then opE f.a last acked else if f.k = 2 then (if hasS f.i S = true then 7 else if 64 ≤ S.length then 11 else 0) else if f.k = 3 then 0 else if f.k = 4 then (if last < f.a then 13 else 0) else 9
def rgA (f : Frm) (last acked : Int) (L : List Frm) : List Frm := if chk f ≠ 0 then [] else if f.k = 1 then opR f.a last acked L else []
def rgL (f : Frm) (last acked : Int) (L : List Frm) : List Frm := if chk f ≠ 0 then L else if f.k = 1 then opC f.a last acked L else if f.k = 4 then (if last < f.a then L else cfL f.a acked L) else L
def rgG (f : Frm) (last acked : Int) (g : Nat) : Nat := if chk f ≠ 0 then g else if f.k = 1 then opG f.a last acked g else if f.k = 4 then (if last < f.a then g else cfG f.a acked g) else g
def rgS (f : Frm) (S : List Int) : List Int := if chk f ≠ 0 then S else if f.k = 2 then (if bgS f.i S = true then S ++ [f.i] else S) else if f.k = 3 then drL f.i S else S
def rgH (f : Frm) (S : List Int) (g : Nat) : Nat := if chk f ≠ 0 then g else if f.k = 2 then (if bgS f.i S = true then g + 1 else g) else if f.k = 3 then g + 1 else g
theorem gRecv2_ok (f : Frm) (room last ack : Int) (hroom : 1 ≤ room) (L : List Frm) (hL : L.length ≤ 1000000) (S : List Int) (hS : S.length ≤ 1000000) (r kL gL kS gS : Nat) (hp : CH)
    (hr : gc hp r = rfB room last ack kL gL L.length kS gS S.length) (hk : gc hp kL = .rw gL 5 (mapC frC L)) (hv : gc hp kS = .rw gS 1 (mapC in1 S)) (hkv : kL ≠ kS) (m : Nat) (f0 : Frm) (hf0 : f0 = f) :
    MeetsX Try.prog 15 hp m [.bx r 0, f.av] ([(r, rfB room last (rvA f last ack) kL (rgG f last ack gL) (rgL f last ack L).length kS (rgH f S gS) (rgS f S).length), (kL, .rw (rgG f last ack gL) 5 (mapC frC (rgL f last ack L))), (kS, .rw (rgH f S gS) 1 (mapC in1 (rgS f S)))] ++ hp) m (.tp [.ds (mapC frC (rgA f last ack L)), .i .i64 (rgE f last ack S)]) := by
  have hne : r ≠ kL := fun e => by subst e; rw [hr] at hk; cases hk
  have hne' : ¬ kL = r := fun e => hne e.symm
  have hnl : r ≠ kS := fun e => by subst e; rw [hr] at hv; cases hv
  have hnl' : ¬ kS = r := fun e => hnl e.symm
  have hkv' : ¬ kS = kL := fun e => hkv e.symm
  have hR := right_ok' f
  have hko := fun h => kOk_of (f := f) h
  have hB := fun x hp' e1 e2 n' => gLiveB x room last ack S hS r kL gL L.length kS gS hp' e1 e2 n'
  have hM := fun hp' e1 n' => gMade_ok room hroom (.i .i64 last) (.i .i64 ack) (.rw kL gL L.length) (.rw kS gS S.length) r hp' e1 n'
  have hC := fun x hp' e1 e2 n' e3 => gConf_ok x room last ack L hL r kL gL kS gS S.length hp' e1 e2 n' e3
  have hD := fun x hp' e1 e2 n' e3 => gDrop_ok x room last ack S hS r kL gL L.length kS gS hp' e1 e2 n' e3
  have hSl : (mapC in1 S).length = S.length := mapC_len _ _
  have hLl : (mapC frC L).length = L.length := mapC_len _ _
  have htS : (mapC in1 S).take S.length = mapC in1 S := List.take_of_length_le (by omega)
  have htL : (mapC frC L).take L.length = mapC frC L := List.take_of_length_le (by omega)
  unfold rfB at hr hB hC hD
  refine meetsW Try.func15 (by kernel_rfl) cc15 cr15 rfl (fun hf => ?_) fun hf => ?_
  · have h1 : r < m := bx_lt' hf hr
    have h2 := rw_lt hf hk
    have h3 := rw_lt hf hv
    exact ⟨h1, fun α h => by simp at h; rcases h with rfl | rfl | rfl | rfl | rfl <;> first | exact h2 | exact h3 | rfl | simp [AV.lt1, AV.pur], h2, trivial, h3, trivial, trivial⟩
  unfold ck15
  have hlt : r < m := bx_lt' hf hr
  have hlt2 := rw_lt hf hk
  have hlt3 := rw_lt hf hv
  unfold rfB
  obtain ⟨k, i, s, a, b⟩ := f
  simp only [Frm.k_mk, Frm.s_mk] at hko
  by_cases a1 : chk (.mk k i s a b) = 0
  case neg =>
    have d1 : decide (chk (.mk k i s a b) = 0) = false := by simp [a1]
    rw [d1] at hR
    have x1 : rgE (.mk k i s a b) last ack S = 3 := by simp [rgE, a1, Frm.k_mk, Frm.i_mk, Frm.a_mk]
    have x2 : rgA (.mk k i s a b) last ack L = [] := by simp [rgA, a1, Frm.k_mk, Frm.i_mk, Frm.a_mk]
    have x3 : rvA (.mk k i s a b) last ack = ack := by simp [rvA, a1, Frm.k_mk, Frm.i_mk, Frm.a_mk]
    have x4 : rgL (.mk k i s a b) last ack L = L := by simp [rgL, a1, Frm.k_mk, Frm.i_mk, Frm.a_mk]
    have x5 : rgG (.mk k i s a b) last ack gL = gL := by simp [rgG, a1, Frm.k_mk, Frm.i_mk, Frm.a_mk]
    have x6 : rgS (.mk k i s a b) S = S := by simp [rgS, a1, Frm.k_mk, Frm.i_mk, Frm.a_mk]
    have x7 : rgH (.mk k i s a b) S gS = gS := by simp [rgH, a1, Frm.k_mk, Frm.i_mk, Frm.a_mk]
    rw [x1, x2, x3, x4, x5, x6, x7]
    simp only [go_sem, ↓reduceIte, Nat.reduceEqDiff, Nat.reduceBEq, Nat.reduceAdd, Nat.reduceLeDiff, Nat.reduceLT, reduceCtorEq, Nat.reduceMul, Nat.reduceSub, Int.reduceEq, Int.reduceLT, Int.reduceLE, Int.reduceToNat]
    refine vcCall.f (hM _ (by (simp (disch := omega) only [ite_ne, hr, go_sem, ↓reduceIte, Nat.reduceEqDiff, Nat.reduceBEq, Nat.reduceAdd, Nat.reduceLeDiff, Nat.reduceLT, reduceCtorEq, Nat.reduceMul, Nat.reduceSub, Int.reduceEq, Int.reduceLT, Int.reduceLE, Int.reduceToNat])) _) ?_
    simp (disch := omega) only [ite_ne, hr, go_sem, ↓reduceIte, Nat.reduceEqDiff, Nat.reduceBEq, Nat.reduceAdd, Nat.reduceLeDiff, Nat.reduceLT, reduceCtorEq, Nat.reduceMul, Nat.reduceSub, Int.reduceEq, Int.reduceLT, Int.reduceLE, Int.reduceToNat]
    refine vcCall.f (hR _ _) ?_
    simp (disch := omega) only [ite_ne, hr, go_sem, ↓reduceIte, Nat.reduceEqDiff, Nat.reduceBEq, Nat.reduceAdd, Nat.reduceLeDiff, Nat.reduceLT, reduceCtorEq, Nat.reduceMul, Nat.reduceSub, Int.reduceEq, Int.reduceLT, Int.reduceLE, Int.reduceToNat]
    refine up_ws3 hne hnl hkv ?_ ?_ ?_ (fun j h1 h2 h3 h4 => ?_)
    · (simp (disch := omega) only [ite_ne, hr, hk, hv, hne, hne', hnl, hnl', hkv, hkv', go_sem, ↓reduceIte, Nat.reduceEqDiff, Nat.reduceBEq, Nat.reduceAdd, Nat.reduceLeDiff, Nat.reduceLT, reduceCtorEq, Nat.reduceMul, Nat.reduceSub, Int.reduceEq, Int.reduceLT, Int.reduceLE, Int.reduceToNat])
    · (simp (disch := omega) only [ite_ne, hr, hk, hv, hne, hne', hnl, hnl', hkv, hkv', go_sem, ↓reduceIte, Nat.reduceEqDiff, Nat.reduceBEq, Nat.reduceAdd, Nat.reduceLeDiff, Nat.reduceLT, reduceCtorEq, Nat.reduceMul, Nat.reduceSub, Int.reduceEq, Int.reduceLT, Int.reduceLE, Int.reduceToNat])
    · (simp (disch := omega) only [ite_ne, hr, hk, hv, hne, hne', hnl, hnl', hkv, hkv', go_sem, ↓reduceIte, Nat.reduceEqDiff, Nat.reduceBEq, Nat.reduceAdd, Nat.reduceLeDiff, Nat.reduceLT, reduceCtorEq, Nat.reduceMul, Nat.reduceSub, Int.reduceEq, Int.reduceLT, Int.reduceLE, Int.reduceToNat])
    · repeat rw [gc_ne _ _ (by omega)]
      try rfl
  case pos =>
    have d1 : decide (chk (.mk k i s a b) = 0) = true := by simp [a1]
    rw [d1] at hR
    have hko := hko a1
    rcases kinds k with rfl | rfl | rfl | rfl | rfl | rfl | rfl | rfl | ⟨h1, h2, h3, h4, h5, h6, h7, h8⟩
    · by_cases h6 : last < a
      · have d6 := decide_eq_true h6
        have y1 : opE a last ack = 13 := by simp [opE, h6]
        have y2 : opR a last ack L = [] := by simp [opR, h6]
        have y3 : opA a last ack = ack := by simp [opA, h6]
        have y4 : opC a last ack L = L := by simp [opC, h6]
        have y5 : opG a last ack gL = gL := by simp [opG, h6]
        have x1 : rgE (.mk 1 i s a b) last ack S = 13 := by simp [rgE, a1, y1, y2, y3, y4, y5, Frm.k_mk, Frm.i_mk, Frm.a_mk]
        have x2 : rgA (.mk 1 i s a b) last ack L = [] := by simp [rgA, a1, y1, y2, y3, y4, y5, Frm.k_mk, Frm.i_mk, Frm.a_mk]
        have x3 : rvA (.mk 1 i s a b) last ack = ack := by simp [rvA, a1, y1, y2, y3, y4, y5, Frm.k_mk, Frm.i_mk, Frm.a_mk]
        have x4 : rgL (.mk 1 i s a b) last ack L = L := by simp [rgL, a1, y1, y2, y3, y4, y5, Frm.k_mk, Frm.i_mk, Frm.a_mk]
        have x5 : rgG (.mk 1 i s a b) last ack gL = gL := by simp [rgG, a1, y1, y2, y3, y4, y5, Frm.k_mk, Frm.i_mk, Frm.a_mk]
        have x6 : rgS (.mk 1 i s a b) S = S := by simp [rgS, a1, y1, y2, y3, y4, y5, Frm.k_mk, Frm.i_mk, Frm.a_mk]
        have x7 : rgH (.mk 1 i s a b) S gS = gS := by simp [rgH, a1, y1, y2, y3, y4, y5, Frm.k_mk, Frm.i_mk, Frm.a_mk]
        rw [x1, x2, x3, x4, x5, x6, x7]
        simp only [go_sem, ↓reduceIte, Nat.reduceEqDiff, Nat.reduceBEq, Nat.reduceAdd, Nat.reduceLeDiff, Nat.reduceLT, reduceCtorEq, Nat.reduceMul, Nat.reduceSub, Int.reduceEq, Int.reduceLT, Int.reduceLE, Int.reduceToNat]
        refine vcCall.f (hM _ (by (simp (disch := omega) only [ite_ne, hr, go_sem, ↓reduceIte, Nat.reduceEqDiff, Nat.reduceBEq, Nat.reduceAdd, Nat.reduceLeDiff, Nat.reduceLT, reduceCtorEq, Nat.reduceMul, Nat.reduceSub, Int.reduceEq, Int.reduceLT, Int.reduceLE, Int.reduceToNat])) _) ?_
        simp (disch := omega) only [ite_ne, hr, go_sem, ↓reduceIte, Nat.reduceEqDiff, Nat.reduceBEq, Nat.reduceAdd, Nat.reduceLeDiff, Nat.reduceLT, reduceCtorEq, Nat.reduceMul, Nat.reduceSub, Int.reduceEq, Int.reduceLT, Int.reduceLE, Int.reduceToNat]
        refine vcCall.f (hR _ _) ?_
        simp (disch := omega) only [ite_ne, hr, d6, go_sem, ↓reduceIte, Nat.reduceEqDiff, Nat.reduceBEq, Nat.reduceAdd, Nat.reduceLeDiff, Nat.reduceLT, reduceCtorEq, Nat.reduceMul, Nat.reduceSub, Int.reduceEq, Int.reduceLT, Int.reduceLE, Int.reduceToNat]
        refine up_ws3 hne hnl hkv ?_ ?_ ?_ (fun j h1 h2 h3 h4 => ?_)
        · (simp (disch := omega) only [ite_ne, hr, hk, hv, hne, hne', hnl, hnl', hkv, hkv', go_sem, ↓reduceIte, Nat.reduceEqDiff, Nat.reduceBEq, Nat.reduceAdd, Nat.reduceLeDiff, Nat.reduceLT, reduceCtorEq, Nat.reduceMul, Nat.reduceSub, Int.reduceEq, Int.reduceLT, Int.reduceLE, Int.reduceToNat])
        · (simp (disch := omega) only [ite_ne, hr, hk, hv, hne, hne', hnl, hnl', hkv, hkv', go_sem, ↓reduceIte, Nat.reduceEqDiff, Nat.reduceBEq, Nat.reduceAdd, Nat.reduceLeDiff, Nat.reduceLT, reduceCtorEq, Nat.reduceMul, Nat.reduceSub, Int.reduceEq, Int.reduceLT, Int.reduceLE, Int.reduceToNat])
        · (simp (disch := omega) only [ite_ne, hr, hk, hv, hne, hne', hnl, hnl', hkv, hkv', go_sem, ↓reduceIte, Nat.reduceEqDiff, Nat.reduceBEq, Nat.reduceAdd, Nat.reduceLeDiff, Nat.reduceLT, reduceCtorEq, Nat.reduceMul, Nat.reduceSub, Int.reduceEq, Int.reduceLT, Int.reduceLE, Int.reduceToNat])
        · repeat rw [gc_ne _ _ (by omega)]
          try rfl
      have d6 := decide_eq_false h6
      by_cases h7 : a < ack
      · have d7 := decide_eq_true h7
        have y1 : opE a last ack = 14 := by simp [opE, h6, h7]
        have y2 : opR a last ack L = [] := by simp [opR, h6, h7]
        have y3 : opA a last ack = ack := by simp [opA, h6, h7]
        have y4 : opC a last ack L = L := by simp [opC, h6, h7]
        have y5 : opG a last ack gL = gL := by simp [opG, h6, h7]
        have x1 : rgE (.mk 1 i s a b) last ack S = 14 := by simp [rgE, a1, y1, y2, y3, y4, y5, Frm.k_mk, Frm.i_mk, Frm.a_mk]
        have x2 : rgA (.mk 1 i s a b) last ack L = [] := by simp [rgA, a1, y1, y2, y3, y4, y5, Frm.k_mk, Frm.i_mk, Frm.a_mk]
        have x3 : rvA (.mk 1 i s a b) last ack = ack := by simp [rvA, a1, y1, y2, y3, y4, y5, Frm.k_mk, Frm.i_mk, Frm.a_mk]
        have x4 : rgL (.mk 1 i s a b) last ack L = L := by simp [rgL, a1, y1, y2, y3, y4, y5, Frm.k_mk, Frm.i_mk, Frm.a_mk]
        have x5 : rgG (.mk 1 i s a b) last ack gL = gL := by simp [rgG, a1, y1, y2, y3, y4, y5, Frm.k_mk, Frm.i_mk, Frm.a_mk]
        have x6 : rgS (.mk 1 i s a b) S = S := by simp [rgS, a1, y1, y2, y3, y4, y5, Frm.k_mk, Frm.i_mk, Frm.a_mk]
        have x7 : rgH (.mk 1 i s a b) S gS = gS := by simp [rgH, a1, y1, y2, y3, y4, y5, Frm.k_mk, Frm.i_mk, Frm.a_mk]
        rw [x1, x2, x3, x4, x5, x6, x7]
        simp only [go_sem, ↓reduceIte, Nat.reduceEqDiff, Nat.reduceBEq, Nat.reduceAdd, Nat.reduceLeDiff, Nat.reduceLT, reduceCtorEq, Nat.reduceMul, Nat.reduceSub, Int.reduceEq, Int.reduceLT, Int.reduceLE, Int.reduceToNat]
        refine vcCall.f (hM _ (by (simp (disch := omega) only [ite_ne, hr, go_sem, ↓reduceIte, Nat.reduceEqDiff, Nat.reduceBEq, Nat.reduceAdd, Nat.reduceLeDiff, Nat.reduceLT, reduceCtorEq, Nat.reduceMul, Nat.reduceSub, Int.reduceEq, Int.reduceLT, Int.reduceLE, Int.reduceToNat])) _) ?_
        simp (disch := omega) only [ite_ne, hr, go_sem, ↓reduceIte, Nat.reduceEqDiff, Nat.reduceBEq, Nat.reduceAdd, Nat.reduceLeDiff, Nat.reduceLT, reduceCtorEq, Nat.reduceMul, Nat.reduceSub, Int.reduceEq, Int.reduceLT, Int.reduceLE, Int.reduceToNat]
        refine vcCall.f (hR _ _) ?_
        simp (disch := omega) only [ite_ne, hr, d6, d7, go_sem, ↓reduceIte, Nat.reduceEqDiff, Nat.reduceBEq, Nat.reduceAdd, Nat.reduceLeDiff, Nat.reduceLT, reduceCtorEq, Nat.reduceMul, Nat.reduceSub, Int.reduceEq, Int.reduceLT, Int.reduceLE, Int.reduceToNat]
        refine up_ws3 hne hnl hkv ?_ ?_ ?_ (fun j h1 h2 h3 h4 => ?_)
        · (simp (disch := omega) only [ite_ne, hr, hk, hv, hne, hne', hnl, hnl', hkv, hkv', go_sem, ↓reduceIte, Nat.reduceEqDiff, Nat.reduceBEq, Nat.reduceAdd, Nat.reduceLeDiff, Nat.reduceLT, reduceCtorEq, Nat.reduceMul, Nat.reduceSub, Int.reduceEq, Int.reduceLT, Int.reduceLE, Int.reduceToNat])
        · (simp (disch := omega) only [ite_ne, hr, hk, hv, hne, hne', hnl, hnl', hkv, hkv', go_sem, ↓reduceIte, Nat.reduceEqDiff, Nat.reduceBEq, Nat.reduceAdd, Nat.reduceLeDiff, Nat.reduceLT, reduceCtorEq, Nat.reduceMul, Nat.reduceSub, Int.reduceEq, Int.reduceLT, Int.reduceLE, Int.reduceToNat])
        · (simp (disch := omega) only [ite_ne, hr, hk, hv, hne, hne', hnl, hnl', hkv, hkv', go_sem, ↓reduceIte, Nat.reduceEqDiff, Nat.reduceBEq, Nat.reduceAdd, Nat.reduceLeDiff, Nat.reduceLT, reduceCtorEq, Nat.reduceMul, Nat.reduceSub, Int.reduceEq, Int.reduceLT, Int.reduceLE, Int.reduceToNat])
        · repeat rw [gc_ne _ _ (by omega)]
          try rfl
      have d7 := decide_eq_false h7
      have y1 : opE a last ack = 0 := by simp [opE, h6, h7]
      have y2 : opR a last ack L = Frm.mk 8 0 0 last ⟨#[]⟩ :: cfL a ack L := by simp [opR, h6, h7]
      have y3 : opA a last ack = akA a ack := by simp [opA, h6, h7]
      have y4 : opC a last ack L = cfL a ack L := by simp [opC, h6, h7]
      have y5 : opG a last ack gL = cfG a ack gL := by simp [opG, h6, h7]
      have x1 : rgE (.mk 1 i s a b) last ack S = 0 := by simp [rgE, a1, y1, y2, y3, y4, y5, Frm.k_mk, Frm.i_mk, Frm.a_mk]
      have x2 : rgA (.mk 1 i s a b) last ack L = Frm.mk 8 0 0 last ⟨#[]⟩ :: cfL a ack L := by simp [rgA, a1, y1, y2, y3, y4, y5, Frm.k_mk, Frm.i_mk, Frm.a_mk]
      have x3 : rvA (.mk 1 i s a b) last ack = akA a ack := by simp [rvA, a1, y1, y2, y3, y4, y5, Frm.k_mk, Frm.i_mk, Frm.a_mk]
      have x4 : rgL (.mk 1 i s a b) last ack L = cfL a ack L := by simp [rgL, a1, y1, y2, y3, y4, y5, Frm.k_mk, Frm.i_mk, Frm.a_mk]
      have x5 : rgG (.mk 1 i s a b) last ack gL = cfG a ack gL := by simp [rgG, a1, y1, y2, y3, y4, y5, Frm.k_mk, Frm.i_mk, Frm.a_mk]
      have x6 : rgS (.mk 1 i s a b) S = S := by simp [rgS, a1, y1, y2, y3, y4, y5, Frm.k_mk, Frm.i_mk, Frm.a_mk]
      have x7 : rgH (.mk 1 i s a b) S gS = gS := by simp [rgH, a1, y1, y2, y3, y4, y5, Frm.k_mk, Frm.i_mk, Frm.a_mk]
      rw [x1, x2, x3, x4, x5, x6, x7]
      have hC := hC a
      have hcl : (cfL a ack L).length ≤ L.length := by
        unfold cfL
        split
        · exact Nat.le_refl _
        · exact List.length_filter_le _ _
      obtain ⟨C, hCe⟩ : ∃ C, cfL a ack L = C := ⟨_, rfl⟩
      obtain ⟨G, hGe⟩ : ∃ G, cfG a ack gL = G := ⟨_, rfl⟩
      obtain ⟨A, hAe⟩ : ∃ A, akA a ack = A := ⟨_, rfl⟩
      rw [hCe, hGe, hAe] at hC
      rw [hCe] at hcl
      rw [hCe, hGe, hAe]
      have hCl : (mapC frC C).length = C.length := mapC_len _ _
      have htC : (mapC frC C).take C.length = mapC frC C := List.take_of_length_le (by omega)
      have k1 : (1 + C.length) * 48 ≤ 140737488355328 := by omega
      have k2 : 1 + C.length ≤ 9223372036854775807 := by omega
      have k3 : 1 + C.length ≤ C.length + 1 := by omega
      have k4 : ¬ m + 14 = r := by omega
      have htC3 : List.take (1 + C.length) ([AV.i .i64 8, .i .i64 0, .i .i64 0, .i .i64 last, .s ⟨#[]⟩] :: mapC frC C) = [AV.i .i64 8, .i .i64 0, .i .i64 0, .i .i64 last, .s ⟨#[]⟩] :: mapC frC C := List.take_of_length_le (by rw [List.length_cons, hCl]; omega)
      simp only [go_sem, ↓reduceIte, Nat.reduceEqDiff, Nat.reduceBEq, Nat.reduceAdd, Nat.reduceLeDiff, Nat.reduceLT, reduceCtorEq, Nat.reduceMul, Nat.reduceSub, Int.reduceEq, Int.reduceLT, Int.reduceLE, Int.reduceToNat]
      refine vcCall.f (hM _ (by (simp (disch := omega) only [ite_ne, hr, go_sem, ↓reduceIte, Nat.reduceEqDiff, Nat.reduceBEq, Nat.reduceAdd, Nat.reduceLeDiff, Nat.reduceLT, reduceCtorEq, Nat.reduceMul, Nat.reduceSub, Int.reduceEq, Int.reduceLT, Int.reduceLE, Int.reduceToNat])) _) ?_
      simp (disch := omega) only [ite_ne, hr, go_sem, ↓reduceIte, Nat.reduceEqDiff, Nat.reduceBEq, Nat.reduceAdd, Nat.reduceLeDiff, Nat.reduceLT, reduceCtorEq, Nat.reduceMul, Nat.reduceSub, Int.reduceEq, Int.reduceLT, Int.reduceLE, Int.reduceToNat]
      refine vcCall.f (hR _ _) ?_
      simp (disch := omega) only [ite_ne, hr, d6, d7, go_sem, ↓reduceIte, Nat.reduceEqDiff, Nat.reduceBEq, Nat.reduceAdd, Nat.reduceLeDiff, Nat.reduceLT, reduceCtorEq, Nat.reduceMul, Nat.reduceSub, Int.reduceEq, Int.reduceLT, Int.reduceLE, Int.reduceToNat]
      refine vcCall.x (hC _ (by (simp (disch := omega) only [ite_ne, hr, go_sem, ↓reduceIte, Nat.reduceEqDiff, Nat.reduceBEq, Nat.reduceAdd, Nat.reduceLeDiff, Nat.reduceLT, reduceCtorEq, Nat.reduceMul, Nat.reduceSub, Int.reduceEq, Int.reduceLT, Int.reduceLE, Int.reduceToNat])) (by (simp (disch := omega) only [ite_ne, hk, go_sem, ↓reduceIte, Nat.reduceEqDiff, Nat.reduceBEq, Nat.reduceAdd, Nat.reduceLeDiff, Nat.reduceLT, reduceCtorEq, Nat.reduceMul, Nat.reduceSub, Int.reduceEq, Int.reduceLT, Int.reduceLE, Int.reduceToNat])) _ (by omega)) ?_
      simp only [List.cons_append, List.nil_append]
      simp (disch := omega) only [ite_ne, hr, hk, hne, hne', hCl, htC, Nat.le_refl, k1, k2, k3, htC3, go_sem, ↓reduceIte, Nat.reduceEqDiff, Nat.reduceBEq, Nat.reduceAdd, Nat.reduceLeDiff, Nat.reduceLT, reduceCtorEq, Nat.reduceMul, Nat.reduceSub, Int.reduceEq, Int.reduceLT, Int.reduceLE, Int.reduceToNat]
      refine up_ws3 hne hnl hkv ?_ ?_ ?_ (fun j h1 h2 h3 h4 => ?_)
      · (simp (disch := omega) only [ite_ne, hr, hk, hv, hne, hne', hnl, hnl', hkv, hkv', go_sem, ↓reduceIte, Nat.reduceEqDiff, Nat.reduceBEq, Nat.reduceAdd, Nat.reduceLeDiff, Nat.reduceLT, reduceCtorEq, Nat.reduceMul, Nat.reduceSub, Int.reduceEq, Int.reduceLT, Int.reduceLE, Int.reduceToNat])
      · (simp (disch := omega) only [ite_ne, hr, hk, hv, hne, hne', hnl, hnl', hkv, hkv', go_sem, ↓reduceIte, Nat.reduceEqDiff, Nat.reduceBEq, Nat.reduceAdd, Nat.reduceLeDiff, Nat.reduceLT, reduceCtorEq, Nat.reduceMul, Nat.reduceSub, Int.reduceEq, Int.reduceLT, Int.reduceLE, Int.reduceToNat])
      · (simp (disch := omega) only [ite_ne, hr, hk, hv, hne, hne', hnl, hnl', hkv, hkv', go_sem, ↓reduceIte, Nat.reduceEqDiff, Nat.reduceBEq, Nat.reduceAdd, Nat.reduceLeDiff, Nat.reduceLT, reduceCtorEq, Nat.reduceMul, Nat.reduceSub, Int.reduceEq, Int.reduceLT, Int.reduceLE, Int.reduceToNat])
      · repeat rw [gc_ne _ _ (by omega)]
        try rfl
    · have hB := hB i
      cases hh : hasS i S with
      | true =>
        rw [hh] at hB
        have a2 : bgS i S = false := by simp [bgS, hh]
        have x1 : rgE (.mk 2 i s a b) last ack S = 7 := by simp [rgE, a1, hh, a2, Frm.k_mk, Frm.i_mk, Frm.a_mk]
        have x2 : rgA (.mk 2 i s a b) last ack L = [] := by simp [rgA, a1, hh, a2, Frm.k_mk, Frm.i_mk, Frm.a_mk]
        have x3 : rvA (.mk 2 i s a b) last ack = ack := by simp [rvA, a1, hh, a2, Frm.k_mk, Frm.i_mk, Frm.a_mk]
        have x4 : rgL (.mk 2 i s a b) last ack L = L := by simp [rgL, a1, hh, a2, Frm.k_mk, Frm.i_mk, Frm.a_mk]
        have x5 : rgG (.mk 2 i s a b) last ack gL = gL := by simp [rgG, a1, hh, a2, Frm.k_mk, Frm.i_mk, Frm.a_mk]
        have x6 : rgS (.mk 2 i s a b) S = S := by simp [rgS, a1, hh, a2, Frm.k_mk, Frm.i_mk, Frm.a_mk]
        have x7 : rgH (.mk 2 i s a b) S gS = gS := by simp [rgH, a1, hh, a2, Frm.k_mk, Frm.i_mk, Frm.a_mk]
        rw [x1, x2, x3, x4, x5, x6, x7]
        simp only [go_sem, ↓reduceIte, Nat.reduceEqDiff, Nat.reduceBEq, Nat.reduceAdd, Nat.reduceLeDiff, Nat.reduceLT, reduceCtorEq, Nat.reduceMul, Nat.reduceSub, Int.reduceEq, Int.reduceLT, Int.reduceLE, Int.reduceToNat]
        refine vcCall.f (hM _ (by (simp (disch := omega) only [ite_ne, hr, go_sem, ↓reduceIte, Nat.reduceEqDiff, Nat.reduceBEq, Nat.reduceAdd, Nat.reduceLeDiff, Nat.reduceLT, reduceCtorEq, Nat.reduceMul, Nat.reduceSub, Int.reduceEq, Int.reduceLT, Int.reduceLE, Int.reduceToNat])) _) ?_
        simp (disch := omega) only [ite_ne, hr, go_sem, ↓reduceIte, Nat.reduceEqDiff, Nat.reduceBEq, Nat.reduceAdd, Nat.reduceLeDiff, Nat.reduceLT, reduceCtorEq, Nat.reduceMul, Nat.reduceSub, Int.reduceEq, Int.reduceLT, Int.reduceLE, Int.reduceToNat]
        refine vcCall.f (hR _ _) ?_
        simp (disch := omega) only [ite_ne, hr, go_sem, ↓reduceIte, Nat.reduceEqDiff, Nat.reduceBEq, Nat.reduceAdd, Nat.reduceLeDiff, Nat.reduceLT, reduceCtorEq, Nat.reduceMul, Nat.reduceSub, Int.reduceEq, Int.reduceLT, Int.reduceLE, Int.reduceToNat]
        refine vcCall.f (hB _ (by (simp (disch := omega) only [ite_ne, hr, go_sem, ↓reduceIte, Nat.reduceEqDiff, Nat.reduceBEq, Nat.reduceAdd, Nat.reduceLeDiff, Nat.reduceLT, reduceCtorEq, Nat.reduceMul, Nat.reduceSub, Int.reduceEq, Int.reduceLT, Int.reduceLE, Int.reduceToNat])) (by (simp (disch := omega) only [ite_ne, hv, go_sem, ↓reduceIte, Nat.reduceEqDiff, Nat.reduceBEq, Nat.reduceAdd, Nat.reduceLeDiff, Nat.reduceLT, reduceCtorEq, Nat.reduceMul, Nat.reduceSub, Int.reduceEq, Int.reduceLT, Int.reduceLE, Int.reduceToNat])) _) ?_
        simp (disch := omega) only [ite_ne, hr, go_sem, ↓reduceIte, Nat.reduceEqDiff, Nat.reduceBEq, Nat.reduceAdd, Nat.reduceLeDiff, Nat.reduceLT, reduceCtorEq, Nat.reduceMul, Nat.reduceSub, Int.reduceEq, Int.reduceLT, Int.reduceLE, Int.reduceToNat]
        refine up_ws3 hne hnl hkv ?_ ?_ ?_ (fun j h1 h2 h3 h4 => ?_)
        · (simp (disch := omega) only [ite_ne, hr, hk, hv, hne, hne', hnl, hnl', hkv, hkv', go_sem, ↓reduceIte, Nat.reduceEqDiff, Nat.reduceBEq, Nat.reduceAdd, Nat.reduceLeDiff, Nat.reduceLT, reduceCtorEq, Nat.reduceMul, Nat.reduceSub, Int.reduceEq, Int.reduceLT, Int.reduceLE, Int.reduceToNat])
        · (simp (disch := omega) only [ite_ne, hr, hk, hv, hne, hne', hnl, hnl', hkv, hkv', go_sem, ↓reduceIte, Nat.reduceEqDiff, Nat.reduceBEq, Nat.reduceAdd, Nat.reduceLeDiff, Nat.reduceLT, reduceCtorEq, Nat.reduceMul, Nat.reduceSub, Int.reduceEq, Int.reduceLT, Int.reduceLE, Int.reduceToNat])
        · (simp (disch := omega) only [ite_ne, hr, hk, hv, hne, hne', hnl, hnl', hkv, hkv', go_sem, ↓reduceIte, Nat.reduceEqDiff, Nat.reduceBEq, Nat.reduceAdd, Nat.reduceLeDiff, Nat.reduceLT, reduceCtorEq, Nat.reduceMul, Nat.reduceSub, Int.reduceEq, Int.reduceLT, Int.reduceLE, Int.reduceToNat])
        · repeat rw [gc_ne _ _ (by omega)]
          try rfl
      | false =>
        rw [hh] at hB
        by_cases h6 : 64 ≤ S.length
        · have a2 : bgS i S = false := by simp [bgS, hh]; omega
          have d6 : decide ((64 : Int) ≤ (S.length : Int)) = true := decide_eq_true (by omega)
          have x1 : rgE (.mk 2 i s a b) last ack S = 11 := by simp [rgE, a1, hh, a2, h6, Frm.k_mk, Frm.i_mk, Frm.a_mk]
          have x2 : rgA (.mk 2 i s a b) last ack L = [] := by simp [rgA, a1, hh, a2, h6, Frm.k_mk, Frm.i_mk, Frm.a_mk]
          have x3 : rvA (.mk 2 i s a b) last ack = ack := by simp [rvA, a1, hh, a2, h6, Frm.k_mk, Frm.i_mk, Frm.a_mk]
          have x4 : rgL (.mk 2 i s a b) last ack L = L := by simp [rgL, a1, hh, a2, h6, Frm.k_mk, Frm.i_mk, Frm.a_mk]
          have x5 : rgG (.mk 2 i s a b) last ack gL = gL := by simp [rgG, a1, hh, a2, h6, Frm.k_mk, Frm.i_mk, Frm.a_mk]
          have x6 : rgS (.mk 2 i s a b) S = S := by simp [rgS, a1, hh, a2, h6, Frm.k_mk, Frm.i_mk, Frm.a_mk]
          have x7 : rgH (.mk 2 i s a b) S gS = gS := by simp [rgH, a1, hh, a2, h6, Frm.k_mk, Frm.i_mk, Frm.a_mk]
          rw [x1, x2, x3, x4, x5, x6, x7]
          simp only [go_sem, ↓reduceIte, Nat.reduceEqDiff, Nat.reduceBEq, Nat.reduceAdd, Nat.reduceLeDiff, Nat.reduceLT, reduceCtorEq, Nat.reduceMul, Nat.reduceSub, Int.reduceEq, Int.reduceLT, Int.reduceLE, Int.reduceToNat]
          refine vcCall.f (hM _ (by (simp (disch := omega) only [ite_ne, hr, go_sem, ↓reduceIte, Nat.reduceEqDiff, Nat.reduceBEq, Nat.reduceAdd, Nat.reduceLeDiff, Nat.reduceLT, reduceCtorEq, Nat.reduceMul, Nat.reduceSub, Int.reduceEq, Int.reduceLT, Int.reduceLE, Int.reduceToNat])) _) ?_
          simp (disch := omega) only [ite_ne, hr, go_sem, ↓reduceIte, Nat.reduceEqDiff, Nat.reduceBEq, Nat.reduceAdd, Nat.reduceLeDiff, Nat.reduceLT, reduceCtorEq, Nat.reduceMul, Nat.reduceSub, Int.reduceEq, Int.reduceLT, Int.reduceLE, Int.reduceToNat]
          refine vcCall.f (hR _ _) ?_
          simp (disch := omega) only [ite_ne, hr, go_sem, ↓reduceIte, Nat.reduceEqDiff, Nat.reduceBEq, Nat.reduceAdd, Nat.reduceLeDiff, Nat.reduceLT, reduceCtorEq, Nat.reduceMul, Nat.reduceSub, Int.reduceEq, Int.reduceLT, Int.reduceLE, Int.reduceToNat]
          refine vcCall.f (hB _ (by (simp (disch := omega) only [ite_ne, hr, go_sem, ↓reduceIte, Nat.reduceEqDiff, Nat.reduceBEq, Nat.reduceAdd, Nat.reduceLeDiff, Nat.reduceLT, reduceCtorEq, Nat.reduceMul, Nat.reduceSub, Int.reduceEq, Int.reduceLT, Int.reduceLE, Int.reduceToNat])) (by (simp (disch := omega) only [ite_ne, hv, go_sem, ↓reduceIte, Nat.reduceEqDiff, Nat.reduceBEq, Nat.reduceAdd, Nat.reduceLeDiff, Nat.reduceLT, reduceCtorEq, Nat.reduceMul, Nat.reduceSub, Int.reduceEq, Int.reduceLT, Int.reduceLE, Int.reduceToNat])) _) ?_
          simp (disch := omega) only [ite_ne, hr, hv, d6, hSl, htS, Nat.le_refl, go_sem, ↓reduceIte, Nat.reduceEqDiff, Nat.reduceBEq, Nat.reduceAdd, Nat.reduceLeDiff, Nat.reduceLT, reduceCtorEq, Nat.reduceMul, Nat.reduceSub, Int.reduceEq, Int.reduceLT, Int.reduceLE, Int.reduceToNat]
          refine up_ws3 hne hnl hkv ?_ ?_ ?_ (fun j h1 h2 h3 h4 => ?_)
          · (simp (disch := omega) only [ite_ne, hr, hk, hv, hne, hne', hnl, hnl', hkv, hkv', go_sem, ↓reduceIte, Nat.reduceEqDiff, Nat.reduceBEq, Nat.reduceAdd, Nat.reduceLeDiff, Nat.reduceLT, reduceCtorEq, Nat.reduceMul, Nat.reduceSub, Int.reduceEq, Int.reduceLT, Int.reduceLE, Int.reduceToNat])
          · (simp (disch := omega) only [ite_ne, hr, hk, hv, hne, hne', hnl, hnl', hkv, hkv', go_sem, ↓reduceIte, Nat.reduceEqDiff, Nat.reduceBEq, Nat.reduceAdd, Nat.reduceLeDiff, Nat.reduceLT, reduceCtorEq, Nat.reduceMul, Nat.reduceSub, Int.reduceEq, Int.reduceLT, Int.reduceLE, Int.reduceToNat])
          · (simp (disch := omega) only [ite_ne, hr, hk, hv, hne, hne', hnl, hnl', hkv, hkv', go_sem, ↓reduceIte, Nat.reduceEqDiff, Nat.reduceBEq, Nat.reduceAdd, Nat.reduceLeDiff, Nat.reduceLT, reduceCtorEq, Nat.reduceMul, Nat.reduceSub, Int.reduceEq, Int.reduceLT, Int.reduceLE, Int.reduceToNat])
          · repeat rw [gc_ne _ _ (by omega)]
            try rfl
        · have a2 : bgS i S = true := by simp [bgS, hh]; omega
          have d6 : decide ((64 : Int) ≤ (S.length : Int)) = false := decide_eq_false (by omega)
          have k1 : (S.length + 1) * 8 ≤ 140737488355328 := by omega
          have k2 : S.length + 1 ≤ 9223372036854775807 := by omega
          have hsn : mapC in1 S ++ [[.i .i64 i]] = mapC in1 (S ++ [i]) := mapC_snoc in1 _ _
          have hsl : (S ++ [i]).length = S.length + 1 := by simp
          have x1 : rgE (.mk 2 i s a b) last ack S = 0 := by simp [rgE, a1, hh, a2, h6, Frm.k_mk, Frm.i_mk, Frm.a_mk]
          have x2 : rgA (.mk 2 i s a b) last ack L = [] := by simp [rgA, a1, hh, a2, h6, Frm.k_mk, Frm.i_mk, Frm.a_mk]
          have x3 : rvA (.mk 2 i s a b) last ack = ack := by simp [rvA, a1, hh, a2, h6, Frm.k_mk, Frm.i_mk, Frm.a_mk]
          have x4 : rgL (.mk 2 i s a b) last ack L = L := by simp [rgL, a1, hh, a2, h6, Frm.k_mk, Frm.i_mk, Frm.a_mk]
          have x5 : rgG (.mk 2 i s a b) last ack gL = gL := by simp [rgG, a1, hh, a2, h6, Frm.k_mk, Frm.i_mk, Frm.a_mk]
          have x6 : rgS (.mk 2 i s a b) S = S ++ [i] := by simp [rgS, a1, hh, a2, h6, Frm.k_mk, Frm.i_mk, Frm.a_mk]
          have x7 : rgH (.mk 2 i s a b) S gS = gS + 1 := by simp [rgH, a1, hh, a2, h6, Frm.k_mk, Frm.i_mk, Frm.a_mk]
          rw [x1, x2, x3, x4, x5, x6, x7]
          rw [hsl]
          simp only [go_sem, ↓reduceIte, Nat.reduceEqDiff, Nat.reduceBEq, Nat.reduceAdd, Nat.reduceLeDiff, Nat.reduceLT, reduceCtorEq, Nat.reduceMul, Nat.reduceSub, Int.reduceEq, Int.reduceLT, Int.reduceLE, Int.reduceToNat]
          refine vcCall.f (hM _ (by (simp (disch := omega) only [ite_ne, hr, go_sem, ↓reduceIte, Nat.reduceEqDiff, Nat.reduceBEq, Nat.reduceAdd, Nat.reduceLeDiff, Nat.reduceLT, reduceCtorEq, Nat.reduceMul, Nat.reduceSub, Int.reduceEq, Int.reduceLT, Int.reduceLE, Int.reduceToNat])) _) ?_
          simp (disch := omega) only [ite_ne, hr, go_sem, ↓reduceIte, Nat.reduceEqDiff, Nat.reduceBEq, Nat.reduceAdd, Nat.reduceLeDiff, Nat.reduceLT, reduceCtorEq, Nat.reduceMul, Nat.reduceSub, Int.reduceEq, Int.reduceLT, Int.reduceLE, Int.reduceToNat]
          refine vcCall.f (hR _ _) ?_
          simp (disch := omega) only [ite_ne, hr, go_sem, ↓reduceIte, Nat.reduceEqDiff, Nat.reduceBEq, Nat.reduceAdd, Nat.reduceLeDiff, Nat.reduceLT, reduceCtorEq, Nat.reduceMul, Nat.reduceSub, Int.reduceEq, Int.reduceLT, Int.reduceLE, Int.reduceToNat]
          refine vcCall.f (hB _ (by (simp (disch := omega) only [ite_ne, hr, go_sem, ↓reduceIte, Nat.reduceEqDiff, Nat.reduceBEq, Nat.reduceAdd, Nat.reduceLeDiff, Nat.reduceLT, reduceCtorEq, Nat.reduceMul, Nat.reduceSub, Int.reduceEq, Int.reduceLT, Int.reduceLE, Int.reduceToNat])) (by (simp (disch := omega) only [ite_ne, hv, go_sem, ↓reduceIte, Nat.reduceEqDiff, Nat.reduceBEq, Nat.reduceAdd, Nat.reduceLeDiff, Nat.reduceLT, reduceCtorEq, Nat.reduceMul, Nat.reduceSub, Int.reduceEq, Int.reduceLT, Int.reduceLE, Int.reduceToNat])) _) ?_
          simp (disch := omega) only [ite_ne, hr, hv, d6, hSl, htS, Nat.le_refl, k1, k2, hsn, hne, hne', hnl, hnl', hkv, hkv', go_sem, ↓reduceIte, Nat.reduceEqDiff, Nat.reduceBEq, Nat.reduceAdd, Nat.reduceLeDiff, Nat.reduceLT, reduceCtorEq, Nat.reduceMul, Nat.reduceSub, Int.reduceEq, Int.reduceLT, Int.reduceLE, Int.reduceToNat]
          refine up_ws3 hne hnl hkv ?_ ?_ ?_ (fun j h1 h2 h3 h4 => ?_)
          · (simp (disch := omega) only [ite_ne, hr, hk, hv, hne, hne', hnl, hnl', hkv, hkv', go_sem, ↓reduceIte, Nat.reduceEqDiff, Nat.reduceBEq, Nat.reduceAdd, Nat.reduceLeDiff, Nat.reduceLT, reduceCtorEq, Nat.reduceMul, Nat.reduceSub, Int.reduceEq, Int.reduceLT, Int.reduceLE, Int.reduceToNat])
          · (simp (disch := omega) only [ite_ne, hr, hk, hv, hne, hne', hnl, hnl', hkv, hkv', go_sem, ↓reduceIte, Nat.reduceEqDiff, Nat.reduceBEq, Nat.reduceAdd, Nat.reduceLeDiff, Nat.reduceLT, reduceCtorEq, Nat.reduceMul, Nat.reduceSub, Int.reduceEq, Int.reduceLT, Int.reduceLE, Int.reduceToNat])
          · (simp (disch := omega) only [ite_ne, hr, hk, hv, hne, hne', hnl, hnl', hkv, hkv', go_sem, ↓reduceIte, Nat.reduceEqDiff, Nat.reduceBEq, Nat.reduceAdd, Nat.reduceLeDiff, Nat.reduceLT, reduceCtorEq, Nat.reduceMul, Nat.reduceSub, Int.reduceEq, Int.reduceLT, Int.reduceLE, Int.reduceToNat])
          · repeat rw [gc_ne _ _ (by omega)]
            try rfl
    · have x1 : rgE (.mk 3 i s a b) last ack S = 0 := by simp [rgE, a1, Frm.k_mk, Frm.i_mk, Frm.a_mk]
      have x2 : rgA (.mk 3 i s a b) last ack L = [] := by simp [rgA, a1, Frm.k_mk, Frm.i_mk, Frm.a_mk]
      have x3 : rvA (.mk 3 i s a b) last ack = ack := by simp [rvA, a1, Frm.k_mk, Frm.i_mk, Frm.a_mk]
      have x4 : rgL (.mk 3 i s a b) last ack L = L := by simp [rgL, a1, Frm.k_mk, Frm.i_mk, Frm.a_mk]
      have x5 : rgG (.mk 3 i s a b) last ack gL = gL := by simp [rgG, a1, Frm.k_mk, Frm.i_mk, Frm.a_mk]
      have x6 : rgS (.mk 3 i s a b) S = drL i S := by simp [rgS, a1, Frm.k_mk, Frm.i_mk, Frm.a_mk]
      have x7 : rgH (.mk 3 i s a b) S gS = gS + 1 := by simp [rgH, a1, Frm.k_mk, Frm.i_mk, Frm.a_mk]
      rw [x1, x2, x3, x4, x5, x6, x7]
      have hD := hD i
      obtain ⟨D, hDe⟩ : ∃ D, drL i S = D := ⟨_, rfl⟩
      rw [hDe] at hD ⊢
      simp only [go_sem, ↓reduceIte, Nat.reduceEqDiff, Nat.reduceBEq, Nat.reduceAdd, Nat.reduceLeDiff, Nat.reduceLT, reduceCtorEq, Nat.reduceMul, Nat.reduceSub, Int.reduceEq, Int.reduceLT, Int.reduceLE, Int.reduceToNat]
      refine vcCall.f (hM _ (by (simp (disch := omega) only [ite_ne, hr, go_sem, ↓reduceIte, Nat.reduceEqDiff, Nat.reduceBEq, Nat.reduceAdd, Nat.reduceLeDiff, Nat.reduceLT, reduceCtorEq, Nat.reduceMul, Nat.reduceSub, Int.reduceEq, Int.reduceLT, Int.reduceLE, Int.reduceToNat])) _) ?_
      simp (disch := omega) only [ite_ne, hr, go_sem, ↓reduceIte, Nat.reduceEqDiff, Nat.reduceBEq, Nat.reduceAdd, Nat.reduceLeDiff, Nat.reduceLT, reduceCtorEq, Nat.reduceMul, Nat.reduceSub, Int.reduceEq, Int.reduceLT, Int.reduceLE, Int.reduceToNat]
      refine vcCall.f (hR _ _) ?_
      simp (disch := omega) only [ite_ne, hr, go_sem, ↓reduceIte, Nat.reduceEqDiff, Nat.reduceBEq, Nat.reduceAdd, Nat.reduceLeDiff, Nat.reduceLT, reduceCtorEq, Nat.reduceMul, Nat.reduceSub, Int.reduceEq, Int.reduceLT, Int.reduceLE, Int.reduceToNat]
      refine vcCall.x (hD _ (by (simp (disch := omega) only [ite_ne, hr, go_sem, ↓reduceIte, Nat.reduceEqDiff, Nat.reduceBEq, Nat.reduceAdd, Nat.reduceLeDiff, Nat.reduceLT, reduceCtorEq, Nat.reduceMul, Nat.reduceSub, Int.reduceEq, Int.reduceLT, Int.reduceLE, Int.reduceToNat])) (by (simp (disch := omega) only [ite_ne, hv, go_sem, ↓reduceIte, Nat.reduceEqDiff, Nat.reduceBEq, Nat.reduceAdd, Nat.reduceLeDiff, Nat.reduceLT, reduceCtorEq, Nat.reduceMul, Nat.reduceSub, Int.reduceEq, Int.reduceLT, Int.reduceLE, Int.reduceToNat])) _ (by omega)) ?_
      simp only [List.cons_append, List.nil_append]
      simp (disch := omega) only [ite_ne, hr, go_sem, ↓reduceIte, Nat.reduceEqDiff, Nat.reduceBEq, Nat.reduceAdd, Nat.reduceLeDiff, Nat.reduceLT, reduceCtorEq, Nat.reduceMul, Nat.reduceSub, Int.reduceEq, Int.reduceLT, Int.reduceLE, Int.reduceToNat]
      refine up_ws3 hne hnl hkv ?_ ?_ ?_ (fun j h1 h2 h3 h4 => ?_)
      · (simp (disch := omega) only [ite_ne, hr, hk, hv, hne, hne', hnl, hnl', hkv, hkv', go_sem, ↓reduceIte, Nat.reduceEqDiff, Nat.reduceBEq, Nat.reduceAdd, Nat.reduceLeDiff, Nat.reduceLT, reduceCtorEq, Nat.reduceMul, Nat.reduceSub, Int.reduceEq, Int.reduceLT, Int.reduceLE, Int.reduceToNat])
      · (simp (disch := omega) only [ite_ne, hr, hk, hv, hne, hne', hnl, hnl', hkv, hkv', go_sem, ↓reduceIte, Nat.reduceEqDiff, Nat.reduceBEq, Nat.reduceAdd, Nat.reduceLeDiff, Nat.reduceLT, reduceCtorEq, Nat.reduceMul, Nat.reduceSub, Int.reduceEq, Int.reduceLT, Int.reduceLE, Int.reduceToNat])
      · (simp (disch := omega) only [ite_ne, hr, hk, hv, hne, hne', hnl, hnl', hkv, hkv', go_sem, ↓reduceIte, Nat.reduceEqDiff, Nat.reduceBEq, Nat.reduceAdd, Nat.reduceLeDiff, Nat.reduceLT, reduceCtorEq, Nat.reduceMul, Nat.reduceSub, Int.reduceEq, Int.reduceLT, Int.reduceLE, Int.reduceToNat])
      · repeat rw [gc_ne _ _ (by omega)]
        try rfl
    · by_cases h6 : last < a
      · have d6 := decide_eq_true h6
        have x1 : rgE (.mk 4 i s a b) last ack S = 13 := by simp [rgE, a1, h6, Frm.k_mk, Frm.i_mk, Frm.a_mk]
        have x2 : rgA (.mk 4 i s a b) last ack L = [] := by simp [rgA, a1, h6, Frm.k_mk, Frm.i_mk, Frm.a_mk]
        have x3 : rvA (.mk 4 i s a b) last ack = ack := by simp [rvA, a1, h6, Frm.k_mk, Frm.i_mk, Frm.a_mk]
        have x4 : rgL (.mk 4 i s a b) last ack L = L := by simp [rgL, a1, h6, Frm.k_mk, Frm.i_mk, Frm.a_mk]
        have x5 : rgG (.mk 4 i s a b) last ack gL = gL := by simp [rgG, a1, h6, Frm.k_mk, Frm.i_mk, Frm.a_mk]
        have x6 : rgS (.mk 4 i s a b) S = S := by simp [rgS, a1, h6, Frm.k_mk, Frm.i_mk, Frm.a_mk]
        have x7 : rgH (.mk 4 i s a b) S gS = gS := by simp [rgH, a1, h6, Frm.k_mk, Frm.i_mk, Frm.a_mk]
        rw [x1, x2, x3, x4, x5, x6, x7]
        simp only [go_sem, ↓reduceIte, Nat.reduceEqDiff, Nat.reduceBEq, Nat.reduceAdd, Nat.reduceLeDiff, Nat.reduceLT, reduceCtorEq, Nat.reduceMul, Nat.reduceSub, Int.reduceEq, Int.reduceLT, Int.reduceLE, Int.reduceToNat]
        refine vcCall.f (hM _ (by (simp (disch := omega) only [ite_ne, hr, go_sem, ↓reduceIte, Nat.reduceEqDiff, Nat.reduceBEq, Nat.reduceAdd, Nat.reduceLeDiff, Nat.reduceLT, reduceCtorEq, Nat.reduceMul, Nat.reduceSub, Int.reduceEq, Int.reduceLT, Int.reduceLE, Int.reduceToNat])) _) ?_
        simp (disch := omega) only [ite_ne, hr, go_sem, ↓reduceIte, Nat.reduceEqDiff, Nat.reduceBEq, Nat.reduceAdd, Nat.reduceLeDiff, Nat.reduceLT, reduceCtorEq, Nat.reduceMul, Nat.reduceSub, Int.reduceEq, Int.reduceLT, Int.reduceLE, Int.reduceToNat]
        refine vcCall.f (hR _ _) ?_
        simp (disch := omega) only [ite_ne, hr, d6, go_sem, ↓reduceIte, Nat.reduceEqDiff, Nat.reduceBEq, Nat.reduceAdd, Nat.reduceLeDiff, Nat.reduceLT, reduceCtorEq, Nat.reduceMul, Nat.reduceSub, Int.reduceEq, Int.reduceLT, Int.reduceLE, Int.reduceToNat]
        refine up_ws3 hne hnl hkv ?_ ?_ ?_ (fun j h1 h2 h3 h4 => ?_)
        · (simp (disch := omega) only [ite_ne, hr, hk, hv, hne, hne', hnl, hnl', hkv, hkv', go_sem, ↓reduceIte, Nat.reduceEqDiff, Nat.reduceBEq, Nat.reduceAdd, Nat.reduceLeDiff, Nat.reduceLT, reduceCtorEq, Nat.reduceMul, Nat.reduceSub, Int.reduceEq, Int.reduceLT, Int.reduceLE, Int.reduceToNat])
        · (simp (disch := omega) only [ite_ne, hr, hk, hv, hne, hne', hnl, hnl', hkv, hkv', go_sem, ↓reduceIte, Nat.reduceEqDiff, Nat.reduceBEq, Nat.reduceAdd, Nat.reduceLeDiff, Nat.reduceLT, reduceCtorEq, Nat.reduceMul, Nat.reduceSub, Int.reduceEq, Int.reduceLT, Int.reduceLE, Int.reduceToNat])
        · (simp (disch := omega) only [ite_ne, hr, hk, hv, hne, hne', hnl, hnl', hkv, hkv', go_sem, ↓reduceIte, Nat.reduceEqDiff, Nat.reduceBEq, Nat.reduceAdd, Nat.reduceLeDiff, Nat.reduceLT, reduceCtorEq, Nat.reduceMul, Nat.reduceSub, Int.reduceEq, Int.reduceLT, Int.reduceLE, Int.reduceToNat])
        · repeat rw [gc_ne _ _ (by omega)]
          try rfl
      have d6 := decide_eq_false h6
      have x1 : rgE (.mk 4 i s a b) last ack S = 0 := by simp [rgE, a1, h6, Frm.k_mk, Frm.i_mk, Frm.a_mk]
      have x2 : rgA (.mk 4 i s a b) last ack L = [] := by simp [rgA, a1, h6, Frm.k_mk, Frm.i_mk, Frm.a_mk]
      have x3 : rvA (.mk 4 i s a b) last ack = akA a ack := by simp [rvA, a1, h6, Frm.k_mk, Frm.i_mk, Frm.a_mk]
      have x4 : rgL (.mk 4 i s a b) last ack L = cfL a ack L := by simp [rgL, a1, h6, Frm.k_mk, Frm.i_mk, Frm.a_mk]
      have x5 : rgG (.mk 4 i s a b) last ack gL = cfG a ack gL := by simp [rgG, a1, h6, Frm.k_mk, Frm.i_mk, Frm.a_mk]
      have x6 : rgS (.mk 4 i s a b) S = S := by simp [rgS, a1, h6, Frm.k_mk, Frm.i_mk, Frm.a_mk]
      have x7 : rgH (.mk 4 i s a b) S gS = gS := by simp [rgH, a1, h6, Frm.k_mk, Frm.i_mk, Frm.a_mk]
      rw [x1, x2, x3, x4, x5, x6, x7]
      have hC := hC a
      obtain ⟨C, hCe⟩ : ∃ C, cfL a ack L = C := ⟨_, rfl⟩
      obtain ⟨G, hGe⟩ : ∃ G, cfG a ack gL = G := ⟨_, rfl⟩
      obtain ⟨A, hAe⟩ : ∃ A, akA a ack = A := ⟨_, rfl⟩
      rw [hCe, hGe, hAe] at hC
      rw [hCe, hGe, hAe]
      simp only [go_sem, ↓reduceIte, Nat.reduceEqDiff, Nat.reduceBEq, Nat.reduceAdd, Nat.reduceLeDiff, Nat.reduceLT, reduceCtorEq, Nat.reduceMul, Nat.reduceSub, Int.reduceEq, Int.reduceLT, Int.reduceLE, Int.reduceToNat]
      refine vcCall.f (hM _ (by (simp (disch := omega) only [ite_ne, hr, go_sem, ↓reduceIte, Nat.reduceEqDiff, Nat.reduceBEq, Nat.reduceAdd, Nat.reduceLeDiff, Nat.reduceLT, reduceCtorEq, Nat.reduceMul, Nat.reduceSub, Int.reduceEq, Int.reduceLT, Int.reduceLE, Int.reduceToNat])) _) ?_
      simp (disch := omega) only [ite_ne, hr, go_sem, ↓reduceIte, Nat.reduceEqDiff, Nat.reduceBEq, Nat.reduceAdd, Nat.reduceLeDiff, Nat.reduceLT, reduceCtorEq, Nat.reduceMul, Nat.reduceSub, Int.reduceEq, Int.reduceLT, Int.reduceLE, Int.reduceToNat]
      refine vcCall.f (hR _ _) ?_
      simp (disch := omega) only [ite_ne, hr, d6, go_sem, ↓reduceIte, Nat.reduceEqDiff, Nat.reduceBEq, Nat.reduceAdd, Nat.reduceLeDiff, Nat.reduceLT, reduceCtorEq, Nat.reduceMul, Nat.reduceSub, Int.reduceEq, Int.reduceLT, Int.reduceLE, Int.reduceToNat]
      refine vcCall.x (hC _ (by (simp (disch := omega) only [ite_ne, hr, go_sem, ↓reduceIte, Nat.reduceEqDiff, Nat.reduceBEq, Nat.reduceAdd, Nat.reduceLeDiff, Nat.reduceLT, reduceCtorEq, Nat.reduceMul, Nat.reduceSub, Int.reduceEq, Int.reduceLT, Int.reduceLE, Int.reduceToNat])) (by (simp (disch := omega) only [ite_ne, hk, go_sem, ↓reduceIte, Nat.reduceEqDiff, Nat.reduceBEq, Nat.reduceAdd, Nat.reduceLeDiff, Nat.reduceLT, reduceCtorEq, Nat.reduceMul, Nat.reduceSub, Int.reduceEq, Int.reduceLT, Int.reduceLE, Int.reduceToNat])) _ (by omega)) ?_
      simp only [List.cons_append, List.nil_append]
      simp (disch := omega) only [ite_ne, hr, go_sem, ↓reduceIte, Nat.reduceEqDiff, Nat.reduceBEq, Nat.reduceAdd, Nat.reduceLeDiff, Nat.reduceLT, reduceCtorEq, Nat.reduceMul, Nat.reduceSub, Int.reduceEq, Int.reduceLT, Int.reduceLE, Int.reduceToNat]
      refine up_ws3 hne hnl hkv ?_ ?_ ?_ (fun j h1 h2 h3 h4 => ?_)
      · (simp (disch := omega) only [ite_ne, hr, hk, hv, hne, hne', hnl, hnl', hkv, hkv', go_sem, ↓reduceIte, Nat.reduceEqDiff, Nat.reduceBEq, Nat.reduceAdd, Nat.reduceLeDiff, Nat.reduceLT, reduceCtorEq, Nat.reduceMul, Nat.reduceSub, Int.reduceEq, Int.reduceLT, Int.reduceLE, Int.reduceToNat])
      · (simp (disch := omega) only [ite_ne, hr, hk, hv, hne, hne', hnl, hnl', hkv, hkv', go_sem, ↓reduceIte, Nat.reduceEqDiff, Nat.reduceBEq, Nat.reduceAdd, Nat.reduceLeDiff, Nat.reduceLT, reduceCtorEq, Nat.reduceMul, Nat.reduceSub, Int.reduceEq, Int.reduceLT, Int.reduceLE, Int.reduceToNat])
      · (simp (disch := omega) only [ite_ne, hr, hk, hv, hne, hne', hnl, hnl', hkv, hkv', go_sem, ↓reduceIte, Nat.reduceEqDiff, Nat.reduceBEq, Nat.reduceAdd, Nat.reduceLeDiff, Nat.reduceLT, reduceCtorEq, Nat.reduceMul, Nat.reduceSub, Int.reduceEq, Int.reduceLT, Int.reduceLE, Int.reduceToNat])
      · repeat rw [gc_ne _ _ (by omega)]
        try rfl
    · have x1 : rgE (.mk 5 i s a b) last ack S = 9 := by simp [rgE, a1, Frm.k_mk, Frm.i_mk, Frm.a_mk]
      have x2 : rgA (.mk 5 i s a b) last ack L = [] := by simp [rgA, a1, Frm.k_mk, Frm.i_mk, Frm.a_mk]
      have x3 : rvA (.mk 5 i s a b) last ack = ack := by simp [rvA, a1, Frm.k_mk, Frm.i_mk, Frm.a_mk]
      have x4 : rgL (.mk 5 i s a b) last ack L = L := by simp [rgL, a1, Frm.k_mk, Frm.i_mk, Frm.a_mk]
      have x5 : rgG (.mk 5 i s a b) last ack gL = gL := by simp [rgG, a1, Frm.k_mk, Frm.i_mk, Frm.a_mk]
      have x6 : rgS (.mk 5 i s a b) S = S := by simp [rgS, a1, Frm.k_mk, Frm.i_mk, Frm.a_mk]
      have x7 : rgH (.mk 5 i s a b) S gS = gS := by simp [rgH, a1, Frm.k_mk, Frm.i_mk, Frm.a_mk]
      rw [x1, x2, x3, x4, x5, x6, x7]
      simp only [go_sem, ↓reduceIte, Nat.reduceEqDiff, Nat.reduceBEq, Nat.reduceAdd, Nat.reduceLeDiff, Nat.reduceLT, reduceCtorEq, Nat.reduceMul, Nat.reduceSub, Int.reduceEq, Int.reduceLT, Int.reduceLE, Int.reduceToNat]
      refine vcCall.f (hM _ (by (simp (disch := omega) only [ite_ne, hr, go_sem, ↓reduceIte, Nat.reduceEqDiff, Nat.reduceBEq, Nat.reduceAdd, Nat.reduceLeDiff, Nat.reduceLT, reduceCtorEq, Nat.reduceMul, Nat.reduceSub, Int.reduceEq, Int.reduceLT, Int.reduceLE, Int.reduceToNat])) _) ?_
      simp (disch := omega) only [ite_ne, hr, go_sem, ↓reduceIte, Nat.reduceEqDiff, Nat.reduceBEq, Nat.reduceAdd, Nat.reduceLeDiff, Nat.reduceLT, reduceCtorEq, Nat.reduceMul, Nat.reduceSub, Int.reduceEq, Int.reduceLT, Int.reduceLE, Int.reduceToNat]
      refine vcCall.f (hR _ _) ?_
      simp (disch := omega) only [ite_ne, hr, go_sem, ↓reduceIte, Nat.reduceEqDiff, Nat.reduceBEq, Nat.reduceAdd, Nat.reduceLeDiff, Nat.reduceLT, reduceCtorEq, Nat.reduceMul, Nat.reduceSub, Int.reduceEq, Int.reduceLT, Int.reduceLE, Int.reduceToNat]
      refine up_ws3 hne hnl hkv ?_ ?_ ?_ (fun j h1 h2 h3 h4 => ?_)
      · (simp (disch := omega) only [ite_ne, hr, hk, hv, hne, hne', hnl, hnl', hkv, hkv', go_sem, ↓reduceIte, Nat.reduceEqDiff, Nat.reduceBEq, Nat.reduceAdd, Nat.reduceLeDiff, Nat.reduceLT, reduceCtorEq, Nat.reduceMul, Nat.reduceSub, Int.reduceEq, Int.reduceLT, Int.reduceLE, Int.reduceToNat])
      · (simp (disch := omega) only [ite_ne, hr, hk, hv, hne, hne', hnl, hnl', hkv, hkv', go_sem, ↓reduceIte, Nat.reduceEqDiff, Nat.reduceBEq, Nat.reduceAdd, Nat.reduceLeDiff, Nat.reduceLT, reduceCtorEq, Nat.reduceMul, Nat.reduceSub, Int.reduceEq, Int.reduceLT, Int.reduceLE, Int.reduceToNat])
      · (simp (disch := omega) only [ite_ne, hr, hk, hv, hne, hne', hnl, hnl', hkv, hkv', go_sem, ↓reduceIte, Nat.reduceEqDiff, Nat.reduceBEq, Nat.reduceAdd, Nat.reduceLeDiff, Nat.reduceLT, reduceCtorEq, Nat.reduceMul, Nat.reduceSub, Int.reduceEq, Int.reduceLT, Int.reduceLE, Int.reduceToNat])
      · repeat rw [gc_ne _ _ (by omega)]
        try rfl
    · have x1 : rgE (.mk 6 i s a b) last ack S = 9 := by simp [rgE, a1, Frm.k_mk, Frm.i_mk, Frm.a_mk]
      have x2 : rgA (.mk 6 i s a b) last ack L = [] := by simp [rgA, a1, Frm.k_mk, Frm.i_mk, Frm.a_mk]
      have x3 : rvA (.mk 6 i s a b) last ack = ack := by simp [rvA, a1, Frm.k_mk, Frm.i_mk, Frm.a_mk]
      have x4 : rgL (.mk 6 i s a b) last ack L = L := by simp [rgL, a1, Frm.k_mk, Frm.i_mk, Frm.a_mk]
      have x5 : rgG (.mk 6 i s a b) last ack gL = gL := by simp [rgG, a1, Frm.k_mk, Frm.i_mk, Frm.a_mk]
      have x6 : rgS (.mk 6 i s a b) S = S := by simp [rgS, a1, Frm.k_mk, Frm.i_mk, Frm.a_mk]
      have x7 : rgH (.mk 6 i s a b) S gS = gS := by simp [rgH, a1, Frm.k_mk, Frm.i_mk, Frm.a_mk]
      rw [x1, x2, x3, x4, x5, x6, x7]
      simp only [go_sem, ↓reduceIte, Nat.reduceEqDiff, Nat.reduceBEq, Nat.reduceAdd, Nat.reduceLeDiff, Nat.reduceLT, reduceCtorEq, Nat.reduceMul, Nat.reduceSub, Int.reduceEq, Int.reduceLT, Int.reduceLE, Int.reduceToNat]
      refine vcCall.f (hM _ (by (simp (disch := omega) only [ite_ne, hr, go_sem, ↓reduceIte, Nat.reduceEqDiff, Nat.reduceBEq, Nat.reduceAdd, Nat.reduceLeDiff, Nat.reduceLT, reduceCtorEq, Nat.reduceMul, Nat.reduceSub, Int.reduceEq, Int.reduceLT, Int.reduceLE, Int.reduceToNat])) _) ?_
      simp (disch := omega) only [ite_ne, hr, go_sem, ↓reduceIte, Nat.reduceEqDiff, Nat.reduceBEq, Nat.reduceAdd, Nat.reduceLeDiff, Nat.reduceLT, reduceCtorEq, Nat.reduceMul, Nat.reduceSub, Int.reduceEq, Int.reduceLT, Int.reduceLE, Int.reduceToNat]
      refine vcCall.f (hR _ _) ?_
      simp (disch := omega) only [ite_ne, hr, go_sem, ↓reduceIte, Nat.reduceEqDiff, Nat.reduceBEq, Nat.reduceAdd, Nat.reduceLeDiff, Nat.reduceLT, reduceCtorEq, Nat.reduceMul, Nat.reduceSub, Int.reduceEq, Int.reduceLT, Int.reduceLE, Int.reduceToNat]
      refine up_ws3 hne hnl hkv ?_ ?_ ?_ (fun j h1 h2 h3 h4 => ?_)
      · (simp (disch := omega) only [ite_ne, hr, hk, hv, hne, hne', hnl, hnl', hkv, hkv', go_sem, ↓reduceIte, Nat.reduceEqDiff, Nat.reduceBEq, Nat.reduceAdd, Nat.reduceLeDiff, Nat.reduceLT, reduceCtorEq, Nat.reduceMul, Nat.reduceSub, Int.reduceEq, Int.reduceLT, Int.reduceLE, Int.reduceToNat])
      · (simp (disch := omega) only [ite_ne, hr, hk, hv, hne, hne', hnl, hnl', hkv, hkv', go_sem, ↓reduceIte, Nat.reduceEqDiff, Nat.reduceBEq, Nat.reduceAdd, Nat.reduceLeDiff, Nat.reduceLT, reduceCtorEq, Nat.reduceMul, Nat.reduceSub, Int.reduceEq, Int.reduceLT, Int.reduceLE, Int.reduceToNat])
      · (simp (disch := omega) only [ite_ne, hr, hk, hv, hne, hne', hnl, hnl', hkv, hkv', go_sem, ↓reduceIte, Nat.reduceEqDiff, Nat.reduceBEq, Nat.reduceAdd, Nat.reduceLeDiff, Nat.reduceLT, reduceCtorEq, Nat.reduceMul, Nat.reduceSub, Int.reduceEq, Int.reduceLT, Int.reduceLE, Int.reduceToNat])
      · repeat rw [gc_ne _ _ (by omega)]
        try rfl
    · have x1 : rgE (.mk 7 i s a b) last ack S = 9 := by simp [rgE, a1, Frm.k_mk, Frm.i_mk, Frm.a_mk]
      have x2 : rgA (.mk 7 i s a b) last ack L = [] := by simp [rgA, a1, Frm.k_mk, Frm.i_mk, Frm.a_mk]
      have x3 : rvA (.mk 7 i s a b) last ack = ack := by simp [rvA, a1, Frm.k_mk, Frm.i_mk, Frm.a_mk]
      have x4 : rgL (.mk 7 i s a b) last ack L = L := by simp [rgL, a1, Frm.k_mk, Frm.i_mk, Frm.a_mk]
      have x5 : rgG (.mk 7 i s a b) last ack gL = gL := by simp [rgG, a1, Frm.k_mk, Frm.i_mk, Frm.a_mk]
      have x6 : rgS (.mk 7 i s a b) S = S := by simp [rgS, a1, Frm.k_mk, Frm.i_mk, Frm.a_mk]
      have x7 : rgH (.mk 7 i s a b) S gS = gS := by simp [rgH, a1, Frm.k_mk, Frm.i_mk, Frm.a_mk]
      rw [x1, x2, x3, x4, x5, x6, x7]
      simp only [go_sem, ↓reduceIte, Nat.reduceEqDiff, Nat.reduceBEq, Nat.reduceAdd, Nat.reduceLeDiff, Nat.reduceLT, reduceCtorEq, Nat.reduceMul, Nat.reduceSub, Int.reduceEq, Int.reduceLT, Int.reduceLE, Int.reduceToNat]
      refine vcCall.f (hM _ (by (simp (disch := omega) only [ite_ne, hr, go_sem, ↓reduceIte, Nat.reduceEqDiff, Nat.reduceBEq, Nat.reduceAdd, Nat.reduceLeDiff, Nat.reduceLT, reduceCtorEq, Nat.reduceMul, Nat.reduceSub, Int.reduceEq, Int.reduceLT, Int.reduceLE, Int.reduceToNat])) _) ?_
      simp (disch := omega) only [ite_ne, hr, go_sem, ↓reduceIte, Nat.reduceEqDiff, Nat.reduceBEq, Nat.reduceAdd, Nat.reduceLeDiff, Nat.reduceLT, reduceCtorEq, Nat.reduceMul, Nat.reduceSub, Int.reduceEq, Int.reduceLT, Int.reduceLE, Int.reduceToNat]
      refine vcCall.f (hR _ _) ?_
      simp (disch := omega) only [ite_ne, hr, go_sem, ↓reduceIte, Nat.reduceEqDiff, Nat.reduceBEq, Nat.reduceAdd, Nat.reduceLeDiff, Nat.reduceLT, reduceCtorEq, Nat.reduceMul, Nat.reduceSub, Int.reduceEq, Int.reduceLT, Int.reduceLE, Int.reduceToNat]
      refine up_ws3 hne hnl hkv ?_ ?_ ?_ (fun j h1 h2 h3 h4 => ?_)
      · (simp (disch := omega) only [ite_ne, hr, hk, hv, hne, hne', hnl, hnl', hkv, hkv', go_sem, ↓reduceIte, Nat.reduceEqDiff, Nat.reduceBEq, Nat.reduceAdd, Nat.reduceLeDiff, Nat.reduceLT, reduceCtorEq, Nat.reduceMul, Nat.reduceSub, Int.reduceEq, Int.reduceLT, Int.reduceLE, Int.reduceToNat])
      · (simp (disch := omega) only [ite_ne, hr, hk, hv, hne, hne', hnl, hnl', hkv, hkv', go_sem, ↓reduceIte, Nat.reduceEqDiff, Nat.reduceBEq, Nat.reduceAdd, Nat.reduceLeDiff, Nat.reduceLT, reduceCtorEq, Nat.reduceMul, Nat.reduceSub, Int.reduceEq, Int.reduceLT, Int.reduceLE, Int.reduceToNat])
      · (simp (disch := omega) only [ite_ne, hr, hk, hv, hne, hne', hnl, hnl', hkv, hkv', go_sem, ↓reduceIte, Nat.reduceEqDiff, Nat.reduceBEq, Nat.reduceAdd, Nat.reduceLeDiff, Nat.reduceLT, reduceCtorEq, Nat.reduceMul, Nat.reduceSub, Int.reduceEq, Int.reduceLT, Int.reduceLE, Int.reduceToNat])
      · repeat rw [gc_ne _ _ (by omega)]
        try rfl
    · have x1 : rgE (.mk 8 i s a b) last ack S = 9 := by simp [rgE, a1, Frm.k_mk, Frm.i_mk, Frm.a_mk]
      have x2 : rgA (.mk 8 i s a b) last ack L = [] := by simp [rgA, a1, Frm.k_mk, Frm.i_mk, Frm.a_mk]
      have x3 : rvA (.mk 8 i s a b) last ack = ack := by simp [rvA, a1, Frm.k_mk, Frm.i_mk, Frm.a_mk]
      have x4 : rgL (.mk 8 i s a b) last ack L = L := by simp [rgL, a1, Frm.k_mk, Frm.i_mk, Frm.a_mk]
      have x5 : rgG (.mk 8 i s a b) last ack gL = gL := by simp [rgG, a1, Frm.k_mk, Frm.i_mk, Frm.a_mk]
      have x6 : rgS (.mk 8 i s a b) S = S := by simp [rgS, a1, Frm.k_mk, Frm.i_mk, Frm.a_mk]
      have x7 : rgH (.mk 8 i s a b) S gS = gS := by simp [rgH, a1, Frm.k_mk, Frm.i_mk, Frm.a_mk]
      rw [x1, x2, x3, x4, x5, x6, x7]
      simp only [go_sem, ↓reduceIte, Nat.reduceEqDiff, Nat.reduceBEq, Nat.reduceAdd, Nat.reduceLeDiff, Nat.reduceLT, reduceCtorEq, Nat.reduceMul, Nat.reduceSub, Int.reduceEq, Int.reduceLT, Int.reduceLE, Int.reduceToNat]
      refine vcCall.f (hM _ (by (simp (disch := omega) only [ite_ne, hr, go_sem, ↓reduceIte, Nat.reduceEqDiff, Nat.reduceBEq, Nat.reduceAdd, Nat.reduceLeDiff, Nat.reduceLT, reduceCtorEq, Nat.reduceMul, Nat.reduceSub, Int.reduceEq, Int.reduceLT, Int.reduceLE, Int.reduceToNat])) _) ?_
      simp (disch := omega) only [ite_ne, hr, go_sem, ↓reduceIte, Nat.reduceEqDiff, Nat.reduceBEq, Nat.reduceAdd, Nat.reduceLeDiff, Nat.reduceLT, reduceCtorEq, Nat.reduceMul, Nat.reduceSub, Int.reduceEq, Int.reduceLT, Int.reduceLE, Int.reduceToNat]
      refine vcCall.f (hR _ _) ?_
      simp (disch := omega) only [ite_ne, hr, go_sem, ↓reduceIte, Nat.reduceEqDiff, Nat.reduceBEq, Nat.reduceAdd, Nat.reduceLeDiff, Nat.reduceLT, reduceCtorEq, Nat.reduceMul, Nat.reduceSub, Int.reduceEq, Int.reduceLT, Int.reduceLE, Int.reduceToNat]
      refine up_ws3 hne hnl hkv ?_ ?_ ?_ (fun j h1 h2 h3 h4 => ?_)
      · (simp (disch := omega) only [ite_ne, hr, hk, hv, hne, hne', hnl, hnl', hkv, hkv', go_sem, ↓reduceIte, Nat.reduceEqDiff, Nat.reduceBEq, Nat.reduceAdd, Nat.reduceLeDiff, Nat.reduceLT, reduceCtorEq, Nat.reduceMul, Nat.reduceSub, Int.reduceEq, Int.reduceLT, Int.reduceLE, Int.reduceToNat])
      · (simp (disch := omega) only [ite_ne, hr, hk, hv, hne, hne', hnl, hnl', hkv, hkv', go_sem, ↓reduceIte, Nat.reduceEqDiff, Nat.reduceBEq, Nat.reduceAdd, Nat.reduceLeDiff, Nat.reduceLT, reduceCtorEq, Nat.reduceMul, Nat.reduceSub, Int.reduceEq, Int.reduceLT, Int.reduceLE, Int.reduceToNat])
      · (simp (disch := omega) only [ite_ne, hr, hk, hv, hne, hne', hnl, hnl', hkv, hkv', go_sem, ↓reduceIte, Nat.reduceEqDiff, Nat.reduceBEq, Nat.reduceAdd, Nat.reduceLeDiff, Nat.reduceLT, reduceCtorEq, Nat.reduceMul, Nat.reduceSub, Int.reduceEq, Int.reduceLT, Int.reduceLE, Int.reduceToNat])
      · repeat rw [gc_ne _ _ (by omega)]
        try rfl
    · exfalso
      unfold kOk at hko
      simp at hko
      omega
end Go.Proofs.Ytdodiembhgjecaa
