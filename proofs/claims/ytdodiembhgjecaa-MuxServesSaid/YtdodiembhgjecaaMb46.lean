/-
  The parts MxS of the proof, in one file. Conditions: none.
-/
import Derived.Test.YtdodiembhgjecaaMb45
namespace Go.Proofs.Ytdodiembhgjecaa
open Go.Eng
set_option linter.unusedVariables false
set_option linter.unusedSimpArgs false
set_option maxRecDepth 20000
set_option maxHeartbeats 1000000
theorem gPub_ok (id : Int) (b : ByteArray) (room last ack : Int) (hroom : 1 ≤ room) (hlast : 0 ≤ last ∧ last ≤ 1000000) (L : List Frm) (hL : L.length ≤ 1000000) (S : List Int) (hS : S.length ≤ 1000000) (r kL gL kS gS : Nat) (hp : CH)
    (hr : gc hp r = rfB room last ack kL gL L.length kS gS S.length) (hk : gc hp kL = .rw gL 5 (mapC frC L)) (hv : gc hp kS = .rw gS 1 (mapC in1 S)) (m : Nat) (E : Int) (hE : sdE (decide (id ∈ S)) b.size room L.length = E) (f : Frm) (hf : f = .mk 5 id 0 0 b) :
    MeetsX Try.prog 11 hp m [.bx r 0, .i .i64 id, .s b] ([(r, rfB room (sdN E last) ack kL (sgG E gL) (L ++ sdL E f last).length kS gS S.length), (kL, .rw (sgG E gL) 5 (mapC frC (L ++ sdL E f last)))] ++ hp) m (.tp [.ds (mapC frC (sdL E f last)), .i .i64 E]) := by
  have hne : r ≠ kL := fun e => by subst e; rw [hr] at hk; cases hk
  have hne' : ¬ kL = r := fun e => hne e.symm
  have hQ := fun hp' e1 e2 e3 m' => gSend_ok 5 id b room last ack hroom hlast L hL S hS r kL gL kS gS hp' e1 e2 e3 m' E hE f hf
  refine meetsW Try.func11 (by kernel_rfl) cc11 cr11 rfl (fun hf => ?_) fun hf => ?_
  · have h1 : r < m := bx_lt' hf hr
    have h2 := rw_lt hf hk
    have h3 := rw_lt hf hv
    exact ⟨h1, fun α h => by simp at h; rcases h with rfl | rfl | rfl | rfl | rfl <;> first | exact h2 | exact h3 | rfl | simp [AV.lt1, AV.pur], h2, trivial, trivial⟩
  unfold ck11
  have hlt : r < m := bx_lt' hf hr
  have hlt2 := rw_lt hf hk
  have hlt3 := rw_lt hf hv
  obtain ⟨R, hR⟩ : ∃ R, sdL E f last = R := ⟨_, rfl⟩
  rw [hR] at hQ ⊢
  simp only [go_sem, ↓reduceIte, Nat.reduceEqDiff, Nat.reduceBEq, Nat.reduceAdd, Nat.reduceLeDiff, Nat.reduceLT, reduceCtorEq, Nat.reduceMul, Nat.reduceSub, Int.reduceEq, Int.reduceLT, Int.reduceLE, Int.reduceToNat]
  refine vcCall.x (hQ _ (by (simp (disch := omega) only [ite_ne, hr, go_sem, ↓reduceIte, Nat.reduceEqDiff, Nat.reduceBEq, Nat.reduceAdd, Nat.reduceLeDiff, Nat.reduceLT, reduceCtorEq, Nat.reduceMul, Nat.reduceSub, Int.reduceEq, Int.reduceLT, Int.reduceLE, Int.reduceToNat])) (by (simp (disch := omega) only [ite_ne, hk, go_sem, ↓reduceIte, Nat.reduceEqDiff, Nat.reduceBEq, Nat.reduceAdd, Nat.reduceLeDiff, Nat.reduceLT, reduceCtorEq, Nat.reduceMul, Nat.reduceSub, Int.reduceEq, Int.reduceLT, Int.reduceLE, Int.reduceToNat])) (by (simp (disch := omega) only [ite_ne, hv, go_sem, ↓reduceIte, Nat.reduceEqDiff, Nat.reduceBEq, Nat.reduceAdd, Nat.reduceLeDiff, Nat.reduceLT, reduceCtorEq, Nat.reduceMul, Nat.reduceSub, Int.reduceEq, Int.reduceLT, Int.reduceLE, Int.reduceToNat])) _) ?_
  unfold rfB
  simp only [List.cons_append, List.nil_append]
  simp only [go_sem, ↓reduceIte, Nat.reduceEqDiff, Nat.reduceBEq, Nat.reduceAdd, Nat.reduceLeDiff, Nat.reduceLT, reduceCtorEq, Nat.reduceMul, Nat.reduceSub, Int.reduceEq, Int.reduceLT, Int.reduceLE, Int.reduceToNat]
theorem gEnd_ok (id : Int) (room last ack : Int) (hroom : 1 ≤ room) (hlast : 0 ≤ last ∧ last ≤ 1000000) (L : List Frm) (hL : L.length ≤ 1000000) (S : List Int) (hS : S.length ≤ 1000000) (r kL gL kS gS : Nat) (hp : CH)
    (hr : gc hp r = rfB room last ack kL gL L.length kS gS S.length) (hk : gc hp kL = .rw gL 5 (mapC frC L)) (hv : gc hp kS = .rw gS 1 (mapC in1 S)) (hkv : kL ≠ kS) (m : Nat) (E : Int) (hE : sdE (decide (id ∈ S)) ((⟨#[]⟩ : ByteArray).size : Int) room L.length = E) (f : Frm) (hf : f = .mk 6 id 0 0 ⟨#[]⟩) :
    MeetsX Try.prog 13 hp m [.bx r 0, .i .i64 id] ([(r, rfB room (sdN E last) ack kL (sgG E gL) (L ++ sdL E f last).length kS (sgG E gS) (if E = 0 then drL id S else S).length), (kL, .rw (sgG E gL) 5 (mapC frC (L ++ sdL E f last))), (kS, .rw (sgG E gS) 1 (mapC in1 (if E = 0 then drL id S else S)))] ++ hp) m (.tp [.ds (mapC frC (sdL E f last)), .i .i64 E]) := by
  have hne : r ≠ kL := fun e => by subst e; rw [hr] at hk; cases hk
  have hne' : ¬ kL = r := fun e => hne e.symm
  have hnl : r ≠ kS := fun e => by subst e; rw [hr] at hv; cases hv
  have hnl' : ¬ kS = r := fun e => hnl e.symm
  have hkv' : ¬ kS = kL := fun e => hkv e.symm
  have hQ := fun hp' e1 e2 e3 m' => gSend_ok 6 id ⟨#[]⟩ room last ack hroom hlast L hL S hS r kL gL kS gS hp' e1 e2 e3 m' E hE f hf
  refine meetsW Try.func13 (by kernel_rfl) cc13 cr13 rfl (fun hf => ?_) fun hf => ?_
  · have h1 : r < m := bx_lt' hf hr
    have h2 := rw_lt hf hk
    have h3 := rw_lt hf hv
    exact ⟨h1, fun α h => by simp at h; rcases h with rfl | rfl | rfl | rfl | rfl <;> first | exact h2 | exact h3 | rfl | simp [AV.lt1, AV.pur], h2, trivial, h3, trivial, trivial⟩
  unfold ck13
  have hlt : r < m := bx_lt' hf hr
  have hlt2 := rw_lt hf hk
  have hlt3 := rw_lt hf hv
  obtain ⟨R, hR⟩ : ∃ R, sdL E f last = R := ⟨_, rfl⟩
  rw [hR] at hQ ⊢
  have hT := fun hp' e1 e2 m' e3 => gDrop_ok id room (sdN E last) ack S hS r kL (sgG E gL) (L ++ R).length kS gS hp' e1 e2 m' e3
  obtain ⟨N, hN⟩ : ∃ N, sdN E last = N := ⟨_, rfl⟩
  rw [hN] at hQ hT ⊢
  obtain ⟨G, hG⟩ : ∃ G, sgG E gL = G := ⟨_, rfl⟩
  rw [hG] at hQ hT ⊢
  obtain ⟨LL, hLL⟩ : ∃ LL, L ++ R = LL := ⟨_, rfl⟩
  rw [hLL] at hQ hT ⊢
  unfold rfB at hQ hT ⊢
  simp only [go_sem, ↓reduceIte, Nat.reduceEqDiff, Nat.reduceBEq, Nat.reduceAdd, Nat.reduceLeDiff, Nat.reduceLT, reduceCtorEq, Nat.reduceMul, Nat.reduceSub, Int.reduceEq, Int.reduceLT, Int.reduceLE, Int.reduceToNat]
  refine vcCall.x (hQ _ (by unfold rfB at hr; (simp (disch := omega) only [ite_ne, hr, go_sem, ↓reduceIte, Nat.reduceEqDiff, Nat.reduceBEq, Nat.reduceAdd, Nat.reduceLeDiff, Nat.reduceLT, reduceCtorEq, Nat.reduceMul, Nat.reduceSub, Int.reduceEq, Int.reduceLT, Int.reduceLE, Int.reduceToNat])) (by (simp (disch := omega) only [ite_ne, hk, go_sem, ↓reduceIte, Nat.reduceEqDiff, Nat.reduceBEq, Nat.reduceAdd, Nat.reduceLeDiff, Nat.reduceLT, reduceCtorEq, Nat.reduceMul, Nat.reduceSub, Int.reduceEq, Int.reduceLT, Int.reduceLE, Int.reduceToNat])) (by (simp (disch := omega) only [ite_ne, hv, go_sem, ↓reduceIte, Nat.reduceEqDiff, Nat.reduceBEq, Nat.reduceAdd, Nat.reduceLeDiff, Nat.reduceLT, reduceCtorEq, Nat.reduceMul, Nat.reduceSub, Int.reduceEq, Int.reduceLT, Int.reduceLE, Int.reduceToNat])) _) ?_
  simp only [List.cons_append, List.nil_append]
  by_cases hE0 : E = 0
  · have x1 : sgG E gS = gS + 1 := by simp [sgG, hE0]
    rw [x1, if_pos hE0]
    simp (disch := omega) only [ite_ne, decide_eq_true hE0, go_sem, ↓reduceIte, Nat.reduceEqDiff, Nat.reduceBEq, Nat.reduceAdd, Nat.reduceLeDiff, Nat.reduceLT, reduceCtorEq, Nat.reduceMul, Nat.reduceSub, Int.reduceEq, Int.reduceLT, Int.reduceLE, Int.reduceToNat]
    refine vcCall.x (hT _ (by (simp (disch := omega) only [ite_ne, hne, hnl, go_sem, ↓reduceIte, Nat.reduceEqDiff, Nat.reduceBEq, Nat.reduceAdd, Nat.reduceLeDiff, Nat.reduceLT, reduceCtorEq, Nat.reduceMul, Nat.reduceSub, Int.reduceEq, Int.reduceLT, Int.reduceLE, Int.reduceToNat])) (by (simp (disch := omega) only [ite_ne, hv, hne, hnl, hkv, hne', hnl', hkv', go_sem, ↓reduceIte, Nat.reduceEqDiff, Nat.reduceBEq, Nat.reduceAdd, Nat.reduceLeDiff, Nat.reduceLT, reduceCtorEq, Nat.reduceMul, Nat.reduceSub, Int.reduceEq, Int.reduceLT, Int.reduceLE, Int.reduceToNat])) _ (by omega)) ?_
    simp only [List.cons_append, List.nil_append]
    simp only [go_sem, ↓reduceIte, Nat.reduceEqDiff, Nat.reduceBEq, Nat.reduceAdd, Nat.reduceLeDiff, Nat.reduceLT, reduceCtorEq, Nat.reduceMul, Nat.reduceSub, Int.reduceEq, Int.reduceLT, Int.reduceLE, Int.reduceToNat]
    refine up_ws3 hne hnl hkv ?_ ?_ ?_ (fun j h1 h2 h3 h4 => ?_)
    · (simp (disch := omega) only [ite_ne, hr, hk, hv, hne, hne', hnl, hnl', hkv, hkv', go_sem, ↓reduceIte, Nat.reduceEqDiff, Nat.reduceBEq, Nat.reduceAdd, Nat.reduceLeDiff, Nat.reduceLT, reduceCtorEq, Nat.reduceMul, Nat.reduceSub, Int.reduceEq, Int.reduceLT, Int.reduceLE, Int.reduceToNat])
    · (simp (disch := omega) only [ite_ne, hr, hk, hv, hne, hne', hnl, hnl', hkv, hkv', go_sem, ↓reduceIte, Nat.reduceEqDiff, Nat.reduceBEq, Nat.reduceAdd, Nat.reduceLeDiff, Nat.reduceLT, reduceCtorEq, Nat.reduceMul, Nat.reduceSub, Int.reduceEq, Int.reduceLT, Int.reduceLE, Int.reduceToNat])
    · (simp (disch := omega) only [ite_ne, hr, hk, hv, hne, hne', hnl, hnl', hkv, hkv', go_sem, ↓reduceIte, Nat.reduceEqDiff, Nat.reduceBEq, Nat.reduceAdd, Nat.reduceLeDiff, Nat.reduceLT, reduceCtorEq, Nat.reduceMul, Nat.reduceSub, Int.reduceEq, Int.reduceLT, Int.reduceLE, Int.reduceToNat])
    · repeat rw [gc_ne _ _ (by omega)]
      try rfl
  · have x1 : sgG E gS = gS := by simp [sgG, hE0]
    rw [x1, if_neg hE0]
    simp (disch := omega) only [ite_ne, decide_eq_false hE0, go_sem, ↓reduceIte, Nat.reduceEqDiff, Nat.reduceBEq, Nat.reduceAdd, Nat.reduceLeDiff, Nat.reduceLT, reduceCtorEq, Nat.reduceMul, Nat.reduceSub, Int.reduceEq, Int.reduceLT, Int.reduceLE, Int.reduceToNat]
    refine up_ws3 hne hnl hkv ?_ ?_ ?_ (fun j h1 h2 h3 h4 => ?_)
    · (simp (disch := omega) only [ite_ne, hr, hk, hv, hne, hne', hnl, hnl', hkv, hkv', go_sem, ↓reduceIte, Nat.reduceEqDiff, Nat.reduceBEq, Nat.reduceAdd, Nat.reduceLeDiff, Nat.reduceLT, reduceCtorEq, Nat.reduceMul, Nat.reduceSub, Int.reduceEq, Int.reduceLT, Int.reduceLE, Int.reduceToNat])
    · (simp (disch := omega) only [ite_ne, hr, hk, hv, hne, hne', hnl, hnl', hkv, hkv', go_sem, ↓reduceIte, Nat.reduceEqDiff, Nat.reduceBEq, Nat.reduceAdd, Nat.reduceLeDiff, Nat.reduceLT, reduceCtorEq, Nat.reduceMul, Nat.reduceSub, Int.reduceEq, Int.reduceLT, Int.reduceLE, Int.reduceToNat])
    · (simp (disch := omega) only [ite_ne, hr, hk, hv, hne, hne', hnl, hnl', hkv, hkv', go_sem, ↓reduceIte, Nat.reduceEqDiff, Nat.reduceBEq, Nat.reduceAdd, Nat.reduceLeDiff, Nat.reduceLT, reduceCtorEq, Nat.reduceMul, Nat.reduceSub, Int.reduceEq, Int.reduceLT, Int.reduceLE, Int.reduceToNat])
    · repeat rw [gc_ne _ _ (by omega)]
      try rfl
end Go.Proofs.Ytdodiembhgjecaa
