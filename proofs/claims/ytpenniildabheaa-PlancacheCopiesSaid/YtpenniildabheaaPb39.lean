/-
  The parts PcL of the proof, in one file. Conditions: none.
-/
import Derived.Test.YtpenniildabheaaPb38
namespace Go.Proofs.Ytpenniildabheaa
open Go.Eng
set_option linter.unusedVariables false
set_option linter.unusedSimpArgs false
set_option maxRecDepth 20000
set_option maxHeartbeats 2000000
theorem putL_len {room : Int} (hr : 1 ≤ room) (e : Ent) (L : List Ent) (hL : (L.length : Int) ≤ room) : ((putL room e L).length : Int) ≤ room ∧ (putL room e L).length ≤ L.length + 1 := by
  have h1 := tkE_len e.t e.v L
  unfold putL
  split
  · rw [List.length_cons, List.length_take]; omega
  · rw [List.length_cons]; omega
section
variable (room h mi o : Int) (b : Bool) (L : List Ent) (hr : 1 ≤ room ∧ room ≤ 1024) (hl : (L.length : Int) ≤ 2000) (c kg g : Nat) (hp : CH) (hc : gc hp c = .bx [.i .i64 room, .rw kg g L.length, .i .i64 h, .i .i64 mi, .i .i64 o, .b b]) (hk : gc hp kg = .rw g 3 (mapC entC L)) (m : Nat)
include hl hr hc hk
theorem cget_no (t : ByteArray) (v : Int) (hmi : 0 ≤ mi ∧ mi ≤ 1000000) (hno : L.findIdx (qE t v) = L.length) : MeetsX Try.prog 11 hp m [.bx c 0, .s t, .i .i64 v] (pcW c kg g room h (mi + 1) o b L ++ hp) m (.tp [.ds [], .b false]) := by
  have hne : c ≠ kg := fun e => by subst e; rw [hc] at hk; cases hk
  have hne' : ¬ kg = c := fun e => hne e.symm
  have hM := made_ok room _ c hp hc
  rw [decide_eq_true (by omega)] at hM
  have hT := take_no t v L (by omega) c kg g [.i .i64 h, .i .i64 mi, .i .i64 o, .b b] room
  have hno2 : fidx (qE t v) L 0 = -1 := by
    rcases fidx_find (qE t v) L 0 with ⟨h1, h2⟩ | ⟨h1, h2⟩
    · omega
    · exact h2
  have hw : IntKind.i64.wrap (mi + 1) = mi + 1 := wr64 (by omega)
  have hWS := pcW_lt (n := m) (c := c) (kg := kg) (g := g) (room := room) (h := h) (mi := mi + 1) (o := o) (b := b) (L := L) hc hk
  refine meetsW Try.func11 (by kernel_rfl) cc11 cr11 rfl hWS fun hf => ?_; unfold ck11
  have hlt := bx_lt' hf hc
  have hlt2 := rw_lt hf hk
  unfold pcW
  simp (disch := omega) only [ite_ne, hc, go_sem, ↓reduceIte, Nat.reduceEqDiff, Nat.reduceBEq, Nat.reduceAdd, Nat.reduceLeDiff, Nat.reduceLT, reduceCtorEq, Nat.reduceMul, Nat.reduceSub, Int.reduceEq, Int.reduceLT, Int.reduceLE, Int.reduceToNat]
  refine vcCall.f (hM _) ?_
  simp (disch := omega) only [ite_ne, hc, go_sem, ↓reduceIte, Nat.reduceEqDiff, Nat.reduceBEq, Nat.reduceAdd, Nat.reduceLeDiff, Nat.reduceLT, reduceCtorEq, Nat.reduceMul, Nat.reduceSub, Int.reduceEq, Int.reduceLT, Int.reduceLE, Int.reduceToNat]
  refine dCallR.f (fun _ hp' e => hT hp' ((e c (.inl (by omega))).trans (by (simp (disch := omega) only [ite_ne, hc, go_sem, ↓reduceIte, Nat.reduceEqDiff, Nat.reduceBEq, Nat.reduceAdd, Nat.reduceLeDiff, Nat.reduceLT, reduceCtorEq, Nat.reduceMul, Nat.reduceSub, Int.reduceEq, Int.reduceLT, Int.reduceLE, Int.reduceToNat]))) ((e kg (.inl (by omega))).trans (by (simp (disch := omega) only [ite_ne, hk, go_sem, ↓reduceIte, Nat.reduceEqDiff, Nat.reduceBEq, Nat.reduceAdd, Nat.reduceLeDiff, Nat.reduceLT, reduceCtorEq, Nat.reduceMul, Nat.reduceSub, Int.reduceEq, Int.reduceLT, Int.reduceLE, Int.reduceToNat]))) _ hno2) ?_
  simp (disch := omega) only [ite_ne, hc, hw, go_sem, ↓reduceIte, Nat.reduceEqDiff, Nat.reduceBEq, Nat.reduceAdd, Nat.reduceLeDiff, Nat.reduceLT, reduceCtorEq, Nat.reduceMul, Nat.reduceSub, Int.reduceEq, Int.reduceLT, Int.reduceLE, Int.reduceToNat]
  refine up_ws2 hne ?_ ?_ (fun j h1 h2 h3 => ?_)
  · first | ((simp (disch := omega) only [ite_ne, hc, hk, hne, hne', go_sem, ↓reduceIte, Nat.reduceEqDiff, Nat.reduceBEq, Nat.reduceAdd, Nat.reduceLeDiff, Nat.reduceLT, reduceCtorEq, Nat.reduceMul, Nat.reduceSub, Int.reduceEq, Int.reduceLT, Int.reduceLE, Int.reduceToNat]); done) | (simp only [gc]; (simp (disch := omega) only [ite_ne, hc, hk, hne, hne', go_sem, ↓reduceIte, Nat.reduceEqDiff, Nat.reduceBEq, Nat.reduceAdd, Nat.reduceLeDiff, Nat.reduceLT, reduceCtorEq, Nat.reduceMul, Nat.reduceSub, Int.reduceEq, Int.reduceLT, Int.reduceLE, Int.reduceToNat]))
  · first | ((simp (disch := omega) only [ite_ne, hc, hk, hne, hne', go_sem, ↓reduceIte, Nat.reduceEqDiff, Nat.reduceBEq, Nat.reduceAdd, Nat.reduceLeDiff, Nat.reduceLT, reduceCtorEq, Nat.reduceMul, Nat.reduceSub, Int.reduceEq, Int.reduceLT, Int.reduceLE, Int.reduceToNat]); done) | (simp only [gc]; (simp (disch := omega) only [ite_ne, hc, hk, hne, hne', go_sem, ↓reduceIte, Nat.reduceEqDiff, Nat.reduceBEq, Nat.reduceAdd, Nat.reduceLeDiff, Nat.reduceLT, reduceCtorEq, Nat.reduceMul, Nat.reduceSub, Int.reduceEq, Int.reduceLT, Int.reduceLE, Int.reduceToNat]))
  · first | rfl | (repeat rw [gc_ne _ _ (by omega)])
theorem cget_yes (t : ByteArray) (v : Int) (x : Ent) (hh : 0 ≤ h ∧ h ≤ 1000000) (hx : L[L.findIdx (qE t v)]? = some x) : MeetsX Try.prog 11 hp m [.bx c 0, .s t, .i .i64 v] (pcW c kg (g + 1) room (h + 1) mi o b (putL room ⟨t, v, x.n⟩ (tkE t v L)) ++ hp) m (.tp [.ds [planC x.n], .b true]) := by
  have hne : c ≠ kg := fun e => by subst e; rw [hc] at hk; cases hk
  have hne' : ¬ kg = c := fun e => hne e.symm
  have hM := made_ok room _ c hp hc
  rw [decide_eq_true (by omega)] at hM
  have hi : fidx (qE t v) L 0 = (L.findIdx (qE t v) : Nat) := by
    have hlt := (List.getElem?_eq_some_iff.1 hx).1
    rcases fidx_find (qE t v) L 0 with ⟨h1, h2⟩ | ⟨h1, h2⟩
    · rw [h2, Nat.zero_add]
    · omega
  have hT := fun hp hc hk m => take_yes t v L (by omega) c kg g room h mi o b hp hc hk m (L.findIdx (qE t v)) x hi hx
  have hTl := tkE_len t v L
  have hTe : L.eraseIdx (L.findIdx (qE t v)) = tkE t v L := rfl
  rw [hTe] at hT
  obtain ⟨T, hTT⟩ : ∃ T, tkE t v L = T := ⟨_, rfl⟩
  rw [hTT] at hT hTl ⊢
  have hP := put_ok t v x.n T (by omega) c kg g room (h + 1) mi o (by omega) b
  have hC := cpl1 x.n
  have hw : IntKind.i64.wrap (h + 1) = h + 1 := wr64 (by omega)
  have hWS := pcW_lt (n := m) (c := c) (kg := kg) (g := g + 1) (room := room) (h := h + 1) (mi := mi) (o := o) (b := b) (L := putL room ⟨t, v, x.n⟩ T) hc hk
  refine meetsW Try.func11 (by kernel_rfl) cc11 cr11 rfl hWS fun hf => ?_; unfold ck11
  have hlt := bx_lt' hf hc
  have hlt2 := rw_lt hf hk
  obtain ⟨F, hF⟩ : ∃ F, putL room ⟨t, v, x.n⟩ T = F := ⟨_, rfl⟩
  rw [hF] at hP ⊢
  unfold pcW at hT hP ⊢
  simp (disch := omega) only [ite_ne, hc, go_sem, ↓reduceIte, Nat.reduceEqDiff, Nat.reduceBEq, Nat.reduceAdd, Nat.reduceLeDiff, Nat.reduceLT, reduceCtorEq, Nat.reduceMul, Nat.reduceSub, Int.reduceEq, Int.reduceLT, Int.reduceLE, Int.reduceToNat]
  refine vcCall.f (hM _) ?_
  simp (disch := omega) only [ite_ne, hc, go_sem, ↓reduceIte, Nat.reduceEqDiff, Nat.reduceBEq, Nat.reduceAdd, Nat.reduceLeDiff, Nat.reduceLT, reduceCtorEq, Nat.reduceMul, Nat.reduceSub, Int.reduceEq, Int.reduceLT, Int.reduceLE, Int.reduceToNat]
  refine dCallR.w (ws := [(c, .bx [.i .i64 room, .rw kg g T.length, .i .i64 h, .i .i64 mi, .i .i64 o, .b b]), (kg, .rw g 3 (mapC entC T))]) ?_ rfl (fun hp' e => hT hp' ((e c (.inl (by omega))).trans (by (simp (disch := omega) only [ite_ne, hc, go_sem, ↓reduceIte, Nat.reduceEqDiff, Nat.reduceBEq, Nat.reduceAdd, Nat.reduceLeDiff, Nat.reduceLT, reduceCtorEq, Nat.reduceMul, Nat.reduceSub, Int.reduceEq, Int.reduceLT, Int.reduceLE, Int.reduceToNat]))) ((e kg (.inl (by omega))).trans (by (simp (disch := omega) only [ite_ne, hk, go_sem, ↓reduceIte, Nat.reduceEqDiff, Nat.reduceBEq, Nat.reduceAdd, Nat.reduceLeDiff, Nat.reduceLT, reduceCtorEq, Nat.reduceMul, Nat.reduceSub, Int.reduceEq, Int.reduceLT, Int.reduceLE, Int.reduceToNat]))) _) ?_
  · simp (disch := omega) only [ite_ne, hc, hk, keys, List.map_cons, List.map_nil, hlt, hlt2, go_sem, ↓reduceIte, Nat.reduceEqDiff, Nat.reduceBEq, Nat.reduceAdd, Nat.reduceLeDiff, Nat.reduceLT, reduceCtorEq, Nat.reduceMul, Nat.reduceSub, Int.reduceEq, Int.reduceLT, Int.reduceLE, Int.reduceToNat]
    simp
  simp (disch := omega) only [ite_ne, hc, hk, hw, hne, hne', List.cons_append, List.nil_append, go_sem, ↓reduceIte, Nat.reduceEqDiff, Nat.reduceBEq, Nat.reduceAdd, Nat.reduceLeDiff, Nat.reduceLT, reduceCtorEq, Nat.reduceMul, Nat.reduceSub, Int.reduceEq, Int.reduceLT, Int.reduceLE, Int.reduceToNat]
  refine dCallR.w (ws := [(c, .bx [.i .i64 room, .rw kg (g + 1) F.length, .i .i64 (h + 1), .i .i64 mi, .i .i64 o, .b b]), (kg, .rw (g + 1) 3 (mapC entC F))]) ?_ rfl (fun hp' e => hP hp' ((e c (.inl (by omega))).trans (by (simp (disch := omega) only [ite_ne, hc, hk, hne, hne', go_sem, ↓reduceIte, Nat.reduceEqDiff, Nat.reduceBEq, Nat.reduceAdd, Nat.reduceLeDiff, Nat.reduceLT, reduceCtorEq, Nat.reduceMul, Nat.reduceSub, Int.reduceEq, Int.reduceLT, Int.reduceLE, Int.reduceToNat]))) ((e kg (.inl (by omega))).trans (by (simp (disch := omega) only [ite_ne, hc, hk, hne, hne', go_sem, ↓reduceIte, Nat.reduceEqDiff, Nat.reduceBEq, Nat.reduceAdd, Nat.reduceLeDiff, Nat.reduceLT, reduceCtorEq, Nat.reduceMul, Nat.reduceSub, Int.reduceEq, Int.reduceLT, Int.reduceLE, Int.reduceToNat]))) _) ?_
  · simp (disch := omega) only [ite_ne, hc, hk, hne, hne', keys, List.map_cons, List.map_nil, hlt, hlt2, go_sem, ↓reduceIte, Nat.reduceEqDiff, Nat.reduceBEq, Nat.reduceAdd, Nat.reduceLeDiff, Nat.reduceLT, reduceCtorEq, Nat.reduceMul, Nat.reduceSub, Int.reduceEq, Int.reduceLT, Int.reduceLE, Int.reduceToNat]
    simp
  simp (disch := omega) only [ite_ne, hc, hk, hw, hne, hne', List.cons_append, List.nil_append, go_sem, ↓reduceIte, Nat.reduceEqDiff, Nat.reduceBEq, Nat.reduceAdd, Nat.reduceLeDiff, Nat.reduceLT, reduceCtorEq, Nat.reduceMul, Nat.reduceSub, Int.reduceEq, Int.reduceLT, Int.reduceLE, Int.reduceToNat]
  refine vcCall.f (hC _ _) ?_
  simp (disch := omega) only [ite_ne, hc, hk, hw, hne, hne', List.cons_append, List.nil_append, go_sem, ↓reduceIte, Nat.reduceEqDiff, Nat.reduceBEq, Nat.reduceAdd, Nat.reduceLeDiff, Nat.reduceLT, reduceCtorEq, Nat.reduceMul, Nat.reduceSub, Int.reduceEq, Int.reduceLT, Int.reduceLE, Int.reduceToNat]
  refine up_ws2 hne ?_ ?_ (fun j h1 h2 h3 => ?_)
  · first | ((simp (disch := omega) only [ite_ne, hc, hk, hne, hne', go_sem, ↓reduceIte, Nat.reduceEqDiff, Nat.reduceBEq, Nat.reduceAdd, Nat.reduceLeDiff, Nat.reduceLT, reduceCtorEq, Nat.reduceMul, Nat.reduceSub, Int.reduceEq, Int.reduceLT, Int.reduceLE, Int.reduceToNat]); done) | (simp only [gc]; (simp (disch := omega) only [ite_ne, hc, hk, hne, hne', go_sem, ↓reduceIte, Nat.reduceEqDiff, Nat.reduceBEq, Nat.reduceAdd, Nat.reduceLeDiff, Nat.reduceLT, reduceCtorEq, Nat.reduceMul, Nat.reduceSub, Int.reduceEq, Int.reduceLT, Int.reduceLE, Int.reduceToNat]))
  · first | ((simp (disch := omega) only [ite_ne, hc, hk, hne, hne', go_sem, ↓reduceIte, Nat.reduceEqDiff, Nat.reduceBEq, Nat.reduceAdd, Nat.reduceLeDiff, Nat.reduceLT, reduceCtorEq, Nat.reduceMul, Nat.reduceSub, Int.reduceEq, Int.reduceLT, Int.reduceLE, Int.reduceToNat]); done) | (simp only [gc]; (simp (disch := omega) only [ite_ne, hc, hk, hne, hne', go_sem, ↓reduceIte, Nat.reduceEqDiff, Nat.reduceBEq, Nat.reduceAdd, Nat.reduceLeDiff, Nat.reduceLT, reduceCtorEq, Nat.reduceMul, Nat.reduceSub, Int.reduceEq, Int.reduceLT, Int.reduceLE, Int.reduceToNat]))
  · first | rfl | (repeat rw [gc_ne _ _ (by omega)])
theorem cput_ok (t : ByteArray) (v x : Int) (hok : b = false ∨ o ≤ v) : MeetsX Try.prog 9 hp m [.bx c 0, .s t, .i .i64 v, .ds [planC x]] (pcW c kg (g + 1) room h mi o b (putL room ⟨t, v, x⟩ L) ++ hp) m (.i .i64 0) := by
  have hne : c ≠ kg := fun e => by subst e; rw [hc] at hk; cases hk
  have hne' : ¬ kg = c := fun e => hne e.symm
  have hM := made_ok room _ c hp hc
  rw [decide_eq_true (by omega)] at hM
  have hP := put_ok t v x L (by omega) c kg g room h mi o (by omega) b
  have hC := cpl1 x
  have hWS := pcW_lt (n := m) (c := c) (kg := kg) (g := g + 1) (room := room) (h := h) (mi := mi) (o := o) (b := b) (L := putL room ⟨t, v, x⟩ L) hc hk
  refine meetsW Try.func9 (by kernel_rfl) cc9 cr9 rfl hWS fun hf => ?_; unfold ck9
  have hlt := bx_lt' hf hc
  have hlt2 := rw_lt hf hk
  obtain ⟨F, hF⟩ : ∃ F, putL room ⟨t, v, x⟩ L = F := ⟨_, rfl⟩
  rw [hF] at hP ⊢
  unfold pcW at hP ⊢
  simp (disch := omega) only [ite_ne, hc, go_sem, ↓reduceIte, Nat.reduceEqDiff, Nat.reduceBEq, Nat.reduceAdd, Nat.reduceLeDiff, Nat.reduceLT, reduceCtorEq, Nat.reduceMul, Nat.reduceSub, Int.reduceEq, Int.reduceLT, Int.reduceLE, Int.reduceToNat]
  refine vcCall.f (hM _) ?_
  simp (disch := omega) only [ite_ne, hc, go_sem, ↓reduceIte, Nat.reduceEqDiff, Nat.reduceBEq, Nat.reduceAdd, Nat.reduceLeDiff, Nat.reduceLT, reduceCtorEq, Nat.reduceMul, Nat.reduceSub, Int.reduceEq, Int.reduceLT, Int.reduceLE, Int.reduceToNat]
  have fin : b = true → decide (v < o) = false := fun e => by
    rcases hok with q | q
    · rw [e] at q; cases q
    · exact decide_eq_false (by omega)
  cases b
  · simp (disch := omega) only [ite_ne, hc, go_sem, ↓reduceIte, Nat.reduceEqDiff, Nat.reduceBEq, Nat.reduceAdd, Nat.reduceLeDiff, Nat.reduceLT, reduceCtorEq, Nat.reduceMul, Nat.reduceSub, Int.reduceEq, Int.reduceLT, Int.reduceLE, Int.reduceToNat]
    refine dCallR.f (fun _ hp' e => hC _ _) ?_
    simp (disch := omega) only [ite_ne, hc, go_sem, ↓reduceIte, Nat.reduceEqDiff, Nat.reduceBEq, Nat.reduceAdd, Nat.reduceLeDiff, Nat.reduceLT, reduceCtorEq, Nat.reduceMul, Nat.reduceSub, Int.reduceEq, Int.reduceLT, Int.reduceLE, Int.reduceToNat]
    refine dCallR.w (ws := [(c, .bx [.i .i64 room, .rw kg (g + 1) F.length, .i .i64 h, .i .i64 mi, .i .i64 o, .b false]), (kg, .rw (g + 1) 3 (mapC entC F))]) ?_ rfl (fun hp' e => hP hp' ((e c (.inl (by omega))).trans (by (simp (disch := omega) only [ite_ne, hc, hk, hne, hne', go_sem, ↓reduceIte, Nat.reduceEqDiff, Nat.reduceBEq, Nat.reduceAdd, Nat.reduceLeDiff, Nat.reduceLT, reduceCtorEq, Nat.reduceMul, Nat.reduceSub, Int.reduceEq, Int.reduceLT, Int.reduceLE, Int.reduceToNat]))) ((e kg (.inl (by omega))).trans (by (simp (disch := omega) only [ite_ne, hc, hk, hne, hne', go_sem, ↓reduceIte, Nat.reduceEqDiff, Nat.reduceBEq, Nat.reduceAdd, Nat.reduceLeDiff, Nat.reduceLT, reduceCtorEq, Nat.reduceMul, Nat.reduceSub, Int.reduceEq, Int.reduceLT, Int.reduceLE, Int.reduceToNat]))) _) ?_
    · simp (disch := omega) only [ite_ne, hc, hk, hne, hne', keys, List.map_cons, List.map_nil, hlt, hlt2, go_sem, ↓reduceIte, Nat.reduceEqDiff, Nat.reduceBEq, Nat.reduceAdd, Nat.reduceLeDiff, Nat.reduceLT, reduceCtorEq, Nat.reduceMul, Nat.reduceSub, Int.reduceEq, Int.reduceLT, Int.reduceLE, Int.reduceToNat]
      try simp
    simp (disch := omega) only [ite_ne, hc, hk, hne, hne', List.cons_append, List.nil_append, go_sem, ↓reduceIte, Nat.reduceEqDiff, Nat.reduceBEq, Nat.reduceAdd, Nat.reduceLeDiff, Nat.reduceLT, reduceCtorEq, Nat.reduceMul, Nat.reduceSub, Int.reduceEq, Int.reduceLT, Int.reduceLE, Int.reduceToNat]
  · have fin := fin rfl
    simp (disch := omega) only [ite_ne, hc, fin, go_sem, ↓reduceIte, Nat.reduceEqDiff, Nat.reduceBEq, Nat.reduceAdd, Nat.reduceLeDiff, Nat.reduceLT, reduceCtorEq, Nat.reduceMul, Nat.reduceSub, Int.reduceEq, Int.reduceLT, Int.reduceLE, Int.reduceToNat]
    refine dCallR.f (fun _ hp' e => hC _ _) ?_
    simp (disch := omega) only [ite_ne, hc, go_sem, ↓reduceIte, Nat.reduceEqDiff, Nat.reduceBEq, Nat.reduceAdd, Nat.reduceLeDiff, Nat.reduceLT, reduceCtorEq, Nat.reduceMul, Nat.reduceSub, Int.reduceEq, Int.reduceLT, Int.reduceLE, Int.reduceToNat]
    refine dCallR.w (ws := [(c, .bx [.i .i64 room, .rw kg (g + 1) F.length, .i .i64 h, .i .i64 mi, .i .i64 o, .b true]), (kg, .rw (g + 1) 3 (mapC entC F))]) ?_ rfl (fun hp' e => hP hp' ((e c (.inl (by omega))).trans (by (simp (disch := omega) only [ite_ne, hc, hk, hne, hne', go_sem, ↓reduceIte, Nat.reduceEqDiff, Nat.reduceBEq, Nat.reduceAdd, Nat.reduceLeDiff, Nat.reduceLT, reduceCtorEq, Nat.reduceMul, Nat.reduceSub, Int.reduceEq, Int.reduceLT, Int.reduceLE, Int.reduceToNat]))) ((e kg (.inl (by omega))).trans (by (simp (disch := omega) only [ite_ne, hc, hk, hne, hne', go_sem, ↓reduceIte, Nat.reduceEqDiff, Nat.reduceBEq, Nat.reduceAdd, Nat.reduceLeDiff, Nat.reduceLT, reduceCtorEq, Nat.reduceMul, Nat.reduceSub, Int.reduceEq, Int.reduceLT, Int.reduceLE, Int.reduceToNat]))) _) ?_
    · simp (disch := omega) only [ite_ne, hc, hk, hne, hne', keys, List.map_cons, List.map_nil, hlt, hlt2, go_sem, ↓reduceIte, Nat.reduceEqDiff, Nat.reduceBEq, Nat.reduceAdd, Nat.reduceLeDiff, Nat.reduceLT, reduceCtorEq, Nat.reduceMul, Nat.reduceSub, Int.reduceEq, Int.reduceLT, Int.reduceLE, Int.reduceToNat]
      try simp
    simp (disch := omega) only [ite_ne, hc, hk, hne, hne', List.cons_append, List.nil_append, go_sem, ↓reduceIte, Nat.reduceEqDiff, Nat.reduceBEq, Nat.reduceAdd, Nat.reduceLeDiff, Nat.reduceLT, reduceCtorEq, Nat.reduceMul, Nat.reduceSub, Int.reduceEq, Int.reduceLT, Int.reduceLE, Int.reduceToNat]
/-- What a cache keeps of entries, by their versions. -/
def drL (v : Int) (L : List Ent) : List Ent := L.filter fun x => !decide (x.v < v)
end
end Go.Proofs.Ytpenniildabheaa
