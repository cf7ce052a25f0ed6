/-
  The parts PcCG of the proof, in one file. Conditions: none.
-/
import Derived.Test.YtpenniildabheaaPb50
namespace Go.Proofs.Ytpenniildabheaa
open Go.Eng
set_option linter.unusedVariables false
set_option linter.unusedSimpArgs false
set_option maxRecDepth 20000
set_option maxHeartbeats 2000000
section
variable (room h mi o : Int) (b : Bool) (L : List Ent) (hr : 1 ≤ room ∧ room ≤ 1024) (hl : (L.length : Int) ≤ 2000) (c kg g : Nat) (hp : CH) (hc : gc hp c = .bx [.i .i64 room, .rw kg g L.length, .i .i64 h, .i .i64 mi, .i .i64 o, .b b]) (hk : gc hp kg = .rw g 3 (mapC entC L)) (m : Nat)
include hl hr hc hk
theorem cgetN (t : ByteArray) (v : Int) (x : Ent) (hh : 0 ≤ h ∧ h ≤ 1000000) (hx : L[L.findIdx (qE t v)]? = some x) : Meets Try.prog 11 hp m [.bx c 0, .s t, .i .i64 v] (fun hp' n' r => ∃ q, m ≤ q ∧ PlV x.n q hp' ∧ FrV m (pcW c kg (g + 1) room (h + 1) mi o b (putL room ⟨t, v, x.n⟩ (tkE t v L)) ++ hp) hp' ∧ n' = q + 33 ∧ r = .tp [.rw (q + 32) 0 1, .b true]) := by
  have hne : c ≠ kg := fun e => by subst e; rw [hc] at hk; cases hk
  have hne' : ¬ kg = c := fun e => hne e.symm
  have hM := made_ok room _ c hp hc
  rw [decide_eq_true (by omega)] at hM
  have hi : fidx (qE t v) L 0 = (L.findIdx (qE t v) : Nat) := by
    have hlt := (List.getElem?_eq_some_iff.1 hx).1
    rcases fidx_find (qE t v) L 0 with ⟨h1, h2⟩ | ⟨h1, h2⟩
    · rw [h2, Nat.zero_add]
    · omega
  have hT := fun hp hc hk m => take_yes t v L (by omega) c kg g room h mi o b hp hc hk m (L.findIdx (qE t v)) x hi hx
  have hTl := tkE_len t v L
  have hTe : L.eraseIdx (L.findIdx (qE t v)) = tkE t v L := rfl
  rw [hTe] at hT
  obtain ⟨T, hTT⟩ : ∃ T, tkE t v L = T := ⟨_, rfl⟩
  rw [hTT] at hT hTl ⊢
  have hP := put_ok t v x.n T (by omega) c kg g room (h + 1) mi o (by omega) b
  have hC := cplV x.n
  have hw : IntKind.i64.wrap (h + 1) = h + 1 := wr64 (by omega)
  refine meetsN Try.func11 (by kernel_rfl) cc11 cr11 rfl fun hf => ?_; unfold ck11
  have hlt := bx_lt' hf hc
  have hlt2 := rw_lt hf hk
  obtain ⟨F, hF⟩ : ∃ F, putL room ⟨t, v, x.n⟩ T = F := ⟨_, rfl⟩
  rw [hF] at hP ⊢
  unfold pcW at hT hP ⊢
  simp (disch := omega) only [ite_ne, hc, go_sem, ↓reduceIte, Nat.reduceEqDiff, Nat.reduceBEq, Nat.reduceAdd, Nat.reduceLeDiff, Nat.reduceLT, reduceCtorEq, Nat.reduceMul, Nat.reduceSub, Int.reduceEq, Int.reduceLT, Int.reduceLE, Int.reduceToNat]
  refine vcCall.f (hM _) ?_
  simp (disch := omega) only [ite_ne, hc, go_sem, ↓reduceIte, Nat.reduceEqDiff, Nat.reduceBEq, Nat.reduceAdd, Nat.reduceLeDiff, Nat.reduceLT, reduceCtorEq, Nat.reduceMul, Nat.reduceSub, Int.reduceEq, Int.reduceLT, Int.reduceLE, Int.reduceToNat]
  refine dCallR.w (ws := [(c, .bx [.i .i64 room, .rw kg g T.length, .i .i64 h, .i .i64 mi, .i .i64 o, .b b]), (kg, .rw g 3 (mapC entC T))]) ?_ rfl (fun hp' e => hT hp' ((e c (.inl (by omega))).trans (by (simp (disch := omega) only [ite_ne, hc, go_sem, ↓reduceIte, Nat.reduceEqDiff, Nat.reduceBEq, Nat.reduceAdd, Nat.reduceLeDiff, Nat.reduceLT, reduceCtorEq, Nat.reduceMul, Nat.reduceSub, Int.reduceEq, Int.reduceLT, Int.reduceLE, Int.reduceToNat]))) ((e kg (.inl (by omega))).trans (by (simp (disch := omega) only [ite_ne, hk, go_sem, ↓reduceIte, Nat.reduceEqDiff, Nat.reduceBEq, Nat.reduceAdd, Nat.reduceLeDiff, Nat.reduceLT, reduceCtorEq, Nat.reduceMul, Nat.reduceSub, Int.reduceEq, Int.reduceLT, Int.reduceLE, Int.reduceToNat]))) _) ?_
  · simp (disch := omega) only [ite_ne, hc, hk, keys, List.map_cons, List.map_nil, hlt, hlt2, go_sem, ↓reduceIte, Nat.reduceEqDiff, Nat.reduceBEq, Nat.reduceAdd, Nat.reduceLeDiff, Nat.reduceLT, reduceCtorEq, Nat.reduceMul, Nat.reduceSub, Int.reduceEq, Int.reduceLT, Int.reduceLE, Int.reduceToNat]
    simp
  simp (disch := omega) only [ite_ne, hc, hk, hw, hne, hne', List.cons_append, List.nil_append, go_sem, ↓reduceIte, Nat.reduceEqDiff, Nat.reduceBEq, Nat.reduceAdd, Nat.reduceLeDiff, Nat.reduceLT, reduceCtorEq, Nat.reduceMul, Nat.reduceSub, Int.reduceEq, Int.reduceLT, Int.reduceLE, Int.reduceToNat]
  refine dCallR.w (ws := [(c, .bx [.i .i64 room, .rw kg (g + 1) F.length, .i .i64 (h + 1), .i .i64 mi, .i .i64 o, .b b]), (kg, .rw (g + 1) 3 (mapC entC F))]) ?_ rfl (fun hp' e => hP hp' ((e c (.inl (by omega))).trans (by (simp (disch := omega) only [ite_ne, hc, hk, hne, hne', go_sem, ↓reduceIte, Nat.reduceEqDiff, Nat.reduceBEq, Nat.reduceAdd, Nat.reduceLeDiff, Nat.reduceLT, reduceCtorEq, Nat.reduceMul, Nat.reduceSub, Int.reduceEq, Int.reduceLT, Int.reduceLE, Int.reduceToNat]))) ((e kg (.inl (by omega))).trans (by (simp (disch := omega) only [ite_ne, hc, hk, hne, hne', go_sem, ↓reduceIte, Nat.reduceEqDiff, Nat.reduceBEq, Nat.reduceAdd, Nat.reduceLeDiff, Nat.reduceLT, reduceCtorEq, Nat.reduceMul, Nat.reduceSub, Int.reduceEq, Int.reduceLT, Int.reduceLE, Int.reduceToNat]))) _) ?_
  · simp (disch := omega) only [ite_ne, hc, hk, hne, hne', keys, List.map_cons, List.map_nil, hlt, hlt2, go_sem, ↓reduceIte, Nat.reduceEqDiff, Nat.reduceBEq, Nat.reduceAdd, Nat.reduceLeDiff, Nat.reduceLT, reduceCtorEq, Nat.reduceMul, Nat.reduceSub, Int.reduceEq, Int.reduceLT, Int.reduceLE, Int.reduceToNat]
    simp
  simp (disch := omega) only [ite_ne, hc, hk, hw, hne, hne', List.cons_append, List.nil_append, go_sem, ↓reduceIte, Nat.reduceEqDiff, Nat.reduceBEq, Nat.reduceAdd, Nat.reduceLeDiff, Nat.reduceLT, reduceCtorEq, Nat.reduceMul, Nat.reduceSub, Int.reduceEq, Int.reduceLT, Int.reduceLE, Int.reduceToNat]
  refine vcCall.r (hC _ _) fun hp' n' r ⟨⟨e1, e0⟩, e2, e3⟩ => ?_
  subst e2
  subst e3
  simp (disch := omega) only [ite_ne, go_sem, ↓reduceIte, Nat.reduceEqDiff, Nat.reduceBEq, Nat.reduceAdd, Nat.reduceLeDiff, Nat.reduceLT, reduceCtorEq, Nat.reduceMul, Nat.reduceSub, Int.reduceEq, Int.reduceLT, Int.reduceLE, Int.reduceToNat]
  refine ⟨_, ?_, e1, fun k hk => (e0 k (by omega)).trans ?_, rfl, rfl⟩
  · omega
  · have nm : ¬ m = k := Nat.ne_of_gt hk
    by_cases q1 : c = k
    · subst q1
      simp (disch := omega) only [ite_ne, hne, hne', hc, hk, go_sem, ↓reduceIte, Nat.reduceEqDiff, Nat.reduceBEq, Nat.reduceAdd, Nat.reduceLeDiff, Nat.reduceLT, reduceCtorEq, Nat.reduceMul, Nat.reduceSub, Int.reduceEq, Int.reduceLT, Int.reduceLE, Int.reduceToNat]
    · by_cases q2 : kg = k
      · subst q2
        simp (disch := omega) only [ite_ne, hne, hne', hc, hk, go_sem, ↓reduceIte, Nat.reduceEqDiff, Nat.reduceBEq, Nat.reduceAdd, Nat.reduceLeDiff, Nat.reduceLT, reduceCtorEq, Nat.reduceMul, Nat.reduceSub, Int.reduceEq, Int.reduceLT, Int.reduceLE, Int.reduceToNat]
      · repeat rw [gc_ne _ _ (by first | omega | assumption)]
end
end Go.Proofs.Ytpenniildabheaa
