/-
  The parts PcCE of the proof, in one file. Conditions: none.
-/
import Derived.Test.YtpenniildabheaaPb48
namespace Go.Proofs.Ytpenniildabheaa
open Go.Eng
set_option linter.unusedVariables false
set_option linter.unusedSimpArgs false
set_option maxRecDepth 20000
set_option maxHeartbeats 2000000
section
variable (room h mi o : Int) (b : Bool) (L : List Ent) (hr : 1 ≤ room ∧ room ≤ 1024) (hl : (L.length : Int) ≤ 2000) (c kg g : Nat) (hp : CH) (hc : gc hp c = .bx [.i .i64 room, .rw kg g L.length, .i .i64 h, .i .i64 mi, .i .i64 o, .b b]) (hk : gc hp kg = .rw g 3 (mapC entC L)) (m : Nat)
include hl hr hc hk
theorem cputN (t : ByteArray) (v x : Int) (A gA : Nat) (hC : (∀ k, m ≤ k → gc hp k = .no) → ∀ hp' m', (∀ k, k < m → gc hp' k = gc hp k) → MeetsF Try.prog 29 hp' m' [.rw A gA 1] (.ds [planC x])) (hok : b = false ∨ o ≤ v) : MeetsX Try.prog 9 hp m [.bx c 0, .s t, .i .i64 v, .rw A gA 1] (pcW c kg (g + 1) room h mi o b (putL room ⟨t, v, x⟩ L) ++ hp) m (.i .i64 0) := by
  have hne : c ≠ kg := fun e => by subst e; rw [hc] at hk; cases hk
  have hne' : ¬ kg = c := fun e => hne e.symm
  have hM := made_ok room _ c hp hc
  rw [decide_eq_true (by omega)] at hM
  have hP := put_ok t v x L (by omega) c kg g room h mi o (by omega) b
  have hWS := pcW_lt (n := m) (c := c) (kg := kg) (g := g + 1) (room := room) (h := h) (mi := mi) (o := o) (b := b) (L := putL room ⟨t, v, x⟩ L) hc hk
  refine meetsW Try.func9 (by kernel_rfl) cc9 cr9 rfl hWS fun hf => ?_; unfold ck9
  have hC := hC hf
  have hlt := bx_lt' hf hc
  have hlt2 := rw_lt hf hk
  obtain ⟨F, hF⟩ : ∃ F, putL room ⟨t, v, x⟩ L = F := ⟨_, rfl⟩
  rw [hF] at hP ⊢
  unfold pcW at hP ⊢
  simp (disch := omega) only [ite_ne, hc, go_sem, ↓reduceIte, Nat.reduceEqDiff, Nat.reduceBEq, Nat.reduceAdd, Nat.reduceLeDiff, Nat.reduceLT, reduceCtorEq, Nat.reduceMul, Nat.reduceSub, Int.reduceEq, Int.reduceLT, Int.reduceLE, Int.reduceToNat]
  refine vcCall.f (hM _) ?_
  simp (disch := omega) only [ite_ne, hc, go_sem, ↓reduceIte, Nat.reduceEqDiff, Nat.reduceBEq, Nat.reduceAdd, Nat.reduceLeDiff, Nat.reduceLT, reduceCtorEq, Nat.reduceMul, Nat.reduceSub, Int.reduceEq, Int.reduceLT, Int.reduceLE, Int.reduceToNat]
  have fin : b = true → decide (v < o) = false := fun e => by
    rcases hok with q | q
    · rw [e] at q; cases q
    · exact decide_eq_false (by omega)
  cases b
  · simp (disch := omega) only [ite_ne, hc, go_sem, ↓reduceIte, Nat.reduceEqDiff, Nat.reduceBEq, Nat.reduceAdd, Nat.reduceLeDiff, Nat.reduceLT, reduceCtorEq, Nat.reduceMul, Nat.reduceSub, Int.reduceEq, Int.reduceLT, Int.reduceLE, Int.reduceToNat]
    refine dCallR.f (fun _ hp' e => hC _ _ (fun k q => (e k (.inl (by omega))).trans (by first | rfl | ((simp (disch := omega) only [ite_ne, hc, go_sem, ↓reduceIte, Nat.reduceEqDiff, Nat.reduceBEq, Nat.reduceAdd, Nat.reduceLeDiff, Nat.reduceLT, reduceCtorEq, Nat.reduceMul, Nat.reduceSub, Int.reduceEq, Int.reduceLT, Int.reduceLE, Int.reduceToNat]))))) ?_
    simp (disch := omega) only [ite_ne, hc, go_sem, ↓reduceIte, Nat.reduceEqDiff, Nat.reduceBEq, Nat.reduceAdd, Nat.reduceLeDiff, Nat.reduceLT, reduceCtorEq, Nat.reduceMul, Nat.reduceSub, Int.reduceEq, Int.reduceLT, Int.reduceLE, Int.reduceToNat]
    refine dCallR.w (ws := [(c, .bx [.i .i64 room, .rw kg (g + 1) F.length, .i .i64 h, .i .i64 mi, .i .i64 o, .b false]), (kg, .rw (g + 1) 3 (mapC entC F))]) ?_ rfl (fun hp' e => hP hp' ((e c (.inl (by omega))).trans (by (simp (disch := omega) only [ite_ne, hc, hk, hne, hne', go_sem, ↓reduceIte, Nat.reduceEqDiff, Nat.reduceBEq, Nat.reduceAdd, Nat.reduceLeDiff, Nat.reduceLT, reduceCtorEq, Nat.reduceMul, Nat.reduceSub, Int.reduceEq, Int.reduceLT, Int.reduceLE, Int.reduceToNat]))) ((e kg (.inl (by omega))).trans (by (simp (disch := omega) only [ite_ne, hc, hk, hne, hne', go_sem, ↓reduceIte, Nat.reduceEqDiff, Nat.reduceBEq, Nat.reduceAdd, Nat.reduceLeDiff, Nat.reduceLT, reduceCtorEq, Nat.reduceMul, Nat.reduceSub, Int.reduceEq, Int.reduceLT, Int.reduceLE, Int.reduceToNat]))) _) ?_
    · simp (disch := omega) only [ite_ne, hc, hk, hne, hne', keys, List.map_cons, List.map_nil, hlt, hlt2, go_sem, ↓reduceIte, Nat.reduceEqDiff, Nat.reduceBEq, Nat.reduceAdd, Nat.reduceLeDiff, Nat.reduceLT, reduceCtorEq, Nat.reduceMul, Nat.reduceSub, Int.reduceEq, Int.reduceLT, Int.reduceLE, Int.reduceToNat]
      try simp
    simp (disch := omega) only [ite_ne, hc, hk, hne, hne', List.cons_append, List.nil_append, go_sem, ↓reduceIte, Nat.reduceEqDiff, Nat.reduceBEq, Nat.reduceAdd, Nat.reduceLeDiff, Nat.reduceLT, reduceCtorEq, Nat.reduceMul, Nat.reduceSub, Int.reduceEq, Int.reduceLT, Int.reduceLE, Int.reduceToNat]
  · have fin := fin rfl
    simp (disch := omega) only [ite_ne, hc, fin, go_sem, ↓reduceIte, Nat.reduceEqDiff, Nat.reduceBEq, Nat.reduceAdd, Nat.reduceLeDiff, Nat.reduceLT, reduceCtorEq, Nat.reduceMul, Nat.reduceSub, Int.reduceEq, Int.reduceLT, Int.reduceLE, Int.reduceToNat]
    refine dCallR.f (fun _ hp' e => hC _ _ (fun k q => (e k (.inl (by omega))).trans (by first | rfl | ((simp (disch := omega) only [ite_ne, hc, go_sem, ↓reduceIte, Nat.reduceEqDiff, Nat.reduceBEq, Nat.reduceAdd, Nat.reduceLeDiff, Nat.reduceLT, reduceCtorEq, Nat.reduceMul, Nat.reduceSub, Int.reduceEq, Int.reduceLT, Int.reduceLE, Int.reduceToNat]))))) ?_
    simp (disch := omega) only [ite_ne, hc, go_sem, ↓reduceIte, Nat.reduceEqDiff, Nat.reduceBEq, Nat.reduceAdd, Nat.reduceLeDiff, Nat.reduceLT, reduceCtorEq, Nat.reduceMul, Nat.reduceSub, Int.reduceEq, Int.reduceLT, Int.reduceLE, Int.reduceToNat]
    refine dCallR.w (ws := [(c, .bx [.i .i64 room, .rw kg (g + 1) F.length, .i .i64 h, .i .i64 mi, .i .i64 o, .b true]), (kg, .rw (g + 1) 3 (mapC entC F))]) ?_ rfl (fun hp' e => hP hp' ((e c (.inl (by omega))).trans (by (simp (disch := omega) only [ite_ne, hc, hk, hne, hne', go_sem, ↓reduceIte, Nat.reduceEqDiff, Nat.reduceBEq, Nat.reduceAdd, Nat.reduceLeDiff, Nat.reduceLT, reduceCtorEq, Nat.reduceMul, Nat.reduceSub, Int.reduceEq, Int.reduceLT, Int.reduceLE, Int.reduceToNat]))) ((e kg (.inl (by omega))).trans (by (simp (disch := omega) only [ite_ne, hc, hk, hne, hne', go_sem, ↓reduceIte, Nat.reduceEqDiff, Nat.reduceBEq, Nat.reduceAdd, Nat.reduceLeDiff, Nat.reduceLT, reduceCtorEq, Nat.reduceMul, Nat.reduceSub, Int.reduceEq, Int.reduceLT, Int.reduceLE, Int.reduceToNat]))) _) ?_
    · simp (disch := omega) only [ite_ne, hc, hk, hne, hne', keys, List.map_cons, List.map_nil, hlt, hlt2, go_sem, ↓reduceIte, Nat.reduceEqDiff, Nat.reduceBEq, Nat.reduceAdd, Nat.reduceLeDiff, Nat.reduceLT, reduceCtorEq, Nat.reduceMul, Nat.reduceSub, Int.reduceEq, Int.reduceLT, Int.reduceLE, Int.reduceToNat]
      try simp
    simp (disch := omega) only [ite_ne, hc, hk, hne, hne', List.cons_append, List.nil_append, go_sem, ↓reduceIte, Nat.reduceEqDiff, Nat.reduceBEq, Nat.reduceAdd, Nat.reduceLeDiff, Nat.reduceLT, reduceCtorEq, Nat.reduceMul, Nat.reduceSub, Int.reduceEq, Int.reduceLT, Int.reduceLE, Int.reduceToNat]
end
theorem cpkR (hp : CH) (m : Nat) : MeetsX Try.prog 37 hp m [.ds [pkA]] (rowsAt m [(9, [pkA])] ++ hp) (m + 1) (.rw m 0 1) := by
  have hc := cloneI_ok [1] (by decide)
  have e1 : mapC in1 [1] = [[AV.i .i64 1]] := rfl
  rw [e1] at hc
  refine meetsOut (outs := [(9, [pkA])]) Try.func37 (by kernel_rfl) cc37 cr37 rfl fun hf => ?_; unfold ck37
  simp (disch := omega) only [ite_ne, List.length_cons, List.length_nil, go_sem, ↓reduceIte, Nat.reduceEqDiff, Nat.reduceBEq, Nat.reduceAdd, Nat.reduceLeDiff, Nat.reduceLT, reduceCtorEq, Nat.reduceMul, Nat.reduceSub, Int.reduceEq, Int.reduceLT, Int.reduceLE, Int.reduceToNat]
  refine loop (fun q : Nat × Nat => ⟨[(3, .rw m q.1 q.1), (9, .ds [pkA]), (10, .i .i64 1), (11, .i .i64 q.1)], (m, .rw q.1 9 ([pkA].take q.1)) :: hp, q.2⟩) (fun q => q.1 ≤ 1 ∧ m + 1 ≤ q.2) (fun q => 1 - q.1) (0, m + 1) ?_ ?_ (fun ⟨j, n⟩ hj => ?_)
  · exact ⟨by simp, by simp⟩
  · refine (weak_e0 (t := 3) (m := 9) ?_).trans (weak_ok ?_ (Sub.cons ?_ (Sub.base hf ?_)) (Nat.le_refl _))
    all_goals (simp (disch := omega) only [ite_ne, go_sem, ↓reduceIte, Nat.reduceEqDiff, Nat.reduceBEq, Nat.reduceAdd, Nat.reduceLeDiff, Nat.reduceLT, reduceCtorEq, Nat.reduceMul, Nat.reduceSub, Int.reduceEq, Int.reduceLT, Int.reduceLE, Int.reduceToNat])
    all_goals rfl
  dsimp only at hj
  obtain ⟨hj1, hj2⟩ := hj
  have hmn : m ≤ n := by omega
  match j, hj1 with
  | 0, _ =>
    have hg : ([pkA] : List (List AV))[0]? = some pkA := rfl
    simp (disch := omega) only [ite_ne, List.take_zero, getK_s hg, go_sem, ↓reduceIte, Nat.reduceEqDiff, Nat.reduceBEq, Nat.reduceAdd, Nat.reduceLeDiff, Nat.reduceLT, reduceCtorEq, Nat.reduceMul, Nat.reduceSub, Int.reduceEq, Int.reduceLT, Int.reduceLE, Int.reduceToNat]
    simp only [pkA]
    simp (disch := omega) only [ite_ne, List.take_zero, getK_s hg, go_sem, ↓reduceIte, Nat.reduceEqDiff, Nat.reduceBEq, Nat.reduceAdd, Nat.reduceLeDiff, Nat.reduceLT, reduceCtorEq, Nat.reduceMul, Nat.reduceSub, Int.reduceEq, Int.reduceLT, Int.reduceLE, Int.reduceToNat]
    refine vcCall.f (hc _ _) ?_
    simp (disch := omega) only [ite_ne, go_sem, ↓reduceIte, Nat.reduceEqDiff, Nat.reduceBEq, Nat.reduceAdd, Nat.reduceLeDiff, Nat.reduceLT, reduceCtorEq, Nat.reduceMul, Nat.reduceSub, Int.reduceEq, Int.reduceLT, Int.reduceLE, Int.reduceToNat]
    refine loop0 ?_
    simp (disch := omega) only [ite_ne, go_sem, ↓reduceIte, Nat.reduceEqDiff, Nat.reduceBEq, Nat.reduceAdd, Nat.reduceLeDiff, Nat.reduceLT, reduceCtorEq, Nat.reduceMul, Nat.reduceSub, Int.reduceEq, Int.reduceLT, Int.reduceLE, Int.reduceToNat]
    refine vcCall.f (cpk0 _ _) ?_
    simp (disch := omega) only [ite_ne, List.length_cons, List.length_nil, go_sem, ↓reduceIte, Nat.reduceEqDiff, Nat.reduceBEq, Nat.reduceAdd, Nat.reduceLeDiff, Nat.reduceLT, reduceCtorEq, Nat.reduceMul, Nat.reduceSub, Int.reduceEq, Int.reduceLT, Int.reduceLE, Int.reduceToNat]
    refine ⟨(1, _), ⟨by dsimp only; omega, by dsimp only; omega⟩, by dsimp only; omega, weak_ok ?_ (Sub.cons ?_ (Sub.base hf ?_)) (Nat.le_refl _)⟩
    all_goals try simp only [pkA]
    all_goals (simp (disch := omega) only [ite_ne, hmn, go_sem, ↓reduceIte, Nat.reduceEqDiff, Nat.reduceBEq, Nat.reduceAdd, Nat.reduceLeDiff, Nat.reduceLT, reduceCtorEq, Nat.reduceMul, Nat.reduceSub, Int.reduceEq, Int.reduceLT, Int.reduceLE, Int.reduceToNat])
    all_goals rfl
  | 1, _ =>
    simp only [pkA]
    simp (disch := omega) only [ite_ne, go_sem, ↓reduceIte, Nat.reduceEqDiff, Nat.reduceBEq, Nat.reduceAdd, Nat.reduceLeDiff, Nat.reduceLT, reduceCtorEq, Nat.reduceMul, Nat.reduceSub, Int.reduceEq, Int.reduceLT, Int.reduceLE, Int.reduceToNat]
    try rfl
end Go.Proofs.Ytpenniildabheaa
