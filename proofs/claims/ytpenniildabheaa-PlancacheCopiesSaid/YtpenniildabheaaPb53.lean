/-
  The parts PcCH of the proof, in one file. Conditions: none.
-/
import Derived.Test.YtpenniildabheaaPb52
namespace Go.Eng
set_option linter.unusedVariables false
theorem SatH.rn {h : HP} {ρ : RO} {hp : CH} {n : Nat} {w : World} (m : SatH h ρ hp n w) {k g mm : Nat} {l : List (List AV)} (hk : gc hp k = .rw g mm l) : SatH h ρ ((k, .rn g mm l) :: hp) n w := by
  have sk := m.ch k
  rw [hk] at sk
  obtain ⟨ob, cap, h1, h2, h2', h3, h4, h5⟩ := sk
  refine m.recast (fun j e => by rw [hk]; exact e) (by rw [hk]; rfl) ⟨ob, cap, h1, h2, h2', h3, h4, fun b hb => ?_⟩
  obtain ⟨vs, ty, a1, a2, a3⟩ := h5 b hb
  refine ⟨vs, ty, a1, a2, fun j x q α q1 q2 => ?_⟩
  obtain ⟨u, z1, z2⟩ := a3 j x q α q1 q2
  exact ⟨u, z1, .pu _ _ z2⟩
theorem Meets.rn {P : Program} {f : FuncId} {hp : CH} {n : Nat} {args : List AV} {R : CH → Nat → AV → Prop} {k g mm : Nat} {l : List (List AV)} (hk : gc hp k = .rw g mm l) (m : Meets P f ((k, .rn g mm l) :: hp) n args R) : Meets P f hp n args R := by
  refine ⟨m.1, fun h ρ w vs hs ha => (m.2 h ρ w vs (hs.rn hk) ha).mono fun e w' ⟨v, he, h', ρ', hp', n', r, q1, q2, q3, q4, q5, q6, q7⟩ => ?_⟩
  have hl : ∀ b, live ρ ((k, .rn g mm l) :: hp) b → live ρ hp b := fun b => live_recast (hp := hp) (fun j e => by rw [hk]; exact e) b
  exact ⟨v, he, h', ρ', hp', n', r, q1, q2, q3, q4, q5, ⟨q6.os, q6.tape, q6.output, q6.size, fun b hb hX => q6.block b hb (fun z => hX (hl b z))⟩, fun b hb => (q7 b hb).imp (hl b) id⟩
end Go.Eng
namespace Go.Proofs.Ytpenniildabheaa
open Go.Eng
set_option linter.unusedVariables false
set_option linter.unusedSimpArgs false
set_option maxRecDepth 20000
set_option maxHeartbeats 4000000
theorem lawCopies (t : ByteArray) (v n : Int) (hp : CH) (m : Nat) : MeetsF Try.prog 4 hp m [.s t, .i .i64 v, .i .i64 n] (.b true) := by
  refine meetsF Try.func4 (by kernel_rfl) cc904 cr904 rfl fun hf => ?_; unfold ck904
  simp only [go_sem, ↓reduceIte, Nat.reduceEqDiff, Nat.reduceBEq, Nat.reduceAdd, Nat.reduceLeDiff, Nat.reduceLT, reduceCtorEq, Nat.reduceMul, Nat.reduceSub, Int.reduceEq, Int.reduceLT, Int.reduceLE, Int.reduceToNat]
  refine vcCall.r (new_ok 2 (by omega) _ _) fun hp' n' r ⟨e1, e2, e3⟩ => ?_
  subst e1
  subst e2
  subst e3
  simp only [go_sem, ↓reduceIte, Nat.reduceEqDiff, Nat.reduceBEq, Nat.reduceAdd, Nat.reduceLeDiff, Nat.reduceLT, reduceCtorEq, Nat.reduceMul, Nat.reduceSub, Int.reduceEq, Int.reduceLT, Int.reduceLE, Int.reduceToNat]
  refine wk_of (weak_b0 (cs := [.i .i64 2, .e0, .i .i64 0, .i .i64 0, .i .i64 0, .b false]) (c := m) (i := 1) (m := 3) (by (simp (disch := omega) only [ite_ne, go_sem, ↓reduceIte, Nat.reduceEqDiff, Nat.reduceBEq, Nat.reduceAdd, Nat.reduceLeDiff, Nat.reduceLT, reduceCtorEq, Nat.reduceMul, Nat.reduceSub, Int.reduceEq, Int.reduceLT, Int.reduceLE, Int.reduceToNat])) rfl) ?_
  simp only [List.set_cons_zero, List.set_cons_succ]
  simp (disch := omega) only [ite_ne, go_sem, ↓reduceIte, Nat.reduceEqDiff, Nat.reduceBEq, Nat.reduceAdd, Nat.reduceLeDiff, Nat.reduceLT, reduceCtorEq, Nat.reduceMul, Nat.reduceSub, Int.reduceEq, Int.reduceLT, Int.reduceLE, Int.reduceToNat]
  refine vcCall.r (plansN n _ _) fun hp' n' r ⟨e1, e2, e3⟩ => ?_
  subst e1
  subst e2
  subst e3
  unfold plL
  simp only [List.cons_append, List.nil_append]
  simp (disch := omega) only [ite_ne, go_sem, ↓reduceIte, Nat.reduceEqDiff, Nat.reduceBEq, Nat.reduceAdd, Nat.reduceLeDiff, Nat.reduceLT, reduceCtorEq, Nat.reduceMul, Nat.reduceSub, Int.reduceEq, Int.reduceLT, Int.reduceLE, Int.reduceToNat]
  have hPut := fun hp' e1 e2 hI m' => cputN 2 0 0 0 false [] (by omega) (by simp) m (m + 1) 0 hp' e1 e2 m' t v n (m + 11) 0 (fun hf hp2 m2 e => cplN n (m + 11) (m + 9) (m + 10) (m + 6) (m + 4) (m + 5) (m + 7) (m + 2) 0 0 0 0 0 0 0 0 hp2 (PlI.up n (m + 11) (m + 9) (m + 10) (m + 6) (m + 4) (m + 5) (m + 7) (m + 2) 0 0 0 0 0 0 0 0 (hp := hp') hI hf e) m2) (.inl rfl)
  have hput : putL 2 ⟨t, v, n⟩ [] = [⟨t, v, n⟩] := rfl
  rw [hput] at hPut
  obtain ⟨E, hE⟩ : ∃ E : List Ent, [⟨t, v, n⟩] = E := ⟨_, rfl⟩
  have hEl : E.length = 1 := by rw [← hE]; rfl
  have hE0 : E[E.findIdx (qE t v)]? = some ⟨t, v, n⟩ := by
    rw [← hE]
    have : qE t v ⟨t, v, n⟩ = true := by simp [qE, Ent.t_mk, Ent.v_mk]
    simp [List.findIdx_cons, this]
  have hE1 : putL 2 ⟨t, v, n⟩ (tkE t v E) = E := by
    rw [← hE]
    have : qE t v ⟨t, v, n⟩ = true := by simp [qE, Ent.t_mk, Ent.v_mk]
    unfold tkE putL
    simp [List.findIdx_cons, this, tkE]
  rw [hE] at hPut
  unfold pcW at hPut
  refine vcCall.x (hPut _ (by (simp (disch := omega) only [ite_ne, go_sem, ↓reduceIte, Nat.reduceEqDiff, Nat.reduceBEq, Nat.reduceAdd, Nat.reduceLeDiff, Nat.reduceLT, reduceCtorEq, Nat.reduceMul, Nat.reduceSub, Int.reduceEq, Int.reduceLT, Int.reduceLE, Int.reduceToNat])) (by first | ((simp (disch := omega) only [ite_ne, go_sem, ↓reduceIte, Nat.reduceEqDiff, Nat.reduceBEq, Nat.reduceAdd, Nat.reduceLeDiff, Nat.reduceLT, reduceCtorEq, Nat.reduceMul, Nat.reduceSub, Int.reduceEq, Int.reduceLT, Int.reduceLE, Int.reduceToNat]); done) | ((simp (disch := omega) only [ite_ne, go_sem, ↓reduceIte, Nat.reduceEqDiff, Nat.reduceBEq, Nat.reduceAdd, Nat.reduceLeDiff, Nat.reduceLT, reduceCtorEq, Nat.reduceMul, Nat.reduceSub, Int.reduceEq, Int.reduceLT, Int.reduceLE, Int.reduceToNat]); rfl)) ⟨by (simp (disch := omega) only [ite_ne, go_sem, ↓reduceIte, Nat.reduceEqDiff, Nat.reduceBEq, Nat.reduceAdd, Nat.reduceLeDiff, Nat.reduceLT, reduceCtorEq, Nat.reduceMul, Nat.reduceSub, Int.reduceEq, Int.reduceLT, Int.reduceLE, Int.reduceToNat]), by (simp (disch := omega) only [ite_ne, go_sem, ↓reduceIte, Nat.reduceEqDiff, Nat.reduceBEq, Nat.reduceAdd, Nat.reduceLeDiff, Nat.reduceLT, reduceCtorEq, Nat.reduceMul, Nat.reduceSub, Int.reduceEq, Int.reduceLT, Int.reduceLE, Int.reduceToNat]), by (simp (disch := omega) only [ite_ne, go_sem, ↓reduceIte, Nat.reduceEqDiff, Nat.reduceBEq, Nat.reduceAdd, Nat.reduceLeDiff, Nat.reduceLT, reduceCtorEq, Nat.reduceMul, Nat.reduceSub, Int.reduceEq, Int.reduceLT, Int.reduceLE, Int.reduceToNat]), by (simp (disch := omega) only [ite_ne, go_sem, ↓reduceIte, Nat.reduceEqDiff, Nat.reduceBEq, Nat.reduceAdd, Nat.reduceLeDiff, Nat.reduceLT, reduceCtorEq, Nat.reduceMul, Nat.reduceSub, Int.reduceEq, Int.reduceLT, Int.reduceLE, Int.reduceToNat]), by (simp (disch := omega) only [ite_ne, go_sem, ↓reduceIte, Nat.reduceEqDiff, Nat.reduceBEq, Nat.reduceAdd, Nat.reduceLeDiff, Nat.reduceLT, reduceCtorEq, Nat.reduceMul, Nat.reduceSub, Int.reduceEq, Int.reduceLT, Int.reduceLE, Int.reduceToNat]), by (simp (disch := omega) only [ite_ne, go_sem, ↓reduceIte, Nat.reduceEqDiff, Nat.reduceBEq, Nat.reduceAdd, Nat.reduceLeDiff, Nat.reduceLT, reduceCtorEq, Nat.reduceMul, Nat.reduceSub, Int.reduceEq, Int.reduceLT, Int.reduceLE, Int.reduceToNat]), by (simp (disch := omega) only [ite_ne, go_sem, ↓reduceIte, Nat.reduceEqDiff, Nat.reduceBEq, Nat.reduceAdd, Nat.reduceLeDiff, Nat.reduceLT, reduceCtorEq, Nat.reduceMul, Nat.reduceSub, Int.reduceEq, Int.reduceLT, Int.reduceLE, Int.reduceToNat]), by (simp (disch := omega) only [ite_ne, go_sem, ↓reduceIte, Nat.reduceEqDiff, Nat.reduceBEq, Nat.reduceAdd, Nat.reduceLeDiff, Nat.reduceLT, reduceCtorEq, Nat.reduceMul, Nat.reduceSub, Int.reduceEq, Int.reduceLT, Int.reduceLE, Int.reduceToNat])⟩ _) ?_
  simp only [List.cons_append, List.nil_append]
  simp (disch := omega) only [ite_ne, go_sem, ↓reduceIte, Nat.reduceEqDiff, Nat.reduceBEq, Nat.reduceAdd, Nat.reduceLeDiff, Nat.reduceLT, reduceCtorEq, Nat.reduceMul, Nat.reduceSub, Int.reduceEq, Int.reduceLT, Int.reduceLE, Int.reduceToNat]
  have hSp := fun hp' e1 e2 e3 e4 e5 e6 e7 e8 m' e9 => spoilN n 1 n 1 ⟨#[97]⟩ ⟨#[105, 100]⟩ (m + 11) (m + 9) (m + 10) (m + 6) (m + 4) (m + 5) (m + 7) (m + 2) 0 0 0 0 0 0 0 0 .e0 (.rw (m + 2) 0 1) .e0 .e0 .e0 hp' e1 e2 e3 e4 e5 e6 e7 e8 (by omega) (by omega) m' (fun _ => ⟨rfl, e9, rfl, rfl, rfl⟩)
  refine vcCall.x (hSp _ (by (simp (disch := omega) only [ite_ne, go_sem, ↓reduceIte, Nat.reduceEqDiff, Nat.reduceBEq, Nat.reduceAdd, Nat.reduceLeDiff, Nat.reduceLT, reduceCtorEq, Nat.reduceMul, Nat.reduceSub, Int.reduceEq, Int.reduceLT, Int.reduceLE, Int.reduceToNat])) (by (simp (disch := omega) only [ite_ne, go_sem, ↓reduceIte, Nat.reduceEqDiff, Nat.reduceBEq, Nat.reduceAdd, Nat.reduceLeDiff, Nat.reduceLT, reduceCtorEq, Nat.reduceMul, Nat.reduceSub, Int.reduceEq, Int.reduceLT, Int.reduceLE, Int.reduceToNat])) (by (simp (disch := omega) only [ite_ne, go_sem, ↓reduceIte, Nat.reduceEqDiff, Nat.reduceBEq, Nat.reduceAdd, Nat.reduceLeDiff, Nat.reduceLT, reduceCtorEq, Nat.reduceMul, Nat.reduceSub, Int.reduceEq, Int.reduceLT, Int.reduceLE, Int.reduceToNat])) (by (simp (disch := omega) only [ite_ne, go_sem, ↓reduceIte, Nat.reduceEqDiff, Nat.reduceBEq, Nat.reduceAdd, Nat.reduceLeDiff, Nat.reduceLT, reduceCtorEq, Nat.reduceMul, Nat.reduceSub, Int.reduceEq, Int.reduceLT, Int.reduceLE, Int.reduceToNat])) (by (simp (disch := omega) only [ite_ne, go_sem, ↓reduceIte, Nat.reduceEqDiff, Nat.reduceBEq, Nat.reduceAdd, Nat.reduceLeDiff, Nat.reduceLT, reduceCtorEq, Nat.reduceMul, Nat.reduceSub, Int.reduceEq, Int.reduceLT, Int.reduceLE, Int.reduceToNat])) (by (simp (disch := omega) only [ite_ne, go_sem, ↓reduceIte, Nat.reduceEqDiff, Nat.reduceBEq, Nat.reduceAdd, Nat.reduceLeDiff, Nat.reduceLT, reduceCtorEq, Nat.reduceMul, Nat.reduceSub, Int.reduceEq, Int.reduceLT, Int.reduceLE, Int.reduceToNat])) (by (simp (disch := omega) only [ite_ne, go_sem, ↓reduceIte, Nat.reduceEqDiff, Nat.reduceBEq, Nat.reduceAdd, Nat.reduceLeDiff, Nat.reduceLT, reduceCtorEq, Nat.reduceMul, Nat.reduceSub, Int.reduceEq, Int.reduceLT, Int.reduceLE, Int.reduceToNat])) (by (simp (disch := omega) only [ite_ne, go_sem, ↓reduceIte, Nat.reduceEqDiff, Nat.reduceBEq, Nat.reduceAdd, Nat.reduceLeDiff, Nat.reduceLT, reduceCtorEq, Nat.reduceMul, Nat.reduceSub, Int.reduceEq, Int.reduceLT, Int.reduceLE, Int.reduceToNat])) _ (by show m + 2 < _; omega)) ?_
  simp only [List.cons_append, List.nil_append]
  simp (disch := omega) only [ite_ne, go_sem, ↓reduceIte, Nat.reduceEqDiff, Nat.reduceBEq, Nat.reduceAdd, Nat.reduceLeDiff, Nat.reduceLT, reduceCtorEq, Nat.reduceMul, Nat.reduceSub, Int.reduceEq, Int.reduceLT, Int.reduceLE, Int.reduceToNat]
  refine loop (fun q : Nat × Nat × Nat => ⟨[(0, .s t), (1, .i .i64 v), (2, .i .i64 n), (7, .bx m 0), (10, .i .i64 q.1)], (m, .bx [.i .i64 2, .rw (m + 1) q.2.1 E.length, .i .i64 q.1, .i .i64 0, .i .i64 0, .b false]) :: (m + 1, .rw q.2.1 3 (mapC entC E)) :: hp, q.2.2⟩)
    (fun q => q.1 ≤ 3 ∧ m + 2 ≤ q.2.2) (fun q => 3 - q.1) (0, 1, m + 12) ?_ ?_ (fun ⟨i, g, o⟩ hj => ?_)
  · exact ⟨by simp, by simp⟩
  · refine weak_ok ?_ (SubX.sub (SubX.cons ?_ (SubX.cons ?_ (SubX.base hf fun k hk hkx => ?_)))) (Nat.le_refl _)
    · simp only [go_sem, ↓reduceIte, Nat.reduceEqDiff, Nat.reduceBEq, Nat.reduceAdd, Nat.reduceLeDiff, Nat.reduceLT, reduceCtorEq, Nat.reduceMul, Nat.reduceSub, Int.reduceEq, Int.reduceLT, Int.reduceLE, Int.reduceToNat]
      try rfl
    · simp only [go_sem, ↓reduceIte, Nat.reduceEqDiff, Nat.reduceBEq, Nat.reduceAdd, Nat.reduceLeDiff, Nat.reduceLT, reduceCtorEq, Nat.reduceMul, Nat.reduceSub, Int.reduceEq, Int.reduceLT, Int.reduceLE, Int.reduceToNat]
      try rfl
    · simp (disch := omega) only [ite_ne, go_sem, ↓reduceIte, Nat.reduceEqDiff, Nat.reduceBEq, Nat.reduceAdd, Nat.reduceLeDiff, Nat.reduceLT, reduceCtorEq, Nat.reduceMul, Nat.reduceSub, Int.reduceEq, Int.reduceLT, Int.reduceLE, Int.reduceToNat]
    · repeat rw [gc_ne _ _ (by omega)]
  dsimp only at hj
  obtain ⟨hj1, hj2⟩ := hj
  simp (disch := omega) only [ite_ne, go_sem, ↓reduceIte, Nat.reduceEqDiff, Nat.reduceBEq, Nat.reduceAdd, Nat.reduceLeDiff, Nat.reduceLT, reduceCtorEq, Nat.reduceMul, Nat.reduceSub, Int.reduceEq, Int.reduceLT, Int.reduceLE, Int.reduceToNat]
  refine cdK_of (fun q => ?_) (fun q => ?_)
  · have q : i < 3 := by simp at q; omega
    have hG := fun hp' e1 e2 m' => cgetN 2 i 0 0 false E (by omega) (by omega) m (m + 1) g hp' e1 e2 m' t v ⟨t, v, n⟩ (by omega) hE0
    simp only [Ent.n_mk] at hG
    rw [hE1] at hG
    unfold pcW at hG
    simp (disch := omega) only [ite_ne, go_sem, ↓reduceIte, Nat.reduceEqDiff, Nat.reduceBEq, Nat.reduceAdd, Nat.reduceLeDiff, Nat.reduceLT, reduceCtorEq, Nat.reduceMul, Nat.reduceSub, Int.reduceEq, Int.reduceLT, Int.reduceLE, Int.reduceToNat]
    refine vcCall.r (hG _ (by (simp (disch := omega) only [ite_ne, go_sem, ↓reduceIte, Nat.reduceEqDiff, Nat.reduceBEq, Nat.reduceAdd, Nat.reduceLeDiff, Nat.reduceLT, reduceCtorEq, Nat.reduceMul, Nat.reduceSub, Int.reduceEq, Int.reduceLT, Int.reduceLE, Int.reduceToNat])) (by (simp (disch := omega) only [ite_ne, go_sem, ↓reduceIte, Nat.reduceEqDiff, Nat.reduceBEq, Nat.reduceAdd, Nat.reduceLeDiff, Nat.reduceLT, reduceCtorEq, Nat.reduceMul, Nat.reduceSub, Int.reduceEq, Int.reduceLT, Int.reduceLE, Int.reduceToNat])) _) ?_
    rintro H n' r ⟨q, hq, hP, hFr, e2, e3⟩
    subst e2
    subst e3
    simp (disch := omega) only [ite_ne, go_sem, ↓reduceIte, Nat.reduceEqDiff, Nat.reduceBEq, Nat.reduceAdd, Nat.reduceLeDiff, Nat.reduceLT, reduceCtorEq, Nat.reduceMul, Nat.reduceSub, Int.reduceEq, Int.reduceLT, Int.reduceLE, Int.reduceToNat]
    obtain ⟨p1, p2, p3, p4, p5, p6, p7, p8⟩ := hP
    have hNu := fun m' => Meets.rn p2 (numberN n 1 n 1 ⟨#[97]⟩ ⟨#[105, 100]⟩ (q + 32) (q + 5) (q + 30) (q + 12) (q + 15) (q + 18) (q + 28) (q + 26) 0 0 0 0 0 0 0 0 (.ds []) (.ds [[.i .i64 1]]) (.ds []) .e0 (.ds []) ((q + 5, .rn 0 9 [pkN ⟨#[97]⟩ (.ds []) (.ds [[.i .i64 1]]) (.ds [])]) :: H)
      ((gc_ne _ _ (by omega)).trans p1) (gc_same _ _ _) ((gc_ne _ _ (by omega)).trans p3) ((gc_ne _ _ (by omega)).trans p4) ((gc_ne _ _ (by omega)).trans p5) ((gc_ne _ _ (by omega)).trans p6) ((gc_ne _ _ (by omega)).trans p7) ((gc_ne _ _ (by omega)).trans p8) m' rfl rfl rfl rfl rfl).to
    refine vcCall.r (hNu _) fun hp' n' r ⟨e1, e2, e3⟩ => ?_
    subst e1
    subst e2
    subst e3
    simp (disch := omega) only [ite_ne, decide_true, go_sem, ↓reduceIte, Nat.reduceEqDiff, Nat.reduceBEq, Nat.reduceAdd, Nat.reduceLeDiff, Nat.reduceLT, reduceCtorEq, Nat.reduceMul, Nat.reduceSub, Int.reduceEq, Int.reduceLT, Int.reduceLE, Int.reduceToNat]
    have hSp2 := fun m' => spoilN n 1 n 1 ⟨#[97]⟩ ⟨#[105, 100]⟩ (q + 32) (q + 5) (q + 30) (q + 12) (q + 15) (q + 18) (q + 28) (q + 26) 0 0 0 0 0 0 0 0 (.ds []) (.ds [[.i .i64 1]]) (.ds []) .e0 (.ds []) ((q + 5, .rn 0 9 [pkN ⟨#[97]⟩ (.ds []) (.ds [[.i .i64 1]]) (.ds [])]) :: H)
      ((gc_ne _ _ (by omega)).trans p1) (gc_same _ _ _) ((gc_ne _ _ (by omega)).trans p3) ((gc_ne _ _ (by omega)).trans p4) ((gc_ne _ _ (by omega)).trans p5) ((gc_ne _ _ (by omega)).trans p6) ((gc_ne _ _ (by omega)).trans p7) ((gc_ne _ _ (by omega)).trans p8) (by omega) (by omega) m' (fun _ => ⟨rfl, rfl, rfl, rfl, rfl⟩)
    refine vcCall.x (hSp2 _) ?_
    simp only [List.cons_append, List.nil_append]
    simp (disch := omega) only [ite_ne, go_sem, ↓reduceIte, Nat.reduceEqDiff, Nat.reduceBEq, Nat.reduceAdd, Nat.reduceLeDiff, Nat.reduceLT, reduceCtorEq, Nat.reduceMul, Nat.reduceSub, Int.reduceEq, Int.reduceLT, Int.reduceLE, Int.reduceToNat]
    refine ⟨(i + 1, g + 1, q + 33), ⟨by dsimp only; omega, by dsimp only; omega⟩, by dsimp only; omega, weak_ok ?_ (SubX.sub (SubX.cons ?_ (SubX.cons ?_ (SubX.base hf fun k hk hkx => ?_)))) (Nat.le_refl _)⟩
    · simp (disch := omega) only [ite_ne, wr64s i (by omega), go_sem, ↓reduceIte, Nat.reduceEqDiff, Nat.reduceBEq, Nat.reduceAdd, Nat.reduceLeDiff, Nat.reduceLT, reduceCtorEq, Nat.reduceMul, Nat.reduceSub, Int.reduceEq, Int.reduceLT, Int.reduceLE, Int.reduceToNat]
    · repeat rw [gc_ne _ _ (by omega)]
      refine (hFr m (by omega)).trans ?_
      simp (disch := omega) only [ite_ne, go_sem, ↓reduceIte, Nat.reduceEqDiff, Nat.reduceBEq, Nat.reduceAdd, Nat.reduceLeDiff, Nat.reduceLT, reduceCtorEq, Nat.reduceMul, Nat.reduceSub, Int.reduceEq, Int.reduceLT, Int.reduceLE, Int.reduceToNat]
      rfl
    · repeat rw [gc_ne _ _ (by omega)]
      refine (hFr (m + 1) (by omega)).trans ?_
      simp (disch := omega) only [ite_ne, go_sem, ↓reduceIte, Nat.reduceEqDiff, Nat.reduceBEq, Nat.reduceAdd, Nat.reduceLeDiff, Nat.reduceLT, reduceCtorEq, Nat.reduceMul, Nat.reduceSub, Int.reduceEq, Int.reduceLT, Int.reduceLE, Int.reduceToNat]
    · repeat rw [gc_ne _ _ (by omega)]
      refine (hFr k (by omega)).trans ?_
      have n1 : ¬ m = k := Nat.ne_of_gt hk
      have n2 : ¬ m + 1 = k := by omega
      simp only [List.cons_append, List.nil_append]
      repeat rw [gc_ne _ _ (by omega)]
  · simp (disch := omega) only [ite_ne, go_sem, ↓reduceIte, Nat.reduceEqDiff, Nat.reduceBEq, Nat.reduceAdd, Nat.reduceLeDiff, Nat.reduceLT, reduceCtorEq, Nat.reduceMul, Nat.reduceSub, Int.reduceEq, Int.reduceLT, Int.reduceLE, Int.reduceToNat]
    refine vcCall.f (exh_ok _ _) ?_
    simp (disch := omega) only [ite_ne, go_sem, ↓reduceIte, Nat.reduceEqDiff, Nat.reduceBEq, Nat.reduceAdd, Nat.reduceLeDiff, Nat.reduceLT, reduceCtorEq, Nat.reduceMul, Nat.reduceSub, Int.reduceEq, Int.reduceLT, Int.reduceLE, Int.reduceToNat]
end Go.Proofs.Ytpenniildabheaa
