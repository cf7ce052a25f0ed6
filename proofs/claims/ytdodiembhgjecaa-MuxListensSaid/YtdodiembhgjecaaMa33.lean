/-
  The parts MxF of the proof, in one file. Conditions: none.
-/
import Derived.Test.YtdodiembhgjecaaMa32
namespace Go.Proofs.Ytdodiembhgjecaa
open Go.Eng
set_option linter.unusedVariables false
set_option linter.unusedSimpArgs false
set_option maxRecDepth 20000
set_option maxHeartbeats 4000000
/-- A message of a frame. -/
def msg (f : Frm) : Msg := .mk f.i f.b
theorem cl_pair {R : List Frm} {last : Int} {f : Frm} : clG (R.map msg) last f = (rcG R last f).map msg := by
  unfold clG rcG
  split
  · rw [List.map_append]; rfl
  · rfl
theorem got_pair (R : List Frm) (id : Int) : gotL (R.map msg) id = gotR R id := by
  unfold gotL gotR
  induction R with
  | nil => rfl
  | cons x R ih =>
    rw [List.map_cons]
    have e : (msg x).id = x.i := rfl
    by_cases c : x.i = id
    · rw [List.filter_cons_of_pos (by simp [e, c]), List.filter_cons_of_pos (by simp [c]), List.map_cons, List.map_cons, ih]; rfl
    · rw [List.filter_cons_of_neg (by simp [e, c]), List.filter_cons_of_neg (by simp [c]), ih]
theorem rcG_len (R : List Frm) (last : Int) (f : Frm) : (rcG R last f).length ≤ R.length + 1 := by
  unfold rcG
  split <;> simp
theorem clA_len (last : Int) (f : Frm) : (clA last f).length ≤ 1 := by
  unfold clA
  repeat' split
  all_goals simp
theorem lawListens (l : List Frm) (hp : CH) (m : Nat) : MeetsF Try.prog 4 hp m [.ds (mapC frC l)] (.b true) := by
  have hll : (mapC frC l).length = l.length := mapC_len _ _
  refine meetsF Try.func4 (by kernel_rfl) cc4 cr4 rfl fun hf => ?_; unfold ck4
  simp (disch := omega) only [ite_ne, hll, go_sem, ↓reduceIte, Nat.reduceEqDiff, Nat.reduceBEq, Nat.reduceAdd, Nat.reduceLeDiff, Nat.reduceLT, reduceCtorEq, Nat.reduceMul, Nat.reduceSub, Int.reduceEq, Int.reduceLT, Int.reduceLE, Int.reduceToNat]
  refine cdK_of (fun q => ?_) (fun q => ?_)
  · simp only [go_sem, ↓reduceIte, Nat.reduceEqDiff, Nat.reduceBEq, Nat.reduceAdd, Nat.reduceLeDiff, Nat.reduceLT, reduceCtorEq, Nat.reduceMul, Nat.reduceSub, Int.reduceEq, Int.reduceLT, Int.reduceLE, Int.reduceToNat]
    refine vcCall.f (exh47_ok _ _) ?_
    simp only [go_sem, ↓reduceIte, Nat.reduceEqDiff, Nat.reduceBEq, Nat.reduceAdd, Nat.reduceLeDiff, Nat.reduceLT, reduceCtorEq, Nat.reduceMul, Nat.reduceSub, Int.reduceEq, Int.reduceLT, Int.reduceLE, Int.reduceToNat]
  have hl2 : l.length ≤ 200 := by simp at q; omega
  simp only [go_sem, ↓reduceIte, Nat.reduceEqDiff, Nat.reduceBEq, Nat.reduceAdd, Nat.reduceLeDiff, Nat.reduceLT, reduceCtorEq, Nat.reduceMul, Nat.reduceSub, Int.reduceEq, Int.reduceLT, Int.reduceLE, Int.reduceToNat]
  refine vcCall.r (cNew _ _) fun hp' n' r ⟨e1, e2, e3⟩ => ?_
  subst e1
  subst e2
  subst e3
  simp only [go_sem, ↓reduceIte, Nat.reduceEqDiff, Nat.reduceBEq, Nat.reduceAdd, Nat.reduceLeDiff, Nat.reduceLT, reduceCtorEq, Nat.reduceMul, Nat.reduceSub, Int.reduceEq, Int.reduceLT, Int.reduceLE, Int.reduceToNat]
  refine vcCall.r (gNew _ _) fun hp' n' r ⟨e1, e2, e3⟩ => ?_
  subst e1
  subst e2
  subst e3
  simp only [go_sem, ↓reduceIte, Nat.reduceEqDiff, Nat.reduceBEq, Nat.reduceAdd, Nat.reduceLeDiff, Nat.reduceLT, reduceCtorEq, Nat.reduceMul, Nat.reduceSub, Int.reduceEq, Int.reduceLT, Int.reduceLE, Int.reduceToNat]
  refine loop (fun q : Nat × Int × List Frm × Nat × Nat => ⟨[(0, .ds (mapC frC l)), (3, .bx m 0), (4, .bx (m + 1) 0), (5, .i .i64 q.1)],
      (m, .bx [.b true, .i .i64 q.2.1, .rw (m + 2) q.2.2.2.1 (q.2.2.1.map msg).length]) :: (m + 2, .rw q.2.2.2.1 2 (mapC mgC (q.2.2.1.map msg))) :: (m + 1, .bx [.i .i64 q.2.1, .rw (m + 3) q.2.2.2.1 q.2.2.1.length, .b true]) :: (m + 3, .rw q.2.2.2.1 5 (mapC frC q.2.2.1)) :: hp, q.2.2.2.2⟩)
    (fun q => q.1 ≤ l.length ∧ m + 4 ≤ q.2.2.2.2 ∧ (0 ≤ q.2.1 ∧ q.2.1 ≤ 4294967295) ∧ q.2.2.1.length ≤ q.1) (fun q => l.length - q.1) (0, 0, [], 0, m + 4) ?_ ?_ (fun ⟨j, last, R, g, n⟩ hj => ?_)
  · exact ⟨by simp, by simp, ⟨by simp, by simp⟩, by simp⟩
  · refine (weak_b0 (cs := [.b true, .i .i64 0, .e0]) (c := m) (i := 2) (m := 2) (by (simp (disch := omega) only [ite_ne, go_sem, ↓reduceIte, Nat.reduceEqDiff, Nat.reduceBEq, Nat.reduceAdd, Nat.reduceLeDiff, Nat.reduceLT, reduceCtorEq, Nat.reduceMul, Nat.reduceSub, Int.reduceEq, Int.reduceLT, Int.reduceLE, Int.reduceToNat])) rfl).trans ((weak_b0 (cs := [.i .i64 0, .e0, .b true]) (c := m + 1) (i := 1) (m := 5) (by (simp (disch := omega) only [ite_ne, go_sem, ↓reduceIte, Nat.reduceEqDiff, Nat.reduceBEq, Nat.reduceAdd, Nat.reduceLeDiff, Nat.reduceLT, reduceCtorEq, Nat.reduceMul, Nat.reduceSub, Int.reduceEq, Int.reduceLT, Int.reduceLE, Int.reduceToNat])) rfl).trans (weak_ok ?_ (Sub.cons ?_ (Sub.cons ?_ (Sub.cons ?_ (Sub.cons ?_ (Sub.base hf ?_))))) (Nat.le_refl _)))
    all_goals (simp (disch := omega) only [ite_ne, go_sem, ↓reduceIte, Nat.reduceEqDiff, Nat.reduceBEq, Nat.reduceAdd, Nat.reduceLeDiff, Nat.reduceLT, reduceCtorEq, Nat.reduceMul, Nat.reduceSub, Int.reduceEq, Int.reduceLT, Int.reduceLE, Int.reduceToNat])
    all_goals rfl
  dsimp only at hj
  obtain ⟨hj1, hj2, hj3, hj4⟩ := hj
  have hmn : m ≤ n := by omega
  simp (disch := omega) only [ite_ne, go_sem, ↓reduceIte, Nat.reduceEqDiff, Nat.reduceBEq, Nat.reduceAdd, Nat.reduceLeDiff, Nat.reduceLT, reduceCtorEq, Nat.reduceMul, Nat.reduceSub, Int.reduceEq, Int.reduceLT, Int.reduceLE, Int.reduceToNat]
  refine cdK_of (fun q => ?_) (fun q => ?_)
  · have q : j < l.length := by simpa using q
    obtain ⟨x, ex⟩ : ∃ x, l[j]? = some x := ⟨l[j], by simp [q]⟩
    have hA := clA_len last x
    have hG2 := rcG_len R last x
    have hL2 := clL_rng (f := x) hj3
    have hC := mRecv_ok last hj3 (R.map msg) (by rw [List.length_map]; omega) m (m + 2) g
    have hG := gRecv_ok last hj3 R (by omega) (m + 1) (m + 3) g
    have hpair := cl_pair (R := R) (last := last) (f := x)
    have hF := frames_eq (clA last x) (by omega)
    simp (disch := omega) only [ite_ne, q, getK_s (mapC_get frC ex), go_sem, ↓reduceIte, Nat.reduceEqDiff, Nat.reduceBEq, Nat.reduceAdd, Nat.reduceLeDiff, Nat.reduceLT, reduceCtorEq, Nat.reduceMul, Nat.reduceSub, Int.reduceEq, Int.reduceLT, Int.reduceLE, Int.reduceToNat]
    refine vcCall.x (hC _ (by (simp (disch := omega) only [ite_ne, go_sem, ↓reduceIte, Nat.reduceEqDiff, Nat.reduceBEq, Nat.reduceAdd, Nat.reduceLeDiff, Nat.reduceLT, reduceCtorEq, Nat.reduceMul, Nat.reduceSub, Int.reduceEq, Int.reduceLT, Int.reduceLE, Int.reduceToNat])) (by (simp (disch := omega) only [ite_ne, go_sem, ↓reduceIte, Nat.reduceEqDiff, Nat.reduceBEq, Nat.reduceAdd, Nat.reduceLeDiff, Nat.reduceLT, reduceCtorEq, Nat.reduceMul, Nat.reduceSub, Int.reduceEq, Int.reduceLT, Int.reduceLE, Int.reduceToNat])) x _) ?_
    rw [hpair]
    obtain ⟨A, hAe⟩ : ∃ A, clA last x = A := ⟨_, rfl⟩
    obtain ⟨E, hEe⟩ : ∃ E, clE last x = E := ⟨_, rfl⟩
    rw [hAe] at hF ⊢
    rw [hEe]
    simp only [clW, List.cons_append, List.nil_append]
    simp (disch := omega) only [ite_ne, q, getK_s (mapC_get frC ex), go_sem, ↓reduceIte, Nat.reduceEqDiff, Nat.reduceBEq, Nat.reduceAdd, Nat.reduceLeDiff, Nat.reduceLT, reduceCtorEq, Nat.reduceMul, Nat.reduceSub, Int.reduceEq, Int.reduceLT, Int.reduceLE, Int.reduceToNat]
    refine vcCall.x (hG _ (by (simp (disch := omega) only [ite_ne, go_sem, ↓reduceIte, Nat.reduceEqDiff, Nat.reduceBEq, Nat.reduceAdd, Nat.reduceLeDiff, Nat.reduceLT, reduceCtorEq, Nat.reduceMul, Nat.reduceSub, Int.reduceEq, Int.reduceLT, Int.reduceLE, Int.reduceToNat])) (by (simp (disch := omega) only [ite_ne, go_sem, ↓reduceIte, Nat.reduceEqDiff, Nat.reduceBEq, Nat.reduceAdd, Nat.reduceLeDiff, Nat.reduceLT, reduceCtorEq, Nat.reduceMul, Nat.reduceSub, Int.reduceEq, Int.reduceLT, Int.reduceLE, Int.reduceToNat])) x _) ?_
    rw [hAe, hEe]
    simp only [rcW, List.cons_append, List.nil_append]
    obtain ⟨R2, hR2⟩ : ∃ R2, rcG R last x = R2 := ⟨_, rfl⟩
    obtain ⟨L2, hL2e⟩ : ∃ L2, clL last x = L2 := ⟨_, rfl⟩
    obtain ⟨g2, hg2⟩ : ∃ g2, clN g last x = g2 := ⟨_, rfl⟩
    rw [hR2] at hG2 ⊢
    rw [hL2e] at hL2 ⊢
    rw [hg2]
    have hGot1 := mGot_ok true L2 (R2.map msg) (by rw [List.length_map]; omega) m (m + 2) g2 x.i
    have hGot2 := gGot_ok L2 R2 (by omega) (m + 1) (m + 3) g2 x.i
    rw [got_pair] at hGot1
    have hgl := gotR_len R2 x.i
    obtain ⟨T, hT⟩ : ∃ T, gotR R2 x.i = T := ⟨_, rfl⟩
    rw [hT] at hGot1 hGot2 hgl
    have hTe := texts_eq T (by omega)
    have hfx : (mapC frC l)[j]? = some [AV.i .i64 x.k, .i .i64 x.i, .i .i64 x.s, .i .i64 x.a, .s x.b] := mapC_get frC ex
    have hO1 := mOpen_ok true L2 (.rw (m + 2) g2 (R2.map msg).length) m
    have hO2 := gOpen_ok true L2 (.rw (m + 3) g2 R2.length) (m + 1)
    rw [if_pos rfl] at hO1 hO2
    simp (disch := omega) only [ite_ne, q, hfx, decide_true, go_sem, ↓reduceIte, Nat.reduceEqDiff, Nat.reduceBEq, Nat.reduceAdd, Nat.reduceLeDiff, Nat.reduceLT, reduceCtorEq, Nat.reduceMul, Nat.reduceSub, Int.reduceEq, Int.reduceLT, Int.reduceLE, Int.reduceToNat]
    refine dCallR.f (fun _ _ _ => hF _ _) ?_
    simp (disch := omega) only [ite_ne, q, hfx, decide_true, go_sem, ↓reduceIte, Nat.reduceEqDiff, Nat.reduceBEq, Nat.reduceAdd, Nat.reduceLeDiff, Nat.reduceLT, reduceCtorEq, Nat.reduceMul, Nat.reduceSub, Int.reduceEq, Int.reduceLT, Int.reduceLE, Int.reduceToNat]
    refine dCall.f (fun _ hp' e => hO1 hp' ((e m (.inl (by omega))).trans (by (simp (disch := omega) only [ite_ne, go_sem, ↓reduceIte, Nat.reduceEqDiff, Nat.reduceBEq, Nat.reduceAdd, Nat.reduceLeDiff, Nat.reduceLT, reduceCtorEq, Nat.reduceMul, Nat.reduceSub, Int.reduceEq, Int.reduceLT, Int.reduceLE, Int.reduceToNat]))) _) ?_
    simp (disch := omega) only [ite_ne, q, hfx, decide_true, go_sem, ↓reduceIte, Nat.reduceEqDiff, Nat.reduceBEq, Nat.reduceAdd, Nat.reduceLeDiff, Nat.reduceLT, reduceCtorEq, Nat.reduceMul, Nat.reduceSub, Int.reduceEq, Int.reduceLT, Int.reduceLE, Int.reduceToNat]
    refine dCall.f (fun _ hp' e => hO2 hp' ((e (m + 1) (.inl (by omega))).trans (by (simp (disch := omega) only [ite_ne, go_sem, ↓reduceIte, Nat.reduceEqDiff, Nat.reduceBEq, Nat.reduceAdd, Nat.reduceLeDiff, Nat.reduceLT, reduceCtorEq, Nat.reduceMul, Nat.reduceSub, Int.reduceEq, Int.reduceLT, Int.reduceLE, Int.reduceToNat]))) _) ?_
    simp (disch := omega) only [ite_ne, q, hfx, decide_true, go_sem, ↓reduceIte, Nat.reduceEqDiff, Nat.reduceBEq, Nat.reduceAdd, Nat.reduceLeDiff, Nat.reduceLT, reduceCtorEq, Nat.reduceMul, Nat.reduceSub, Int.reduceEq, Int.reduceLT, Int.reduceLE, Int.reduceToNat]
    refine dCall.f (fun _ hp' e => hGot1 hp' ((e m (.inl (by omega))).trans (by (simp (disch := omega) only [ite_ne, go_sem, ↓reduceIte, Nat.reduceEqDiff, Nat.reduceBEq, Nat.reduceAdd, Nat.reduceLeDiff, Nat.reduceLT, reduceCtorEq, Nat.reduceMul, Nat.reduceSub, Int.reduceEq, Int.reduceLT, Int.reduceLE, Int.reduceToNat]))) ((e (m + 2) (.inl (by omega))).trans (by (simp (disch := omega) only [ite_ne, go_sem, ↓reduceIte, Nat.reduceEqDiff, Nat.reduceBEq, Nat.reduceAdd, Nat.reduceLeDiff, Nat.reduceLT, reduceCtorEq, Nat.reduceMul, Nat.reduceSub, Int.reduceEq, Int.reduceLT, Int.reduceLE, Int.reduceToNat]))) _) ?_
    simp (disch := omega) only [ite_ne, q, hfx, decide_true, go_sem, ↓reduceIte, Nat.reduceEqDiff, Nat.reduceBEq, Nat.reduceAdd, Nat.reduceLeDiff, Nat.reduceLT, reduceCtorEq, Nat.reduceMul, Nat.reduceSub, Int.reduceEq, Int.reduceLT, Int.reduceLE, Int.reduceToNat]
    refine dCall.f (fun _ hp' e => hGot2 hp' ((e (m + 1) (.inl (by omega))).trans (by (simp (disch := omega) only [ite_ne, go_sem, ↓reduceIte, Nat.reduceEqDiff, Nat.reduceBEq, Nat.reduceAdd, Nat.reduceLeDiff, Nat.reduceLT, reduceCtorEq, Nat.reduceMul, Nat.reduceSub, Int.reduceEq, Int.reduceLT, Int.reduceLE, Int.reduceToNat]))) ((e (m + 3) (.inl (by omega))).trans (by (simp (disch := omega) only [ite_ne, go_sem, ↓reduceIte, Nat.reduceEqDiff, Nat.reduceBEq, Nat.reduceAdd, Nat.reduceLeDiff, Nat.reduceLT, reduceCtorEq, Nat.reduceMul, Nat.reduceSub, Int.reduceEq, Int.reduceLT, Int.reduceLE, Int.reduceToNat]))) _) ?_
    simp (disch := omega) only [ite_ne, q, hfx, decide_true, go_sem, ↓reduceIte, Nat.reduceEqDiff, Nat.reduceBEq, Nat.reduceAdd, Nat.reduceLeDiff, Nat.reduceLT, reduceCtorEq, Nat.reduceMul, Nat.reduceSub, Int.reduceEq, Int.reduceLT, Int.reduceLE, Int.reduceToNat]
    refine dCall.f (fun _ _ _ => hTe _ _) ?_
    simp (disch := omega) only [ite_ne, q, hfx, decide_true, go_sem, ↓reduceIte, Nat.reduceEqDiff, Nat.reduceBEq, Nat.reduceAdd, Nat.reduceLeDiff, Nat.reduceLT, reduceCtorEq, Nat.reduceMul, Nat.reduceSub, Int.reduceEq, Int.reduceLT, Int.reduceLE, Int.reduceToNat]
    refine ⟨(j + 1, L2, R2, g2, _), ⟨by dsimp only; omega, by dsimp only; omega, hL2, by dsimp only; omega⟩, by dsimp only; omega, weak_ok ?_ (Sub.cons ?_ (Sub.cons ?_ (Sub.cons ?_ (Sub.cons ?_ (Sub.base hf ?_))))) (Nat.le_refl _)⟩
    all_goals
      simp (disch := omega) only [ite_ne, wr64s j (by omega), hmn, go_sem, ↓reduceIte, Nat.reduceEqDiff, Nat.reduceBEq, Nat.reduceAdd, Nat.reduceLeDiff, Nat.reduceLT, reduceCtorEq, Nat.reduceMul, Nat.reduceSub, Int.reduceEq, Int.reduceLT, Int.reduceLE, Int.reduceToNat]
  · simp (disch := omega) only [ite_ne, go_sem, ↓reduceIte, Nat.reduceEqDiff, Nat.reduceBEq, Nat.reduceAdd, Nat.reduceLeDiff, Nat.reduceLT, reduceCtorEq, Nat.reduceMul, Nat.reduceSub, Int.reduceEq, Int.reduceLT, Int.reduceLE, Int.reduceToNat]
    refine vcCall.f (exh47_ok _ _) ?_
    simp (disch := omega) only [ite_ne, go_sem, ↓reduceIte, Nat.reduceEqDiff, Nat.reduceBEq, Nat.reduceAdd, Nat.reduceLeDiff, Nat.reduceLT, reduceCtorEq, Nat.reduceMul, Nat.reduceSub, Int.reduceEq, Int.reduceLT, Int.reduceLE, Int.reduceToNat]
end Go.Proofs.Ytdodiembhgjecaa
