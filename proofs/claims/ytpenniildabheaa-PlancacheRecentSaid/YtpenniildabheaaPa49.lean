/-
  The parts PcR of the proof, in one file. Conditions: none.
-/
import Derived.Test.YtpenniildabheaaPa48
namespace Go.Proofs.Ytpenniildabheaa
open Go.Eng
set_option linter.unusedVariables false
set_option linter.unusedSimpArgs false
set_option maxRecDepth 20000
set_option maxHeartbeats 4000000
section
variable (room h mi o : Int) (b : Bool) (L : List Ent) (k : Nat) (ci : CI room h mi L k) (hk60 : k ≤ 1000) (c kg g : Nat)
include ci hk60
theorem cget_all (t : ByteArray) (v : Int) : ∃ (h' mi' : Int) (L' : List Ent) (g' : Nat) (l : List (List AV)) (q : Bool), CI room h' mi' L' (k + 1) ∧ h' + mi' = h + mi + 1 ∧ ∀ hp, gc hp c = .bx [.i .i64 room, .rw kg g L.length, .i .i64 h, .i .i64 mi, .i .i64 o, .b b] → gc hp kg = .rw g 3 (mapC entC L) → ∀ m,
    MeetsX Try.prog 11 hp m [.bx c 0, .s t, .i .i64 v] (pcW c kg g' room h' mi' o b L' ++ hp) m (.tp [.ds l, .b q]) := by
  have hci := ci
  obtain ⟨c1, c2, c3, c4, c5, c6, c7⟩ := hci
  rcases fidx_find (qE t v) L 0 with ⟨h1, h2⟩ | ⟨h1, h2⟩
  · obtain ⟨y, hy⟩ : ∃ y, L[L.findIdx (qE t v)]? = some y := ⟨_, List.getElem?_eq_getElem h1⟩
    exact ⟨_, _, _, _, _, _, ci.hit t v ⟨t, v, y.n⟩, by omega, fun hp hc hk m => cget_yes room h mi o b L ⟨c1, c2⟩ (by omega) c kg g hp hc hk m t v y ⟨by omega, by omega⟩ hy⟩
  · exact ⟨_, _, _, _, _, _, ci.miss, by omega, fun hp hc hk m => cget_no room h mi o b L ⟨c1, c2⟩ (by omega) c kg g hp hc hk m t v ⟨by omega, by omega⟩ h1⟩
theorem cput_all (t : ByteArray) (v n : Int) : ∃ (L' : List Ent) (g' : Nat) (q : Int), CI room h mi L' (k + 1) ∧ ∀ hp, gc hp c = .bx [.i .i64 room, .rw kg g L.length, .i .i64 h, .i .i64 mi, .i .i64 o, .b b] → gc hp kg = .rw g 3 (mapC entC L) → ∀ m,
    MeetsX Try.prog 9 hp m [.bx c 0, .s t, .i .i64 v, .ds [planC n]] (pcW c kg g' room h mi o b L' ++ hp) m (.i .i64 q) := by
  have u0 := hk60
  have hci := ci
  obtain ⟨c1, c2, c3, c4, c5, c6, c7⟩ := hci
  by_cases q3 : b = false ∨ o ≤ v
  · exact ⟨_, _, _, ci.put ⟨t, v, n⟩, fun hp hc hk m => cput_ok room h mi o b L ⟨c1, c2⟩ (by omega) c kg g hp hc hk m t v n q3⟩
  · have q4 : b = true ∧ v < o := by
      cases b
      · exact absurd (.inl rfl) q3
      · exact ⟨rfl, by omega⟩
    refine ⟨L, g, 14, ci.no, fun hp hc hk m => ?_⟩
    refine (cput_no room h mi o b L ⟨c1, c2⟩ (by omega) c kg g hp hc hk m t v (.ds [planC n]) q4.1 q4.2).to.imp fun hp' n' r ⟨e1, e2, e3⟩ => ?_
    subst e1
    subst e2
    subst e3
    refine ⟨_, fun j => ?_, rfl, rfl, rfl⟩
    unfold pcW
    by_cases q1 : c = j
    · subst q1
      rw [List.cons_append, gc_cons_same, hc]
    rw [List.cons_append, gc_cons_ne q1]
    by_cases q2 : kg = j
    · subst q2
      rw [List.cons_append, gc_cons_same, hk]
    · rw [List.cons_append, gc_cons_ne q2]
      rfl
end
theorem lawCounts (room : Int) (l : List Stp) (hp : CH) (m : Nat) : MeetsF Try.prog 6 hp m [.i .i64 room, .ds (mapC stpC l)] (.b true) := by
  have hsl : (mapC stpC l).length = l.length := mapC_len _ _
  refine meetsF Try.func6 (by kernel_rfl) cc6 cr6 rfl fun hf => ?_; unfold ck6
  simp only [go_sem, ↓reduceIte, Nat.reduceEqDiff, Nat.reduceBEq, Nat.reduceAdd, Nat.reduceLeDiff, Nat.reduceLT, reduceCtorEq, Nat.reduceMul, Nat.reduceSub, Int.reduceEq, Int.reduceLT, Int.reduceLE, Int.reduceToNat]
  rcases fits_new room with hr | hr
  case inr =>
    refine vcCall.f (new_no room hr _ _) ?_
    have d0 : (decide (room < 1) || decide (1024 < room)) = true := by simpa using hr
    simp (disch := omega) only [ite_ne, hsl, d0, go_sem, ↓reduceIte, Nat.reduceEqDiff, Nat.reduceBEq, Nat.reduceAdd, Nat.reduceLeDiff, Nat.reduceLT, reduceCtorEq, Nat.reduceMul, Nat.reduceSub, Int.reduceEq, Int.reduceLT, Int.reduceLE, Int.reduceToNat]
    refine vcCall.f (exh_ok _ _) ?_
    simp (disch := omega) only [ite_ne, go_sem, ↓reduceIte, Nat.reduceEqDiff, Nat.reduceBEq, Nat.reduceAdd, Nat.reduceLeDiff, Nat.reduceLT, reduceCtorEq, Nat.reduceMul, Nat.reduceSub, Int.reduceEq, Int.reduceLT, Int.reduceLE, Int.reduceToNat]
  refine vcCall.r (new_ok room hr _ _) fun hp' n' r ⟨e1, e2, e3⟩ => ?_
  subst e1
  subst e2
  subst e3
  have d0 : (decide (room < 1) || decide (1024 < room)) = false := by simp; omega
  simp (disch := omega) only [ite_ne, hsl, d0, go_sem, ↓reduceIte, Nat.reduceEqDiff, Nat.reduceBEq, Nat.reduceAdd, Nat.reduceLeDiff, Nat.reduceLT, reduceCtorEq, Nat.reduceMul, Nat.reduceSub, Int.reduceEq, Int.reduceLT, Int.reduceLE, Int.reduceToNat]
  refine cdK_of (fun q => ?_) (fun q => ?_)
  · simp (disch := omega) only [ite_ne, hsl, q, go_sem, ↓reduceIte, Nat.reduceEqDiff, Nat.reduceBEq, Nat.reduceAdd, Nat.reduceLeDiff, Nat.reduceLT, reduceCtorEq, Nat.reduceMul, Nat.reduceSub, Int.reduceEq, Int.reduceLT, Int.reduceLE, Int.reduceToNat]
    refine vcCall.f (exh_ok _ _) ?_
    simp (disch := omega) only [ite_ne, hsl, q, go_sem, ↓reduceIte, Nat.reduceEqDiff, Nat.reduceBEq, Nat.reduceAdd, Nat.reduceLeDiff, Nat.reduceLT, reduceCtorEq, Nat.reduceMul, Nat.reduceSub, Int.reduceEq, Int.reduceLT, Int.reduceLE, Int.reduceToNat]
  have q : l.length ≤ 60 := by simp at q; omega
  simp (disch := omega) only [ite_ne, go_sem, ↓reduceIte, Nat.reduceEqDiff, Nat.reduceBEq, Nat.reduceAdd, Nat.reduceLeDiff, Nat.reduceLT, reduceCtorEq, Nat.reduceMul, Nat.reduceSub, Int.reduceEq, Int.reduceLT, Int.reduceLE, Int.reduceToNat]
  refine loop (fun p : Nat × (Int × Int × Int × Bool × List Ent × Nat) × Int × Nat => ⟨[(0, .i .i64 room), (1, .ds (mapC stpC l)), (5, .bx m 0), (7, .i .i64 p.2.2.1), (8, .i .i64 p.1)],
      pcW m (m + 1) p.2.1.2.2.2.2.2 room p.2.1.1 p.2.1.2.1 p.2.1.2.2.1 p.2.1.2.2.2.1 p.2.1.2.2.2.2.1 ++ hp, p.2.2.2⟩)
    (fun p => p.1 ≤ l.length ∧ m + 2 ≤ p.2.2.2 ∧ CI room p.2.1.1 p.2.1.2.1 p.2.1.2.2.2.2.1 p.1 ∧ p.2.1.1 + p.2.1.2.1 = p.2.2.1) (fun p => l.length - p.1) (0, (0, 0, 0, false, [], 0), 0, m + 2) ?_ ?_ (fun ⟨j, ⟨h, mi, o, b, L, g⟩, calls, n⟩ hj => ?_)
  · exact ⟨by simp, by simp, ⟨hr.1, hr.2, by simp, by simp, by simp, by simp; omega, List.Pairwise.nil⟩, rfl⟩
  · unfold pcW
    refine (weak_b0 (cs := [.i .i64 room, .e0, .i .i64 0, .i .i64 0, .i .i64 0, .b false]) (c := m) (i := 1) (m := 3) (by (simp (disch := omega) only [ite_ne, go_sem, ↓reduceIte, Nat.reduceEqDiff, Nat.reduceBEq, Nat.reduceAdd, Nat.reduceLeDiff, Nat.reduceLT, reduceCtorEq, Nat.reduceMul, Nat.reduceSub, Int.reduceEq, Int.reduceLT, Int.reduceLE, Int.reduceToNat])) rfl).trans
      (weak_ok ?_ (Sub.cons ?_ (Sub.cons ?_ (Sub.base hf ?_))) (Nat.le_refl _))
    all_goals simp only [List.set_cons_succ, List.set_cons_zero, List.take_nil]
    all_goals (simp (disch := omega) only [ite_ne, go_sem, ↓reduceIte, Nat.reduceEqDiff, Nat.reduceBEq, Nat.reduceAdd, Nat.reduceLeDiff, Nat.reduceLT, reduceCtorEq, Nat.reduceMul, Nat.reduceSub, Int.reduceEq, Int.reduceLT, Int.reduceLE, Int.reduceToNat])
    all_goals first | rfl | exact fun _ _ => rfl
  dsimp only at hj
  obtain ⟨hj1, hj2, hj3, hj4⟩ := hj
  have ci0 := hj3
  have hmn : m ≤ n := by omega
  unfold pcW
  simp (disch := omega) only [ite_ne, hsl, go_sem, ↓reduceIte, Nat.reduceEqDiff, Nat.reduceBEq, Nat.reduceAdd, Nat.reduceLeDiff, Nat.reduceLT, reduceCtorEq, Nat.reduceMul, Nat.reduceSub, Int.reduceEq, Int.reduceLT, Int.reduceLE, Int.reduceToNat]
  refine cdK_of (fun q1 => ?_) (fun q1 => ?_)
  · have q1 : j < l.length := by simpa using q1
    obtain ⟨x, ex⟩ : ∃ x, l[j]? = some x := ⟨l[j], by simp [q1]⟩
    simp (disch := omega) only [ite_ne, q1, hsl, getK_s (mapC_get stpC ex), go_sem, ↓reduceIte, Nat.reduceEqDiff, Nat.reduceBEq, Nat.reduceAdd, Nat.reduceLeDiff, Nat.reduceLT, reduceCtorEq, Nat.reduceMul, Nat.reduceSub, Int.reduceEq, Int.reduceLT, Int.reduceLE, Int.reduceToNat]
    refine cdK_of (fun q2 => ?_) (fun q2 => ?_)
    · obtain ⟨h', mi', L', g', R, Q, ci, hc', hG⟩ := cget_all room h mi o b L j hj3 (by omega) m (m + 1) g x.t x.v
      have hw : IntKind.i64.wrap (calls + 1) = calls + 1 := by
        have := ci.hm; have := ci.h0; have := ci.m0
        exact wr64 (by omega)
      unfold pcW at hG
      obtain ⟨calls', hcalls⟩ : ∃ calls', h' + mi' = calls' := ⟨_, rfl⟩
      have hcc : calls + 1 = calls' := by omega
      rw [hcc] at hw
      simp (disch := omega) only [ite_ne, q1, hsl, getK_s (mapC_get stpC ex), go_sem, ↓reduceIte, Nat.reduceEqDiff, Nat.reduceBEq, Nat.reduceAdd, Nat.reduceLeDiff, Nat.reduceLT, reduceCtorEq, Nat.reduceMul, Nat.reduceSub, Int.reduceEq, Int.reduceLT, Int.reduceLE, Int.reduceToNat]
      refine dCallR.w (ws := [(m, .bx [.i .i64 room, .rw (m + 1) g' L'.length, .i .i64 h', .i .i64 mi', .i .i64 o, .b b]), (m + 1, .rw g' 3 (mapC entC L'))]) ?_ rfl (fun hp' e => hG hp' ((e m (.inl (by omega))).trans (by (simp (disch := omega) only [ite_ne, go_sem, ↓reduceIte, Nat.reduceEqDiff, Nat.reduceBEq, Nat.reduceAdd, Nat.reduceLeDiff, Nat.reduceLT, reduceCtorEq, Nat.reduceMul, Nat.reduceSub, Int.reduceEq, Int.reduceLT, Int.reduceLE, Int.reduceToNat]))) ((e (m + 1) (.inl (by omega))).trans (by (simp (disch := omega) only [ite_ne, go_sem, ↓reduceIte, Nat.reduceEqDiff, Nat.reduceBEq, Nat.reduceAdd, Nat.reduceLeDiff, Nat.reduceLT, reduceCtorEq, Nat.reduceMul, Nat.reduceSub, Int.reduceEq, Int.reduceLT, Int.reduceLE, Int.reduceToNat]))) _) ?_
      · simp (disch := omega) only [ite_ne, keys, List.map_cons, List.map_nil, go_sem, ↓reduceIte, Nat.reduceEqDiff, Nat.reduceBEq, Nat.reduceAdd, Nat.reduceLeDiff, Nat.reduceLT, reduceCtorEq, Nat.reduceMul, Nat.reduceSub, Int.reduceEq, Int.reduceLT, Int.reduceLE, Int.reduceToNat]
        first | done | (simp; done) | (simp; omega)
      simp (disch := omega) only [ite_ne, List.cons_append, List.nil_append, hcc, hw, go_sem, ↓reduceIte, Nat.reduceEqDiff, Nat.reduceBEq, Nat.reduceAdd, Nat.reduceLeDiff, Nat.reduceLT, reduceCtorEq, Nat.reduceMul, Nat.reduceSub, Int.reduceEq, Int.reduceLT, Int.reduceLE, Int.reduceToNat]
      have hci := ci
      obtain ⟨c1, c2, c3, c4, c5, c6, c7⟩ := hci
      have g1 := fun hp hc hk n => len_ok room h' mi' o b L' (by omega) (by omega) m (m + 1) g' hp hc hk n
      have g2 := fun hp hc hk n => hits_ok room h' mi' o b L' (by omega) (by omega) m (m + 1) g' hp hc hk n
      have g3 := fun hp hc hk n => misses_ok room h' mi' o b L' (by omega) (by omega) m (m + 1) g' hp hc hk n
      have g4 := fun hp hc hk n => keys_ok room h' mi' o b L' (by omega) (by omega) m (m + 1) g' hp hc hk n
      have d1 : decide (room < (L'.length : Int)) = false := decide_eq_false (by omega)
      have d2 : decide ((L'.length : Int) < 0) = false := decide_eq_false (by omega)
      have d3 : IntKind.i64.wrap (h' + mi') = calls' := by rw [wr64 (by omega)]; exact hcalls
      have d4 : (stC (L'.map Ent.t)).length = L'.length := by rw [← List.length_map (f := Ent.t)]; exact mapC_len _ _
      refine vcCall.f (g1 _ (by (simp (disch := omega) only [ite_ne, go_sem, ↓reduceIte, Nat.reduceEqDiff, Nat.reduceBEq, Nat.reduceAdd, Nat.reduceLeDiff, Nat.reduceLT, reduceCtorEq, Nat.reduceMul, Nat.reduceSub, Int.reduceEq, Int.reduceLT, Int.reduceLE, Int.reduceToNat])) (by (simp (disch := omega) only [ite_ne, go_sem, ↓reduceIte, Nat.reduceEqDiff, Nat.reduceBEq, Nat.reduceAdd, Nat.reduceLeDiff, Nat.reduceLT, reduceCtorEq, Nat.reduceMul, Nat.reduceSub, Int.reduceEq, Int.reduceLT, Int.reduceLE, Int.reduceToNat])) _) ?_
      simp (disch := omega) only [ite_ne, d1, go_sem, ↓reduceIte, Nat.reduceEqDiff, Nat.reduceBEq, Nat.reduceAdd, Nat.reduceLeDiff, Nat.reduceLT, reduceCtorEq, Nat.reduceMul, Nat.reduceSub, Int.reduceEq, Int.reduceLT, Int.reduceLE, Int.reduceToNat]
      refine gCall.f (fun _ => g1 _ (by (simp (disch := omega) only [ite_ne, go_sem, ↓reduceIte, Nat.reduceEqDiff, Nat.reduceBEq, Nat.reduceAdd, Nat.reduceLeDiff, Nat.reduceLT, reduceCtorEq, Nat.reduceMul, Nat.reduceSub, Int.reduceEq, Int.reduceLT, Int.reduceLE, Int.reduceToNat])) (by (simp (disch := omega) only [ite_ne, go_sem, ↓reduceIte, Nat.reduceEqDiff, Nat.reduceBEq, Nat.reduceAdd, Nat.reduceLeDiff, Nat.reduceLT, reduceCtorEq, Nat.reduceMul, Nat.reduceSub, Int.reduceEq, Int.reduceLT, Int.reduceLE, Int.reduceToNat])) _) ?_
      simp (disch := omega) only [ite_ne, d1, d2, go_sem, ↓reduceIte, Nat.reduceEqDiff, Nat.reduceBEq, Nat.reduceAdd, Nat.reduceLeDiff, Nat.reduceLT, reduceCtorEq, Nat.reduceMul, Nat.reduceSub, Int.reduceEq, Int.reduceLT, Int.reduceLE, Int.reduceToNat]
      refine gCall.f (fun _ => g4 _ (by (simp (disch := omega) only [ite_ne, go_sem, ↓reduceIte, Nat.reduceEqDiff, Nat.reduceBEq, Nat.reduceAdd, Nat.reduceLeDiff, Nat.reduceLT, reduceCtorEq, Nat.reduceMul, Nat.reduceSub, Int.reduceEq, Int.reduceLT, Int.reduceLE, Int.reduceToNat])) (by (simp (disch := omega) only [ite_ne, go_sem, ↓reduceIte, Nat.reduceEqDiff, Nat.reduceBEq, Nat.reduceAdd, Nat.reduceLeDiff, Nat.reduceLT, reduceCtorEq, Nat.reduceMul, Nat.reduceSub, Int.reduceEq, Int.reduceLT, Int.reduceLE, Int.reduceToNat])) _) ?_
      simp (disch := omega) only [ite_ne, d1, d2, d4, go_sem, ↓reduceIte, Nat.reduceEqDiff, Nat.reduceBEq, Nat.reduceAdd, Nat.reduceLeDiff, Nat.reduceLT, reduceCtorEq, Nat.reduceMul, Nat.reduceSub, Int.reduceEq, Int.reduceLT, Int.reduceLE, Int.reduceToNat]
      refine gCall.f (fun _ => g1 _ (by (simp (disch := omega) only [ite_ne, go_sem, ↓reduceIte, Nat.reduceEqDiff, Nat.reduceBEq, Nat.reduceAdd, Nat.reduceLeDiff, Nat.reduceLT, reduceCtorEq, Nat.reduceMul, Nat.reduceSub, Int.reduceEq, Int.reduceLT, Int.reduceLE, Int.reduceToNat])) (by (simp (disch := omega) only [ite_ne, go_sem, ↓reduceIte, Nat.reduceEqDiff, Nat.reduceBEq, Nat.reduceAdd, Nat.reduceLeDiff, Nat.reduceLT, reduceCtorEq, Nat.reduceMul, Nat.reduceSub, Int.reduceEq, Int.reduceLT, Int.reduceLE, Int.reduceToNat])) _) ?_
      simp (disch := omega) only [ite_ne, d1, d2, d4, decide_true, go_sem, ↓reduceIte, Nat.reduceEqDiff, Nat.reduceBEq, Nat.reduceAdd, Nat.reduceLeDiff, Nat.reduceLT, reduceCtorEq, Nat.reduceMul, Nat.reduceSub, Int.reduceEq, Int.reduceLT, Int.reduceLE, Int.reduceToNat]
      refine gCall.f (fun _ => g2 _ (by (simp (disch := omega) only [ite_ne, go_sem, ↓reduceIte, Nat.reduceEqDiff, Nat.reduceBEq, Nat.reduceAdd, Nat.reduceLeDiff, Nat.reduceLT, reduceCtorEq, Nat.reduceMul, Nat.reduceSub, Int.reduceEq, Int.reduceLT, Int.reduceLE, Int.reduceToNat])) (by (simp (disch := omega) only [ite_ne, go_sem, ↓reduceIte, Nat.reduceEqDiff, Nat.reduceBEq, Nat.reduceAdd, Nat.reduceLeDiff, Nat.reduceLT, reduceCtorEq, Nat.reduceMul, Nat.reduceSub, Int.reduceEq, Int.reduceLT, Int.reduceLE, Int.reduceToNat])) _) ?_
      simp (disch := omega) only [ite_ne, go_sem, ↓reduceIte, Nat.reduceEqDiff, Nat.reduceBEq, Nat.reduceAdd, Nat.reduceLeDiff, Nat.reduceLT, reduceCtorEq, Nat.reduceMul, Nat.reduceSub, Int.reduceEq, Int.reduceLT, Int.reduceLE, Int.reduceToNat]
      refine gCall.f (fun _ => g3 _ (by (simp (disch := omega) only [ite_ne, go_sem, ↓reduceIte, Nat.reduceEqDiff, Nat.reduceBEq, Nat.reduceAdd, Nat.reduceLeDiff, Nat.reduceLT, reduceCtorEq, Nat.reduceMul, Nat.reduceSub, Int.reduceEq, Int.reduceLT, Int.reduceLE, Int.reduceToNat])) (by (simp (disch := omega) only [ite_ne, go_sem, ↓reduceIte, Nat.reduceEqDiff, Nat.reduceBEq, Nat.reduceAdd, Nat.reduceLeDiff, Nat.reduceLT, reduceCtorEq, Nat.reduceMul, Nat.reduceSub, Int.reduceEq, Int.reduceLT, Int.reduceLE, Int.reduceToNat])) _) ?_
      simp (disch := omega) only [ite_ne, d3, decide_true, go_sem, ↓reduceIte, Nat.reduceEqDiff, Nat.reduceBEq, Nat.reduceAdd, Nat.reduceLeDiff, Nat.reduceLT, reduceCtorEq, Nat.reduceMul, Nat.reduceSub, Int.reduceEq, Int.reduceLT, Int.reduceLE, Int.reduceToNat]
      refine ⟨(j + 1, (h', mi', o, b, L', g'), calls', _), ⟨by dsimp only; omega, by dsimp only; omega, ci, hcalls⟩, by dsimp only; omega, weak_ok ?_ ?_ (Nat.le_refl _)⟩
      · simp (disch := omega) only [ite_ne, wr64s j (by omega), go_sem, ↓reduceIte, Nat.reduceEqDiff, Nat.reduceBEq, Nat.reduceAdd, Nat.reduceLeDiff, Nat.reduceLT, reduceCtorEq, Nat.reduceMul, Nat.reduceSub, Int.reduceEq, Int.reduceLT, Int.reduceLE, Int.reduceToNat]
      · simp only [List.cons_append, List.nil_append]
        refine Sub.cons ?_ (Sub.cons ?_ (Sub.base hf ?_))
        all_goals (simp (disch := omega) only [ite_ne, go_sem, ↓reduceIte, Nat.reduceEqDiff, Nat.reduceBEq, Nat.reduceAdd, Nat.reduceLeDiff, Nat.reduceLT, reduceCtorEq, Nat.reduceMul, Nat.reduceSub, Int.reduceEq, Int.reduceLT, Int.reduceLE, Int.reduceToNat])
    · simp (disch := omega) only [ite_ne, q1, hsl, getK_s (mapC_get stpC ex), go_sem, ↓reduceIte, Nat.reduceEqDiff, Nat.reduceBEq, Nat.reduceAdd, Nat.reduceLeDiff, Nat.reduceLT, reduceCtorEq, Nat.reduceMul, Nat.reduceSub, Int.reduceEq, Int.reduceLT, Int.reduceLE, Int.reduceToNat]
      refine cdK_of (fun q3 => ?_) (fun q3 => ?_)
      · have hD := cdrop_ok room h mi o b L ⟨ci0.r1, ci0.r2⟩ (by have := ci0.ll; have := ci0.r2; omega) m (m + 1) g
        have hD := fun hp hc hk n => hD hp hc hk n x.v
        have ci := ci0.dr x.v
        obtain ⟨O', hO'⟩ : ∃ O', drO x.v o b = O' := ⟨_, rfl⟩
        obtain ⟨L', hL'⟩ : ∃ L', drL x.v L = L' := ⟨_, rfl⟩
        rw [hO', hL'] at hD
        rw [hL'] at ci
        have hcalls := hj4
        unfold pcW at hD
        simp (disch := omega) only [ite_ne, q1, hsl, getK_s (mapC_get stpC ex), go_sem, ↓reduceIte, Nat.reduceEqDiff, Nat.reduceBEq, Nat.reduceAdd, Nat.reduceLeDiff, Nat.reduceLT, reduceCtorEq, Nat.reduceMul, Nat.reduceSub, Int.reduceEq, Int.reduceLT, Int.reduceLE, Int.reduceToNat]
        refine vcCall.x (hD _ ?_ ?_ _) ?_
        · simp (disch := omega) only [ite_ne, go_sem, ↓reduceIte, Nat.reduceEqDiff, Nat.reduceBEq, Nat.reduceAdd, Nat.reduceLeDiff, Nat.reduceLT, reduceCtorEq, Nat.reduceMul, Nat.reduceSub, Int.reduceEq, Int.reduceLT, Int.reduceLE, Int.reduceToNat]
        · simp (disch := omega) only [ite_ne, go_sem, ↓reduceIte, Nat.reduceEqDiff, Nat.reduceBEq, Nat.reduceAdd, Nat.reduceLeDiff, Nat.reduceLT, reduceCtorEq, Nat.reduceMul, Nat.reduceSub, Int.reduceEq, Int.reduceLT, Int.reduceLE, Int.reduceToNat]
        simp (disch := omega) only [ite_ne, List.cons_append, List.nil_append, go_sem, ↓reduceIte, Nat.reduceEqDiff, Nat.reduceBEq, Nat.reduceAdd, Nat.reduceLeDiff, Nat.reduceLT, reduceCtorEq, Nat.reduceMul, Nat.reduceSub, Int.reduceEq, Int.reduceLT, Int.reduceLE, Int.reduceToNat]
        have hci := ci
        obtain ⟨c1, c2, c3, c4, c5, c6, c7⟩ := hci
        have g1 := fun hp hc hk n => len_ok room h mi O' true L' (by omega) (by omega) m (m + 1) g hp hc hk n
        have g2 := fun hp hc hk n => hits_ok room h mi O' true L' (by omega) (by omega) m (m + 1) g hp hc hk n
        have g3 := fun hp hc hk n => misses_ok room h mi O' true L' (by omega) (by omega) m (m + 1) g hp hc hk n
        have g4 := fun hp hc hk n => keys_ok room h mi O' true L' (by omega) (by omega) m (m + 1) g hp hc hk n
        have d1 : decide (room < (L'.length : Int)) = false := decide_eq_false (by omega)
        have d2 : decide ((L'.length : Int) < 0) = false := decide_eq_false (by omega)
        have d3 : IntKind.i64.wrap (h + mi) = calls := by rw [wr64 (by omega)]; exact hcalls
        have d4 : (stC (L'.map Ent.t)).length = L'.length := by rw [← List.length_map (f := Ent.t)]; exact mapC_len _ _
        refine vcCall.f (g1 _ (by (simp (disch := omega) only [ite_ne, go_sem, ↓reduceIte, Nat.reduceEqDiff, Nat.reduceBEq, Nat.reduceAdd, Nat.reduceLeDiff, Nat.reduceLT, reduceCtorEq, Nat.reduceMul, Nat.reduceSub, Int.reduceEq, Int.reduceLT, Int.reduceLE, Int.reduceToNat])) (by (simp (disch := omega) only [ite_ne, go_sem, ↓reduceIte, Nat.reduceEqDiff, Nat.reduceBEq, Nat.reduceAdd, Nat.reduceLeDiff, Nat.reduceLT, reduceCtorEq, Nat.reduceMul, Nat.reduceSub, Int.reduceEq, Int.reduceLT, Int.reduceLE, Int.reduceToNat])) _) ?_
        simp (disch := omega) only [ite_ne, d1, go_sem, ↓reduceIte, Nat.reduceEqDiff, Nat.reduceBEq, Nat.reduceAdd, Nat.reduceLeDiff, Nat.reduceLT, reduceCtorEq, Nat.reduceMul, Nat.reduceSub, Int.reduceEq, Int.reduceLT, Int.reduceLE, Int.reduceToNat]
        refine gCall.f (fun _ => g1 _ (by (simp (disch := omega) only [ite_ne, go_sem, ↓reduceIte, Nat.reduceEqDiff, Nat.reduceBEq, Nat.reduceAdd, Nat.reduceLeDiff, Nat.reduceLT, reduceCtorEq, Nat.reduceMul, Nat.reduceSub, Int.reduceEq, Int.reduceLT, Int.reduceLE, Int.reduceToNat])) (by (simp (disch := omega) only [ite_ne, go_sem, ↓reduceIte, Nat.reduceEqDiff, Nat.reduceBEq, Nat.reduceAdd, Nat.reduceLeDiff, Nat.reduceLT, reduceCtorEq, Nat.reduceMul, Nat.reduceSub, Int.reduceEq, Int.reduceLT, Int.reduceLE, Int.reduceToNat])) _) ?_
        simp (disch := omega) only [ite_ne, d1, d2, go_sem, ↓reduceIte, Nat.reduceEqDiff, Nat.reduceBEq, Nat.reduceAdd, Nat.reduceLeDiff, Nat.reduceLT, reduceCtorEq, Nat.reduceMul, Nat.reduceSub, Int.reduceEq, Int.reduceLT, Int.reduceLE, Int.reduceToNat]
        refine gCall.f (fun _ => g4 _ (by (simp (disch := omega) only [ite_ne, go_sem, ↓reduceIte, Nat.reduceEqDiff, Nat.reduceBEq, Nat.reduceAdd, Nat.reduceLeDiff, Nat.reduceLT, reduceCtorEq, Nat.reduceMul, Nat.reduceSub, Int.reduceEq, Int.reduceLT, Int.reduceLE, Int.reduceToNat])) (by (simp (disch := omega) only [ite_ne, go_sem, ↓reduceIte, Nat.reduceEqDiff, Nat.reduceBEq, Nat.reduceAdd, Nat.reduceLeDiff, Nat.reduceLT, reduceCtorEq, Nat.reduceMul, Nat.reduceSub, Int.reduceEq, Int.reduceLT, Int.reduceLE, Int.reduceToNat])) _) ?_
        simp (disch := omega) only [ite_ne, d1, d2, d4, go_sem, ↓reduceIte, Nat.reduceEqDiff, Nat.reduceBEq, Nat.reduceAdd, Nat.reduceLeDiff, Nat.reduceLT, reduceCtorEq, Nat.reduceMul, Nat.reduceSub, Int.reduceEq, Int.reduceLT, Int.reduceLE, Int.reduceToNat]
        refine gCall.f (fun _ => g1 _ (by (simp (disch := omega) only [ite_ne, go_sem, ↓reduceIte, Nat.reduceEqDiff, Nat.reduceBEq, Nat.reduceAdd, Nat.reduceLeDiff, Nat.reduceLT, reduceCtorEq, Nat.reduceMul, Nat.reduceSub, Int.reduceEq, Int.reduceLT, Int.reduceLE, Int.reduceToNat])) (by (simp (disch := omega) only [ite_ne, go_sem, ↓reduceIte, Nat.reduceEqDiff, Nat.reduceBEq, Nat.reduceAdd, Nat.reduceLeDiff, Nat.reduceLT, reduceCtorEq, Nat.reduceMul, Nat.reduceSub, Int.reduceEq, Int.reduceLT, Int.reduceLE, Int.reduceToNat])) _) ?_
        simp (disch := omega) only [ite_ne, d1, d2, d4, decide_true, go_sem, ↓reduceIte, Nat.reduceEqDiff, Nat.reduceBEq, Nat.reduceAdd, Nat.reduceLeDiff, Nat.reduceLT, reduceCtorEq, Nat.reduceMul, Nat.reduceSub, Int.reduceEq, Int.reduceLT, Int.reduceLE, Int.reduceToNat]
        refine gCall.f (fun _ => g2 _ (by (simp (disch := omega) only [ite_ne, go_sem, ↓reduceIte, Nat.reduceEqDiff, Nat.reduceBEq, Nat.reduceAdd, Nat.reduceLeDiff, Nat.reduceLT, reduceCtorEq, Nat.reduceMul, Nat.reduceSub, Int.reduceEq, Int.reduceLT, Int.reduceLE, Int.reduceToNat])) (by (simp (disch := omega) only [ite_ne, go_sem, ↓reduceIte, Nat.reduceEqDiff, Nat.reduceBEq, Nat.reduceAdd, Nat.reduceLeDiff, Nat.reduceLT, reduceCtorEq, Nat.reduceMul, Nat.reduceSub, Int.reduceEq, Int.reduceLT, Int.reduceLE, Int.reduceToNat])) _) ?_
        simp (disch := omega) only [ite_ne, go_sem, ↓reduceIte, Nat.reduceEqDiff, Nat.reduceBEq, Nat.reduceAdd, Nat.reduceLeDiff, Nat.reduceLT, reduceCtorEq, Nat.reduceMul, Nat.reduceSub, Int.reduceEq, Int.reduceLT, Int.reduceLE, Int.reduceToNat]
        refine gCall.f (fun _ => g3 _ (by (simp (disch := omega) only [ite_ne, go_sem, ↓reduceIte, Nat.reduceEqDiff, Nat.reduceBEq, Nat.reduceAdd, Nat.reduceLeDiff, Nat.reduceLT, reduceCtorEq, Nat.reduceMul, Nat.reduceSub, Int.reduceEq, Int.reduceLT, Int.reduceLE, Int.reduceToNat])) (by (simp (disch := omega) only [ite_ne, go_sem, ↓reduceIte, Nat.reduceEqDiff, Nat.reduceBEq, Nat.reduceAdd, Nat.reduceLeDiff, Nat.reduceLT, reduceCtorEq, Nat.reduceMul, Nat.reduceSub, Int.reduceEq, Int.reduceLT, Int.reduceLE, Int.reduceToNat])) _) ?_
        simp (disch := omega) only [ite_ne, d3, decide_true, go_sem, ↓reduceIte, Nat.reduceEqDiff, Nat.reduceBEq, Nat.reduceAdd, Nat.reduceLeDiff, Nat.reduceLT, reduceCtorEq, Nat.reduceMul, Nat.reduceSub, Int.reduceEq, Int.reduceLT, Int.reduceLE, Int.reduceToNat]
        refine ⟨(j + 1, (h, mi, O', true, L', g), calls, _), ⟨by dsimp only; omega, by dsimp only; omega, ci, hcalls⟩, by dsimp only; omega, weak_ok ?_ ?_ (Nat.le_refl _)⟩
        · simp (disch := omega) only [ite_ne, wr64s j (by omega), go_sem, ↓reduceIte, Nat.reduceEqDiff, Nat.reduceBEq, Nat.reduceAdd, Nat.reduceLeDiff, Nat.reduceLT, reduceCtorEq, Nat.reduceMul, Nat.reduceSub, Int.reduceEq, Int.reduceLT, Int.reduceLE, Int.reduceToNat]
        · simp only [List.cons_append, List.nil_append]
          refine Sub.cons ?_ (Sub.cons ?_ (Sub.base hf ?_))
          all_goals (simp (disch := omega) only [ite_ne, go_sem, ↓reduceIte, Nat.reduceEqDiff, Nat.reduceBEq, Nat.reduceAdd, Nat.reduceLeDiff, Nat.reduceLT, reduceCtorEq, Nat.reduceMul, Nat.reduceSub, Int.reduceEq, Int.reduceLT, Int.reduceLE, Int.reduceToNat])
      · obtain ⟨L', g', Q, ci, hP⟩ := cput_all room h mi o b L j ci0 (by omega) m (m + 1) g x.t x.v x.n
        have hcalls := hj4
        unfold pcW at hP
        simp (disch := omega) only [ite_ne, q1, hsl, getK_s (mapC_get stpC ex), go_sem, ↓reduceIte, Nat.reduceEqDiff, Nat.reduceBEq, Nat.reduceAdd, Nat.reduceLeDiff, Nat.reduceLT, reduceCtorEq, Nat.reduceMul, Nat.reduceSub, Int.reduceEq, Int.reduceLT, Int.reduceLE, Int.reduceToNat]
        refine dCallR.f (fun _ hp' e => plans_ok _ _ _) ?_
        simp (disch := omega) only [ite_ne, q1, hsl, getK_s (mapC_get stpC ex), go_sem, ↓reduceIte, Nat.reduceEqDiff, Nat.reduceBEq, Nat.reduceAdd, Nat.reduceLeDiff, Nat.reduceLT, reduceCtorEq, Nat.reduceMul, Nat.reduceSub, Int.reduceEq, Int.reduceLT, Int.reduceLE, Int.reduceToNat]
        refine dCallR.w (ws := [(m, .bx [.i .i64 room, .rw (m + 1) g' L'.length, .i .i64 h, .i .i64 mi, .i .i64 o, .b b]), (m + 1, .rw g' 3 (mapC entC L'))]) ?_ rfl (fun hp' e => hP hp' ((e m (.inl (by omega))).trans (by (simp (disch := omega) only [ite_ne, go_sem, ↓reduceIte, Nat.reduceEqDiff, Nat.reduceBEq, Nat.reduceAdd, Nat.reduceLeDiff, Nat.reduceLT, reduceCtorEq, Nat.reduceMul, Nat.reduceSub, Int.reduceEq, Int.reduceLT, Int.reduceLE, Int.reduceToNat]))) ((e (m + 1) (.inl (by omega))).trans (by (simp (disch := omega) only [ite_ne, go_sem, ↓reduceIte, Nat.reduceEqDiff, Nat.reduceBEq, Nat.reduceAdd, Nat.reduceLeDiff, Nat.reduceLT, reduceCtorEq, Nat.reduceMul, Nat.reduceSub, Int.reduceEq, Int.reduceLT, Int.reduceLE, Int.reduceToNat]))) _) ?_
        · simp (disch := omega) only [ite_ne, keys, List.map_cons, List.map_nil, go_sem, ↓reduceIte, Nat.reduceEqDiff, Nat.reduceBEq, Nat.reduceAdd, Nat.reduceLeDiff, Nat.reduceLT, reduceCtorEq, Nat.reduceMul, Nat.reduceSub, Int.reduceEq, Int.reduceLT, Int.reduceLE, Int.reduceToNat]
          first | done | (simp; done) | (simp; omega)
        simp (disch := omega) only [ite_ne, List.cons_append, List.nil_append, go_sem, ↓reduceIte, Nat.reduceEqDiff, Nat.reduceBEq, Nat.reduceAdd, Nat.reduceLeDiff, Nat.reduceLT, reduceCtorEq, Nat.reduceMul, Nat.reduceSub, Int.reduceEq, Int.reduceLT, Int.reduceLE, Int.reduceToNat]
        have hci := ci
        obtain ⟨c1, c2, c3, c4, c5, c6, c7⟩ := hci
        have g1 := fun hp hc hk n => len_ok room h mi o b L' (by omega) (by omega) m (m + 1) g' hp hc hk n
        have g2 := fun hp hc hk n => hits_ok room h mi o b L' (by omega) (by omega) m (m + 1) g' hp hc hk n
        have g3 := fun hp hc hk n => misses_ok room h mi o b L' (by omega) (by omega) m (m + 1) g' hp hc hk n
        have g4 := fun hp hc hk n => keys_ok room h mi o b L' (by omega) (by omega) m (m + 1) g' hp hc hk n
        have d1 : decide (room < (L'.length : Int)) = false := decide_eq_false (by omega)
        have d2 : decide ((L'.length : Int) < 0) = false := decide_eq_false (by omega)
        have d3 : IntKind.i64.wrap (h + mi) = calls := by rw [wr64 (by omega)]; exact hcalls
        have d4 : (stC (L'.map Ent.t)).length = L'.length := by rw [← List.length_map (f := Ent.t)]; exact mapC_len _ _
        refine vcCall.f (g1 _ (by (simp (disch := omega) only [ite_ne, go_sem, ↓reduceIte, Nat.reduceEqDiff, Nat.reduceBEq, Nat.reduceAdd, Nat.reduceLeDiff, Nat.reduceLT, reduceCtorEq, Nat.reduceMul, Nat.reduceSub, Int.reduceEq, Int.reduceLT, Int.reduceLE, Int.reduceToNat])) (by (simp (disch := omega) only [ite_ne, go_sem, ↓reduceIte, Nat.reduceEqDiff, Nat.reduceBEq, Nat.reduceAdd, Nat.reduceLeDiff, Nat.reduceLT, reduceCtorEq, Nat.reduceMul, Nat.reduceSub, Int.reduceEq, Int.reduceLT, Int.reduceLE, Int.reduceToNat])) _) ?_
        simp (disch := omega) only [ite_ne, d1, go_sem, ↓reduceIte, Nat.reduceEqDiff, Nat.reduceBEq, Nat.reduceAdd, Nat.reduceLeDiff, Nat.reduceLT, reduceCtorEq, Nat.reduceMul, Nat.reduceSub, Int.reduceEq, Int.reduceLT, Int.reduceLE, Int.reduceToNat]
        refine gCall.f (fun _ => g1 _ (by (simp (disch := omega) only [ite_ne, go_sem, ↓reduceIte, Nat.reduceEqDiff, Nat.reduceBEq, Nat.reduceAdd, Nat.reduceLeDiff, Nat.reduceLT, reduceCtorEq, Nat.reduceMul, Nat.reduceSub, Int.reduceEq, Int.reduceLT, Int.reduceLE, Int.reduceToNat])) (by (simp (disch := omega) only [ite_ne, go_sem, ↓reduceIte, Nat.reduceEqDiff, Nat.reduceBEq, Nat.reduceAdd, Nat.reduceLeDiff, Nat.reduceLT, reduceCtorEq, Nat.reduceMul, Nat.reduceSub, Int.reduceEq, Int.reduceLT, Int.reduceLE, Int.reduceToNat])) _) ?_
        simp (disch := omega) only [ite_ne, d1, d2, go_sem, ↓reduceIte, Nat.reduceEqDiff, Nat.reduceBEq, Nat.reduceAdd, Nat.reduceLeDiff, Nat.reduceLT, reduceCtorEq, Nat.reduceMul, Nat.reduceSub, Int.reduceEq, Int.reduceLT, Int.reduceLE, Int.reduceToNat]
        refine gCall.f (fun _ => g4 _ (by (simp (disch := omega) only [ite_ne, go_sem, ↓reduceIte, Nat.reduceEqDiff, Nat.reduceBEq, Nat.reduceAdd, Nat.reduceLeDiff, Nat.reduceLT, reduceCtorEq, Nat.reduceMul, Nat.reduceSub, Int.reduceEq, Int.reduceLT, Int.reduceLE, Int.reduceToNat])) (by (simp (disch := omega) only [ite_ne, go_sem, ↓reduceIte, Nat.reduceEqDiff, Nat.reduceBEq, Nat.reduceAdd, Nat.reduceLeDiff, Nat.reduceLT, reduceCtorEq, Nat.reduceMul, Nat.reduceSub, Int.reduceEq, Int.reduceLT, Int.reduceLE, Int.reduceToNat])) _) ?_
        simp (disch := omega) only [ite_ne, d1, d2, d4, go_sem, ↓reduceIte, Nat.reduceEqDiff, Nat.reduceBEq, Nat.reduceAdd, Nat.reduceLeDiff, Nat.reduceLT, reduceCtorEq, Nat.reduceMul, Nat.reduceSub, Int.reduceEq, Int.reduceLT, Int.reduceLE, Int.reduceToNat]
        refine gCall.f (fun _ => g1 _ (by (simp (disch := omega) only [ite_ne, go_sem, ↓reduceIte, Nat.reduceEqDiff, Nat.reduceBEq, Nat.reduceAdd, Nat.reduceLeDiff, Nat.reduceLT, reduceCtorEq, Nat.reduceMul, Nat.reduceSub, Int.reduceEq, Int.reduceLT, Int.reduceLE, Int.reduceToNat])) (by (simp (disch := omega) only [ite_ne, go_sem, ↓reduceIte, Nat.reduceEqDiff, Nat.reduceBEq, Nat.reduceAdd, Nat.reduceLeDiff, Nat.reduceLT, reduceCtorEq, Nat.reduceMul, Nat.reduceSub, Int.reduceEq, Int.reduceLT, Int.reduceLE, Int.reduceToNat])) _) ?_
        simp (disch := omega) only [ite_ne, d1, d2, d4, decide_true, go_sem, ↓reduceIte, Nat.reduceEqDiff, Nat.reduceBEq, Nat.reduceAdd, Nat.reduceLeDiff, Nat.reduceLT, reduceCtorEq, Nat.reduceMul, Nat.reduceSub, Int.reduceEq, Int.reduceLT, Int.reduceLE, Int.reduceToNat]
        refine gCall.f (fun _ => g2 _ (by (simp (disch := omega) only [ite_ne, go_sem, ↓reduceIte, Nat.reduceEqDiff, Nat.reduceBEq, Nat.reduceAdd, Nat.reduceLeDiff, Nat.reduceLT, reduceCtorEq, Nat.reduceMul, Nat.reduceSub, Int.reduceEq, Int.reduceLT, Int.reduceLE, Int.reduceToNat])) (by (simp (disch := omega) only [ite_ne, go_sem, ↓reduceIte, Nat.reduceEqDiff, Nat.reduceBEq, Nat.reduceAdd, Nat.reduceLeDiff, Nat.reduceLT, reduceCtorEq, Nat.reduceMul, Nat.reduceSub, Int.reduceEq, Int.reduceLT, Int.reduceLE, Int.reduceToNat])) _) ?_
        simp (disch := omega) only [ite_ne, go_sem, ↓reduceIte, Nat.reduceEqDiff, Nat.reduceBEq, Nat.reduceAdd, Nat.reduceLeDiff, Nat.reduceLT, reduceCtorEq, Nat.reduceMul, Nat.reduceSub, Int.reduceEq, Int.reduceLT, Int.reduceLE, Int.reduceToNat]
        refine gCall.f (fun _ => g3 _ (by (simp (disch := omega) only [ite_ne, go_sem, ↓reduceIte, Nat.reduceEqDiff, Nat.reduceBEq, Nat.reduceAdd, Nat.reduceLeDiff, Nat.reduceLT, reduceCtorEq, Nat.reduceMul, Nat.reduceSub, Int.reduceEq, Int.reduceLT, Int.reduceLE, Int.reduceToNat])) (by (simp (disch := omega) only [ite_ne, go_sem, ↓reduceIte, Nat.reduceEqDiff, Nat.reduceBEq, Nat.reduceAdd, Nat.reduceLeDiff, Nat.reduceLT, reduceCtorEq, Nat.reduceMul, Nat.reduceSub, Int.reduceEq, Int.reduceLT, Int.reduceLE, Int.reduceToNat])) _) ?_
        simp (disch := omega) only [ite_ne, d3, decide_true, go_sem, ↓reduceIte, Nat.reduceEqDiff, Nat.reduceBEq, Nat.reduceAdd, Nat.reduceLeDiff, Nat.reduceLT, reduceCtorEq, Nat.reduceMul, Nat.reduceSub, Int.reduceEq, Int.reduceLT, Int.reduceLE, Int.reduceToNat]
        refine ⟨(j + 1, (h, mi, o, b, L', g'), calls, _), ⟨by dsimp only; omega, by dsimp only; omega, ci, hcalls⟩, by dsimp only; omega, weak_ok ?_ ?_ (Nat.le_refl _)⟩
        · simp (disch := omega) only [ite_ne, wr64s j (by omega), go_sem, ↓reduceIte, Nat.reduceEqDiff, Nat.reduceBEq, Nat.reduceAdd, Nat.reduceLeDiff, Nat.reduceLT, reduceCtorEq, Nat.reduceMul, Nat.reduceSub, Int.reduceEq, Int.reduceLT, Int.reduceLE, Int.reduceToNat]
        · simp only [List.cons_append, List.nil_append]
          refine Sub.cons ?_ (Sub.cons ?_ (Sub.base hf ?_))
          all_goals (simp (disch := omega) only [ite_ne, go_sem, ↓reduceIte, Nat.reduceEqDiff, Nat.reduceBEq, Nat.reduceAdd, Nat.reduceLeDiff, Nat.reduceLT, reduceCtorEq, Nat.reduceMul, Nat.reduceSub, Int.reduceEq, Int.reduceLT, Int.reduceLE, Int.reduceToNat])
  · simp (disch := omega) only [ite_ne, go_sem, ↓reduceIte, Nat.reduceEqDiff, Nat.reduceBEq, Nat.reduceAdd, Nat.reduceLeDiff, Nat.reduceLT, reduceCtorEq, Nat.reduceMul, Nat.reduceSub, Int.reduceEq, Int.reduceLT, Int.reduceLE, Int.reduceToNat]
    refine vcCall.f (exh_ok _ _) ?_
    simp (disch := omega) only [ite_ne, go_sem, ↓reduceIte, Nat.reduceEqDiff, Nat.reduceBEq, Nat.reduceAdd, Nat.reduceLeDiff, Nat.reduceLT, reduceCtorEq, Nat.reduceMul, Nat.reduceSub, Int.reduceEq, Int.reduceLT, Int.reduceLE, Int.reduceToNat]
theorem lenN (hp : CH) (m : Nat) : MeetsF Try.prog 17 hp m [.np] (.i .i64 0) := by
  refine meetsF Try.func17 (by kernel_rfl) cc17 cr17 rfl fun hf => ?_; unfold ck17
  simp only [go_sem, ↓reduceIte, Nat.reduceEqDiff, Nat.reduceBEq, Nat.reduceAdd, Nat.reduceLeDiff, Nat.reduceLT, reduceCtorEq, Nat.reduceMul, Nat.reduceSub, Int.reduceEq, Int.reduceLT, Int.reduceLE, Int.reduceToNat]
  refine vcCall.f (made_nil _ _) ?_
  simp (disch := omega) only [ite_ne, go_sem, ↓reduceIte, Nat.reduceEqDiff, Nat.reduceBEq, Nat.reduceAdd, Nat.reduceLeDiff, Nat.reduceLT, reduceCtorEq, Nat.reduceMul, Nat.reduceSub, Int.reduceEq, Int.reduceLT, Int.reduceLE, Int.reduceToNat]
theorem hitsN (hp : CH) (m : Nat) : MeetsF Try.prog 19 hp m [.np] (.i .i64 0) := by
  refine meetsF Try.func19 (by kernel_rfl) cc19 cr19 rfl fun hf => ?_; unfold ck19
  simp only [go_sem, ↓reduceIte, Nat.reduceEqDiff, Nat.reduceBEq, Nat.reduceAdd, Nat.reduceLeDiff, Nat.reduceLT, reduceCtorEq, Nat.reduceMul, Nat.reduceSub, Int.reduceEq, Int.reduceLT, Int.reduceLE, Int.reduceToNat]
  refine vcCall.f (made_nil _ _) ?_
  simp (disch := omega) only [ite_ne, go_sem, ↓reduceIte, Nat.reduceEqDiff, Nat.reduceBEq, Nat.reduceAdd, Nat.reduceLeDiff, Nat.reduceLT, reduceCtorEq, Nat.reduceMul, Nat.reduceSub, Int.reduceEq, Int.reduceLT, Int.reduceLE, Int.reduceToNat]
theorem missesN (hp : CH) (m : Nat) : MeetsF Try.prog 21 hp m [.np] (.i .i64 0) := by
  refine meetsF Try.func21 (by kernel_rfl) cc21 cr21 rfl fun hf => ?_; unfold ck21
  simp only [go_sem, ↓reduceIte, Nat.reduceEqDiff, Nat.reduceBEq, Nat.reduceAdd, Nat.reduceLeDiff, Nat.reduceLT, reduceCtorEq, Nat.reduceMul, Nat.reduceSub, Int.reduceEq, Int.reduceLT, Int.reduceLE, Int.reduceToNat]
  refine vcCall.f (made_nil _ _) ?_
  simp (disch := omega) only [ite_ne, go_sem, ↓reduceIte, Nat.reduceEqDiff, Nat.reduceBEq, Nat.reduceAdd, Nat.reduceLeDiff, Nat.reduceLT, reduceCtorEq, Nat.reduceMul, Nat.reduceSub, Int.reduceEq, Int.reduceLT, Int.reduceLE, Int.reduceToNat]
theorem keysN (hp : CH) (m : Nat) : MeetsF Try.prog 24 hp m [.np] (.ds []) := by
  refine meetsF Try.func24 (by kernel_rfl) cc24 cr24 rfl fun hf => ?_; unfold ck24
  simp only [go_sem, ↓reduceIte, Nat.reduceEqDiff, Nat.reduceBEq, Nat.reduceAdd, Nat.reduceLeDiff, Nat.reduceLT, reduceCtorEq, Nat.reduceMul, Nat.reduceSub, Int.reduceEq, Int.reduceLT, Int.reduceLE, Int.reduceToNat]
  refine vcCall.f (made_nil _ _) ?_
  simp (disch := omega) only [ite_ne, go_sem, ↓reduceIte, Nat.reduceEqDiff, Nat.reduceBEq, Nat.reduceAdd, Nat.reduceLeDiff, Nat.reduceLT, reduceCtorEq, Nat.reduceMul, Nat.reduceSub, Int.reduceEq, Int.reduceLT, Int.reduceLE, Int.reduceToNat]
theorem getN (t : ByteArray) (v : Int) (hp : CH) (m : Nat) : MeetsF Try.prog 11 hp m [.np, .s t, .i .i64 v] (.tp [.ds [], .b false]) := by
  refine meetsF Try.func11 (by kernel_rfl) cc11 cr11 rfl fun hf => ?_; unfold ck11
  simp only [go_sem, ↓reduceIte, Nat.reduceEqDiff, Nat.reduceBEq, Nat.reduceAdd, Nat.reduceLeDiff, Nat.reduceLT, reduceCtorEq, Nat.reduceMul, Nat.reduceSub, Int.reduceEq, Int.reduceLT, Int.reduceLE, Int.reduceToNat]
  refine vcCall.f (made_nil _ _) ?_
  simp (disch := omega) only [ite_ne, go_sem, ↓reduceIte, Nat.reduceEqDiff, Nat.reduceBEq, Nat.reduceAdd, Nat.reduceLeDiff, Nat.reduceLT, reduceCtorEq, Nat.reduceMul, Nat.reduceSub, Int.reduceEq, Int.reduceLT, Int.reduceLE, Int.reduceToNat]
theorem putN (t : ByteArray) (v : Int) (α : AV) (hp : CH) (m : Nat) : MeetsF Try.prog 9 hp m [.np, .s t, .i .i64 v, α] (.i .i64 1) := by
  refine meetsF Try.func9 (by kernel_rfl) cc9 cr9 rfl fun hf => ?_; unfold ck9
  simp only [go_sem, ↓reduceIte, Nat.reduceEqDiff, Nat.reduceBEq, Nat.reduceAdd, Nat.reduceLeDiff, Nat.reduceLT, reduceCtorEq, Nat.reduceMul, Nat.reduceSub, Int.reduceEq, Int.reduceLT, Int.reduceLE, Int.reduceToNat]
  refine vcCall.f (made_nil _ _) ?_
  simp (disch := omega) only [ite_ne, go_sem, ↓reduceIte, Nat.reduceEqDiff, Nat.reduceBEq, Nat.reduceAdd, Nat.reduceLeDiff, Nat.reduceLT, reduceCtorEq, Nat.reduceMul, Nat.reduceSub, Int.reduceEq, Int.reduceLT, Int.reduceLE, Int.reduceToNat]
theorem dropN (v : Int) (hp : CH) (m : Nat) : MeetsF Try.prog 26 hp m [.np, .i .i64 v] (.i .i64 0) := by
  refine meetsF Try.func26 (by kernel_rfl) cc26 cr26 rfl fun hf => ?_; unfold ck26
  simp only [go_sem, ↓reduceIte, Nat.reduceEqDiff, Nat.reduceBEq, Nat.reduceAdd, Nat.reduceLeDiff, Nat.reduceLT, reduceCtorEq, Nat.reduceMul, Nat.reduceSub, Int.reduceEq, Int.reduceLT, Int.reduceLE, Int.reduceToNat]
  refine vcCall.f (made_nil _ _) ?_
  simp (disch := omega) only [ite_ne, go_sem, ↓reduceIte, Nat.reduceEqDiff, Nat.reduceBEq, Nat.reduceAdd, Nat.reduceLeDiff, Nat.reduceLT, reduceCtorEq, Nat.reduceMul, Nat.reduceSub, Int.reduceEq, Int.reduceLT, Int.reduceLE, Int.reduceToNat]
theorem lawNil (x : Stp) (hp : CH) (m : Nat) : MeetsF Try.prog 7 hp m [.ag (stpC x)] (.b true) := by
  simp only [stpC]
  refine meetsF Try.func7 (by kernel_rfl) cc7 cr7 rfl fun hf => ?_; unfold ck7
  simp (disch := omega) only [ite_ne, go_sem, ↓reduceIte, Nat.reduceEqDiff, Nat.reduceBEq, Nat.reduceAdd, Nat.reduceLeDiff, Nat.reduceLT, reduceCtorEq, Nat.reduceMul, Nat.reduceSub, Int.reduceEq, Int.reduceLT, Int.reduceLE, Int.reduceToNat]
  refine vcCall.f (getN _ _ _ _) ?_
  simp (disch := omega) only [ite_ne, go_sem, ↓reduceIte, Nat.reduceEqDiff, Nat.reduceBEq, Nat.reduceAdd, Nat.reduceLeDiff, Nat.reduceLT, reduceCtorEq, Nat.reduceMul, Nat.reduceSub, Int.reduceEq, Int.reduceLT, Int.reduceLE, Int.reduceToNat]
  refine dCall.f (fun _ _ _ => plans_ok _ _ _) ?_
  simp (disch := omega) only [ite_ne, go_sem, ↓reduceIte, Nat.reduceEqDiff, Nat.reduceBEq, Nat.reduceAdd, Nat.reduceLeDiff, Nat.reduceLT, reduceCtorEq, Nat.reduceMul, Nat.reduceSub, Int.reduceEq, Int.reduceLT, Int.reduceLE, Int.reduceToNat]
  refine dCall.f (fun _ _ _ => putN _ _ _ _ _) ?_
  simp (disch := omega) only [ite_ne, go_sem, ↓reduceIte, Nat.reduceEqDiff, Nat.reduceBEq, Nat.reduceAdd, Nat.reduceLeDiff, Nat.reduceLT, reduceCtorEq, Nat.reduceMul, Nat.reduceSub, Int.reduceEq, Int.reduceLT, Int.reduceLE, Int.reduceToNat]
  refine dCall.f (fun _ _ _ => dropN _ _ _) ?_
  simp (disch := omega) only [ite_ne, go_sem, ↓reduceIte, Nat.reduceEqDiff, Nat.reduceBEq, Nat.reduceAdd, Nat.reduceLeDiff, Nat.reduceLT, reduceCtorEq, Nat.reduceMul, Nat.reduceSub, Int.reduceEq, Int.reduceLT, Int.reduceLE, Int.reduceToNat]
  refine dCall.f (fun _ _ _ => lenN _ _) ?_
  simp (disch := omega) only [ite_ne, go_sem, ↓reduceIte, Nat.reduceEqDiff, Nat.reduceBEq, Nat.reduceAdd, Nat.reduceLeDiff, Nat.reduceLT, reduceCtorEq, Nat.reduceMul, Nat.reduceSub, Int.reduceEq, Int.reduceLT, Int.reduceLE, Int.reduceToNat]
  refine dCall.f (fun _ _ _ => hitsN _ _) ?_
  simp (disch := omega) only [ite_ne, go_sem, ↓reduceIte, Nat.reduceEqDiff, Nat.reduceBEq, Nat.reduceAdd, Nat.reduceLeDiff, Nat.reduceLT, reduceCtorEq, Nat.reduceMul, Nat.reduceSub, Int.reduceEq, Int.reduceLT, Int.reduceLE, Int.reduceToNat]
  refine dCall.f (fun _ _ _ => missesN _ _) ?_
  simp (disch := omega) only [ite_ne, go_sem, ↓reduceIte, Nat.reduceEqDiff, Nat.reduceBEq, Nat.reduceAdd, Nat.reduceLeDiff, Nat.reduceLT, reduceCtorEq, Nat.reduceMul, Nat.reduceSub, Int.reduceEq, Int.reduceLT, Int.reduceLE, Int.reduceToNat]
  refine dCall.f (fun _ _ _ => keysN _ _) ?_
  simp (disch := omega) only [ite_ne, go_sem, ↓reduceIte, Nat.reduceEqDiff, Nat.reduceBEq, Nat.reduceAdd, Nat.reduceLeDiff, Nat.reduceLT, reduceCtorEq, Nat.reduceMul, Nat.reduceSub, Int.reduceEq, Int.reduceLT, Int.reduceLE, Int.reduceToNat]
  refine dCall.f (fun _ _ _ => exh_ok _ _) ?_
  simp (disch := omega) only [ite_ne, go_sem, ↓reduceIte, Nat.reduceEqDiff, Nat.reduceBEq, Nat.reduceAdd, Nat.reduceLeDiff, Nat.reduceLT, reduceCtorEq, Nat.reduceMul, Nat.reduceSub, Int.reduceEq, Int.reduceLT, Int.reduceLE, Int.reduceToNat]
end Go.Proofs.Ytpenniildabheaa
