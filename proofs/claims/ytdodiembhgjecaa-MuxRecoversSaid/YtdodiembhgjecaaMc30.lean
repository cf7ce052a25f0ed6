/-
  The parts MxB of the proof, in one file. Conditions: none.
-/
import Derived.Test.YtdodiembhgjecaaMc29
namespace Go.Proofs.Ytdodiembhgjecaa
open Go.Eng
set_option linter.unusedVariables false
set_option linter.unusedSimpArgs false
set_option maxRecDepth 20000
set_option maxHeartbeats 1000000
/-- The memory of a client. -/
def clW (c kg g : Nat) (last : Int) (G : List Msg) : CH := [(c, .bx [.b true, .i .i64 last, .rw kg g G.length]), (kg, .rw g 2 (mapC mgC G))]
def clG (G : List Msg) (last : Int) (f : Frm) : List Msg := if clS last f = true then G ++ [⟨f.i, f.b⟩] else G
def clN (g : Nat) (last : Int) (f : Frm) : Nat := if clS last f = true then g + 1 else g
theorem lt1_3 {m : Nat} {a b c : AV} (h1 : a.lt1 m) (h2 : b.lt1 m) (h3 : c.lt1 m) : (Chunk.bx [a, b, c]).lt1 m := fun α h => by
  rcases List.mem_cons.1 h with rfl | h
  · exact h1
  rcases List.mem_cons.1 h with rfl | h
  · exact h2
  rcases List.mem_cons.1 h with rfl | h
  · exact h3
  cases h
theorem kOk_of {f : Frm} (h : chk f = 0) : kOk f.k = true := by
  unfold chk at h
  split at h
  · cases h
  · simpa using (by assumption : ¬ kOk f.k = false)
theorem mRecv_ok (last : Int) (hl : 0 ≤ last ∧ last ≤ 4294967295) (G : List Msg) (hG : G.length ≤ 1000000) (c kg g : Nat) (hp : CH) (hc : gc hp c = .bx [.b true, .i .i64 last, .rw kg g G.length]) (hk : gc hp kg = .rw g 2 (mapC mgC G)) (f : Frm) (m : Nat) :
    MeetsX Try.prog 24 hp m [.bx c 0, f.av] (clW c kg (clN g last f) (clL last f) (clG G last f) ++ hp) m (.tp [.ds (mapC frC (clA last f)), .i .i64 (clE last f)]) := by
  have hne : c ≠ kg := fun e => by subst e; rw [hc] at hk; cases hk
  have hne' : ¬ kg = c := fun e => hne e.symm
  have hR := right_ok f
  have hO := mOpen_ok true last (.rw kg g G.length) c
  have hrg := fun h => chk_rng (f := f) h
  have hko := fun h => kOk_of (f := f) h
  have hGl : (mapC mgC G).length = G.length := mapC_len _ _
  have k1 : (G.length + 1) * 24 ≤ 140737488355328 := by omega
  have k2 : G.length + 1 ≤ 9223372036854775807 := by omega
  have w1 : IntKind.i64.wrap (last + 1) = last + 1 := wr64 (by omega)
  obtain ⟨C, hC⟩ : ∃ C, chk f = C := ⟨_, rfl⟩
  refine meetsW (ws := clW c kg (clN g last f) (clL last f) (clG G last f)) Try.func24 (by kernel_rfl) cc24 cr24 rfl (fun hf => ?_) fun hf => ?_
  · have h1 := bx_lt' hf hc
    have h2 := rw_lt hf hk
    exact ⟨h1, lt1_3 (by first | exact h2 | rfl | simp [AV.lt1, AV.pur]) (by first | exact h2 | rfl | simp [AV.lt1, AV.pur]) (by first | exact h2 | rfl | simp [AV.lt1, AV.pur]), h2, trivial, trivial⟩
  have hlt := bx_lt' hf hc
  have hlt2 := rw_lt hf hk
  unfold ck24
  unfold clW
  obtain ⟨k, i, s, a, b⟩ := f
  simp only [Frm.k_mk, Frm.s_mk] at hrg hko
  by_cases a1 : chk (.mk k i s a b) = 0
  case neg =>
    have d1 : decide (chk (.mk k i s a b) = 0) = false := by simp [a1]
    rw [d1] at hR
    have x1 : clA last (.mk k i s a b) = [] := by simp [clA, a1, Frm.k_mk, Frm.s_mk]
    have x2 : clE last (.mk k i s a b) = 3 := by simp [clE, a1, Frm.k_mk, Frm.s_mk]
    have x3 : clT last (.mk k i s a b) = false := by simp [clT, a1, Frm.k_mk, Frm.s_mk]
    have x4 : clS last (.mk k i s a b) = false := by simp [clS, x3]
    have x5 : clL last (.mk k i s a b) = last := by simp [clL, x3]
    have x6 : clG G last (.mk k i s a b) = G := by simp [clG, x4]
    have x7 : clN g last (.mk k i s a b) = g := by simp [clN, x4]
    rw [x1, x2, x5, x6, x7]
    simp (disch := omega) only [ite_ne, hc, go_sem, ↓reduceIte, Nat.reduceEqDiff, Nat.reduceBEq, Nat.reduceAdd, Nat.reduceLeDiff, Nat.reduceLT, reduceCtorEq, Nat.reduceMul, Nat.reduceSub, Int.reduceEq, Int.reduceLT, Int.reduceLE, Int.reduceToNat]
    refine vcCall.f (hR _ _) ?_
    simp (disch := omega) only [ite_ne, hc, go_sem, ↓reduceIte, Nat.reduceEqDiff, Nat.reduceBEq, Nat.reduceAdd, Nat.reduceLeDiff, Nat.reduceLT, reduceCtorEq, Nat.reduceMul, Nat.reduceSub, Int.reduceEq, Int.reduceLT, Int.reduceLE, Int.reduceToNat]
    refine up_ws2 hne ?_ ?_ (fun j h1 h2 h3 => ?_)
    · first | ((simp (disch := omega) only [ite_ne, hc, hk, hne, hne', go_sem, ↓reduceIte, Nat.reduceEqDiff, Nat.reduceBEq, Nat.reduceAdd, Nat.reduceLeDiff, Nat.reduceLT, reduceCtorEq, Nat.reduceMul, Nat.reduceSub, Int.reduceEq, Int.reduceLT, Int.reduceLE, Int.reduceToNat]); done) | (simp only [gc]; (simp (disch := omega) only [ite_ne, hc, hk, hne, hne', go_sem, ↓reduceIte, Nat.reduceEqDiff, Nat.reduceBEq, Nat.reduceAdd, Nat.reduceLeDiff, Nat.reduceLT, reduceCtorEq, Nat.reduceMul, Nat.reduceSub, Int.reduceEq, Int.reduceLT, Int.reduceLE, Int.reduceToNat]))
    · first | ((simp (disch := omega) only [ite_ne, hc, hk, hne, hne', go_sem, ↓reduceIte, Nat.reduceEqDiff, Nat.reduceBEq, Nat.reduceAdd, Nat.reduceLeDiff, Nat.reduceLT, reduceCtorEq, Nat.reduceMul, Nat.reduceSub, Int.reduceEq, Int.reduceLT, Int.reduceLE, Int.reduceToNat]); done) | (simp only [gc]; (simp (disch := omega) only [ite_ne, hc, hk, hne, hne', go_sem, ↓reduceIte, Nat.reduceEqDiff, Nat.reduceBEq, Nat.reduceAdd, Nat.reduceLeDiff, Nat.reduceLT, reduceCtorEq, Nat.reduceMul, Nat.reduceSub, Int.reduceEq, Int.reduceLT, Int.reduceLE, Int.reduceToNat]))
    · first | rfl | (repeat rw [gc_ne _ _ (by omega)])
  case pos =>
    have d1 : decide (chk (.mk k i s a b) = 0) = true := by simp [a1]
    rw [d1] at hR
    have hs := hrg a1
    have hko := hko a1
    rcases kinds k with rfl | rfl | rfl | rfl | rfl | rfl | rfl | rfl | ⟨h1, h2, h3, h4, h5, h6, h7, h8⟩
    · have x1 : clA last (.mk 1 i s a b) = [] := by simp [clA, a1, Frm.k_mk, Frm.s_mk]
      have x2 : clE last (.mk 1 i s a b) = 9 := by simp [clE, a1, Frm.k_mk, Frm.s_mk]
      have x3 : clT last (.mk 1 i s a b) = false := by simp [clT, a1, Frm.k_mk, Frm.s_mk]
      have x4 : clS last (.mk 1 i s a b) = false := by simp [clS, x3]
      have x5 : clL last (.mk 1 i s a b) = last := by simp [clL, x3]
      have x6 : clG G last (.mk 1 i s a b) = G := by simp [clG, x4]
      have x7 : clN g last (.mk 1 i s a b) = g := by simp [clN, x4]
      rw [x1, x2, x5, x6, x7]
      simp (disch := omega) only [ite_ne, hc, go_sem, ↓reduceIte, Nat.reduceEqDiff, Nat.reduceBEq, Nat.reduceAdd, Nat.reduceLeDiff, Nat.reduceLT, reduceCtorEq, Nat.reduceMul, Nat.reduceSub, Int.reduceEq, Int.reduceLT, Int.reduceLE, Int.reduceToNat]
      refine vcCall.f (hR _ _) ?_
      simp (disch := omega) only [ite_ne, hc, go_sem, ↓reduceIte, Nat.reduceEqDiff, Nat.reduceBEq, Nat.reduceAdd, Nat.reduceLeDiff, Nat.reduceLT, reduceCtorEq, Nat.reduceMul, Nat.reduceSub, Int.reduceEq, Int.reduceLT, Int.reduceLE, Int.reduceToNat]
      refine up_ws2 hne ?_ ?_ (fun j h1 h2 h3 => ?_)
      · first | ((simp (disch := omega) only [ite_ne, hc, hk, hne, hne', go_sem, ↓reduceIte, Nat.reduceEqDiff, Nat.reduceBEq, Nat.reduceAdd, Nat.reduceLeDiff, Nat.reduceLT, reduceCtorEq, Nat.reduceMul, Nat.reduceSub, Int.reduceEq, Int.reduceLT, Int.reduceLE, Int.reduceToNat]); done) | (simp only [gc]; (simp (disch := omega) only [ite_ne, hc, hk, hne, hne', go_sem, ↓reduceIte, Nat.reduceEqDiff, Nat.reduceBEq, Nat.reduceAdd, Nat.reduceLeDiff, Nat.reduceLT, reduceCtorEq, Nat.reduceMul, Nat.reduceSub, Int.reduceEq, Int.reduceLT, Int.reduceLE, Int.reduceToNat]))
      · first | ((simp (disch := omega) only [ite_ne, hc, hk, hne, hne', go_sem, ↓reduceIte, Nat.reduceEqDiff, Nat.reduceBEq, Nat.reduceAdd, Nat.reduceLeDiff, Nat.reduceLT, reduceCtorEq, Nat.reduceMul, Nat.reduceSub, Int.reduceEq, Int.reduceLT, Int.reduceLE, Int.reduceToNat]); done) | (simp only [gc]; (simp (disch := omega) only [ite_ne, hc, hk, hne, hne', go_sem, ↓reduceIte, Nat.reduceEqDiff, Nat.reduceBEq, Nat.reduceAdd, Nat.reduceLeDiff, Nat.reduceLT, reduceCtorEq, Nat.reduceMul, Nat.reduceSub, Int.reduceEq, Int.reduceLT, Int.reduceLE, Int.reduceToNat]))
      · first | rfl | (repeat rw [gc_ne _ _ (by omega)])
    · have x1 : clA last (.mk 2 i s a b) = [] := by simp [clA, a1, Frm.k_mk, Frm.s_mk]
      have x2 : clE last (.mk 2 i s a b) = 9 := by simp [clE, a1, Frm.k_mk, Frm.s_mk]
      have x3 : clT last (.mk 2 i s a b) = false := by simp [clT, a1, Frm.k_mk, Frm.s_mk]
      have x4 : clS last (.mk 2 i s a b) = false := by simp [clS, x3]
      have x5 : clL last (.mk 2 i s a b) = last := by simp [clL, x3]
      have x6 : clG G last (.mk 2 i s a b) = G := by simp [clG, x4]
      have x7 : clN g last (.mk 2 i s a b) = g := by simp [clN, x4]
      rw [x1, x2, x5, x6, x7]
      simp (disch := omega) only [ite_ne, hc, go_sem, ↓reduceIte, Nat.reduceEqDiff, Nat.reduceBEq, Nat.reduceAdd, Nat.reduceLeDiff, Nat.reduceLT, reduceCtorEq, Nat.reduceMul, Nat.reduceSub, Int.reduceEq, Int.reduceLT, Int.reduceLE, Int.reduceToNat]
      refine vcCall.f (hR _ _) ?_
      simp (disch := omega) only [ite_ne, hc, go_sem, ↓reduceIte, Nat.reduceEqDiff, Nat.reduceBEq, Nat.reduceAdd, Nat.reduceLeDiff, Nat.reduceLT, reduceCtorEq, Nat.reduceMul, Nat.reduceSub, Int.reduceEq, Int.reduceLT, Int.reduceLE, Int.reduceToNat]
      refine up_ws2 hne ?_ ?_ (fun j h1 h2 h3 => ?_)
      · first | ((simp (disch := omega) only [ite_ne, hc, hk, hne, hne', go_sem, ↓reduceIte, Nat.reduceEqDiff, Nat.reduceBEq, Nat.reduceAdd, Nat.reduceLeDiff, Nat.reduceLT, reduceCtorEq, Nat.reduceMul, Nat.reduceSub, Int.reduceEq, Int.reduceLT, Int.reduceLE, Int.reduceToNat]); done) | (simp only [gc]; (simp (disch := omega) only [ite_ne, hc, hk, hne, hne', go_sem, ↓reduceIte, Nat.reduceEqDiff, Nat.reduceBEq, Nat.reduceAdd, Nat.reduceLeDiff, Nat.reduceLT, reduceCtorEq, Nat.reduceMul, Nat.reduceSub, Int.reduceEq, Int.reduceLT, Int.reduceLE, Int.reduceToNat]))
      · first | ((simp (disch := omega) only [ite_ne, hc, hk, hne, hne', go_sem, ↓reduceIte, Nat.reduceEqDiff, Nat.reduceBEq, Nat.reduceAdd, Nat.reduceLeDiff, Nat.reduceLT, reduceCtorEq, Nat.reduceMul, Nat.reduceSub, Int.reduceEq, Int.reduceLT, Int.reduceLE, Int.reduceToNat]); done) | (simp only [gc]; (simp (disch := omega) only [ite_ne, hc, hk, hne, hne', go_sem, ↓reduceIte, Nat.reduceEqDiff, Nat.reduceBEq, Nat.reduceAdd, Nat.reduceLeDiff, Nat.reduceLT, reduceCtorEq, Nat.reduceMul, Nat.reduceSub, Int.reduceEq, Int.reduceLT, Int.reduceLE, Int.reduceToNat]))
      · first | rfl | (repeat rw [gc_ne _ _ (by omega)])
    · have x1 : clA last (.mk 3 i s a b) = [] := by simp [clA, a1, Frm.k_mk, Frm.s_mk]
      have x2 : clE last (.mk 3 i s a b) = 9 := by simp [clE, a1, Frm.k_mk, Frm.s_mk]
      have x3 : clT last (.mk 3 i s a b) = false := by simp [clT, a1, Frm.k_mk, Frm.s_mk]
      have x4 : clS last (.mk 3 i s a b) = false := by simp [clS, x3]
      have x5 : clL last (.mk 3 i s a b) = last := by simp [clL, x3]
      have x6 : clG G last (.mk 3 i s a b) = G := by simp [clG, x4]
      have x7 : clN g last (.mk 3 i s a b) = g := by simp [clN, x4]
      rw [x1, x2, x5, x6, x7]
      simp (disch := omega) only [ite_ne, hc, go_sem, ↓reduceIte, Nat.reduceEqDiff, Nat.reduceBEq, Nat.reduceAdd, Nat.reduceLeDiff, Nat.reduceLT, reduceCtorEq, Nat.reduceMul, Nat.reduceSub, Int.reduceEq, Int.reduceLT, Int.reduceLE, Int.reduceToNat]
      refine vcCall.f (hR _ _) ?_
      simp (disch := omega) only [ite_ne, hc, go_sem, ↓reduceIte, Nat.reduceEqDiff, Nat.reduceBEq, Nat.reduceAdd, Nat.reduceLeDiff, Nat.reduceLT, reduceCtorEq, Nat.reduceMul, Nat.reduceSub, Int.reduceEq, Int.reduceLT, Int.reduceLE, Int.reduceToNat]
      refine up_ws2 hne ?_ ?_ (fun j h1 h2 h3 => ?_)
      · first | ((simp (disch := omega) only [ite_ne, hc, hk, hne, hne', go_sem, ↓reduceIte, Nat.reduceEqDiff, Nat.reduceBEq, Nat.reduceAdd, Nat.reduceLeDiff, Nat.reduceLT, reduceCtorEq, Nat.reduceMul, Nat.reduceSub, Int.reduceEq, Int.reduceLT, Int.reduceLE, Int.reduceToNat]); done) | (simp only [gc]; (simp (disch := omega) only [ite_ne, hc, hk, hne, hne', go_sem, ↓reduceIte, Nat.reduceEqDiff, Nat.reduceBEq, Nat.reduceAdd, Nat.reduceLeDiff, Nat.reduceLT, reduceCtorEq, Nat.reduceMul, Nat.reduceSub, Int.reduceEq, Int.reduceLT, Int.reduceLE, Int.reduceToNat]))
      · first | ((simp (disch := omega) only [ite_ne, hc, hk, hne, hne', go_sem, ↓reduceIte, Nat.reduceEqDiff, Nat.reduceBEq, Nat.reduceAdd, Nat.reduceLeDiff, Nat.reduceLT, reduceCtorEq, Nat.reduceMul, Nat.reduceSub, Int.reduceEq, Int.reduceLT, Int.reduceLE, Int.reduceToNat]); done) | (simp only [gc]; (simp (disch := omega) only [ite_ne, hc, hk, hne, hne', go_sem, ↓reduceIte, Nat.reduceEqDiff, Nat.reduceBEq, Nat.reduceAdd, Nat.reduceLeDiff, Nat.reduceLT, reduceCtorEq, Nat.reduceMul, Nat.reduceSub, Int.reduceEq, Int.reduceLT, Int.reduceLE, Int.reduceToNat]))
      · first | rfl | (repeat rw [gc_ne _ _ (by omega)])
    · have x1 : clA last (.mk 4 i s a b) = [] := by simp [clA, a1, Frm.k_mk, Frm.s_mk]
      have x2 : clE last (.mk 4 i s a b) = 9 := by simp [clE, a1, Frm.k_mk, Frm.s_mk]
      have x3 : clT last (.mk 4 i s a b) = false := by simp [clT, a1, Frm.k_mk, Frm.s_mk]
      have x4 : clS last (.mk 4 i s a b) = false := by simp [clS, x3]
      have x5 : clL last (.mk 4 i s a b) = last := by simp [clL, x3]
      have x6 : clG G last (.mk 4 i s a b) = G := by simp [clG, x4]
      have x7 : clN g last (.mk 4 i s a b) = g := by simp [clN, x4]
      rw [x1, x2, x5, x6, x7]
      simp (disch := omega) only [ite_ne, hc, go_sem, ↓reduceIte, Nat.reduceEqDiff, Nat.reduceBEq, Nat.reduceAdd, Nat.reduceLeDiff, Nat.reduceLT, reduceCtorEq, Nat.reduceMul, Nat.reduceSub, Int.reduceEq, Int.reduceLT, Int.reduceLE, Int.reduceToNat]
      refine vcCall.f (hR _ _) ?_
      simp (disch := omega) only [ite_ne, hc, go_sem, ↓reduceIte, Nat.reduceEqDiff, Nat.reduceBEq, Nat.reduceAdd, Nat.reduceLeDiff, Nat.reduceLT, reduceCtorEq, Nat.reduceMul, Nat.reduceSub, Int.reduceEq, Int.reduceLT, Int.reduceLE, Int.reduceToNat]
      refine up_ws2 hne ?_ ?_ (fun j h1 h2 h3 => ?_)
      · first | ((simp (disch := omega) only [ite_ne, hc, hk, hne, hne', go_sem, ↓reduceIte, Nat.reduceEqDiff, Nat.reduceBEq, Nat.reduceAdd, Nat.reduceLeDiff, Nat.reduceLT, reduceCtorEq, Nat.reduceMul, Nat.reduceSub, Int.reduceEq, Int.reduceLT, Int.reduceLE, Int.reduceToNat]); done) | (simp only [gc]; (simp (disch := omega) only [ite_ne, hc, hk, hne, hne', go_sem, ↓reduceIte, Nat.reduceEqDiff, Nat.reduceBEq, Nat.reduceAdd, Nat.reduceLeDiff, Nat.reduceLT, reduceCtorEq, Nat.reduceMul, Nat.reduceSub, Int.reduceEq, Int.reduceLT, Int.reduceLE, Int.reduceToNat]))
      · first | ((simp (disch := omega) only [ite_ne, hc, hk, hne, hne', go_sem, ↓reduceIte, Nat.reduceEqDiff, Nat.reduceBEq, Nat.reduceAdd, Nat.reduceLeDiff, Nat.reduceLT, reduceCtorEq, Nat.reduceMul, Nat.reduceSub, Int.reduceEq, Int.reduceLT, Int.reduceLE, Int.reduceToNat]); done) | (simp only [gc]; (simp (disch := omega) only [ite_ne, hc, hk, hne, hne', go_sem, ↓reduceIte, Nat.reduceEqDiff, Nat.reduceBEq, Nat.reduceAdd, Nat.reduceLeDiff, Nat.reduceLT, reduceCtorEq, Nat.reduceMul, Nat.reduceSub, Int.reduceEq, Int.reduceLT, Int.reduceLE, Int.reduceToNat]))
      · first | rfl | (repeat rw [gc_ne _ _ (by omega)])
    · by_cases s1 : s ≤ last
      · have x1 : clA last (.mk 5 i s a b) = [] := by simp [clA, a1, s1, Frm.k_mk, Frm.s_mk]
        have x2 : clE last (.mk 5 i s a b) = 0 := by simp [clE, a1, s1, Frm.k_mk, Frm.s_mk]
        have s3 : ¬ s = last + 1 := by omega
        have x3 : clT last (.mk 5 i s a b) = false := by simp [clT, a1, s3, Frm.k_mk, Frm.s_mk]
        have x4 : clS last (.mk 5 i s a b) = false := by simp [clS, x3]
        have x5 : clL last (.mk 5 i s a b) = last := by simp [clL, x3]
        have x6 : clG G last (.mk 5 i s a b) = G := by simp [clG, x4]
        have x7 : clN g last (.mk 5 i s a b) = g := by simp [clN, x4]
        rw [x1, x2, x5, x6, x7]
        simp (disch := omega) only [ite_ne, hc, go_sem, ↓reduceIte, Nat.reduceEqDiff, Nat.reduceBEq, Nat.reduceAdd, Nat.reduceLeDiff, Nat.reduceLT, reduceCtorEq, Nat.reduceMul, Nat.reduceSub, Int.reduceEq, Int.reduceLT, Int.reduceLE, Int.reduceToNat]
        refine vcCall.f (hR _ _) ?_
        simp (disch := omega) only [ite_ne, hc, decide_eq_true s1, go_sem, ↓reduceIte, Nat.reduceEqDiff, Nat.reduceBEq, Nat.reduceAdd, Nat.reduceLeDiff, Nat.reduceLT, reduceCtorEq, Nat.reduceMul, Nat.reduceSub, Int.reduceEq, Int.reduceLT, Int.reduceLE, Int.reduceToNat]
        refine up_ws2 hne ?_ ?_ (fun j h1 h2 h3 => ?_)
        · first | ((simp (disch := omega) only [ite_ne, hc, hk, hne, hne', go_sem, ↓reduceIte, Nat.reduceEqDiff, Nat.reduceBEq, Nat.reduceAdd, Nat.reduceLeDiff, Nat.reduceLT, reduceCtorEq, Nat.reduceMul, Nat.reduceSub, Int.reduceEq, Int.reduceLT, Int.reduceLE, Int.reduceToNat]); done) | (simp only [gc]; (simp (disch := omega) only [ite_ne, hc, hk, hne, hne', go_sem, ↓reduceIte, Nat.reduceEqDiff, Nat.reduceBEq, Nat.reduceAdd, Nat.reduceLeDiff, Nat.reduceLT, reduceCtorEq, Nat.reduceMul, Nat.reduceSub, Int.reduceEq, Int.reduceLT, Int.reduceLE, Int.reduceToNat]))
        · first | ((simp (disch := omega) only [ite_ne, hc, hk, hne, hne', go_sem, ↓reduceIte, Nat.reduceEqDiff, Nat.reduceBEq, Nat.reduceAdd, Nat.reduceLeDiff, Nat.reduceLT, reduceCtorEq, Nat.reduceMul, Nat.reduceSub, Int.reduceEq, Int.reduceLT, Int.reduceLE, Int.reduceToNat]); done) | (simp only [gc]; (simp (disch := omega) only [ite_ne, hc, hk, hne, hne', go_sem, ↓reduceIte, Nat.reduceEqDiff, Nat.reduceBEq, Nat.reduceAdd, Nat.reduceLeDiff, Nat.reduceLT, reduceCtorEq, Nat.reduceMul, Nat.reduceSub, Int.reduceEq, Int.reduceLT, Int.reduceLE, Int.reduceToNat]))
        · first | rfl | (repeat rw [gc_ne _ _ (by omega)])
      have d2 : decide (s ≤ last) = false := by simp [s1]
      by_cases s2 : s = last + 1
      · have d3 : decide (s = last + 1) = true := decide_eq_true s2
        have s2' := s2.symm
        have x1 : clA last (.mk 5 i s a b) = [akF 4 s] := by simp [clA, a1, s1, s2', Frm.k_mk, Frm.s_mk]
        have x2 : clE last (.mk 5 i s a b) = 0 := by simp [clE, a1, s1, s2', Frm.k_mk, Frm.s_mk]
        have x3 : clT last (.mk 5 i s a b) = true := by simp [clT, a1, s2', Frm.k_mk, Frm.s_mk]
        have x4 : clS last (.mk 5 i s a b) = decide ((5 : Int) = 5) := by simp [clS, x3, Frm.k_mk]
        have x5 : clL last (.mk 5 i s a b) = s := by simp [clL, x3, Frm.s_mk]
        have x6 : clG G last (.mk 5 i s a b) = if decide ((5 : Int) = 5) = true then G ++ [⟨i, b⟩] else G := by simp [clG, x4, Frm.i_mk, Frm.b_mk]
        have x7 : clN g last (.mk 5 i s a b) = if decide ((5 : Int) = 5) = true then g + 1 else g := by simp [clN, x4]
        rw [x1, x2, x5, x6, x7]
        simp (disch := omega) only [ite_ne, hc, go_sem, ↓reduceIte, Nat.reduceEqDiff, Nat.reduceBEq, Nat.reduceAdd, Nat.reduceLeDiff, Nat.reduceLT, reduceCtorEq, Nat.reduceMul, Nat.reduceSub, Int.reduceEq, Int.reduceLT, Int.reduceLE, Int.reduceToNat]
        refine vcCall.f (hR _ _) ?_
        simp (disch := omega) only [ite_ne, hc, d2, d3, w1, hGl, k1, k2, hk, hne, hne', go_sem, ↓reduceIte, Nat.reduceEqDiff, Nat.reduceBEq, Nat.reduceAdd, Nat.reduceLeDiff, Nat.reduceLT, reduceCtorEq, Nat.reduceMul, Nat.reduceSub, Int.reduceEq, Int.reduceLT, Int.reduceLE, Int.reduceToNat]
        try simp only [List.length_append, List.length_cons, List.length_nil, Nat.zero_add, ← mapC_snoc, mgC, frC, Msg.id_mk, Msg.b_mk, Frm.k_mk, Frm.i_mk, Frm.s_mk, Frm.a_mk, Frm.b_mk]
        refine ⟨?_, rfl⟩
        refine up_ws2 hne ?_ ?_ (fun j h1 h2 h3 => ?_)
        · first | ((simp (disch := omega) only [ite_ne, hc, hk, hne, hne', go_sem, ↓reduceIte, Nat.reduceEqDiff, Nat.reduceBEq, Nat.reduceAdd, Nat.reduceLeDiff, Nat.reduceLT, reduceCtorEq, Nat.reduceMul, Nat.reduceSub, Int.reduceEq, Int.reduceLT, Int.reduceLE, Int.reduceToNat]); done) | (simp only [gc]; (simp (disch := omega) only [ite_ne, hc, hk, hne, hne', go_sem, ↓reduceIte, Nat.reduceEqDiff, Nat.reduceBEq, Nat.reduceAdd, Nat.reduceLeDiff, Nat.reduceLT, reduceCtorEq, Nat.reduceMul, Nat.reduceSub, Int.reduceEq, Int.reduceLT, Int.reduceLE, Int.reduceToNat]))
        · first | ((simp (disch := omega) only [ite_ne, hc, hk, hne, hne', go_sem, ↓reduceIte, Nat.reduceEqDiff, Nat.reduceBEq, Nat.reduceAdd, Nat.reduceLeDiff, Nat.reduceLT, reduceCtorEq, Nat.reduceMul, Nat.reduceSub, Int.reduceEq, Int.reduceLT, Int.reduceLE, Int.reduceToNat]); done) | (simp only [gc]; (simp (disch := omega) only [ite_ne, hc, hk, hne, hne', go_sem, ↓reduceIte, Nat.reduceEqDiff, Nat.reduceBEq, Nat.reduceAdd, Nat.reduceLeDiff, Nat.reduceLT, reduceCtorEq, Nat.reduceMul, Nat.reduceSub, Int.reduceEq, Int.reduceLT, Int.reduceLE, Int.reduceToNat]))
        · first | rfl | (repeat rw [gc_ne _ _ (by omega)])
      · have d3 : decide (s = last + 1) = false := by simp [s2]
        have x1 : clA last (.mk 5 i s a b) = [akF 1 last] := by simp [clA, a1, s1, s2, Frm.k_mk, Frm.s_mk]
        have x2 : clE last (.mk 5 i s a b) = 13 := by simp [clE, a1, s1, s2, Frm.k_mk, Frm.s_mk]
        have x3 : clT last (.mk 5 i s a b) = false := by simp [clT, a1, s2, Frm.k_mk, Frm.s_mk]
        have x4 : clS last (.mk 5 i s a b) = false := by simp [clS, x3]
        have x5 : clL last (.mk 5 i s a b) = last := by simp [clL, x3]
        have x6 : clG G last (.mk 5 i s a b) = G := by simp [clG, x4]
        have x7 : clN g last (.mk 5 i s a b) = g := by simp [clN, x4]
        rw [x1, x2, x5, x6, x7]
        simp (disch := omega) only [ite_ne, hc, go_sem, ↓reduceIte, Nat.reduceEqDiff, Nat.reduceBEq, Nat.reduceAdd, Nat.reduceLeDiff, Nat.reduceLT, reduceCtorEq, Nat.reduceMul, Nat.reduceSub, Int.reduceEq, Int.reduceLT, Int.reduceLE, Int.reduceToNat]
        refine vcCall.f (hR _ _) ?_
        simp (disch := omega) only [ite_ne, hc, d2, d3, w1, go_sem, ↓reduceIte, Nat.reduceEqDiff, Nat.reduceBEq, Nat.reduceAdd, Nat.reduceLeDiff, Nat.reduceLT, reduceCtorEq, Nat.reduceMul, Nat.reduceSub, Int.reduceEq, Int.reduceLT, Int.reduceLE, Int.reduceToNat]
        refine vcCall.f (hO _ ?_ _) ?_
        · simp (disch := omega) only [ite_ne, hc, go_sem, ↓reduceIte, Nat.reduceEqDiff, Nat.reduceBEq, Nat.reduceAdd, Nat.reduceLeDiff, Nat.reduceLT, reduceCtorEq, Nat.reduceMul, Nat.reduceSub, Int.reduceEq, Int.reduceLT, Int.reduceLE, Int.reduceToNat]
        rw [if_pos rfl]
        simp (disch := omega) only [ite_ne, hc, go_sem, ↓reduceIte, Nat.reduceEqDiff, Nat.reduceBEq, Nat.reduceAdd, Nat.reduceLeDiff, Nat.reduceLT, reduceCtorEq, Nat.reduceMul, Nat.reduceSub, Int.reduceEq, Int.reduceLT, Int.reduceLE, Int.reduceToNat]
        refine up_ws2 hne ?_ ?_ (fun j h1 h2 h3 => ?_)
        · first | ((simp (disch := omega) only [ite_ne, hc, hk, hne, hne', go_sem, ↓reduceIte, Nat.reduceEqDiff, Nat.reduceBEq, Nat.reduceAdd, Nat.reduceLeDiff, Nat.reduceLT, reduceCtorEq, Nat.reduceMul, Nat.reduceSub, Int.reduceEq, Int.reduceLT, Int.reduceLE, Int.reduceToNat]); done) | (simp only [gc]; (simp (disch := omega) only [ite_ne, hc, hk, hne, hne', go_sem, ↓reduceIte, Nat.reduceEqDiff, Nat.reduceBEq, Nat.reduceAdd, Nat.reduceLeDiff, Nat.reduceLT, reduceCtorEq, Nat.reduceMul, Nat.reduceSub, Int.reduceEq, Int.reduceLT, Int.reduceLE, Int.reduceToNat]))
        · first | ((simp (disch := omega) only [ite_ne, hc, hk, hne, hne', go_sem, ↓reduceIte, Nat.reduceEqDiff, Nat.reduceBEq, Nat.reduceAdd, Nat.reduceLeDiff, Nat.reduceLT, reduceCtorEq, Nat.reduceMul, Nat.reduceSub, Int.reduceEq, Int.reduceLT, Int.reduceLE, Int.reduceToNat]); done) | (simp only [gc]; (simp (disch := omega) only [ite_ne, hc, hk, hne, hne', go_sem, ↓reduceIte, Nat.reduceEqDiff, Nat.reduceBEq, Nat.reduceAdd, Nat.reduceLeDiff, Nat.reduceLT, reduceCtorEq, Nat.reduceMul, Nat.reduceSub, Int.reduceEq, Int.reduceLT, Int.reduceLE, Int.reduceToNat]))
        · first | rfl | (repeat rw [gc_ne _ _ (by omega)])
    · by_cases s1 : s ≤ last
      · have x1 : clA last (.mk 6 i s a b) = [] := by simp [clA, a1, s1, Frm.k_mk, Frm.s_mk]
        have x2 : clE last (.mk 6 i s a b) = 0 := by simp [clE, a1, s1, Frm.k_mk, Frm.s_mk]
        have s3 : ¬ s = last + 1 := by omega
        have x3 : clT last (.mk 6 i s a b) = false := by simp [clT, a1, s3, Frm.k_mk, Frm.s_mk]
        have x4 : clS last (.mk 6 i s a b) = false := by simp [clS, x3]
        have x5 : clL last (.mk 6 i s a b) = last := by simp [clL, x3]
        have x6 : clG G last (.mk 6 i s a b) = G := by simp [clG, x4]
        have x7 : clN g last (.mk 6 i s a b) = g := by simp [clN, x4]
        rw [x1, x2, x5, x6, x7]
        simp (disch := omega) only [ite_ne, hc, go_sem, ↓reduceIte, Nat.reduceEqDiff, Nat.reduceBEq, Nat.reduceAdd, Nat.reduceLeDiff, Nat.reduceLT, reduceCtorEq, Nat.reduceMul, Nat.reduceSub, Int.reduceEq, Int.reduceLT, Int.reduceLE, Int.reduceToNat]
        refine vcCall.f (hR _ _) ?_
        simp (disch := omega) only [ite_ne, hc, decide_eq_true s1, go_sem, ↓reduceIte, Nat.reduceEqDiff, Nat.reduceBEq, Nat.reduceAdd, Nat.reduceLeDiff, Nat.reduceLT, reduceCtorEq, Nat.reduceMul, Nat.reduceSub, Int.reduceEq, Int.reduceLT, Int.reduceLE, Int.reduceToNat]
        refine up_ws2 hne ?_ ?_ (fun j h1 h2 h3 => ?_)
        · first | ((simp (disch := omega) only [ite_ne, hc, hk, hne, hne', go_sem, ↓reduceIte, Nat.reduceEqDiff, Nat.reduceBEq, Nat.reduceAdd, Nat.reduceLeDiff, Nat.reduceLT, reduceCtorEq, Nat.reduceMul, Nat.reduceSub, Int.reduceEq, Int.reduceLT, Int.reduceLE, Int.reduceToNat]); done) | (simp only [gc]; (simp (disch := omega) only [ite_ne, hc, hk, hne, hne', go_sem, ↓reduceIte, Nat.reduceEqDiff, Nat.reduceBEq, Nat.reduceAdd, Nat.reduceLeDiff, Nat.reduceLT, reduceCtorEq, Nat.reduceMul, Nat.reduceSub, Int.reduceEq, Int.reduceLT, Int.reduceLE, Int.reduceToNat]))
        · first | ((simp (disch := omega) only [ite_ne, hc, hk, hne, hne', go_sem, ↓reduceIte, Nat.reduceEqDiff, Nat.reduceBEq, Nat.reduceAdd, Nat.reduceLeDiff, Nat.reduceLT, reduceCtorEq, Nat.reduceMul, Nat.reduceSub, Int.reduceEq, Int.reduceLT, Int.reduceLE, Int.reduceToNat]); done) | (simp only [gc]; (simp (disch := omega) only [ite_ne, hc, hk, hne, hne', go_sem, ↓reduceIte, Nat.reduceEqDiff, Nat.reduceBEq, Nat.reduceAdd, Nat.reduceLeDiff, Nat.reduceLT, reduceCtorEq, Nat.reduceMul, Nat.reduceSub, Int.reduceEq, Int.reduceLT, Int.reduceLE, Int.reduceToNat]))
        · first | rfl | (repeat rw [gc_ne _ _ (by omega)])
      have d2 : decide (s ≤ last) = false := by simp [s1]
      by_cases s2 : s = last + 1
      · have d3 : decide (s = last + 1) = true := decide_eq_true s2
        have s2' := s2.symm
        have x1 : clA last (.mk 6 i s a b) = [akF 4 s] := by simp [clA, a1, s1, s2', Frm.k_mk, Frm.s_mk]
        have x2 : clE last (.mk 6 i s a b) = 0 := by simp [clE, a1, s1, s2', Frm.k_mk, Frm.s_mk]
        have x3 : clT last (.mk 6 i s a b) = true := by simp [clT, a1, s2', Frm.k_mk, Frm.s_mk]
        have x4 : clS last (.mk 6 i s a b) = decide ((6 : Int) = 5) := by simp [clS, x3, Frm.k_mk]
        have x5 : clL last (.mk 6 i s a b) = s := by simp [clL, x3, Frm.s_mk]
        have x6 : clG G last (.mk 6 i s a b) = if decide ((6 : Int) = 5) = true then G ++ [⟨i, b⟩] else G := by simp [clG, x4, Frm.i_mk, Frm.b_mk]
        have x7 : clN g last (.mk 6 i s a b) = if decide ((6 : Int) = 5) = true then g + 1 else g := by simp [clN, x4]
        rw [x1, x2, x5, x6, x7]
        simp (disch := omega) only [ite_ne, hc, go_sem, ↓reduceIte, Nat.reduceEqDiff, Nat.reduceBEq, Nat.reduceAdd, Nat.reduceLeDiff, Nat.reduceLT, reduceCtorEq, Nat.reduceMul, Nat.reduceSub, Int.reduceEq, Int.reduceLT, Int.reduceLE, Int.reduceToNat]
        refine vcCall.f (hR _ _) ?_
        simp (disch := omega) only [ite_ne, hc, d2, d3, w1, hGl, k1, k2, hk, hne, hne', go_sem, ↓reduceIte, Nat.reduceEqDiff, Nat.reduceBEq, Nat.reduceAdd, Nat.reduceLeDiff, Nat.reduceLT, reduceCtorEq, Nat.reduceMul, Nat.reduceSub, Int.reduceEq, Int.reduceLT, Int.reduceLE, Int.reduceToNat]
        try simp only [List.length_append, List.length_cons, List.length_nil, Nat.zero_add, ← mapC_snoc, mgC, frC, Msg.id_mk, Msg.b_mk, Frm.k_mk, Frm.i_mk, Frm.s_mk, Frm.a_mk, Frm.b_mk]
        refine ⟨?_, rfl⟩
        refine up_ws2 hne ?_ ?_ (fun j h1 h2 h3 => ?_)
        · first | ((simp (disch := omega) only [ite_ne, hc, hk, hne, hne', go_sem, ↓reduceIte, Nat.reduceEqDiff, Nat.reduceBEq, Nat.reduceAdd, Nat.reduceLeDiff, Nat.reduceLT, reduceCtorEq, Nat.reduceMul, Nat.reduceSub, Int.reduceEq, Int.reduceLT, Int.reduceLE, Int.reduceToNat]); done) | (simp only [gc]; (simp (disch := omega) only [ite_ne, hc, hk, hne, hne', go_sem, ↓reduceIte, Nat.reduceEqDiff, Nat.reduceBEq, Nat.reduceAdd, Nat.reduceLeDiff, Nat.reduceLT, reduceCtorEq, Nat.reduceMul, Nat.reduceSub, Int.reduceEq, Int.reduceLT, Int.reduceLE, Int.reduceToNat]))
        · first | ((simp (disch := omega) only [ite_ne, hc, hk, hne, hne', go_sem, ↓reduceIte, Nat.reduceEqDiff, Nat.reduceBEq, Nat.reduceAdd, Nat.reduceLeDiff, Nat.reduceLT, reduceCtorEq, Nat.reduceMul, Nat.reduceSub, Int.reduceEq, Int.reduceLT, Int.reduceLE, Int.reduceToNat]); done) | (simp only [gc]; (simp (disch := omega) only [ite_ne, hc, hk, hne, hne', go_sem, ↓reduceIte, Nat.reduceEqDiff, Nat.reduceBEq, Nat.reduceAdd, Nat.reduceLeDiff, Nat.reduceLT, reduceCtorEq, Nat.reduceMul, Nat.reduceSub, Int.reduceEq, Int.reduceLT, Int.reduceLE, Int.reduceToNat]))
        · first | rfl | (repeat rw [gc_ne _ _ (by omega)])
      · have d3 : decide (s = last + 1) = false := by simp [s2]
        have x1 : clA last (.mk 6 i s a b) = [akF 1 last] := by simp [clA, a1, s1, s2, Frm.k_mk, Frm.s_mk]
        have x2 : clE last (.mk 6 i s a b) = 13 := by simp [clE, a1, s1, s2, Frm.k_mk, Frm.s_mk]
        have x3 : clT last (.mk 6 i s a b) = false := by simp [clT, a1, s2, Frm.k_mk, Frm.s_mk]
        have x4 : clS last (.mk 6 i s a b) = false := by simp [clS, x3]
        have x5 : clL last (.mk 6 i s a b) = last := by simp [clL, x3]
        have x6 : clG G last (.mk 6 i s a b) = G := by simp [clG, x4]
        have x7 : clN g last (.mk 6 i s a b) = g := by simp [clN, x4]
        rw [x1, x2, x5, x6, x7]
        simp (disch := omega) only [ite_ne, hc, go_sem, ↓reduceIte, Nat.reduceEqDiff, Nat.reduceBEq, Nat.reduceAdd, Nat.reduceLeDiff, Nat.reduceLT, reduceCtorEq, Nat.reduceMul, Nat.reduceSub, Int.reduceEq, Int.reduceLT, Int.reduceLE, Int.reduceToNat]
        refine vcCall.f (hR _ _) ?_
        simp (disch := omega) only [ite_ne, hc, d2, d3, w1, go_sem, ↓reduceIte, Nat.reduceEqDiff, Nat.reduceBEq, Nat.reduceAdd, Nat.reduceLeDiff, Nat.reduceLT, reduceCtorEq, Nat.reduceMul, Nat.reduceSub, Int.reduceEq, Int.reduceLT, Int.reduceLE, Int.reduceToNat]
        refine vcCall.f (hO _ ?_ _) ?_
        · simp (disch := omega) only [ite_ne, hc, go_sem, ↓reduceIte, Nat.reduceEqDiff, Nat.reduceBEq, Nat.reduceAdd, Nat.reduceLeDiff, Nat.reduceLT, reduceCtorEq, Nat.reduceMul, Nat.reduceSub, Int.reduceEq, Int.reduceLT, Int.reduceLE, Int.reduceToNat]
        rw [if_pos rfl]
        simp (disch := omega) only [ite_ne, hc, go_sem, ↓reduceIte, Nat.reduceEqDiff, Nat.reduceBEq, Nat.reduceAdd, Nat.reduceLeDiff, Nat.reduceLT, reduceCtorEq, Nat.reduceMul, Nat.reduceSub, Int.reduceEq, Int.reduceLT, Int.reduceLE, Int.reduceToNat]
        refine up_ws2 hne ?_ ?_ (fun j h1 h2 h3 => ?_)
        · first | ((simp (disch := omega) only [ite_ne, hc, hk, hne, hne', go_sem, ↓reduceIte, Nat.reduceEqDiff, Nat.reduceBEq, Nat.reduceAdd, Nat.reduceLeDiff, Nat.reduceLT, reduceCtorEq, Nat.reduceMul, Nat.reduceSub, Int.reduceEq, Int.reduceLT, Int.reduceLE, Int.reduceToNat]); done) | (simp only [gc]; (simp (disch := omega) only [ite_ne, hc, hk, hne, hne', go_sem, ↓reduceIte, Nat.reduceEqDiff, Nat.reduceBEq, Nat.reduceAdd, Nat.reduceLeDiff, Nat.reduceLT, reduceCtorEq, Nat.reduceMul, Nat.reduceSub, Int.reduceEq, Int.reduceLT, Int.reduceLE, Int.reduceToNat]))
        · first | ((simp (disch := omega) only [ite_ne, hc, hk, hne, hne', go_sem, ↓reduceIte, Nat.reduceEqDiff, Nat.reduceBEq, Nat.reduceAdd, Nat.reduceLeDiff, Nat.reduceLT, reduceCtorEq, Nat.reduceMul, Nat.reduceSub, Int.reduceEq, Int.reduceLT, Int.reduceLE, Int.reduceToNat]); done) | (simp only [gc]; (simp (disch := omega) only [ite_ne, hc, hk, hne, hne', go_sem, ↓reduceIte, Nat.reduceEqDiff, Nat.reduceBEq, Nat.reduceAdd, Nat.reduceLeDiff, Nat.reduceLT, reduceCtorEq, Nat.reduceMul, Nat.reduceSub, Int.reduceEq, Int.reduceLT, Int.reduceLE, Int.reduceToNat]))
        · first | rfl | (repeat rw [gc_ne _ _ (by omega)])
    · by_cases s1 : s ≤ last
      · have x1 : clA last (.mk 7 i s a b) = [] := by simp [clA, a1, s1, Frm.k_mk, Frm.s_mk]
        have x2 : clE last (.mk 7 i s a b) = 0 := by simp [clE, a1, s1, Frm.k_mk, Frm.s_mk]
        have s3 : ¬ s = last + 1 := by omega
        have x3 : clT last (.mk 7 i s a b) = false := by simp [clT, a1, s3, Frm.k_mk, Frm.s_mk]
        have x4 : clS last (.mk 7 i s a b) = false := by simp [clS, x3]
        have x5 : clL last (.mk 7 i s a b) = last := by simp [clL, x3]
        have x6 : clG G last (.mk 7 i s a b) = G := by simp [clG, x4]
        have x7 : clN g last (.mk 7 i s a b) = g := by simp [clN, x4]
        rw [x1, x2, x5, x6, x7]
        simp (disch := omega) only [ite_ne, hc, go_sem, ↓reduceIte, Nat.reduceEqDiff, Nat.reduceBEq, Nat.reduceAdd, Nat.reduceLeDiff, Nat.reduceLT, reduceCtorEq, Nat.reduceMul, Nat.reduceSub, Int.reduceEq, Int.reduceLT, Int.reduceLE, Int.reduceToNat]
        refine vcCall.f (hR _ _) ?_
        simp (disch := omega) only [ite_ne, hc, decide_eq_true s1, go_sem, ↓reduceIte, Nat.reduceEqDiff, Nat.reduceBEq, Nat.reduceAdd, Nat.reduceLeDiff, Nat.reduceLT, reduceCtorEq, Nat.reduceMul, Nat.reduceSub, Int.reduceEq, Int.reduceLT, Int.reduceLE, Int.reduceToNat]
        refine up_ws2 hne ?_ ?_ (fun j h1 h2 h3 => ?_)
        · first | ((simp (disch := omega) only [ite_ne, hc, hk, hne, hne', go_sem, ↓reduceIte, Nat.reduceEqDiff, Nat.reduceBEq, Nat.reduceAdd, Nat.reduceLeDiff, Nat.reduceLT, reduceCtorEq, Nat.reduceMul, Nat.reduceSub, Int.reduceEq, Int.reduceLT, Int.reduceLE, Int.reduceToNat]); done) | (simp only [gc]; (simp (disch := omega) only [ite_ne, hc, hk, hne, hne', go_sem, ↓reduceIte, Nat.reduceEqDiff, Nat.reduceBEq, Nat.reduceAdd, Nat.reduceLeDiff, Nat.reduceLT, reduceCtorEq, Nat.reduceMul, Nat.reduceSub, Int.reduceEq, Int.reduceLT, Int.reduceLE, Int.reduceToNat]))
        · first | ((simp (disch := omega) only [ite_ne, hc, hk, hne, hne', go_sem, ↓reduceIte, Nat.reduceEqDiff, Nat.reduceBEq, Nat.reduceAdd, Nat.reduceLeDiff, Nat.reduceLT, reduceCtorEq, Nat.reduceMul, Nat.reduceSub, Int.reduceEq, Int.reduceLT, Int.reduceLE, Int.reduceToNat]); done) | (simp only [gc]; (simp (disch := omega) only [ite_ne, hc, hk, hne, hne', go_sem, ↓reduceIte, Nat.reduceEqDiff, Nat.reduceBEq, Nat.reduceAdd, Nat.reduceLeDiff, Nat.reduceLT, reduceCtorEq, Nat.reduceMul, Nat.reduceSub, Int.reduceEq, Int.reduceLT, Int.reduceLE, Int.reduceToNat]))
        · first | rfl | (repeat rw [gc_ne _ _ (by omega)])
      have d2 : decide (s ≤ last) = false := by simp [s1]
      by_cases s2 : s = last + 1
      · have d3 : decide (s = last + 1) = true := decide_eq_true s2
        have s2' := s2.symm
        have x1 : clA last (.mk 7 i s a b) = [akF 4 s] := by simp [clA, a1, s1, s2', Frm.k_mk, Frm.s_mk]
        have x2 : clE last (.mk 7 i s a b) = 0 := by simp [clE, a1, s1, s2', Frm.k_mk, Frm.s_mk]
        have x3 : clT last (.mk 7 i s a b) = true := by simp [clT, a1, s2', Frm.k_mk, Frm.s_mk]
        have x4 : clS last (.mk 7 i s a b) = decide ((7 : Int) = 5) := by simp [clS, x3, Frm.k_mk]
        have x5 : clL last (.mk 7 i s a b) = s := by simp [clL, x3, Frm.s_mk]
        have x6 : clG G last (.mk 7 i s a b) = if decide ((7 : Int) = 5) = true then G ++ [⟨i, b⟩] else G := by simp [clG, x4, Frm.i_mk, Frm.b_mk]
        have x7 : clN g last (.mk 7 i s a b) = if decide ((7 : Int) = 5) = true then g + 1 else g := by simp [clN, x4]
        rw [x1, x2, x5, x6, x7]
        simp (disch := omega) only [ite_ne, hc, go_sem, ↓reduceIte, Nat.reduceEqDiff, Nat.reduceBEq, Nat.reduceAdd, Nat.reduceLeDiff, Nat.reduceLT, reduceCtorEq, Nat.reduceMul, Nat.reduceSub, Int.reduceEq, Int.reduceLT, Int.reduceLE, Int.reduceToNat]
        refine vcCall.f (hR _ _) ?_
        simp (disch := omega) only [ite_ne, hc, d2, d3, w1, hGl, k1, k2, hk, hne, hne', go_sem, ↓reduceIte, Nat.reduceEqDiff, Nat.reduceBEq, Nat.reduceAdd, Nat.reduceLeDiff, Nat.reduceLT, reduceCtorEq, Nat.reduceMul, Nat.reduceSub, Int.reduceEq, Int.reduceLT, Int.reduceLE, Int.reduceToNat]
        try simp only [List.length_append, List.length_cons, List.length_nil, Nat.zero_add, ← mapC_snoc, mgC, frC, Msg.id_mk, Msg.b_mk, Frm.k_mk, Frm.i_mk, Frm.s_mk, Frm.a_mk, Frm.b_mk]
        refine ⟨?_, rfl⟩
        refine up_ws2 hne ?_ ?_ (fun j h1 h2 h3 => ?_)
        · first | ((simp (disch := omega) only [ite_ne, hc, hk, hne, hne', go_sem, ↓reduceIte, Nat.reduceEqDiff, Nat.reduceBEq, Nat.reduceAdd, Nat.reduceLeDiff, Nat.reduceLT, reduceCtorEq, Nat.reduceMul, Nat.reduceSub, Int.reduceEq, Int.reduceLT, Int.reduceLE, Int.reduceToNat]); done) | (simp only [gc]; (simp (disch := omega) only [ite_ne, hc, hk, hne, hne', go_sem, ↓reduceIte, Nat.reduceEqDiff, Nat.reduceBEq, Nat.reduceAdd, Nat.reduceLeDiff, Nat.reduceLT, reduceCtorEq, Nat.reduceMul, Nat.reduceSub, Int.reduceEq, Int.reduceLT, Int.reduceLE, Int.reduceToNat]))
        · first | ((simp (disch := omega) only [ite_ne, hc, hk, hne, hne', go_sem, ↓reduceIte, Nat.reduceEqDiff, Nat.reduceBEq, Nat.reduceAdd, Nat.reduceLeDiff, Nat.reduceLT, reduceCtorEq, Nat.reduceMul, Nat.reduceSub, Int.reduceEq, Int.reduceLT, Int.reduceLE, Int.reduceToNat]); done) | (simp only [gc]; (simp (disch := omega) only [ite_ne, hc, hk, hne, hne', go_sem, ↓reduceIte, Nat.reduceEqDiff, Nat.reduceBEq, Nat.reduceAdd, Nat.reduceLeDiff, Nat.reduceLT, reduceCtorEq, Nat.reduceMul, Nat.reduceSub, Int.reduceEq, Int.reduceLT, Int.reduceLE, Int.reduceToNat]))
        · first | rfl | (repeat rw [gc_ne _ _ (by omega)])
      · have d3 : decide (s = last + 1) = false := by simp [s2]
        have x1 : clA last (.mk 7 i s a b) = [akF 1 last] := by simp [clA, a1, s1, s2, Frm.k_mk, Frm.s_mk]
        have x2 : clE last (.mk 7 i s a b) = 13 := by simp [clE, a1, s1, s2, Frm.k_mk, Frm.s_mk]
        have x3 : clT last (.mk 7 i s a b) = false := by simp [clT, a1, s2, Frm.k_mk, Frm.s_mk]
        have x4 : clS last (.mk 7 i s a b) = false := by simp [clS, x3]
        have x5 : clL last (.mk 7 i s a b) = last := by simp [clL, x3]
        have x6 : clG G last (.mk 7 i s a b) = G := by simp [clG, x4]
        have x7 : clN g last (.mk 7 i s a b) = g := by simp [clN, x4]
        rw [x1, x2, x5, x6, x7]
        simp (disch := omega) only [ite_ne, hc, go_sem, ↓reduceIte, Nat.reduceEqDiff, Nat.reduceBEq, Nat.reduceAdd, Nat.reduceLeDiff, Nat.reduceLT, reduceCtorEq, Nat.reduceMul, Nat.reduceSub, Int.reduceEq, Int.reduceLT, Int.reduceLE, Int.reduceToNat]
        refine vcCall.f (hR _ _) ?_
        simp (disch := omega) only [ite_ne, hc, d2, d3, w1, go_sem, ↓reduceIte, Nat.reduceEqDiff, Nat.reduceBEq, Nat.reduceAdd, Nat.reduceLeDiff, Nat.reduceLT, reduceCtorEq, Nat.reduceMul, Nat.reduceSub, Int.reduceEq, Int.reduceLT, Int.reduceLE, Int.reduceToNat]
        refine vcCall.f (hO _ ?_ _) ?_
        · simp (disch := omega) only [ite_ne, hc, go_sem, ↓reduceIte, Nat.reduceEqDiff, Nat.reduceBEq, Nat.reduceAdd, Nat.reduceLeDiff, Nat.reduceLT, reduceCtorEq, Nat.reduceMul, Nat.reduceSub, Int.reduceEq, Int.reduceLT, Int.reduceLE, Int.reduceToNat]
        rw [if_pos rfl]
        simp (disch := omega) only [ite_ne, hc, go_sem, ↓reduceIte, Nat.reduceEqDiff, Nat.reduceBEq, Nat.reduceAdd, Nat.reduceLeDiff, Nat.reduceLT, reduceCtorEq, Nat.reduceMul, Nat.reduceSub, Int.reduceEq, Int.reduceLT, Int.reduceLE, Int.reduceToNat]
        refine up_ws2 hne ?_ ?_ (fun j h1 h2 h3 => ?_)
        · first | ((simp (disch := omega) only [ite_ne, hc, hk, hne, hne', go_sem, ↓reduceIte, Nat.reduceEqDiff, Nat.reduceBEq, Nat.reduceAdd, Nat.reduceLeDiff, Nat.reduceLT, reduceCtorEq, Nat.reduceMul, Nat.reduceSub, Int.reduceEq, Int.reduceLT, Int.reduceLE, Int.reduceToNat]); done) | (simp only [gc]; (simp (disch := omega) only [ite_ne, hc, hk, hne, hne', go_sem, ↓reduceIte, Nat.reduceEqDiff, Nat.reduceBEq, Nat.reduceAdd, Nat.reduceLeDiff, Nat.reduceLT, reduceCtorEq, Nat.reduceMul, Nat.reduceSub, Int.reduceEq, Int.reduceLT, Int.reduceLE, Int.reduceToNat]))
        · first | ((simp (disch := omega) only [ite_ne, hc, hk, hne, hne', go_sem, ↓reduceIte, Nat.reduceEqDiff, Nat.reduceBEq, Nat.reduceAdd, Nat.reduceLeDiff, Nat.reduceLT, reduceCtorEq, Nat.reduceMul, Nat.reduceSub, Int.reduceEq, Int.reduceLT, Int.reduceLE, Int.reduceToNat]); done) | (simp only [gc]; (simp (disch := omega) only [ite_ne, hc, hk, hne, hne', go_sem, ↓reduceIte, Nat.reduceEqDiff, Nat.reduceBEq, Nat.reduceAdd, Nat.reduceLeDiff, Nat.reduceLT, reduceCtorEq, Nat.reduceMul, Nat.reduceSub, Int.reduceEq, Int.reduceLT, Int.reduceLE, Int.reduceToNat]))
        · first | rfl | (repeat rw [gc_ne _ _ (by omega)])
    · have x1 : clA last (.mk 8 i s a b) = [] := by simp [clA, a1, Frm.k_mk, Frm.s_mk]
      have x2 : clE last (.mk 8 i s a b) = 0 := by simp [clE, a1, Frm.k_mk, Frm.s_mk]
      have x3 : clT last (.mk 8 i s a b) = false := by simp [clT, a1, Frm.k_mk, Frm.s_mk]
      have x4 : clS last (.mk 8 i s a b) = false := by simp [clS, x3]
      have x5 : clL last (.mk 8 i s a b) = last := by simp [clL, x3]
      have x6 : clG G last (.mk 8 i s a b) = G := by simp [clG, x4]
      have x7 : clN g last (.mk 8 i s a b) = g := by simp [clN, x4]
      rw [x1, x2, x5, x6, x7]
      simp (disch := omega) only [ite_ne, hc, go_sem, ↓reduceIte, Nat.reduceEqDiff, Nat.reduceBEq, Nat.reduceAdd, Nat.reduceLeDiff, Nat.reduceLT, reduceCtorEq, Nat.reduceMul, Nat.reduceSub, Int.reduceEq, Int.reduceLT, Int.reduceLE, Int.reduceToNat]
      refine vcCall.f (hR _ _) ?_
      simp (disch := omega) only [ite_ne, hc, go_sem, ↓reduceIte, Nat.reduceEqDiff, Nat.reduceBEq, Nat.reduceAdd, Nat.reduceLeDiff, Nat.reduceLT, reduceCtorEq, Nat.reduceMul, Nat.reduceSub, Int.reduceEq, Int.reduceLT, Int.reduceLE, Int.reduceToNat]
      refine up_ws2 hne ?_ ?_ (fun j h1 h2 h3 => ?_)
      · first | ((simp (disch := omega) only [ite_ne, hc, hk, hne, hne', go_sem, ↓reduceIte, Nat.reduceEqDiff, Nat.reduceBEq, Nat.reduceAdd, Nat.reduceLeDiff, Nat.reduceLT, reduceCtorEq, Nat.reduceMul, Nat.reduceSub, Int.reduceEq, Int.reduceLT, Int.reduceLE, Int.reduceToNat]); done) | (simp only [gc]; (simp (disch := omega) only [ite_ne, hc, hk, hne, hne', go_sem, ↓reduceIte, Nat.reduceEqDiff, Nat.reduceBEq, Nat.reduceAdd, Nat.reduceLeDiff, Nat.reduceLT, reduceCtorEq, Nat.reduceMul, Nat.reduceSub, Int.reduceEq, Int.reduceLT, Int.reduceLE, Int.reduceToNat]))
      · first | ((simp (disch := omega) only [ite_ne, hc, hk, hne, hne', go_sem, ↓reduceIte, Nat.reduceEqDiff, Nat.reduceBEq, Nat.reduceAdd, Nat.reduceLeDiff, Nat.reduceLT, reduceCtorEq, Nat.reduceMul, Nat.reduceSub, Int.reduceEq, Int.reduceLT, Int.reduceLE, Int.reduceToNat]); done) | (simp only [gc]; (simp (disch := omega) only [ite_ne, hc, hk, hne, hne', go_sem, ↓reduceIte, Nat.reduceEqDiff, Nat.reduceBEq, Nat.reduceAdd, Nat.reduceLeDiff, Nat.reduceLT, reduceCtorEq, Nat.reduceMul, Nat.reduceSub, Int.reduceEq, Int.reduceLT, Int.reduceLE, Int.reduceToNat]))
      · first | rfl | (repeat rw [gc_ne _ _ (by omega)])
    · exfalso
      unfold kOk at hko
      simp at hko
      omega
end Go.Proofs.Ytdodiembhgjecaa
