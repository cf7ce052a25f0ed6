/-
  A patch is applied by the reference. Conditions: none.
-/
import Derived.Test.YtmcgjccheehehaaDfD
namespace Go.Proofs.Ytmcgjccheehehaa
open Go.Eng
set_option linter.unusedVariables false
set_option linter.unusedSimpArgs false
set_option maxRecDepth 20000
theorem prd_x {v x : Val} (h : prd v = true) (hx : x ∈ v.items) : prd x = true := by
  rw [prd_eq] at h
  simp only [Bool.and_eq_true] at h
  exact (prdL_all _).1 h.2 x hx
theorem prd_len {v : Val} (h : prd v = true) (h6 : v.k = 6) : v.keys.length = v.items.length := by
  rw [prd_eq] at h
  simp [h6] at h
  exact h.1
theorem apply2_of (d s : Val) (p : List Val) (hpd : prd d = true) (ih : ∀ v, prd v = true → wtV v + wtV d ≤ 1000000000000 → ∀ hp m, MeetsF Try.prog 50 hp m [vx v, .ds (mapC valC p), vx d] (resE (apV d p v))) (v : Val) (hpv : prd v = true) (hw : wtV v + wtV d ≤ 1000000000000) (hp : CH) (m : Nat) :
    MeetsF Try.prog 50 hp m [vx v, .ds (mapC valC (s :: p)), vx d] (resE (apV d (s :: p) v)) := by
  have hv := wtV_fit v (by omega)
  have hd := wtV_fit d (by omega)
  have h1 := hv.i
  have hs := stp_lt v s
  have hw1 := wtL_len v.items
  have hw2 := wtV_eq v
  obtain ⟨R, hR⟩ : ∃ R, apV d (s :: p) v = R := ⟨_, rfl⟩
  rw [hR]
  rw [apV] at hR
  refine meetsF Try.func50 (by kernel_rfl) cc50 cr50 rfl fun hf => ?_; unfold ck50
  simp only [go_sem, ↓reduceIte, Nat.reduceEqDiff, Nat.reduceBEq, Nat.reduceAdd, Nat.reduceLeDiff, Nat.reduceLT, reduceCtorEq, Nat.reduceMul, Nat.reduceSub, Int.reduceEq, Int.reduceLT, Int.reduceLE, Int.reduceToNat]
  have e0 : decide (((p.length + 1 : Nat) : Int) = 0) = false := by simp; omega
  rw [e0]
  simp only [e0, go_sem, ↓reduceIte, Nat.reduceEqDiff, Nat.reduceBEq, Nat.reduceAdd, Nat.reduceLeDiff, Nat.reduceLT, reduceCtorEq, Nat.reduceMul, Nat.reduceSub, Int.reduceEq, Int.reduceLT, Int.reduceLE, Int.reduceToNat]
  refine vcCall.x (rcopy_r v hv _ _) ?_
  simp only [go_sem, ↓reduceIte, Nat.reduceEqDiff, Nat.reduceBEq, Nat.reduceAdd, Nat.reduceLeDiff, Nat.reduceLT, reduceCtorEq, Nat.reduceMul, Nat.reduceSub, Int.reduceEq, Int.reduceLT, Int.reduceLE, Int.reduceToNat]
  refine cdK_of (fun c => ?_) (fun c => ?_)
  · have c : s.k = 3 ∧ v.k = 6 := by simpa using c
    have cn : ¬ (p.length = 0 ∧ s.k = 2 ∧ v.k = 5 ∧ s.n = v.items.length) := fun h => by omega
    have c5 : decide (s.k = 2) = false := by simp; omega
    rw [if_neg cn] at hR
    have hix := ix_lt s.s v.keys 0
    have hTs : (if ix s.s v.keys 0 < v.items.length then ix s.s v.keys 0 else -1) = stp v s := by rw [stp, if_pos c]
    simp only [go_sem, ↓reduceIte, Nat.reduceEqDiff, Nat.reduceBEq, Nat.reduceAdd, Nat.reduceLeDiff, Nat.reduceLT, reduceCtorEq, Nat.reduceMul, Nat.reduceSub, Int.reduceEq, Int.reduceLT, Int.reduceLE, Int.reduceToNat]
    first | refine dCallR.f (fun _ _ _ => index2_ok v s.s hv _ _) ?_ | refine dCall.f (fun _ _ _ => index2_ok v s.s hv _ _) ?_
    simp only [go_sem, ↓reduceIte, Nat.reduceEqDiff, Nat.reduceBEq, Nat.reduceAdd, Nat.reduceLeDiff, Nat.reduceLT, reduceCtorEq, Nat.reduceMul, Nat.reduceSub, Int.reduceEq, Int.reduceLT, Int.reduceLE, Int.reduceToNat]
    rw [hTs]
    simp only [c5, go_sem, ↓reduceIte, Nat.reduceEqDiff, Nat.reduceBEq, Nat.reduceAdd, Nat.reduceLeDiff, Nat.reduceLT, reduceCtorEq, Nat.reduceMul, Nat.reduceSub, Int.reduceEq, Int.reduceLT, Int.reduceLE, Int.reduceToNat]
    refine cdK_of (fun t1 => ?_) (fun t1 => ?_)
    · have c1 : stp v s < 0 := by
        simp only [Bool.or_eq_true, Bool.and_eq_true, Bool.not_eq_true', decide_eq_true_eq, decide_eq_false_iff_not] at t1
        omega
      rw [if_pos c1] at hR
      subst hR
      simp only [go_sem, ↓reduceIte, Nat.reduceEqDiff, Nat.reduceBEq, Nat.reduceAdd, Nat.reduceLeDiff, Nat.reduceLT, reduceCtorEq, Nat.reduceMul, Nat.reduceSub, Int.reduceEq, Int.reduceLT, Int.reduceLE, Int.reduceToNat]
    have c1 : ¬ stp v s < 0 ∧ stp v s < v.items.length := by
      simp only [Bool.or_eq_false_iff, Bool.and_eq_false_iff, Bool.not_eq_false', decide_eq_true_eq, decide_eq_false_iff_not] at t1
      omega
    have hT : stp v s = stp v s := by omega
    rw [hT] at hR
    have c2 : (stp v s).toNat < v.items.length := by omega
    have c3 : 0 ≤ stp v s := by omega
    obtain ⟨x, ex⟩ : ∃ x, v.items[(stp v s).toNat]? = some x := ⟨_, List.getElem?_eq_getElem c2⟩
    have hx := hv.x (List.mem_of_getElem? ex)
    have hwx := wtL_mem (List.mem_of_getElem? ex)
    have hpx := prd_x hpv (List.mem_of_getElem? ex)
    simp only [if_neg c1.1, ex] at hR
    simp only [c2, c3, getK_s (mapC_get valC ex), go_sem, ↓reduceIte, Nat.reduceEqDiff, Nat.reduceBEq, Nat.reduceAdd, Nat.reduceLeDiff, Nat.reduceLT, reduceCtorEq, Nat.reduceMul, Nat.reduceSub, Int.reduceEq, Int.reduceLT, Int.reduceLE, Int.reduceToNat]
    refine ⟨⟨by omega, by omega⟩, ?_⟩
    first | refine dCallR.f (fun _ _ _ => ih x hpx (by omega) _ _) ?_ | refine dCall.f (fun _ _ _ => ih x hpx (by omega) _ _) ?_
    simp only [go_sem, ↓reduceIte, Nat.reduceEqDiff, Nat.reduceBEq, Nat.reduceAdd, Nat.reduceLeDiff, Nat.reduceLT, reduceCtorEq, Nat.reduceMul, Nat.reduceSub, Int.reduceEq, Int.reduceLT, Int.reduceLE, Int.reduceToNat]
    refine cdK_of (fun c4 => ?_) (fun c4 => ?_)
    · have c4 : ¬ (apV d p x).2 = 0 := by simpa using c4
      rw [if_neg c4] at hR
      subst hR
      simp only [go_sem, ↓reduceIte, Nat.reduceEqDiff, Nat.reduceBEq, Nat.reduceAdd, Nat.reduceLeDiff, Nat.reduceLT, reduceCtorEq, Nat.reduceMul, Nat.reduceSub, Int.reduceEq, Int.reduceLT, Int.reduceLE, Int.reduceToNat]
    · have c4 : (apV d p x).2 = 0 := by simpa using c4
      rw [if_pos c4] at hR
      subst hR
      simp only [c2, c3, getK_s (mapC_get valC ex), go_sem, ↓reduceIte, Nat.reduceEqDiff, Nat.reduceBEq, Nat.reduceAdd, Nat.reduceLeDiff, Nat.reduceLT, reduceCtorEq, Nat.reduceMul, Nat.reduceSub, Int.reduceEq, Int.reduceLT, Int.reduceLE, Int.reduceToNat]
  · have c : ¬ (s.k = 3 ∧ v.k = 6) := by simpa using c
    simp only [go_sem, ↓reduceIte, Nat.reduceEqDiff, Nat.reduceBEq, Nat.reduceAdd, Nat.reduceLeDiff, Nat.reduceLT, reduceCtorEq, Nat.reduceMul, Nat.reduceSub, Int.reduceEq, Int.reduceLT, Int.reduceLE, Int.reduceToNat]
    refine cdK_of (fun q => ?_) (fun q => ?_)
    · have q : s.k = 2 ∧ v.k = 5 := by simpa using q
      have hTs : stp v s = if 0 ≤ s.n ∧ s.n < v.items.length then s.n else -1 := by
        rw [stp, if_neg c]
        by_cases q2 : 0 ≤ s.n ∧ s.n < v.items.length
        · rw [if_pos q2, if_pos ⟨q.1, q.2, q2.1, q2.2⟩]
        · rw [if_neg q2, if_neg (fun h => q2 h.2.2)]
      simp only [go_sem, ↓reduceIte, Nat.reduceEqDiff, Nat.reduceBEq, Nat.reduceAdd, Nat.reduceLeDiff, Nat.reduceLT, reduceCtorEq, Nat.reduceMul, Nat.reduceSub, Int.reduceEq, Int.reduceLT, Int.reduceLE, Int.reduceToNat]
      refine cdK_of (fun q2 => ?_) (fun q2 => ?_)
      · have q2 : p.length = 0 ∧ s.k = 2 ∧ v.k = 5 ∧ s.n = v.items.length := by
          simp only [Bool.and_eq_true, decide_eq_true_eq] at q2
          exact ⟨by omega, q.1, q.2, q2.1⟩
        rw [if_pos q2] at hR
        subst hR
        simp only [go_sem, ↓reduceIte, Nat.reduceEqDiff, Nat.reduceBEq, Nat.reduceAdd, Nat.reduceLeDiff, Nat.reduceLT, reduceCtorEq, Nat.reduceMul, Nat.reduceSub, Int.reduceEq, Int.reduceLT, Int.reduceLE, Int.reduceToNat]
        first | refine dCallR.f (fun _ _ _ => rcopy_ok d hd _ _) ?_ | refine dCall.f (fun _ _ _ => rcopy_ok d hd _ _) ?_
        simp only [go_sem, ↓reduceIte, Nat.reduceEqDiff, Nat.reduceBEq, Nat.reduceAdd, Nat.reduceLeDiff, Nat.reduceLT, reduceCtorEq, Nat.reduceMul, Nat.reduceSub, Int.reduceEq, Int.reduceLT, Int.reduceLE, Int.reduceToNat]
        omega
      · have q2 : ¬ (p.length = 0 ∧ s.k = 2 ∧ v.k = 5 ∧ s.n = v.items.length) := fun h => by
          have : ((p.length + 1 : Nat) : Int) = 1 := by omega
          simp [this, h.2.2.2] at q2
        rw [if_neg q2] at hR
        simp only [go_sem, ↓reduceIte, Nat.reduceEqDiff, Nat.reduceBEq, Nat.reduceAdd, Nat.reduceLeDiff, Nat.reduceLT, reduceCtorEq, Nat.reduceMul, Nat.reduceSub, Int.reduceEq, Int.reduceLT, Int.reduceLE, Int.reduceToNat]
        refine cdK_of (fun t1 => ?_) (fun t1 => ?_)
        · have c1 : stp v s < 0 := by
            simp only [Bool.or_eq_true, Bool.and_eq_true, Bool.not_eq_true', decide_eq_true_eq, decide_eq_false_iff_not] at t1
            omega
          rw [if_pos c1] at hR
          subst hR
          simp only [go_sem, ↓reduceIte, Nat.reduceEqDiff, Nat.reduceBEq, Nat.reduceAdd, Nat.reduceLeDiff, Nat.reduceLT, reduceCtorEq, Nat.reduceMul, Nat.reduceSub, Int.reduceEq, Int.reduceLT, Int.reduceLE, Int.reduceToNat]
        have c1 : ¬ s.n < 0 ∧ s.n < v.items.length := by
          simp only [Bool.or_eq_false_iff, Bool.and_eq_false_iff, Bool.not_eq_false', decide_eq_true_eq, decide_eq_false_iff_not] at t1
          omega
        have hT : stp v s = s.n := by omega
        rw [hT] at hR
        have c2 : (s.n).toNat < v.items.length := by omega
        have c3 : 0 ≤ s.n := by omega
        obtain ⟨x, ex⟩ : ∃ x, v.items[(s.n).toNat]? = some x := ⟨_, List.getElem?_eq_getElem c2⟩
        have hx := hv.x (List.mem_of_getElem? ex)
        have hwx := wtL_mem (List.mem_of_getElem? ex)
        have hpx := prd_x hpv (List.mem_of_getElem? ex)
        simp only [if_neg c1.1, ex] at hR
        simp only [c2, c3, getK_s (mapC_get valC ex), go_sem, ↓reduceIte, Nat.reduceEqDiff, Nat.reduceBEq, Nat.reduceAdd, Nat.reduceLeDiff, Nat.reduceLT, reduceCtorEq, Nat.reduceMul, Nat.reduceSub, Int.reduceEq, Int.reduceLT, Int.reduceLE, Int.reduceToNat]
        refine ⟨⟨by omega, by omega⟩, ?_⟩
        first | refine dCallR.f (fun _ _ _ => ih x hpx (by omega) _ _) ?_ | refine dCall.f (fun _ _ _ => ih x hpx (by omega) _ _) ?_
        simp only [go_sem, ↓reduceIte, Nat.reduceEqDiff, Nat.reduceBEq, Nat.reduceAdd, Nat.reduceLeDiff, Nat.reduceLT, reduceCtorEq, Nat.reduceMul, Nat.reduceSub, Int.reduceEq, Int.reduceLT, Int.reduceLE, Int.reduceToNat]
        refine cdK_of (fun c4 => ?_) (fun c4 => ?_)
        · have c4 : ¬ (apV d p x).2 = 0 := by simpa using c4
          rw [if_neg c4] at hR
          subst hR
          simp only [go_sem, ↓reduceIte, Nat.reduceEqDiff, Nat.reduceBEq, Nat.reduceAdd, Nat.reduceLeDiff, Nat.reduceLT, reduceCtorEq, Nat.reduceMul, Nat.reduceSub, Int.reduceEq, Int.reduceLT, Int.reduceLE, Int.reduceToNat]
        · have c4 : (apV d p x).2 = 0 := by simpa using c4
          rw [if_pos c4] at hR
          subst hR
          simp only [c2, c3, getK_s (mapC_get valC ex), go_sem, ↓reduceIte, Nat.reduceEqDiff, Nat.reduceBEq, Nat.reduceAdd, Nat.reduceLeDiff, Nat.reduceLT, reduceCtorEq, Nat.reduceMul, Nat.reduceSub, Int.reduceEq, Int.reduceLT, Int.reduceLE, Int.reduceToNat]
    · have q : ¬ (s.k = 2 ∧ v.k = 5) := by simpa using q
      have c1 : stp v s < 0 := by
        rw [stp, if_neg c, if_neg (fun h => q ⟨h.1, h.2.1⟩)]
        omega
      rw [if_neg (fun h => q ⟨h.2.1, h.2.2.1⟩), if_pos c1] at hR
      subst hR
      simp only [go_sem, ↓reduceIte, Nat.reduceEqDiff, Nat.reduceBEq, Nat.reduceAdd, Nat.reduceLeDiff, Nat.reduceLT, reduceCtorEq, Nat.reduceMul, Nat.reduceSub, Int.reduceEq, Int.reduceLT, Int.reduceLE, Int.reduceToNat]
end Go.Proofs.Ytmcgjccheehehaa
