/-
  The parts PcCB of the proof, in one file. Conditions: none.
-/
import Derived.Test.YtpenniildabheaaPb45
namespace Go.Proofs.Ytpenniildabheaa
open Go.Eng
set_option linter.unusedVariables false
set_option linter.unusedSimpArgs false
set_option maxRecDepth 20000
set_option maxHeartbeats 2000000
theorem rn_lt {hp : CH} {m a g n : Nat} {l : List (List AV)} (hf : ∀ k, m ≤ k → gc hp k = .no) (h : gc hp a = .rn g n l) : a < m := by
  rcases Nat.lt_or_ge a m with q | q
  · exact q
  · rw [hf a q] at h; cases h
theorem w01 : IntKind.i64.wrap (0 + 1) = 1 := by decide
section
variable (n w g kd : Int) (z q : ByteArray) (A B C H K F D W gA gB gC gH gK gF gD gW : Nat) (b1 a1 c1 b2 c2 : AV) (hp : CH)
  (hA : gc hp A = .rn gA 3 [[.i .i64 kd, .rw B gB 1, .rw C gC 1]]) (hB : gc hp B = .rn gB 9 [pkN z b1 a1 c1])
  (hC : gc hp C = .rn gC 8 [[.i .i64 g, .i .i64 1, .rw H gH 1, .s ⟨#[81, 117, 101, 114, 121]⟩, .rw K gK 1, .i .i64 0, .rw D gD 1, .rw F gF 1]])
  (hH : gc hp H = .rw gH 2 [[.s ⟨#[81, 117, 101, 114, 121]⟩, .s z]]) (hK : gc hp K = .rw gK 1 [[.s q]]) (hF : gc hp F = .rw gF 1 [[.i .i64 n]]) (hD : gc hp D = .rn gD 9 [pkN z b2 (.rw W gW 1) c2]) (hW : gc hp W = .rw gW 1 [[.i .i64 w]])
include hA hB hC hH hK hF hD hW
theorem numberN (m : Nat) (e1 : kd = 1) (e2 : g = n) (e3 : z = ⟨#[97]⟩) (e4 : q = ⟨#[105, 100]⟩) (e5 : w = 1) : MeetsF Try.prog 12 hp m [.rw A gA 1] (.tp [.i .i64 n, .b true]) := by
  subst e1
  subst e2
  subst e3
  subst e4
  subst e5
  unfold pkN at hB hD
  refine meetsF Try.func12 (by kernel_rfl) cc12 cr12 rfl fun hf => ?_; unfold ck12
  have l1 := rn_lt hf hA
  have l2 := rn_lt hf hB
  have l3 := rn_lt hf hC
  have l4 := rw_lt hf hH
  have l5 := rw_lt hf hK
  have l6 := rw_lt hf hF
  have l7 := rn_lt hf hD
  have l8 := rw_lt hf hW
  simp (disch := omega) only [ite_ne, hA, hB, hC, hH, hK, hF, hD, hW, List.set_cons_zero, List.set_cons_succ, List.length_cons, List.length_nil, List.take_succ_cons, List.take_zero, List.take_nil, List.drop_zero, List.drop_succ_cons, List.cons_append, List.nil_append, go_sem, ↓reduceIte, Nat.reduceEqDiff, Nat.reduceBEq, Nat.reduceAdd, Nat.reduceLeDiff, Nat.reduceLT, reduceCtorEq, Nat.reduceMul, Nat.reduceSub, Int.reduceEq, Int.reduceLT, Int.reduceLE, Int.reduceToNat]
  try rfl
theorem spoilN (hBD : ¬ B = D) (hFW : ¬ F = W) (m : Nat) (hcell : (∀ k, m ≤ k → gc hp k = .no) → b1.lt1 m ∧ a1.lt1 m ∧ c1.lt1 m ∧ b2.lt1 m ∧ c2.lt1 m) : MeetsX Try.prog 14 hp m [.rw A gA 1] ([(A, .rn gA 3 [[.i .i64 9, .rw B gB 1, .rw C gC 1]]), (B, .rn gB 9 [pkN ⟨#[122]⟩ b1 a1 c1]), (K, .rw gK 1 [[.s ⟨#[122]⟩]]), (F, .rw gF 1 [[.i .i64 99]]),
      (H, .rw gH 2 [[.s ⟨#[81, 117, 101, 114, 121]⟩, .s ⟨#[122]⟩]]), (D, .rn gD 9 [pkN ⟨#[122]⟩ b2 (.rw W gW 1) c2]), (W, .rw gW 1 [[.i .i64 2]]), (C, .rn gC 8 [[.i .i64 99, .i .i64 1, .rw H gH 1, .s ⟨#[81, 117, 101, 114, 121]⟩, .rw K gK 1, .i .i64 0, .rw D gD 1, .rw F gF 1]])] ++ hp) m (.tp []) := by
  unfold pkN at hB hD
  have dAB : ¬ A = B := fun e => by subst e; rw [hA] at hB; cases hB
  have dBA : ¬ B = A := fun e => dAB e.symm
  have dAC : ¬ A = C := fun e => by subst e; rw [hA] at hC; cases hC
  have dCA : ¬ C = A := fun e => dAC e.symm
  have dAH : ¬ A = H := fun e => by subst e; rw [hA] at hH; cases hH
  have dHA : ¬ H = A := fun e => dAH e.symm
  have dAK : ¬ A = K := fun e => by subst e; rw [hA] at hK; cases hK
  have dKA : ¬ K = A := fun e => dAK e.symm
  have dAF : ¬ A = F := fun e => by subst e; rw [hA] at hF; cases hF
  have dFA : ¬ F = A := fun e => dAF e.symm
  have dAD : ¬ A = D := fun e => by subst e; rw [hA] at hD; cases hD
  have dDA : ¬ D = A := fun e => dAD e.symm
  have dAW : ¬ A = W := fun e => by subst e; rw [hA] at hW; cases hW
  have dWA : ¬ W = A := fun e => dAW e.symm
  have dBC : ¬ B = C := fun e => by subst e; rw [hB] at hC; cases hC
  have dCB : ¬ C = B := fun e => dBC e.symm
  have dBH : ¬ B = H := fun e => by subst e; rw [hB] at hH; cases hH
  have dHB : ¬ H = B := fun e => dBH e.symm
  have dBK : ¬ B = K := fun e => by subst e; rw [hB] at hK; cases hK
  have dKB : ¬ K = B := fun e => dBK e.symm
  have dBF : ¬ B = F := fun e => by subst e; rw [hB] at hF; cases hF
  have dFB : ¬ F = B := fun e => dBF e.symm
  have dBD := hBD
  have dDB : ¬ D = B := fun e => dBD e.symm
  have dBW : ¬ B = W := fun e => by subst e; rw [hB] at hW; cases hW
  have dWB : ¬ W = B := fun e => dBW e.symm
  have dCH : ¬ C = H := fun e => by subst e; rw [hC] at hH; cases hH
  have dHC : ¬ H = C := fun e => dCH e.symm
  have dCK : ¬ C = K := fun e => by subst e; rw [hC] at hK; cases hK
  have dKC : ¬ K = C := fun e => dCK e.symm
  have dCF : ¬ C = F := fun e => by subst e; rw [hC] at hF; cases hF
  have dFC : ¬ F = C := fun e => dCF e.symm
  have dCD : ¬ C = D := fun e => by subst e; rw [hC] at hD; cases hD
  have dDC : ¬ D = C := fun e => dCD e.symm
  have dCW : ¬ C = W := fun e => by subst e; rw [hC] at hW; cases hW
  have dWC : ¬ W = C := fun e => dCW e.symm
  have dHK : ¬ H = K := fun e => by subst e; rw [hH] at hK; cases hK
  have dKH : ¬ K = H := fun e => dHK e.symm
  have dHF : ¬ H = F := fun e => by subst e; rw [hH] at hF; cases hF
  have dFH : ¬ F = H := fun e => dHF e.symm
  have dHD : ¬ H = D := fun e => by subst e; rw [hH] at hD; cases hD
  have dDH : ¬ D = H := fun e => dHD e.symm
  have dHW : ¬ H = W := fun e => by subst e; rw [hH] at hW; cases hW
  have dWH : ¬ W = H := fun e => dHW e.symm
  have dKF : ¬ K = F := fun e => by subst e; rw [hK] at hF; cases hF
  have dFK : ¬ F = K := fun e => dKF e.symm
  have dKD : ¬ K = D := fun e => by subst e; rw [hK] at hD; cases hD
  have dDK : ¬ D = K := fun e => dKD e.symm
  have dKW : ¬ K = W := fun e => by subst e; rw [hK] at hW; cases hW
  have dWK : ¬ W = K := fun e => dKW e.symm
  have dFD : ¬ F = D := fun e => by subst e; rw [hF] at hD; cases hD
  have dDF : ¬ D = F := fun e => dFD e.symm
  have dFW := hFW
  have dWF : ¬ W = F := fun e => dFW e.symm
  have dDW : ¬ D = W := fun e => by subst e; rw [hD] at hW; cases hW
  have dWD : ¬ W = D := fun e => dDW e.symm
  have hWS : (∀ k, m ≤ k → gc hp k = .no) → wsLt m [(A, .rn gA 3 [[.i .i64 9, .rw B gB 1, .rw C gC 1]]), (B, .rn gB 9 [pkN ⟨#[122]⟩ b1 a1 c1]), (K, .rw gK 1 [[.s ⟨#[122]⟩]]), (F, .rw gF 1 [[.i .i64 99]]),
      (H, .rw gH 2 [[.s ⟨#[81, 117, 101, 114, 121]⟩, .s ⟨#[122]⟩]]), (D, .rn gD 9 [pkN ⟨#[122]⟩ b2 (.rw W gW 1) c2]), (W, .rw gW 1 [[.i .i64 2]]), (C, .rn gC 8 [[.i .i64 99, .i .i64 1, .rw H gH 1, .s ⟨#[81, 117, 101, 114, 121]⟩, .rw K gK 1, .i .i64 0, .rw D gD 1, .rw F gF 1]])] := fun hf => by
    have l1 := rn_lt hf hA
    have l2 := rn_lt hf hB
    have l3 := rn_lt hf hC
    have l4 := rw_lt hf hH
    have l5 := rw_lt hf hK
    have l6 := rw_lt hf hF
    have l7 := rn_lt hf hD
    have l8 := rw_lt hf hW
    obtain ⟨c1', c2', c3', c4', c5'⟩ := hcell hf
    have ls : ∀ x, (AV.s x).lt1 m := fun _ => rfl
    have li : ∀ k x, (AV.i k x).lt1 m := fun _ _ => rfl
    refine ⟨l1, ?_, l2, ?_, l5, trivial, l6, trivial, l4, trivial, l7, ?_, l8, trivial, l3, ?_, trivial⟩
    · intro e he α hα
      simp only [List.mem_singleton] at he
      subst he
      simp only [List.mem_cons, List.not_mem_nil, or_false] at hα
      rcases hα with rfl | rfl | rfl
      · exact li _ _
      · exact l2
      · exact l3
    · intro e he α hα
      simp only [List.mem_singleton] at he
      subst he
      simp only [pkN, List.mem_cons, List.not_mem_nil, or_false] at hα
      rcases hα with rfl | rfl | rfl | rfl | rfl | rfl | rfl | rfl | rfl
      all_goals first | exact ls _ | exact li _ _ | assumption
    · intro e he α hα
      simp only [List.mem_singleton] at he
      subst he
      simp only [pkN, List.mem_cons, List.not_mem_nil, or_false] at hα
      rcases hα with rfl | rfl | rfl | rfl | rfl | rfl | rfl | rfl | rfl
      all_goals first | exact ls _ | exact li _ _ | assumption | exact l8
    · intro e he α hα
      simp only [List.mem_singleton] at he
      subst he
      simp only [List.mem_cons, List.not_mem_nil, or_false] at hα
      rcases hα with rfl | rfl | rfl | rfl | rfl | rfl | rfl | rfl
      all_goals first | exact ls _ | exact li _ _ | exact l4 | exact l5 | exact l6 | exact l7
  refine meetsW Try.func14 (by kernel_rfl) cc14 cr14 rfl hWS fun hf => ?_; unfold ck14
  have l1 := rn_lt hf hA
  have l2 := rn_lt hf hB
  have l3 := rn_lt hf hC
  have l4 := rw_lt hf hH
  have l5 := rw_lt hf hK
  have l6 := rw_lt hf hF
  have l7 := rn_lt hf hD
  have l8 := rw_lt hf hW
  have mA : ¬ m = A := fun e => by rw [← e] at l1; exact Nat.lt_irrefl _ l1
  have Am : ¬ A = m := fun e => mA e.symm
  have mB : ¬ m = B := fun e => by rw [← e] at l2; exact Nat.lt_irrefl _ l2
  have Bm : ¬ B = m := fun e => mB e.symm
  have mC : ¬ m = C := fun e => by rw [← e] at l3; exact Nat.lt_irrefl _ l3
  have Cm : ¬ C = m := fun e => mC e.symm
  have mH : ¬ m = H := fun e => by rw [← e] at l4; exact Nat.lt_irrefl _ l4
  have Hm : ¬ H = m := fun e => mH e.symm
  have mK : ¬ m = K := fun e => by rw [← e] at l5; exact Nat.lt_irrefl _ l5
  have Km : ¬ K = m := fun e => mK e.symm
  have mF : ¬ m = F := fun e => by rw [← e] at l6; exact Nat.lt_irrefl _ l6
  have Fm : ¬ F = m := fun e => mF e.symm
  have mD : ¬ m = D := fun e => by rw [← e] at l7; exact Nat.lt_irrefl _ l7
  have Dm : ¬ D = m := fun e => mD e.symm
  have mW : ¬ m = W := fun e => by rw [← e] at l8; exact Nat.lt_irrefl _ l8
  have Wm : ¬ W = m := fun e => mW e.symm
  simp only [dAB, dBA, dAC, dCA, dAH, dHA, dAK, dKA, dAF, dFA, dAD, dDA, dAW, dWA, dBC, dCB, dBH, dHB, dBK, dKB, dBF, dFB, dBD, dDB, dBW, dWB, dCH, dHC, dCK, dKC, dCF, dFC, dCD, dDC, dCW, dWC, dHK, dKH, dHF, dFH, dHD, dDH, dHW, dWH, dKF, dFK, dKD, dDK, dKW, dWK, dFD, dDF, dFW, dWF, dDW, dWD, mA, Am, mB, Bm, mC, Cm, mH, Hm, mK, Km, mF, Fm, mD, Dm, mW, Wm, w01, hA, hB, hC, hH, hK, hF, hD, hW, List.set_cons_zero, List.set_cons_succ, List.length_cons, List.length_nil, List.take_succ_cons, List.take_zero, List.take_nil, List.drop_zero, List.drop_succ_cons, List.cons_append, List.nil_append, go_sem, ↓reduceIte, Nat.reduceEqDiff, Nat.reduceBEq, Nat.reduceAdd, Nat.reduceLeDiff, Nat.reduceLT, reduceCtorEq, Nat.reduceMul, Nat.reduceSub, Int.reduceEq, Int.reduceLT, Int.reduceLE, Int.reduceToNat]
  refine unroll (.s (.s .z)) ?_
  simp only [dAB, dBA, dAC, dCA, dAH, dHA, dAK, dKA, dAF, dFA, dAD, dDA, dAW, dWA, dBC, dCB, dBH, dHB, dBK, dKB, dBF, dFB, dBD, dDB, dBW, dWB, dCH, dHC, dCK, dKC, dCF, dFC, dCD, dDC, dCW, dWC, dHK, dKH, dHF, dFH, dHD, dDH, dHW, dWH, dKF, dFK, dKD, dDK, dKW, dWK, dFD, dDF, dFW, dWF, dDW, dWD, mA, Am, mB, Bm, mC, Cm, mH, Hm, mK, Km, mF, Fm, mD, Dm, mW, Wm, w01, hA, hB, hC, hH, hK, hF, hD, hW, List.set_cons_zero, List.set_cons_succ, List.length_cons, List.length_nil, List.take_succ_cons, List.take_zero, List.take_nil, List.drop_zero, List.drop_succ_cons, List.cons_append, List.nil_append, go_sem, ↓reduceIte, Nat.reduceEqDiff, Nat.reduceBEq, Nat.reduceAdd, Nat.reduceLeDiff, Nat.reduceLT, reduceCtorEq, Nat.reduceMul, Nat.reduceSub, Int.reduceEq, Int.reduceLT, Int.reduceLE, Int.reduceToNat]
  refine unroll (.s (.s .z)) ?_
  simp only [dAB, dBA, dAC, dCA, dAH, dHA, dAK, dKA, dAF, dFA, dAD, dDA, dAW, dWA, dBC, dCB, dBH, dHB, dBK, dKB, dBF, dFB, dBD, dDB, dBW, dWB, dCH, dHC, dCK, dKC, dCF, dFC, dCD, dDC, dCW, dWC, dHK, dKH, dHF, dFH, dHD, dDH, dHW, dWH, dKF, dFK, dKD, dDK, dKW, dWK, dFD, dDF, dFW, dWF, dDW, dWD, mA, Am, mB, Bm, mC, Cm, mH, Hm, mK, Km, mF, Fm, mD, Dm, mW, Wm, w01, hA, hB, hC, hH, hK, hF, hD, hW, List.set_cons_zero, List.set_cons_succ, List.length_cons, List.length_nil, List.take_succ_cons, List.take_zero, List.take_nil, List.drop_zero, List.drop_succ_cons, List.cons_append, List.nil_append, go_sem, ↓reduceIte, Nat.reduceEqDiff, Nat.reduceBEq, Nat.reduceAdd, Nat.reduceLeDiff, Nat.reduceLT, reduceCtorEq, Nat.reduceMul, Nat.reduceSub, Int.reduceEq, Int.reduceLT, Int.reduceLE, Int.reduceToNat]
  refine unroll (.s (.s .z)) ?_
  simp only [dAB, dBA, dAC, dCA, dAH, dHA, dAK, dKA, dAF, dFA, dAD, dDA, dAW, dWA, dBC, dCB, dBH, dHB, dBK, dKB, dBF, dFB, dBD, dDB, dBW, dWB, dCH, dHC, dCK, dKC, dCF, dFC, dCD, dDC, dCW, dWC, dHK, dKH, dHF, dFH, dHD, dDH, dHW, dWH, dKF, dFK, dKD, dDK, dKW, dWK, dFD, dDF, dFW, dWF, dDW, dWD, mA, Am, mB, Bm, mC, Cm, mH, Hm, mK, Km, mF, Fm, mD, Dm, mW, Wm, w01, hA, hB, hC, hH, hK, hF, hD, hW, List.set_cons_zero, List.set_cons_succ, List.length_cons, List.length_nil, List.take_succ_cons, List.take_zero, List.take_nil, List.drop_zero, List.drop_succ_cons, List.cons_append, List.nil_append, go_sem, ↓reduceIte, Nat.reduceEqDiff, Nat.reduceBEq, Nat.reduceAdd, Nat.reduceLeDiff, Nat.reduceLT, reduceCtorEq, Nat.reduceMul, Nat.reduceSub, Int.reduceEq, Int.reduceLT, Int.reduceLE, Int.reduceToNat]
  refine unroll (.s (.s .z)) ?_
  simp only [dAB, dBA, dAC, dCA, dAH, dHA, dAK, dKA, dAF, dFA, dAD, dDA, dAW, dWA, dBC, dCB, dBH, dHB, dBK, dKB, dBF, dFB, dBD, dDB, dBW, dWB, dCH, dHC, dCK, dKC, dCF, dFC, dCD, dDC, dCW, dWC, dHK, dKH, dHF, dFH, dHD, dDH, dHW, dWH, dKF, dFK, dKD, dDK, dKW, dWK, dFD, dDF, dFW, dWF, dDW, dWD, mA, Am, mB, Bm, mC, Cm, mH, Hm, mK, Km, mF, Fm, mD, Dm, mW, Wm, w01, hA, hB, hC, hH, hK, hF, hD, hW, List.set_cons_zero, List.set_cons_succ, List.length_cons, List.length_nil, List.take_succ_cons, List.take_zero, List.take_nil, List.drop_zero, List.drop_succ_cons, List.cons_append, List.nil_append, go_sem, ↓reduceIte, Nat.reduceEqDiff, Nat.reduceBEq, Nat.reduceAdd, Nat.reduceLeDiff, Nat.reduceLT, reduceCtorEq, Nat.reduceMul, Nat.reduceSub, Int.reduceEq, Int.reduceLT, Int.reduceLE, Int.reduceToNat]
  refine unroll (.s (.s .z)) ?_
  simp only [dAB, dBA, dAC, dCA, dAH, dHA, dAK, dKA, dAF, dFA, dAD, dDA, dAW, dWA, dBC, dCB, dBH, dHB, dBK, dKB, dBF, dFB, dBD, dDB, dBW, dWB, dCH, dHC, dCK, dKC, dCF, dFC, dCD, dDC, dCW, dWC, dHK, dKH, dHF, dFH, dHD, dDH, dHW, dWH, dKF, dFK, dKD, dDK, dKW, dWK, dFD, dDF, dFW, dWF, dDW, dWD, mA, Am, mB, Bm, mC, Cm, mH, Hm, mK, Km, mF, Fm, mD, Dm, mW, Wm, w01, hA, hB, hC, hH, hK, hF, hD, hW, List.set_cons_zero, List.set_cons_succ, List.length_cons, List.length_nil, List.take_succ_cons, List.take_zero, List.take_nil, List.drop_zero, List.drop_succ_cons, List.cons_append, List.nil_append, go_sem, ↓reduceIte, Nat.reduceEqDiff, Nat.reduceBEq, Nat.reduceAdd, Nat.reduceLeDiff, Nat.reduceLT, reduceCtorEq, Nat.reduceMul, Nat.reduceSub, Int.reduceEq, Int.reduceLT, Int.reduceLE, Int.reduceToNat]
  refine unroll (.s (.s .z)) ?_
  simp only [dAB, dBA, dAC, dCA, dAH, dHA, dAK, dKA, dAF, dFA, dAD, dDA, dAW, dWA, dBC, dCB, dBH, dHB, dBK, dKB, dBF, dFB, dBD, dDB, dBW, dWB, dCH, dHC, dCK, dKC, dCF, dFC, dCD, dDC, dCW, dWC, dHK, dKH, dHF, dFH, dHD, dDH, dHW, dWH, dKF, dFK, dKD, dDK, dKW, dWK, dFD, dDF, dFW, dWF, dDW, dWD, mA, Am, mB, Bm, mC, Cm, mH, Hm, mK, Km, mF, Fm, mD, Dm, mW, Wm, w01, hA, hB, hC, hH, hK, hF, hD, hW, List.set_cons_zero, List.set_cons_succ, List.length_cons, List.length_nil, List.take_succ_cons, List.take_zero, List.take_nil, List.drop_zero, List.drop_succ_cons, List.cons_append, List.nil_append, go_sem, ↓reduceIte, Nat.reduceEqDiff, Nat.reduceBEq, Nat.reduceAdd, Nat.reduceLeDiff, Nat.reduceLT, reduceCtorEq, Nat.reduceMul, Nat.reduceSub, Int.reduceEq, Int.reduceLT, Int.reduceLE, Int.reduceToNat]
  refine unroll (.s (.s .z)) ?_
  simp only [dAB, dBA, dAC, dCA, dAH, dHA, dAK, dKA, dAF, dFA, dAD, dDA, dAW, dWA, dBC, dCB, dBH, dHB, dBK, dKB, dBF, dFB, dBD, dDB, dBW, dWB, dCH, dHC, dCK, dKC, dCF, dFC, dCD, dDC, dCW, dWC, dHK, dKH, dHF, dFH, dHD, dDH, dHW, dWH, dKF, dFK, dKD, dDK, dKW, dWK, dFD, dDF, dFW, dWF, dDW, dWD, mA, Am, mB, Bm, mC, Cm, mH, Hm, mK, Km, mF, Fm, mD, Dm, mW, Wm, w01, hA, hB, hC, hH, hK, hF, hD, hW, List.set_cons_zero, List.set_cons_succ, List.length_cons, List.length_nil, List.take_succ_cons, List.take_zero, List.take_nil, List.drop_zero, List.drop_succ_cons, List.cons_append, List.nil_append, go_sem, ↓reduceIte, Nat.reduceEqDiff, Nat.reduceBEq, Nat.reduceAdd, Nat.reduceLeDiff, Nat.reduceLT, reduceCtorEq, Nat.reduceMul, Nat.reduceSub, Int.reduceEq, Int.reduceLT, Int.reduceLE, Int.reduceToNat]
  refine unroll (.s (.s .z)) ?_
  simp only [dAB, dBA, dAC, dCA, dAH, dHA, dAK, dKA, dAF, dFA, dAD, dDA, dAW, dWA, dBC, dCB, dBH, dHB, dBK, dKB, dBF, dFB, dBD, dDB, dBW, dWB, dCH, dHC, dCK, dKC, dCF, dFC, dCD, dDC, dCW, dWC, dHK, dKH, dHF, dFH, dHD, dDH, dHW, dWH, dKF, dFK, dKD, dDK, dKW, dWK, dFD, dDF, dFW, dWF, dDW, dWD, mA, Am, mB, Bm, mC, Cm, mH, Hm, mK, Km, mF, Fm, mD, Dm, mW, Wm, w01, hA, hB, hC, hH, hK, hF, hD, hW, List.set_cons_zero, List.set_cons_succ, List.length_cons, List.length_nil, List.take_succ_cons, List.take_zero, List.take_nil, List.drop_zero, List.drop_succ_cons, List.cons_append, List.nil_append, go_sem, ↓reduceIte, Nat.reduceEqDiff, Nat.reduceBEq, Nat.reduceAdd, Nat.reduceLeDiff, Nat.reduceLT, reduceCtorEq, Nat.reduceMul, Nat.reduceSub, Int.reduceEq, Int.reduceLT, Int.reduceLE, Int.reduceToNat]
  intro j hj
  have hu : ∀ (k : Nat) (X : Chunk) (r s : CH), gc s k = X → (¬ k = j → gc s j = gc r j) → gc s j = gc ((k, X) :: r) j := fun k X r s h1 h2 => by
    by_cases e : k = j
    · subst e; rw [gc_same]; exact h1
    · rw [gc_ne _ _ e]; exact h2 e
  refine hu _ _ _ _ ?_ fun n1 => hu _ _ _ _ ?_ fun n2 => hu _ _ _ _ ?_ fun n3 => hu _ _ _ _ ?_ fun n4 => hu _ _ _ _ ?_ fun n5 => hu _ _ _ _ ?_ fun n6 => hu _ _ _ _ ?_ fun n7 => hu _ _ _ _ ?_ fun n8 => ?_
  all_goals try unfold pkN
  all_goals try ((simp only [dAB, dBA, dAC, dCA, dAH, dHA, dAK, dKA, dAF, dFA, dAD, dDA, dAW, dWA, dBC, dCB, dBH, dHB, dBK, dKB, dBF, dFB, dBD, dDB, dBW, dWB, dCH, dHC, dCK, dKC, dCF, dFC, dCD, dDC, dCW, dWC, dHK, dKH, dHF, dFH, dHD, dDH, dHW, dWH, dKF, dFK, dKD, dDK, dKW, dWK, dFD, dDF, dFW, dWF, dDW, dWD, mA, Am, mB, Bm, mC, Cm, mH, Hm, mK, Km, mF, Fm, mD, Dm, mW, Wm, go_sem, ↓reduceIte, Nat.reduceEqDiff, Nat.reduceBEq, Nat.reduceAdd, Nat.reduceLeDiff, Nat.reduceLT, reduceCtorEq, Nat.reduceMul, Nat.reduceSub, Int.reduceEq, Int.reduceLT, Int.reduceLE, Int.reduceToNat]); done)
  have nm : ¬ m = j := Nat.ne_of_gt hj
  rw [gc_ne _ _ n8, gc_ne _ _ n7, gc_ne _ _ n6, gc_ne _ _ n5, gc_ne _ _ n4, gc_ne _ _ n3, gc_ne _ _ nm, gc_ne _ _ nm, gc_ne _ _ n2, gc_ne _ _ n1]
end
end Go.Proofs.Ytpenniildabheaa
