/-
  The parts IdA IdB of the proof, in one file. Conditions: none.
-/
import Derived.Lib.ItoaLen
import Derived.Test.YtgollgfifnmaaaaDoorCmS139
namespace Go.Proofs.YtgollgfifnmaaaaDoor
open Go.Eng
set_option linter.unusedVariables false
set_option linter.unusedSimpArgs false
set_option maxRecDepth 20000
theorem dec_len (u : Nat) (hu : u ≤ 9223372036854775808) : (Lib.decDigits u).length ≤ 21 := by
  rcases Nat.eq_zero_or_pos u with h | h
  · subst h
    have := Lib.itoa_length_le 0 (by omega) (by omega)
    simpa [Lib.itoa] using this
  · have := Lib.itoa_length_le (-(u : Int)) (by omega) (by omega)
    rw [Lib.itoa, if_pos (by omega)] at this
    simp at this
    omega
theorem digits_ok (u : Nat) : u ≤ 9223372036854775808 → ∀ (hp : CH) (m : Nat), MeetsF Tryd.prog 64 hp m [.i .i64 (-(u : Int))] (.s (ofL (Lib.decDigits u))) := by
  induction u using Nat.strongRecOn with
  | _ u ih =>
    intro hu hp m
    have e1 : (-(u : Int)).tmod 10 = -((u % 10 : Nat) : Int) := by rw [Int.neg_tmod]; simp [Int.tmod]
    have e2 : (-(u : Int)).tdiv 10 = -((u / 10 : Nat) : Int) := by rw [Int.neg_tdiv]; simp [Int.tdiv]
    have e3 : IntKind.i64.wrap (48 - -((u % 10 : Nat) : Int)) = ((48 + u % 10 : Nat) : Int) := by rw [wr64 (by omega)]; omega
    have e4 : IntKind.u8.wrap ((48 + u % 10 : Nat) : Int) = ((48 + u % 10 : Nat) : Int) := by rw [wr8]; unfold u8; simp; omega
    have e5 : IntKind.i64.wrap (-((u / 10 : Nat) : Int)) = -((u / 10 : Nat) : Int) := wr64 (by omega)
    have e6 : ((48 + u % 10 : Nat) : Int).toNat = 48 + u % 10 := by omega
    have hd := dec_len u hu
    rw [Lib.decDigits] at hd ⊢
    refine meetsF Tryd.func64 (by kernel_rfl) cc64 cr64 rfl fun hf => ?_; unfold ck64
    simp only [e1, e2, e3, e4, e5, e6, go_sem, ↓reduceIte, Nat.reduceEqDiff, Nat.reduceBEq, Nat.reduceAdd, Nat.reduceLeDiff, Nat.reduceLT, reduceCtorEq, Nat.reduceMul, Nat.reduceSub, Int.reduceEq, Int.reduceLT, Int.reduceLE, Int.reduceToNat]
    refine cdK_of (fun c => ?_) (fun c => ?_)
    · have c : u < 10 := by simp at c; omega
      rw [dif_pos c]
      have c2 : u % 10 = u := Nat.mod_eq_of_lt c
      simp only [c2, go_sem, ↓reduceIte, Nat.reduceEqDiff, Nat.reduceBEq, Nat.reduceAdd, Nat.reduceLeDiff, Nat.reduceLT, reduceCtorEq, Nat.reduceMul, Nat.reduceSub, Int.reduceEq, Int.reduceLT, Int.reduceLE, Int.reduceToNat]
      rfl
    · have c : ¬ u < 10 := by simp at c; omega
      rw [dif_neg c] at hd ⊢
      simp only [e1, e2, e3, e4, e5, go_sem, ↓reduceIte, Nat.reduceEqDiff, Nat.reduceBEq, Nat.reduceAdd, Nat.reduceLeDiff, Nat.reduceLT, reduceCtorEq, Nat.reduceMul, Nat.reduceSub, Int.reduceEq, Int.reduceLT, Int.reduceLE, Int.reduceToNat]
      refine vcCall.f (ih (u / 10) (by omega) (by omega) _ _) ?_
      rw [List.length_append, List.length_cons, List.length_nil] at hd
      simp only [go_sem, ↓reduceIte, Nat.reduceEqDiff, Nat.reduceBEq, Nat.reduceAdd, Nat.reduceLeDiff, Nat.reduceLT, reduceCtorEq, Nat.reduceMul, Nat.reduceSub, Int.reduceEq, Int.reduceLT, Int.reduceLE, Int.reduceToNat]
      rw [mk_ofL, ofL_app, ofL_size]
      refine ⟨?_, rfl⟩
      have : (#[UInt8.ofNat (48 + u % 10)] : Array UInt8).size = 1 := rfl
      omega
theorem rDecimal_ok (n : Int) (h0 : -9223372036854775808 ≤ n) (h1 : n ≤ 9223372036854775807) (hp : CH) (m : Nat) : MeetsF Tryd.prog 42 hp m [.i .i64 n] (.s (ofL (Lib.itoa n))) := by
  have hd := dec_len n.natAbs (by omega)
  have hk := digits_ok n.natAbs (by omega)
  rw [Lib.itoa]
  refine meetsF Tryd.func42 (by kernel_rfl) cc42 cr42 rfl fun hf => ?_; unfold ck42
  simp only [go_sem, ↓reduceIte, Nat.reduceEqDiff, Nat.reduceBEq, Nat.reduceAdd, Nat.reduceLeDiff, Nat.reduceLT, reduceCtorEq, Nat.reduceMul, Nat.reduceSub, Int.reduceEq, Int.reduceLT, Int.reduceLE, Int.reduceToNat]
  refine cdK_of (fun c => ?_) (fun c => ?_)
  · have c : n < 0 := by simpa using c
    have e : -((n.natAbs : Nat) : Int) = n := by omega
    rw [e] at hk
    rw [if_pos c]
    simp only [go_sem, ↓reduceIte, Nat.reduceEqDiff, Nat.reduceBEq, Nat.reduceAdd, Nat.reduceLeDiff, Nat.reduceLT, reduceCtorEq, Nat.reduceMul, Nat.reduceSub, Int.reduceEq, Int.reduceLT, Int.reduceLE, Int.reduceToNat]
    refine vcCall.f (hk _ _) ?_
    simp only [go_sem, ↓reduceIte, Nat.reduceEqDiff, Nat.reduceBEq, Nat.reduceAdd, Nat.reduceLeDiff, Nat.reduceLT, reduceCtorEq, Nat.reduceMul, Nat.reduceSub, Int.reduceEq, Int.reduceLT, Int.reduceLE, Int.reduceToNat]
    rw [mk_ofL, ofL_app, ofL_size]
    refine ⟨?_, rfl⟩
    have : (#[45] : Array UInt8).size = 1 := rfl
    omega
  · have c : ¬ n < 0 := by simpa using c
    have e : -((n.natAbs : Nat) : Int) = IntKind.i64.wrap (0 - n) := by rw [wr64 (by omega)]; omega
    rw [e] at hk
    rw [if_neg c, show n.toNat = n.natAbs by omega]
    simp only [go_sem, ↓reduceIte, Nat.reduceEqDiff, Nat.reduceBEq, Nat.reduceAdd, Nat.reduceLeDiff, Nat.reduceLT, reduceCtorEq, Nat.reduceMul, Nat.reduceSub, Int.reduceEq, Int.reduceLT, Int.reduceLE, Int.reduceToNat]
    refine vcCall.f (hk _ _) ?_
    simp only [go_sem, ↓reduceIte, Nat.reduceEqDiff, Nat.reduceBEq, Nat.reduceAdd, Nat.reduceLeDiff, Nat.reduceLT, reduceCtorEq, Nat.reduceMul, Nat.reduceSub, Int.reduceEq, Int.reduceLT, Int.reduceLE, Int.reduceToNat]
end Go.Proofs.YtgollgfifnmaaaaDoor
namespace Go.Proofs.YtgollgfifnmaaaaDoor
open Go.Eng
set_option linter.unusedVariables false
set_option linter.unusedSimpArgs false
set_option maxRecDepth 20000
/-- A value whose lists and numbers fit, and that is not too large. -/
structure VOk (v : Val) : Prop where
  f : v.Fit
  r : v.Rng
  b : avL (valC v) ≤ 1000000000
theorem VOk.x {v : Val} (h : VOk v) {x : Val} (hx : x ∈ v.items) : VOk x := by
  have h1 := h.b
  have h2 : avL (valC x) ≤ avLL (mapC valC v.items) := avLL_in (List.mem_map_of_mem (f := valC) hx)
  rw [avL_val] at h1
  exact ⟨h.f.x hx, h.r.x hx, by omega⟩
end Go.Proofs.YtgollgfifnmaaaaDoor
