/-
  The parts PcJ of the proof, in one file. Conditions: none.
-/
import Derived.Test.YtpenniildabheaaPb36
namespace Go.Proofs.Ytpenniildabheaa
open Go.Eng
set_option linter.unusedVariables false
set_option linter.unusedSimpArgs false
set_option maxRecDepth 20000
set_option maxHeartbeats 2000000
theorem made_ok (room : Int) (A : List AV) (c : Nat) (hp : CH) (hc : gc hp c = .bx (.i .i64 room :: A)) (m : Nat) : MeetsF Try.prog 27 hp m [.bx c 0] (.b (decide (0 < room))) := by
  refine meetsF Try.func27 (by kernel_rfl) cc27 cr27 rfl fun hf => ?_; unfold ck27
  have hlt := bx_lt' hf hc
  simp (disch := omega) only [ite_ne, hc, go_sem, ↓reduceIte, Nat.reduceEqDiff, Nat.reduceBEq, Nat.reduceAdd, Nat.reduceLeDiff, Nat.reduceLT, reduceCtorEq, Nat.reduceMul, Nat.reduceSub, Int.reduceEq, Int.reduceLT, Int.reduceLE, Int.reduceToNat]
  try simp
theorem new_ok (room : Int) (hr : 1 ≤ room ∧ room ≤ 1024) (hp : CH) (m : Nat) : Meets Try.prog 8 hp m [.i .i64 room] fun hp' n' r => hp' = (m, .bx [.i .i64 room, .e0, .i .i64 0, .i .i64 0, .i .i64 0, .b false]) :: (m, .bx [.i .i64 0, .e0, .i .i64 0, .i .i64 0, .i .i64 0, .b false]) :: hp ∧ n' = m + 1 ∧ r = .tp [.bx m 0, .i .i64 0] := by
  have h1 : decide (room < 1) = false := decide_eq_false (by omega)
  have h2 : decide (1024 < room) = false := decide_eq_false (by omega)
  refine meets Try.func8 (by kernel_rfl) cc8 cr8 rfl ?_; unfold ck8
  simp (disch := omega) only [ite_ne, h1, h2, go_sem, ↓reduceIte, Nat.reduceEqDiff, Nat.reduceBEq, Nat.reduceAdd, Nat.reduceLeDiff, Nat.reduceLT, reduceCtorEq, Nat.reduceMul, Nat.reduceSub, Int.reduceEq, Int.reduceLT, Int.reduceLE, Int.reduceToNat]
theorem new_no (room : Int) (hr : room < 1 ∨ 1024 < room) (hp : CH) (m : Nat) : MeetsF Try.prog 8 hp m [.i .i64 room] (.tp [.np, .i .i64 2]) := by
  refine meetsF Try.func8 (by kernel_rfl) cc8 cr8 rfl fun hf => ?_; unfold ck8
  rcases hr with h | h
  · simp (disch := omega) only [ite_ne, decide_eq_true h, go_sem, ↓reduceIte, Nat.reduceEqDiff, Nat.reduceBEq, Nat.reduceAdd, Nat.reduceLeDiff, Nat.reduceLT, reduceCtorEq, Nat.reduceMul, Nat.reduceSub, Int.reduceEq, Int.reduceLT, Int.reduceLE, Int.reduceToNat]
    try rfl
  · have h1 : decide (room < 1) = false := decide_eq_false (by omega)
    simp (disch := omega) only [ite_ne, decide_eq_true h, h1, go_sem, ↓reduceIte, Nat.reduceEqDiff, Nat.reduceBEq, Nat.reduceAdd, Nat.reduceLeDiff, Nat.reduceLT, reduceCtorEq, Nat.reduceMul, Nat.reduceSub, Int.reduceEq, Int.reduceLT, Int.reduceLE, Int.reduceToNat]
    try rfl
section
variable (room h mi o : Int) (b : Bool) (L : List Ent) (hl : L.length ≤ 1000000) (hr : 0 < room) (c kg g : Nat) (hp : CH) (hc : gc hp c = .bx [.i .i64 room, .rw kg g L.length, .i .i64 h, .i .i64 mi, .i .i64 o, .b b]) (hk : gc hp kg = .rw g 3 (mapC entC L)) (m : Nat)
include hl hr hc hk
theorem len_ok : MeetsF Try.prog 17 hp m [.bx c 0] (.i .i64 L.length) := by
  have u0 := hl
  have hLl : (mapC entC L).length = L.length := mapC_len _ _
  have hM := made_ok room _ c hp hc
  rw [decide_eq_true hr] at hM
  refine meetsF Try.func17 (by kernel_rfl) cc17 cr17 rfl fun hf => ?_; unfold ck17
  have hlt := bx_lt' hf hc
  have hlt2 := rw_lt hf hk
  simp (disch := omega) only [ite_ne, hc, go_sem, ↓reduceIte, Nat.reduceEqDiff, Nat.reduceBEq, Nat.reduceAdd, Nat.reduceLeDiff, Nat.reduceLT, reduceCtorEq, Nat.reduceMul, Nat.reduceSub, Int.reduceEq, Int.reduceLT, Int.reduceLE, Int.reduceToNat]
  refine vcCall.f (hM _) ?_
  have htk : (mapC entC L).take L.length = mapC entC L := List.take_of_length_le (by omega)
  simp (disch := omega) only [ite_ne, hc, hk, hLl, Nat.le_refl, htk, go_sem, ↓reduceIte, Nat.reduceEqDiff, Nat.reduceBEq, Nat.reduceAdd, Nat.reduceLeDiff, Nat.reduceLT, reduceCtorEq, Nat.reduceMul, Nat.reduceSub, Int.reduceEq, Int.reduceLT, Int.reduceLE, Int.reduceToNat]
theorem hits_ok : MeetsF Try.prog 19 hp m [.bx c 0] (.i .i64 h) := by
  have u0 := hl
  have u1 := hk
  have hM := made_ok room _ c hp hc
  rw [decide_eq_true hr] at hM
  refine meetsF Try.func19 (by kernel_rfl) cc19 cr19 rfl fun hf => ?_; unfold ck19
  have hlt := bx_lt' hf hc
  simp (disch := omega) only [ite_ne, hc, go_sem, ↓reduceIte, Nat.reduceEqDiff, Nat.reduceBEq, Nat.reduceAdd, Nat.reduceLeDiff, Nat.reduceLT, reduceCtorEq, Nat.reduceMul, Nat.reduceSub, Int.reduceEq, Int.reduceLT, Int.reduceLE, Int.reduceToNat]
  refine vcCall.f (hM _) ?_
  simp (disch := omega) only [ite_ne, hc, go_sem, ↓reduceIte, Nat.reduceEqDiff, Nat.reduceBEq, Nat.reduceAdd, Nat.reduceLeDiff, Nat.reduceLT, reduceCtorEq, Nat.reduceMul, Nat.reduceSub, Int.reduceEq, Int.reduceLT, Int.reduceLE, Int.reduceToNat]
theorem misses_ok : MeetsF Try.prog 21 hp m [.bx c 0] (.i .i64 mi) := by
  have u0 := hl
  have u1 := hk
  have hM := made_ok room _ c hp hc
  rw [decide_eq_true hr] at hM
  refine meetsF Try.func21 (by kernel_rfl) cc21 cr21 rfl fun hf => ?_; unfold ck21
  have hlt := bx_lt' hf hc
  simp (disch := omega) only [ite_ne, hc, go_sem, ↓reduceIte, Nat.reduceEqDiff, Nat.reduceBEq, Nat.reduceAdd, Nat.reduceLeDiff, Nat.reduceLT, reduceCtorEq, Nat.reduceMul, Nat.reduceSub, Int.reduceEq, Int.reduceLT, Int.reduceLE, Int.reduceToNat]
  refine vcCall.f (hM _) ?_
  simp (disch := omega) only [ite_ne, hc, go_sem, ↓reduceIte, Nat.reduceEqDiff, Nat.reduceBEq, Nat.reduceAdd, Nat.reduceLeDiff, Nat.reduceLT, reduceCtorEq, Nat.reduceMul, Nat.reduceSub, Int.reduceEq, Int.reduceLT, Int.reduceLE, Int.reduceToNat]
theorem keys_ok : MeetsF Try.prog 24 hp m [.bx c 0] (.ds (stC (L.map Ent.t))) := by
  have hLl : (mapC entC L).length = L.length := mapC_len _ _
  have htk : (mapC entC L).take L.length = mapC entC L := List.take_of_length_le (by omega)
  have hM := made_ok room _ c hp hc
  rw [decide_eq_true hr] at hM
  refine meetsF Try.func24 (by kernel_rfl) cc24 cr24 rfl fun hf => ?_; unfold ck24
  have hlt := bx_lt' hf hc
  have hlt2 := rw_lt hf hk
  simp (disch := omega) only [ite_ne, hc, go_sem, ↓reduceIte, Nat.reduceEqDiff, Nat.reduceBEq, Nat.reduceAdd, Nat.reduceLeDiff, Nat.reduceLT, reduceCtorEq, Nat.reduceMul, Nat.reduceSub, Int.reduceEq, Int.reduceLT, Int.reduceLE, Int.reduceToNat]
  refine vcCall.f (hM _) ?_
  simp (disch := omega) only [ite_ne, hc, hk, hLl, Nat.le_refl, htk, go_sem, ↓reduceIte, Nat.reduceEqDiff, Nat.reduceBEq, Nat.reduceAdd, Nat.reduceLeDiff, Nat.reduceLT, reduceCtorEq, Nat.reduceMul, Nat.reduceSub, Int.reduceEq, Int.reduceLT, Int.reduceLE, Int.reduceToNat]
  refine loop (fun q : Nat × Nat => ⟨[(3, .rw m q.1 q.1), (13, .rw kg g L.length), (14, .i .i64 L.length), (15, .i .i64 q.1)], (m, .rw q.1 1 (stC ((L.map Ent.t).take q.1))) :: hp, q.2⟩)
    (fun q => q.1 ≤ L.length ∧ m + 1 ≤ q.2) (fun q => L.length - q.1) (0, m + 1) ?_ ?_ (fun ⟨j, n⟩ hj => ?_)
  · exact ⟨by simp, by simp⟩
  · refine (weak_e0 (t := 3) (m := 1) ?_).trans (weak_ok ?_ (Sub.cons ?_ (Sub.base hf ?_)) (Nat.le_refl _))
    all_goals (simp (disch := omega) only [ite_ne, go_sem, ↓reduceIte, Nat.reduceEqDiff, Nat.reduceBEq, Nat.reduceAdd, Nat.reduceLeDiff, Nat.reduceLT, reduceCtorEq, Nat.reduceMul, Nat.reduceSub, Int.reduceEq, Int.reduceLT, Int.reduceLE, Int.reduceToNat])
    all_goals rfl
  dsimp only at hj
  obtain ⟨hj1, hj2⟩ := hj
  have hmn : m ≤ n := by omega
  have htl : ((L.map Ent.t).take j).length = j := by rw [List.length_take, List.length_map]; omega
  simp (disch := omega) only [ite_ne, go_sem, ↓reduceIte, Nat.reduceEqDiff, Nat.reduceBEq, Nat.reduceAdd, Nat.reduceLeDiff, Nat.reduceLT, reduceCtorEq, Nat.reduceMul, Nat.reduceSub, Int.reduceEq, Int.reduceLT, Int.reduceLE, Int.reduceToNat]
  refine cdK_of (fun q => ?_) (fun q => ?_)
  · have q : j < L.length := by simpa using q
    obtain ⟨x, ex⟩ : ∃ x, L[j]? = some x := ⟨L[j], by simp [q]⟩
    have k1 : (j + 1) * 16 ≤ 140737488355328 := by omega
    have k2 : j + 1 ≤ 9223372036854775807 := by omega
    have hsn : (L.map Ent.t).take j ++ [x.t] = (L.map Ent.t).take (j + 1) := by
      rw [List.take_add_one, List.getElem?_map, ex]
      rfl
    simp (disch := omega) only [ite_ne, q, hk, hLl, Nat.le_refl, htk, getK_s (mapC_get entC ex), htl, k1, k2, hmn, go_sem, ↓reduceIte, Nat.reduceEqDiff, Nat.reduceBEq, Nat.reduceAdd, Nat.reduceLeDiff, Nat.reduceLT, reduceCtorEq, Nat.reduceMul, Nat.reduceSub, Int.reduceEq, Int.reduceLT, Int.reduceLE, Int.reduceToNat]
    refine ⟨(j + 1, _), ⟨by dsimp only; omega, by dsimp only; omega⟩, by dsimp only; omega, weak_ok ?_ (Sub.cons ?_ (Sub.base hf ?_)) (Nat.le_refl _)⟩
    all_goals
      simp (disch := omega) only [ite_ne, wr64s j (by omega), hmn, hsn, go_sem, ↓reduceIte, Nat.reduceEqDiff, Nat.reduceBEq, Nat.reduceAdd, Nat.reduceLeDiff, Nat.reduceLT, reduceCtorEq, Nat.reduceMul, Nat.reduceSub, Int.reduceEq, Int.reduceLT, Int.reduceLE, Int.reduceToNat]
  · have q : j = L.length := by simp at q; omega
    subst q
    have hOt : (stC ((L.map Ent.t).take L.length)).take L.length = stC (L.map Ent.t) := by
      rw [show (L.map Ent.t).take L.length = L.map Ent.t from List.take_of_length_le (by simp)]
      exact List.take_of_length_le (by simp [stC, mapC])
    simp (disch := omega) only [ite_ne, hOt, htl, Nat.le_refl, hmn, go_sem, ↓reduceIte, Nat.reduceEqDiff, Nat.reduceBEq, Nat.reduceAdd, Nat.reduceLeDiff, Nat.reduceLT, reduceCtorEq, Nat.reduceMul, Nat.reduceSub, Int.reduceEq, Int.reduceLT, Int.reduceLE, Int.reduceToNat]
    try rfl
end
end Go.Proofs.Ytpenniildabheaa
