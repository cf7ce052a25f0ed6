/-
  The parts PcM of the proof, in one file. Conditions: none.
-/
import Derived.Test.YtpenniildabheaaPa43
namespace Go.Proofs.Ytpenniildabheaa
open Go.Eng
set_option linter.unusedVariables false
set_option linter.unusedSimpArgs false
set_option maxRecDepth 20000
set_option maxHeartbeats 2000000
/-- The memory of the reference's cache. -/
def rcW (r : Nat) (room h mi o : Int) (b : Bool) (L : List Ent) : CH := [(r, .bx [.i .i64 room, .ds (mapC entC L), .i .i64 h, .i .i64 mi, .i .i64 o, .b b])]
theorem rcW_lt {hp : CH} {n r : Nat} {room h mi o : Int} {b : Bool} {L : List Ent} {cs : List AV} (hc : gc hp r = .bx cs) : (∀ k, n ≤ k → gc hp k = .no) → wsLt n (rcW r room h mi o b L) := fun hf => by
  have h1 := bx_lt' hf hc
  refine ⟨h1, fun α hα => ?_, trivial⟩
  simp only [List.mem_cons, List.not_mem_nil, or_false] at hα
  rcases hα with rfl | rfl | rfl | rfl | rfl | rfl <;> rfl
theorem rnew_ok (room : Int) (hr : 1 ≤ room ∧ room ≤ 1024) (hp : CH) (m : Nat) : Meets Try.prog 15 hp m [.i .i64 room] fun hp' n' r => hp' = (m, .bx [.i .i64 room, .e0, .i .i64 0, .i .i64 0, .i .i64 0, .b false]) :: hp ∧ n' = m + 1 ∧ r = .tp [.bx m 0, .i .i64 0] := by
  have h1 : decide (room < 1) = false := decide_eq_false (by omega)
  have h2 : decide (1024 < room) = false := decide_eq_false (by omega)
  refine meets Try.func15 (by kernel_rfl) cc15 cr15 rfl ?_; unfold ck15
  simp (disch := omega) only [ite_ne, h1, h2, go_sem, ↓reduceIte, Nat.reduceEqDiff, Nat.reduceBEq, Nat.reduceAdd, Nat.reduceLeDiff, Nat.reduceLT, reduceCtorEq, Nat.reduceMul, Nat.reduceSub, Int.reduceEq, Int.reduceLT, Int.reduceLE, Int.reduceToNat]
theorem rnew_no (room : Int) (hr : room < 1 ∨ 1024 < room) (hp : CH) (m : Nat) : MeetsF Try.prog 15 hp m [.i .i64 room] (.tp [.np, .i .i64 2]) := by
  refine meetsF Try.func15 (by kernel_rfl) cc15 cr15 rfl fun hf => ?_; unfold ck15
  rcases hr with h | h
  · simp (disch := omega) only [ite_ne, decide_eq_true h, go_sem, ↓reduceIte, Nat.reduceEqDiff, Nat.reduceBEq, Nat.reduceAdd, Nat.reduceLeDiff, Nat.reduceLT, reduceCtorEq, Nat.reduceMul, Nat.reduceSub, Int.reduceEq, Int.reduceLT, Int.reduceLE, Int.reduceToNat]
    try rfl
  · have h1 : decide (room < 1) = false := decide_eq_false (by omega)
    simp (disch := omega) only [ite_ne, decide_eq_true h, h1, go_sem, ↓reduceIte, Nat.reduceEqDiff, Nat.reduceBEq, Nat.reduceAdd, Nat.reduceLeDiff, Nat.reduceLT, reduceCtorEq, Nat.reduceMul, Nat.reduceSub, Int.reduceEq, Int.reduceLT, Int.reduceLE, Int.reduceToNat]
    try rfl
/-- An entry in front of all others, without the one at an index. -/
def frR (L : List Ent) (x : Ent) (i : Int) (j : Nat) : List Ent := x :: ((List.range j).filterMap fun (k : Nat) => if (k : Int) = i then none else L[k]?)
theorem frR_len (L : List Ent) (x : Ent) (i : Int) (j : Nat) : (frR L x i j).length ≤ j + 1 := by
  unfold frR
  rw [List.length_cons]
  have := List.length_filterMap_le (fun k : Nat => if (k : Int) = i then none else L[k]?) (List.range j)
  rw [List.length_range] at this
  omega
theorem frR_skip (L : List Ent) (x : Ent) (j : Nat) : frR L x (j : Int) (j + 1) = frR L x (j : Int) j := by
  unfold frR
  rw [List.range_succ, List.filterMap_append]
  simp
theorem frR_keep {L : List Ent} {j : Nat} {y : Ent} (ey : L[j]? = some y) (x : Ent) {i : Int} (hi : ¬ (j : Int) = i) : frR L x i (j + 1) = frR L x i j ++ [y] := by
  unfold frR
  rw [List.range_succ, List.filterMap_append]
  simp [hi, ey]
section
variable (room h mi o : Int) (b : Bool) (L : List Ent) (hl : (L.length : Int) ≤ 2000) (r : Nat) (hp : CH) (hc : gc hp r = .bx [.i .i64 room, .ds (mapC entC L), .i .i64 h, .i .i64 mi, .i .i64 o, .b b]) (m : Nat)
include hl hc
theorem rlen_ok : MeetsF Try.prog 18 hp m [.bx r 0] (.i .i64 L.length) := by
  have u0 := hl
  refine meetsF Try.func18 (by kernel_rfl) cc18 cr18 rfl fun hf => ?_; unfold ck18
  have hlt := bx_lt' hf hc
  simp (disch := omega) only [ite_ne, hc, go_sem, ↓reduceIte, Nat.reduceEqDiff, Nat.reduceBEq, Nat.reduceAdd, Nat.reduceLeDiff, Nat.reduceLT, reduceCtorEq, Nat.reduceMul, Nat.reduceSub, Int.reduceEq, Int.reduceLT, Int.reduceLE, Int.reduceToNat]
theorem rhits_ok : MeetsF Try.prog 20 hp m [.bx r 0] (.i .i64 h) := by
  have u0 := hl
  refine meetsF Try.func20 (by kernel_rfl) cc20 cr20 rfl fun hf => ?_; unfold ck20
  have hlt := bx_lt' hf hc
  simp (disch := omega) only [ite_ne, hc, go_sem, ↓reduceIte, Nat.reduceEqDiff, Nat.reduceBEq, Nat.reduceAdd, Nat.reduceLeDiff, Nat.reduceLT, reduceCtorEq, Nat.reduceMul, Nat.reduceSub, Int.reduceEq, Int.reduceLT, Int.reduceLE, Int.reduceToNat]
theorem rmisses_ok : MeetsF Try.prog 22 hp m [.bx r 0] (.i .i64 mi) := by
  have u0 := hl
  refine meetsF Try.func22 (by kernel_rfl) cc22 cr22 rfl fun hf => ?_; unfold ck22
  have hlt := bx_lt' hf hc
  simp (disch := omega) only [ite_ne, hc, go_sem, ↓reduceIte, Nat.reduceEqDiff, Nat.reduceBEq, Nat.reduceAdd, Nat.reduceLeDiff, Nat.reduceLT, reduceCtorEq, Nat.reduceMul, Nat.reduceSub, Int.reduceEq, Int.reduceLT, Int.reduceLE, Int.reduceToNat]
theorem rkeys_ok : MeetsF Try.prog 25 hp m [.bx r 0] (.ds (stC (L.map Ent.t))) := by
  refine meetsF Try.func25 (by kernel_rfl) cc25 cr25 rfl fun hf => ?_; unfold ck25
  have hlt := bx_lt' hf hc
  simp (disch := omega) only [ite_ne, hc, go_sem, ↓reduceIte, Nat.reduceEqDiff, Nat.reduceBEq, Nat.reduceAdd, Nat.reduceLeDiff, Nat.reduceLT, reduceCtorEq, Nat.reduceMul, Nat.reduceSub, Int.reduceEq, Int.reduceLT, Int.reduceLE, Int.reduceToNat]
  refine loop (fun q : Nat × Nat => ⟨[(0, .bx r 0), (3, .rw m q.1 q.1), (4, .i .i64 q.1)], (m, .rw q.1 1 (stC ((L.map Ent.t).take q.1))) :: hp, q.2⟩)
    (fun q => q.1 ≤ L.length ∧ m + 1 ≤ q.2) (fun q => L.length - q.1) (0, m + 1) ?_ ?_ (fun ⟨j, n⟩ hj => ?_)
  · exact ⟨by simp, by simp⟩
  · refine (weak_e0 (t := 3) (m := 1) ?_).trans (weak_ok ?_ (Sub.cons ?_ (Sub.base hf ?_)) (Nat.le_refl _))
    all_goals (simp (disch := omega) only [ite_ne, go_sem, ↓reduceIte, Nat.reduceEqDiff, Nat.reduceBEq, Nat.reduceAdd, Nat.reduceLeDiff, Nat.reduceLT, reduceCtorEq, Nat.reduceMul, Nat.reduceSub, Int.reduceEq, Int.reduceLT, Int.reduceLE, Int.reduceToNat])
    all_goals rfl
  dsimp only at hj
  obtain ⟨hj1, hj2⟩ := hj
  have hmn : m ≤ n := by omega
  have htl : ((L.map Ent.t).take j).length = j := by rw [List.length_take, List.length_map]; omega
  simp (disch := omega) only [ite_ne, hc, go_sem, ↓reduceIte, Nat.reduceEqDiff, Nat.reduceBEq, Nat.reduceAdd, Nat.reduceLeDiff, Nat.reduceLT, reduceCtorEq, Nat.reduceMul, Nat.reduceSub, Int.reduceEq, Int.reduceLT, Int.reduceLE, Int.reduceToNat]
  refine cdK_of (fun q => ?_) (fun q => ?_)
  · have q : j < L.length := by simpa using q
    obtain ⟨x, ex⟩ : ∃ x, L[j]? = some x := ⟨L[j], by simp [q]⟩
    have k1 : (j + 1) * 16 ≤ 140737488355328 := by omega
    have k2 : j + 1 ≤ 9223372036854775807 := by omega
    have hsn : (L.map Ent.t).take j ++ [x.t] = (L.map Ent.t).take (j + 1) := by
      rw [List.take_add_one, List.getElem?_map, ex]
      rfl
    simp (disch := omega) only [ite_ne, q, hc, getK_s (mapC_get entC ex), htl, k1, k2, hmn, go_sem, ↓reduceIte, Nat.reduceEqDiff, Nat.reduceBEq, Nat.reduceAdd, Nat.reduceLeDiff, Nat.reduceLT, reduceCtorEq, Nat.reduceMul, Nat.reduceSub, Int.reduceEq, Int.reduceLT, Int.reduceLE, Int.reduceToNat]
    refine ⟨(j + 1, _), ⟨by dsimp only; omega, by dsimp only; omega⟩, by dsimp only; omega, weak_ok ?_ (Sub.cons ?_ (Sub.base hf ?_)) (Nat.le_refl _)⟩
    all_goals
      simp (disch := omega) only [ite_ne, wr64s j (by omega), hmn, hsn, go_sem, ↓reduceIte, Nat.reduceEqDiff, Nat.reduceBEq, Nat.reduceAdd, Nat.reduceLeDiff, Nat.reduceLT, reduceCtorEq, Nat.reduceMul, Nat.reduceSub, Int.reduceEq, Int.reduceLT, Int.reduceLE, Int.reduceToNat]
  · have q : j = L.length := by simp at q; omega
    subst q
    have hOt : (stC ((L.map Ent.t).take L.length)).take L.length = stC (L.map Ent.t) := by
      rw [show (L.map Ent.t).take L.length = L.map Ent.t from List.take_of_length_le (by simp)]
      exact List.take_of_length_le (by simp [stC, mapC])
    simp (disch := omega) only [ite_ne, hOt, htl, Nat.le_refl, hmn, go_sem, ↓reduceIte, Nat.reduceEqDiff, Nat.reduceBEq, Nat.reduceAdd, Nat.reduceLeDiff, Nat.reduceLT, reduceCtorEq, Nat.reduceMul, Nat.reduceSub, Int.reduceEq, Int.reduceLT, Int.reduceLE, Int.reduceToNat]
    try rfl
theorem place_ok (t : ByteArray) (v : Int) : MeetsF Try.prog 43 hp m [.bx r 0, .s t, .i .i64 v] (.i .i64 (fidx (qE t v) L 0)) := by
  obtain ⟨R, hR⟩ : ∃ R, fidx (qE t v) L 0 = R := ⟨_, rfl⟩
  rw [hR]
  refine meetsF Try.func43 (by kernel_rfl) cc43 cr43 rfl fun hf => ?_; unfold ck43
  have hlt := bx_lt' hf hc
  simp (disch := omega) only [ite_ne, hc, go_sem, ↓reduceIte, Nat.reduceEqDiff, Nat.reduceBEq, Nat.reduceAdd, Nat.reduceLeDiff, Nat.reduceLT, reduceCtorEq, Nat.reduceMul, Nat.reduceSub, Int.reduceEq, Int.reduceLT, Int.reduceLE, Int.reduceToNat]
  refine loop (fun p : Nat × Nat => ⟨[(0, .bx r 0), (1, .s t), (2, .i .i64 v), (7, .i .i64 p.1)], hp, p.2⟩) (fun p => p.1 ≤ L.length ∧ m ≤ p.2 ∧ R = fidx (qE t v) (L.drop p.1) p.1) (fun p => L.length - p.1) (0, m) ?_ ?_ (fun ⟨j, n⟩ hj => ?_)
  · exact ⟨by simp, by simp, hR.symm⟩
  · refine weak_ok ?_ (Sub.refl _) (Nat.le_refl _)
    simp (disch := omega) only [ite_ne, go_sem, ↓reduceIte, Nat.reduceEqDiff, Nat.reduceBEq, Nat.reduceAdd, Nat.reduceLeDiff, Nat.reduceLT, reduceCtorEq, Nat.reduceMul, Nat.reduceSub, Int.reduceEq, Int.reduceLT, Int.reduceLE, Int.reduceToNat]
  dsimp only at hj
  obtain ⟨hj1, hj2, hj3⟩ := hj
  simp (disch := omega) only [ite_ne, hc, go_sem, ↓reduceIte, Nat.reduceEqDiff, Nat.reduceBEq, Nat.reduceAdd, Nat.reduceLeDiff, Nat.reduceLT, reduceCtorEq, Nat.reduceMul, Nat.reduceSub, Int.reduceEq, Int.reduceLT, Int.reduceLE, Int.reduceToNat]
  refine cdK_of (fun c => ?_) (fun c => ?_)
  · have c : j < L.length := by simpa using c
    obtain ⟨x, ex⟩ : ∃ x, L[j]? = some x := ⟨L[j], by simp [c]⟩
    rw [drop_at ex, fidx] at hj3
    simp (disch := omega) only [ite_ne, c, hc, getK_s (mapC_get entC ex), go_sem, ↓reduceIte, Nat.reduceEqDiff, Nat.reduceBEq, Nat.reduceAdd, Nat.reduceLeDiff, Nat.reduceLT, reduceCtorEq, Nat.reduceMul, Nat.reduceSub, Int.reduceEq, Int.reduceLT, Int.reduceLE, Int.reduceToNat]
    refine grK_of (fun ct => ?_) (fun ct => ?_)
    · simp (disch := omega) only [ite_ne, c, hc, getK_s (mapC_get entC ex), ct, go_sem, ↓reduceIte, Nat.reduceEqDiff, Nat.reduceBEq, Nat.reduceAdd, Nat.reduceLeDiff, Nat.reduceLT, reduceCtorEq, Nat.reduceMul, Nat.reduceSub, Int.reduceEq, Int.reduceLT, Int.reduceLE, Int.reduceToNat]
      refine cdK_of (fun c1 => ?_) (fun c1 => ?_)
      · rw [if_pos (by unfold qE; rw [ct, c1]; rfl)] at hj3
        simp (disch := omega) only [ite_ne, hj3, go_sem, ↓reduceIte, Nat.reduceEqDiff, Nat.reduceBEq, Nat.reduceAdd, Nat.reduceLeDiff, Nat.reduceLT, reduceCtorEq, Nat.reduceMul, Nat.reduceSub, Int.reduceEq, Int.reduceLT, Int.reduceLE, Int.reduceToNat]
      · rw [if_neg (by unfold qE; rw [ct, c1]; simp)] at hj3
        simp (disch := omega) only [ite_ne, go_sem, ↓reduceIte, Nat.reduceEqDiff, Nat.reduceBEq, Nat.reduceAdd, Nat.reduceLeDiff, Nat.reduceLT, reduceCtorEq, Nat.reduceMul, Nat.reduceSub, Int.reduceEq, Int.reduceLT, Int.reduceLE, Int.reduceToNat]
        refine ⟨(j + 1, _), ⟨by dsimp only; omega, by dsimp only; omega, hj3⟩, by dsimp only; omega, weak_ok ?_ (Sub.refl _) (Nat.le_refl _)⟩
        simp (disch := omega) only [ite_ne, wr64s j (by omega), go_sem, ↓reduceIte, Nat.reduceEqDiff, Nat.reduceBEq, Nat.reduceAdd, Nat.reduceLeDiff, Nat.reduceLT, reduceCtorEq, Nat.reduceMul, Nat.reduceSub, Int.reduceEq, Int.reduceLT, Int.reduceLE, Int.reduceToNat]
    · simp (disch := omega) only [ite_ne, c, hc, getK_s (mapC_get entC ex), ct, go_sem, ↓reduceIte, Nat.reduceEqDiff, Nat.reduceBEq, Nat.reduceAdd, Nat.reduceLeDiff, Nat.reduceLT, reduceCtorEq, Nat.reduceMul, Nat.reduceSub, Int.reduceEq, Int.reduceLT, Int.reduceLE, Int.reduceToNat]
      rw [if_neg (by unfold qE; rw [ct]; simp)] at hj3
      refine ⟨(j + 1, _), ⟨by dsimp only; omega, by dsimp only; omega, hj3⟩, by dsimp only; omega, weak_ok ?_ (Sub.refl _) (Nat.le_refl _)⟩
      simp (disch := omega) only [ite_ne, wr64s j (by omega), go_sem, ↓reduceIte, Nat.reduceEqDiff, Nat.reduceBEq, Nat.reduceAdd, Nat.reduceLeDiff, Nat.reduceLT, reduceCtorEq, Nat.reduceMul, Nat.reduceSub, Int.reduceEq, Int.reduceLT, Int.reduceLE, Int.reduceToNat]
  · have c : j = L.length := by simp at c; omega
    subst c
    rw [List.drop_length, fidx] at hj3
    simp (disch := omega) only [ite_ne, hj3, go_sem, ↓reduceIte, Nat.reduceEqDiff, Nat.reduceBEq, Nat.reduceAdd, Nat.reduceLeDiff, Nat.reduceLT, reduceCtorEq, Nat.reduceMul, Nat.reduceSub, Int.reduceEq, Int.reduceLT, Int.reduceLE, Int.reduceToNat]
theorem front_ok (x : Ent) (i : Int) : MeetsX Try.prog 44 hp m [.bx r 0, .ag (entC x), .i .i64 i] (rcW r room h mi o b (frR L x i L.length) ++ hp) m (.tp []) := by
  have hlen := fun j => frR_len L x i j
  have hskip : ∀ j : Nat, (j : Int) = i → frR L x i (j + 1) = frR L x i j := fun j e => by subst e; exact frR_skip L x j
  have hkeep := fun j y (ey : L[j]? = some y) hi => frR_keep ey x (i := i) (j := j) hi
  have h0 : frR L x i 0 = [x] := rfl
  obtain ⟨F, hF⟩ : ∃ F : Nat → List Ent, frR L x i = F := ⟨_, rfl⟩
  rw [hF] at hlen hkeep h0 hskip ⊢
  have hWS := rcW_lt (n := m) (r := r) (room := room) (h := h) (mi := mi) (o := o) (b := b) (L := F L.length) hc
  simp only [entC]
  refine meetsW Try.func44 (by kernel_rfl) cc44 cr44 rfl hWS fun hf => ?_; unfold ck44
  have hlt := bx_lt' hf hc
  unfold rcW
  simp (disch := omega) only [ite_ne, hc, go_sem, ↓reduceIte, Nat.reduceEqDiff, Nat.reduceBEq, Nat.reduceAdd, Nat.reduceLeDiff, Nat.reduceLT, reduceCtorEq, Nat.reduceMul, Nat.reduceSub, Int.reduceEq, Int.reduceLT, Int.reduceLE, Int.reduceToNat]
  refine loop (fun q : Nat × Nat × Nat => ⟨[(0, .bx r 0), (2, .i .i64 i), (6, .rw (m + 1) q.2.1 (F q.1).length), (7, .i .i64 q.1)], (m + 1, .rw q.2.1 3 (mapC entC (F q.1))) :: hp, q.2.2⟩)
    (fun q => q.1 ≤ L.length ∧ m + 2 ≤ q.2.2) (fun q => L.length - q.1) (0, 0, m + 2) ?_ ?_ (fun ⟨j, g, n⟩ hj => ?_)
  · exact ⟨by simp, by simp⟩
  · refine weak_ok ?_ (Sub.cons ?_ (Sub.base hf ?_)) (Nat.le_refl _)
    all_goals try rw [h0]
    all_goals (simp (disch := omega) only [ite_ne, go_sem, ↓reduceIte, Nat.reduceEqDiff, Nat.reduceBEq, Nat.reduceAdd, Nat.reduceLeDiff, Nat.reduceLT, reduceCtorEq, Nat.reduceMul, Nat.reduceSub, Int.reduceEq, Int.reduceLT, Int.reduceLE, Int.reduceToNat])
    all_goals trace_state
  dsimp only at hj
  obtain ⟨hj1, hj2⟩ := hj
  have hmn : m ≤ n := by omega
  have hFl : (mapC entC (F j)).length = (F j).length := mapC_len _ _
  have hFb := hlen j
  simp (disch := omega) only [ite_ne, hc, go_sem, ↓reduceIte, Nat.reduceEqDiff, Nat.reduceBEq, Nat.reduceAdd, Nat.reduceLeDiff, Nat.reduceLT, reduceCtorEq, Nat.reduceMul, Nat.reduceSub, Int.reduceEq, Int.reduceLT, Int.reduceLE, Int.reduceToNat]
  refine cdK_of (fun q => ?_) (fun q => ?_)
  · have q : j < L.length := by simpa using q
    obtain ⟨y, ey⟩ : ∃ y, L[j]? = some y := ⟨L[j], by simp [q]⟩
    have k1 : ((F j).length + 1) * 48 ≤ 140737488355328 := by omega
    have k2 : (F j).length + 1 ≤ 9223372036854775807 := by omega
    simp (disch := omega) only [ite_ne, hc, go_sem, ↓reduceIte, Nat.reduceEqDiff, Nat.reduceBEq, Nat.reduceAdd, Nat.reduceLeDiff, Nat.reduceLT, reduceCtorEq, Nat.reduceMul, Nat.reduceSub, Int.reduceEq, Int.reduceLT, Int.reduceLE, Int.reduceToNat]
    refine cdK_of (fun q1 => ?_) (fun q1 => ?_)
    · have q1 : ¬ (j : Int) = i := by simpa using q1
      have hk := hkeep j y ey q1
      simp (disch := omega) only [ite_ne, q, hc, getK_s (mapC_get entC ey), hFl, k1, k2, hmn, go_sem, ↓reduceIte, Nat.reduceEqDiff, Nat.reduceBEq, Nat.reduceAdd, Nat.reduceLeDiff, Nat.reduceLT, reduceCtorEq, Nat.reduceMul, Nat.reduceSub, Int.reduceEq, Int.reduceLT, Int.reduceLE, Int.reduceToNat]
      have hsn : mapC entC (F j) ++ [[AV.s y.t, AV.i .i64 y.v, AV.ds [planC y.n]]] = mapC entC (F (j + 1)) := by rw [hk]; exact mapC_snoc entC _ _
      refine ⟨(j + 1, g + 1, _), ⟨by dsimp only; omega, by dsimp only; omega⟩, by dsimp only; omega, weak_ok ?_ (Sub.cons ?_ (Sub.base hf ?_)) (Nat.le_refl _)⟩
      all_goals try rw [hk, List.length_append]
      all_goals
        simp (disch := omega) only [ite_ne, wr64s j (by omega), hmn, hsn, List.length_cons, List.length_nil, go_sem, ↓reduceIte, Nat.reduceEqDiff, Nat.reduceBEq, Nat.reduceAdd, Nat.reduceLeDiff, Nat.reduceLT, reduceCtorEq, Nat.reduceMul, Nat.reduceSub, Int.reduceEq, Int.reduceLT, Int.reduceLE, Int.reduceToNat]
      all_goals trace_state
    · have q1 : (j : Int) = i := by simpa using q1
      have hk := hskip j q1
      simp (disch := omega) only [ite_ne, hmn, go_sem, ↓reduceIte, Nat.reduceEqDiff, Nat.reduceBEq, Nat.reduceAdd, Nat.reduceLeDiff, Nat.reduceLT, reduceCtorEq, Nat.reduceMul, Nat.reduceSub, Int.reduceEq, Int.reduceLT, Int.reduceLE, Int.reduceToNat]
      refine ⟨(j + 1, g, _), ⟨by dsimp only; omega, by dsimp only; omega⟩, by dsimp only; omega, weak_ok ?_ (Sub.cons ?_ (Sub.base hf ?_)) (Nat.le_refl _)⟩
      all_goals try rw [hk]
      all_goals
        simp (disch := omega) only [ite_ne, wr64s j (by omega), hmn, go_sem, ↓reduceIte, Nat.reduceEqDiff, Nat.reduceBEq, Nat.reduceAdd, Nat.reduceLeDiff, Nat.reduceLT, reduceCtorEq, Nat.reduceMul, Nat.reduceSub, Int.reduceEq, Int.reduceLT, Int.reduceLE, Int.reduceToNat]
  · have q : j = L.length := by simp at q; omega
    subst q
    simp (disch := omega) only [ite_ne, go_sem, ↓reduceIte, Nat.reduceEqDiff, Nat.reduceBEq, Nat.reduceAdd, Nat.reduceLeDiff, Nat.reduceLT, reduceCtorEq, Nat.reduceMul, Nat.reduceSub, Int.reduceEq, Int.reduceLT, Int.reduceLE, Int.reduceToNat]
    refine wk_of (weak_sh (t := 6) (k := m + 1) (g := g) (len := (F L.length).length) (m := 3) (l := mapC entC (F L.length)) (by (simp (disch := omega) only [ite_ne, go_sem, ↓reduceIte, Nat.reduceEqDiff, Nat.reduceBEq, Nat.reduceAdd, Nat.reduceLeDiff, Nat.reduceLT, reduceCtorEq, Nat.reduceMul, Nat.reduceSub, Int.reduceEq, Int.reduceLT, Int.reduceLE, Int.reduceToNat])) (by (simp (disch := omega) only [ite_ne, go_sem, ↓reduceIte, Nat.reduceEqDiff, Nat.reduceBEq, Nat.reduceAdd, Nat.reduceLeDiff, Nat.reduceLT, reduceCtorEq, Nat.reduceMul, Nat.reduceSub, Int.reduceEq, Int.reduceLT, Int.reduceLE, Int.reduceToNat])) (by rw [mapC_len]; omega)) ?_
    have htk : (mapC entC (F L.length)).take (F L.length).length = mapC entC (F L.length) := List.take_of_length_le (by omega)
    simp (disch := omega) only [ite_ne, hc, htk, go_sem, ↓reduceIte, Nat.reduceEqDiff, Nat.reduceBEq, Nat.reduceAdd, Nat.reduceLeDiff, Nat.reduceLT, reduceCtorEq, Nat.reduceMul, Nat.reduceSub, Int.reduceEq, Int.reduceLT, Int.reduceLE, Int.reduceToNat]
    refine up_ws1 ?_ (fun j h1 h2 => ?_)
    · simp only [gc]
      simp (disch := omega) only [ite_ne, go_sem, ↓reduceIte, Nat.reduceEqDiff, Nat.reduceBEq, Nat.reduceAdd, Nat.reduceLeDiff, Nat.reduceLT, reduceCtorEq, Nat.reduceMul, Nat.reduceSub, Int.reduceEq, Int.reduceLT, Int.reduceLE, Int.reduceToNat]
    · repeat rw [gc_ne _ _ (by omega)]
end
end Go.Proofs.Ytpenniildabheaa
