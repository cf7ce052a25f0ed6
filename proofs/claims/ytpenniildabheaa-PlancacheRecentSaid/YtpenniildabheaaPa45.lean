/-
  The parts PcN of the proof, in one file. Conditions: none.
-/
import Derived.Test.YtpenniildabheaaPa44
namespace Go.Proofs.Ytpenniildabheaa
open Go.Eng
set_option linter.unusedVariables false
set_option linter.unusedSimpArgs false
set_option maxRecDepth 20000
set_option maxHeartbeats 2000000
theorem drL_step {L : List Ent} {j : Nat} {x : Ent} (ex : L[j]? = some x) (v : Int) : drL v (L.take (j + 1)) = if v ≤ x.v then drL v (L.take j) ++ [x] else drL v (L.take j) := by
  unfold drL
  rw [List.take_add_one, ex, List.filter_append]
  by_cases q : v ≤ x.v
  · rw [if_pos q]
    have : decide (x.v < v) = false := decide_eq_false (by omega)
    simp [this]
  · rw [if_neg q]
    have : decide (x.v < v) = true := decide_eq_true (by omega)
    simp [this]
section
variable (room h mi o : Int) (b : Bool) (L : List Ent) (hl : (L.length : Int) ≤ 2000) (r : Nat) (hp : CH) (hc : gc hp r = .bx [.i .i64 room, .ds (mapC entC L), .i .i64 h, .i .i64 mi, .i .i64 o, .b b]) (m : Nat)
include hl hc
theorem rget_no (t : ByteArray) (v : Int) (hmi : 0 ≤ mi ∧ mi ≤ 1000000) (hno : L.findIdx (qE t v) = L.length) : MeetsX Try.prog 31 hp m [.bx r 0, .s t, .i .i64 v] (rcW r room h (mi + 1) o b L ++ hp) m (.tp [.ds [], .b false]) := by
  have hP := place_ok room h mi o b L hl r hp hc
  have hno2 : fidx (qE t v) L 0 = -1 := by
    rcases fidx_find (qE t v) L 0 with ⟨h1, h2⟩ | ⟨h1, h2⟩
    · omega
    · exact h2
  have hP := fun m => hP m t v
  rw [hno2] at hP
  have hw : IntKind.i64.wrap (mi + 1) = mi + 1 := wr64 (by omega)
  have hWS := rcW_lt (n := m) (r := r) (room := room) (h := h) (mi := mi + 1) (o := o) (b := b) (L := L) hc
  refine meetsW Try.func31 (by kernel_rfl) cc31 cr31 rfl hWS fun hf => ?_; unfold ck31
  have hlt := bx_lt' hf hc
  unfold rcW
  simp (disch := omega) only [ite_ne, hc, go_sem, ↓reduceIte, Nat.reduceEqDiff, Nat.reduceBEq, Nat.reduceAdd, Nat.reduceLeDiff, Nat.reduceLT, reduceCtorEq, Nat.reduceMul, Nat.reduceSub, Int.reduceEq, Int.reduceLT, Int.reduceLE, Int.reduceToNat]
  refine vcCall.f (hP _) ?_
  simp (disch := omega) only [ite_ne, hc, hw, go_sem, ↓reduceIte, Nat.reduceEqDiff, Nat.reduceBEq, Nat.reduceAdd, Nat.reduceLeDiff, Nat.reduceLT, reduceCtorEq, Nat.reduceMul, Nat.reduceSub, Int.reduceEq, Int.reduceLT, Int.reduceLE, Int.reduceToNat]
theorem rget_yes (t : ByteArray) (v : Int) (x : Ent) (i : Nat) (hh : 0 ≤ h ∧ h ≤ 1000000) (hi : L.findIdx (qE t v) = i) (hx : L[i]? = some x) : MeetsX Try.prog 31 hp m [.bx r 0, .s t, .i .i64 v] (rcW r room (h + 1) mi o b (frR L x i L.length) ++ hp) m (.tp [.ds [planC x.n], .b true]) := by
  have hP := place_ok room h mi o b L hl r hp hc
  have hlt0 := (List.getElem?_eq_some_iff.1 hx).1
  have hi2 : fidx (qE t v) L 0 = (i : Nat) := by
    rcases fidx_find (qE t v) L 0 with ⟨h1, h2⟩ | ⟨h1, h2⟩
    · rw [h2, Nat.zero_add, hi]
    · omega
  have hP := fun m => hP m t v
  rw [hi2] at hP
  have hF := front_ok room (h + 1) mi o b L hl r
  simp only [entC] at hF
  have hw : IntKind.i64.wrap (h + 1) = h + 1 := wr64 (by omega)
  have hi0 : decide ((i : Int) < 0) = false := decide_eq_false (by omega)
  obtain ⟨F, hFe⟩ : ∃ F, frR L x i L.length = F := ⟨_, rfl⟩
  have hF := fun hp hc m => hF hp hc m x i
  rw [hFe] at hF ⊢
  have hWS := rcW_lt (n := m) (r := r) (room := room) (h := h + 1) (mi := mi) (o := o) (b := b) (L := F) hc
  refine meetsW Try.func31 (by kernel_rfl) cc31 cr31 rfl hWS fun hf => ?_; unfold ck31
  have hlt := bx_lt' hf hc
  unfold rcW at hF ⊢
  simp (disch := omega) only [ite_ne, hc, go_sem, ↓reduceIte, Nat.reduceEqDiff, Nat.reduceBEq, Nat.reduceAdd, Nat.reduceLeDiff, Nat.reduceLT, reduceCtorEq, Nat.reduceMul, Nat.reduceSub, Int.reduceEq, Int.reduceLT, Int.reduceLE, Int.reduceToNat]
  refine vcCall.f (hP _) ?_
  simp (disch := omega) only [ite_ne, hc, hw, hi0, hlt0, getK_s (mapC_get entC hx), go_sem, ↓reduceIte, Nat.reduceEqDiff, Nat.reduceBEq, Nat.reduceAdd, Nat.reduceLeDiff, Nat.reduceLT, reduceCtorEq, Nat.reduceMul, Nat.reduceSub, Int.reduceEq, Int.reduceLT, Int.reduceLE, Int.reduceToNat]
  refine vcCall.x (hF _ ?_ _) ?_
  · simp (disch := omega) only [ite_ne, hc, go_sem, ↓reduceIte, Nat.reduceEqDiff, Nat.reduceBEq, Nat.reduceAdd, Nat.reduceLeDiff, Nat.reduceLT, reduceCtorEq, Nat.reduceMul, Nat.reduceSub, Int.reduceEq, Int.reduceLT, Int.reduceLE, Int.reduceToNat]
  simp (disch := omega) only [ite_ne, hc, List.cons_append, List.nil_append, go_sem, ↓reduceIte, Nat.reduceEqDiff, Nat.reduceBEq, Nat.reduceAdd, Nat.reduceLeDiff, Nat.reduceLT, reduceCtorEq, Nat.reduceMul, Nat.reduceSub, Int.reduceEq, Int.reduceLT, Int.reduceLE, Int.reduceToNat]
  refine up_ws1 ?_ (fun j h1 h2 => ?_)
  · first | ((simp (disch := omega) only [ite_ne, hc, go_sem, ↓reduceIte, Nat.reduceEqDiff, Nat.reduceBEq, Nat.reduceAdd, Nat.reduceLeDiff, Nat.reduceLT, reduceCtorEq, Nat.reduceMul, Nat.reduceSub, Int.reduceEq, Int.reduceLT, Int.reduceLE, Int.reduceToNat]); done) | (simp only [gc]; (simp (disch := omega) only [ite_ne, hc, go_sem, ↓reduceIte, Nat.reduceEqDiff, Nat.reduceBEq, Nat.reduceAdd, Nat.reduceLeDiff, Nat.reduceLT, reduceCtorEq, Nat.reduceMul, Nat.reduceSub, Int.reduceEq, Int.reduceLT, Int.reduceLE, Int.reduceToNat]))
  · first | rfl | (repeat rw [gc_ne _ _ (by omega)])
theorem rput_no (t : ByteArray) (v : Int) (α : AV) (hb : b = true) (hv : v < o) : MeetsF Try.prog 33 hp m [.bx r 0, .s t, .i .i64 v, α] (.i .i64 14) := by
  have u0 := hl
  subst hb
  refine meetsF Try.func33 (by kernel_rfl) cc33 cr33 rfl fun hf => ?_; unfold ck33
  have hlt := bx_lt' hf hc
  simp (disch := omega) only [ite_ne, hc, decide_eq_true hv, go_sem, ↓reduceIte, Nat.reduceEqDiff, Nat.reduceBEq, Nat.reduceAdd, Nat.reduceLeDiff, Nat.reduceLT, reduceCtorEq, Nat.reduceMul, Nat.reduceSub, Int.reduceEq, Int.reduceLT, Int.reduceLE, Int.reduceToNat]
  try rfl
/-- The index of the entry that makes room. -/
def outI (room : Int) (i : Int) (L : List Ent) : Int := if i < 0 ∧ (L.length : Int) = room then (L.length : Int) - 1 else i
theorem rput_ok (t : ByteArray) (v x : Int) (hok : b = false ∨ o ≤ v) : MeetsX Try.prog 33 hp m [.bx r 0, .s t, .i .i64 v, .ds [planC x]] (rcW r room h mi o b (frR L ⟨t, v, x⟩ (outI room (fidx (qE t v) L 0) L) L.length) ++ hp) m (.i .i64 0) := by
  have hP := fun m => place_ok room h mi o b L hl r hp hc m t v
  have hF := fun hp hc m => front_ok room h mi o b L hl r hp hc m ⟨t, v, x⟩ (outI room (fidx (qE t v) L 0) L)
  simp only [entC, Ent.t_mk, Ent.v_mk, Ent.n_mk] at hF
  obtain ⟨I, hI⟩ : ∃ I, fidx (qE t v) L 0 = I := ⟨_, rfl⟩
  rw [hI] at hP hF ⊢
  obtain ⟨F, hFe⟩ : ∃ F, frR L ⟨t, v, x⟩ (outI room I L) L.length = F := ⟨_, rfl⟩
  rw [hFe] at hF ⊢
  have hWS := rcW_lt (n := m) (r := r) (room := room) (h := h) (mi := mi) (o := o) (b := b) (L := F) hc
  have hw : IntKind.i64.wrap ((L.length : Int) - 1) = (L.length : Int) - 1 := wr64 (by omega)
  have fin : b = true → decide (v < o) = false := fun e => by
    rcases hok with q | q
    · rw [e] at q; cases q
    · exact decide_eq_false (by omega)
  refine meetsW Try.func33 (by kernel_rfl) cc33 cr33 rfl hWS fun hf => ?_; unfold ck33
  have hlt := bx_lt' hf hc
  unfold rcW at hF ⊢
  cases b
  · simp (disch := omega) only [ite_ne, hc, go_sem, ↓reduceIte, Nat.reduceEqDiff, Nat.reduceBEq, Nat.reduceAdd, Nat.reduceLeDiff, Nat.reduceLT, reduceCtorEq, Nat.reduceMul, Nat.reduceSub, Int.reduceEq, Int.reduceLT, Int.reduceLE, Int.reduceToNat]
    refine vcCall.f (hP _) ?_
    simp (disch := omega) only [ite_ne, hc, go_sem, ↓reduceIte, Nat.reduceEqDiff, Nat.reduceBEq, Nat.reduceAdd, Nat.reduceLeDiff, Nat.reduceLT, reduceCtorEq, Nat.reduceMul, Nat.reduceSub, Int.reduceEq, Int.reduceLT, Int.reduceLE, Int.reduceToNat]
    refine cdK_of (fun q => ?_) (fun q => ?_)
    · have q : I < 0 ∧ (L.length : Int) = room := by simpa using q
      have e : outI room I L = (L.length : Int) - 1 := if_pos q
      rw [e] at hF
      simp (disch := omega) only [ite_ne, hc, hw, go_sem, ↓reduceIte, Nat.reduceEqDiff, Nat.reduceBEq, Nat.reduceAdd, Nat.reduceLeDiff, Nat.reduceLT, reduceCtorEq, Nat.reduceMul, Nat.reduceSub, Int.reduceEq, Int.reduceLT, Int.reduceLE, Int.reduceToNat]
      refine vcCall.x (hF _ ?_ _) ?_
      · simp (disch := omega) only [ite_ne, hc, go_sem, ↓reduceIte, Nat.reduceEqDiff, Nat.reduceBEq, Nat.reduceAdd, Nat.reduceLeDiff, Nat.reduceLT, reduceCtorEq, Nat.reduceMul, Nat.reduceSub, Int.reduceEq, Int.reduceLT, Int.reduceLE, Int.reduceToNat]
      simp (disch := omega) only [ite_ne, hc, List.cons_append, List.nil_append, go_sem, ↓reduceIte, Nat.reduceEqDiff, Nat.reduceBEq, Nat.reduceAdd, Nat.reduceLeDiff, Nat.reduceLT, reduceCtorEq, Nat.reduceMul, Nat.reduceSub, Int.reduceEq, Int.reduceLT, Int.reduceLE, Int.reduceToNat]
    · have q : ¬ (I < 0 ∧ (L.length : Int) = room) := by simpa using q
      have e : outI room I L = I := if_neg q
      rw [e] at hF
      simp (disch := omega) only [ite_ne, hc, hw, go_sem, ↓reduceIte, Nat.reduceEqDiff, Nat.reduceBEq, Nat.reduceAdd, Nat.reduceLeDiff, Nat.reduceLT, reduceCtorEq, Nat.reduceMul, Nat.reduceSub, Int.reduceEq, Int.reduceLT, Int.reduceLE, Int.reduceToNat]
      refine vcCall.x (hF _ ?_ _) ?_
      · simp (disch := omega) only [ite_ne, hc, go_sem, ↓reduceIte, Nat.reduceEqDiff, Nat.reduceBEq, Nat.reduceAdd, Nat.reduceLeDiff, Nat.reduceLT, reduceCtorEq, Nat.reduceMul, Nat.reduceSub, Int.reduceEq, Int.reduceLT, Int.reduceLE, Int.reduceToNat]
      simp (disch := omega) only [ite_ne, hc, List.cons_append, List.nil_append, go_sem, ↓reduceIte, Nat.reduceEqDiff, Nat.reduceBEq, Nat.reduceAdd, Nat.reduceLeDiff, Nat.reduceLT, reduceCtorEq, Nat.reduceMul, Nat.reduceSub, Int.reduceEq, Int.reduceLT, Int.reduceLE, Int.reduceToNat]
  · have fin := fin rfl
    simp (disch := omega) only [ite_ne, hc, fin, go_sem, ↓reduceIte, Nat.reduceEqDiff, Nat.reduceBEq, Nat.reduceAdd, Nat.reduceLeDiff, Nat.reduceLT, reduceCtorEq, Nat.reduceMul, Nat.reduceSub, Int.reduceEq, Int.reduceLT, Int.reduceLE, Int.reduceToNat]
    refine vcCall.f (hP _) ?_
    simp (disch := omega) only [ite_ne, hc, go_sem, ↓reduceIte, Nat.reduceEqDiff, Nat.reduceBEq, Nat.reduceAdd, Nat.reduceLeDiff, Nat.reduceLT, reduceCtorEq, Nat.reduceMul, Nat.reduceSub, Int.reduceEq, Int.reduceLT, Int.reduceLE, Int.reduceToNat]
    refine cdK_of (fun q => ?_) (fun q => ?_)
    · have q : I < 0 ∧ (L.length : Int) = room := by simpa using q
      have e : outI room I L = (L.length : Int) - 1 := if_pos q
      rw [e] at hF
      simp (disch := omega) only [ite_ne, hc, hw, go_sem, ↓reduceIte, Nat.reduceEqDiff, Nat.reduceBEq, Nat.reduceAdd, Nat.reduceLeDiff, Nat.reduceLT, reduceCtorEq, Nat.reduceMul, Nat.reduceSub, Int.reduceEq, Int.reduceLT, Int.reduceLE, Int.reduceToNat]
      refine vcCall.x (hF _ ?_ _) ?_
      · simp (disch := omega) only [ite_ne, hc, go_sem, ↓reduceIte, Nat.reduceEqDiff, Nat.reduceBEq, Nat.reduceAdd, Nat.reduceLeDiff, Nat.reduceLT, reduceCtorEq, Nat.reduceMul, Nat.reduceSub, Int.reduceEq, Int.reduceLT, Int.reduceLE, Int.reduceToNat]
      simp (disch := omega) only [ite_ne, hc, List.cons_append, List.nil_append, go_sem, ↓reduceIte, Nat.reduceEqDiff, Nat.reduceBEq, Nat.reduceAdd, Nat.reduceLeDiff, Nat.reduceLT, reduceCtorEq, Nat.reduceMul, Nat.reduceSub, Int.reduceEq, Int.reduceLT, Int.reduceLE, Int.reduceToNat]
    · have q : ¬ (I < 0 ∧ (L.length : Int) = room) := by simpa using q
      have e : outI room I L = I := if_neg q
      rw [e] at hF
      simp (disch := omega) only [ite_ne, hc, hw, go_sem, ↓reduceIte, Nat.reduceEqDiff, Nat.reduceBEq, Nat.reduceAdd, Nat.reduceLeDiff, Nat.reduceLT, reduceCtorEq, Nat.reduceMul, Nat.reduceSub, Int.reduceEq, Int.reduceLT, Int.reduceLE, Int.reduceToNat]
      refine vcCall.x (hF _ ?_ _) ?_
      · simp (disch := omega) only [ite_ne, hc, go_sem, ↓reduceIte, Nat.reduceEqDiff, Nat.reduceBEq, Nat.reduceAdd, Nat.reduceLeDiff, Nat.reduceLT, reduceCtorEq, Nat.reduceMul, Nat.reduceSub, Int.reduceEq, Int.reduceLT, Int.reduceLE, Int.reduceToNat]
      simp (disch := omega) only [ite_ne, hc, List.cons_append, List.nil_append, go_sem, ↓reduceIte, Nat.reduceEqDiff, Nat.reduceBEq, Nat.reduceAdd, Nat.reduceLeDiff, Nat.reduceLT, reduceCtorEq, Nat.reduceMul, Nat.reduceSub, Int.reduceEq, Int.reduceLT, Int.reduceLE, Int.reduceToNat]
theorem rdrop_ok (v : Int) : MeetsX Try.prog 32 hp m [.bx r 0, .i .i64 v] (rcW r room h mi (drO v o b) true (drL v L) ++ hp) m (.i .i64 ((L.length : Int) - (drL v L).length)) := by
  have hst := fun j x (ex : L[j]? = some x) => drL_step ex v
  have hlen : ∀ j, (drL v (L.take j)).length ≤ j := fun j => Nat.le_trans (List.length_filter_le _ _) (by rw [List.length_take]; omega)
  have h0 : drL v (L.take 0) = [] := rfl
  have hall : drL v (L.take L.length) = drL v L := by rw [List.take_length]
  have hFl : (drL v L).length ≤ L.length := List.length_filter_le _ _
  have hWS := rcW_lt (n := m) (r := r) (room := room) (h := h) (mi := mi) (o := drO v o b) (b := true) (L := drL v L) hc
  refine meetsW Try.func32 (by kernel_rfl) cc32 cr32 rfl hWS fun hf => ?_; unfold ck32
  have hlt := bx_lt' hf hc
  unfold rcW
  simp (disch := omega) only [ite_ne, hc, go_sem, ↓reduceIte, Nat.reduceEqDiff, Nat.reduceBEq, Nat.reduceAdd, Nat.reduceLeDiff, Nat.reduceLT, reduceCtorEq, Nat.reduceMul, Nat.reduceSub, Int.reduceEq, Int.reduceLT, Int.reduceLE, Int.reduceToNat]
  refine loop (fun q : Nat × Nat × List Ent × Nat => ⟨[(0, .bx r 0), (1, .i .i64 v), (5, .rw m q.2.1 q.2.2.1.length), (6, .i .i64 q.1)], (m, .rw q.2.1 3 (mapC entC q.2.2.1)) :: hp, q.2.2.2⟩)
    (fun q => q.1 ≤ L.length ∧ m + 1 ≤ q.2.2.2 ∧ q.2.2.1 = drL v (L.take q.1)) (fun q => L.length - q.1) (0, 0, [], m + 1) ?_ ?_ (fun ⟨j, g, D, n⟩ hj => ?_)
  · exact ⟨by simp, by simp, rfl⟩
  · refine (weak_e0 (t := 5) (m := 3) ?_).trans (weak_ok ?_ (Sub.cons ?_ (Sub.base hf ?_)) (Nat.le_refl _))
    all_goals (simp (disch := omega) only [ite_ne, go_sem, ↓reduceIte, Nat.reduceEqDiff, Nat.reduceBEq, Nat.reduceAdd, Nat.reduceLeDiff, Nat.reduceLT, reduceCtorEq, Nat.reduceMul, Nat.reduceSub, Int.reduceEq, Int.reduceLT, Int.reduceLE, Int.reduceToNat])
    all_goals rfl
  dsimp only at hj
  obtain ⟨hj1, hj2, hj3⟩ := hj
  have hmn : m ≤ n := by omega
  have hDl : (mapC entC D).length = D.length := mapC_len _ _
  have hDb := hlen j
  rw [← hj3] at hDb
  simp (disch := omega) only [ite_ne, hc, go_sem, ↓reduceIte, Nat.reduceEqDiff, Nat.reduceBEq, Nat.reduceAdd, Nat.reduceLeDiff, Nat.reduceLT, reduceCtorEq, Nat.reduceMul, Nat.reduceSub, Int.reduceEq, Int.reduceLT, Int.reduceLE, Int.reduceToNat]
  refine cdK_of (fun q => ?_) (fun q => ?_)
  · have q : j < L.length := by simpa using q
    obtain ⟨x, ex⟩ : ∃ x, L[j]? = some x := ⟨L[j], by simp [q]⟩
    have hs := hst j x ex
    rw [← hj3] at hs
    have k1 : (D.length + 1) * 48 ≤ 140737488355328 := by omega
    have k2 : D.length + 1 ≤ 9223372036854775807 := by omega
    have hsn : mapC entC D ++ [[AV.s x.t, AV.i .i64 x.v, AV.ds [planC x.n]]] = mapC entC (D ++ [x]) := mapC_snoc entC _ _
    simp (disch := omega) only [ite_ne, q, hc, getK_s (mapC_get entC ex), go_sem, ↓reduceIte, Nat.reduceEqDiff, Nat.reduceBEq, Nat.reduceAdd, Nat.reduceLeDiff, Nat.reduceLT, reduceCtorEq, Nat.reduceMul, Nat.reduceSub, Int.reduceEq, Int.reduceLT, Int.reduceLE, Int.reduceToNat]
    refine cdK_of (fun q1 => ?_) (fun q1 => ?_)
    · rw [if_pos (by simpa using q1)] at hs
      simp (disch := omega) only [ite_ne, q, hc, getK_s (mapC_get entC ex), hDl, k1, k2, hmn, go_sem, ↓reduceIte, Nat.reduceEqDiff, Nat.reduceBEq, Nat.reduceAdd, Nat.reduceLeDiff, Nat.reduceLT, reduceCtorEq, Nat.reduceMul, Nat.reduceSub, Int.reduceEq, Int.reduceLT, Int.reduceLE, Int.reduceToNat]
      refine ⟨(j + 1, g + 1, D ++ [x], _), ⟨by dsimp only; omega, by dsimp only; omega, hs.symm⟩, by dsimp only; omega, weak_ok ?_ (Sub.cons ?_ (Sub.base hf ?_)) (Nat.le_refl _)⟩
      all_goals
        simp (disch := omega) only [ite_ne, wr64s j (by omega), hmn, hsn, List.length_append, List.length_cons, List.length_nil, go_sem, ↓reduceIte, Nat.reduceEqDiff, Nat.reduceBEq, Nat.reduceAdd, Nat.reduceLeDiff, Nat.reduceLT, reduceCtorEq, Nat.reduceMul, Nat.reduceSub, Int.reduceEq, Int.reduceLT, Int.reduceLE, Int.reduceToNat]
    · rw [if_neg (by simpa using q1)] at hs
      simp (disch := omega) only [ite_ne, hmn, go_sem, ↓reduceIte, Nat.reduceEqDiff, Nat.reduceBEq, Nat.reduceAdd, Nat.reduceLeDiff, Nat.reduceLT, reduceCtorEq, Nat.reduceMul, Nat.reduceSub, Int.reduceEq, Int.reduceLT, Int.reduceLE, Int.reduceToNat]
      refine ⟨(j + 1, g, D, _), ⟨by dsimp only; omega, by dsimp only; omega, hs.symm⟩, by dsimp only; omega, weak_ok ?_ (Sub.cons ?_ (Sub.base hf ?_)) (Nat.le_refl _)⟩
      all_goals
        simp (disch := omega) only [ite_ne, wr64s j (by omega), hmn, go_sem, ↓reduceIte, Nat.reduceEqDiff, Nat.reduceBEq, Nat.reduceAdd, Nat.reduceLeDiff, Nat.reduceLT, reduceCtorEq, Nat.reduceMul, Nat.reduceSub, Int.reduceEq, Int.reduceLT, Int.reduceLE, Int.reduceToNat]
  · have q : j = L.length := by simp at q; omega
    subst q
    rw [hall] at hj3
    rw [← hj3] at hFl ⊢
    have hw : IntKind.i64.wrap ((L.length : Int) - (D.length : Int)) = (L.length : Int) - D.length := wr64 (by omega)
    have htk : (mapC entC D).take D.length = mapC entC D := List.take_of_length_le (by omega)
    simp (disch := omega) only [ite_ne, go_sem, ↓reduceIte, Nat.reduceEqDiff, Nat.reduceBEq, Nat.reduceAdd, Nat.reduceLeDiff, Nat.reduceLT, reduceCtorEq, Nat.reduceMul, Nat.reduceSub, Int.reduceEq, Int.reduceLT, Int.reduceLE, Int.reduceToNat]
    refine wk_of (weak_sh (t := 5) (k := m) (g := g) (len := D.length) (m := 3) (l := mapC entC D) (by (simp (disch := omega) only [ite_ne, go_sem, ↓reduceIte, Nat.reduceEqDiff, Nat.reduceBEq, Nat.reduceAdd, Nat.reduceLeDiff, Nat.reduceLT, reduceCtorEq, Nat.reduceMul, Nat.reduceSub, Int.reduceEq, Int.reduceLT, Int.reduceLE, Int.reduceToNat])) (by (simp (disch := omega) only [ite_ne, go_sem, ↓reduceIte, Nat.reduceEqDiff, Nat.reduceBEq, Nat.reduceAdd, Nat.reduceLeDiff, Nat.reduceLT, reduceCtorEq, Nat.reduceMul, Nat.reduceSub, Int.reduceEq, Int.reduceLT, Int.reduceLE, Int.reduceToNat])) (by rw [mapC_len]; omega)) ?_
    simp (disch := omega) only [ite_ne, hc, htk, hDl, hw, Nat.le_refl, go_sem, ↓reduceIte, Nat.reduceEqDiff, Nat.reduceBEq, Nat.reduceAdd, Nat.reduceLeDiff, Nat.reduceLT, reduceCtorEq, Nat.reduceMul, Nat.reduceSub, Int.reduceEq, Int.reduceLT, Int.reduceLE, Int.reduceToNat]
    refine cdK_of (fun q => ?_) (fun q => ?_)
    · have e1 : drO v o b = v := by
        unfold drO
        rw [if_pos]
        simpa using q
      rw [e1]
      simp (disch := omega) only [ite_ne, hc, go_sem, ↓reduceIte, Nat.reduceEqDiff, Nat.reduceBEq, Nat.reduceAdd, Nat.reduceLeDiff, Nat.reduceLT, reduceCtorEq, Nat.reduceMul, Nat.reduceSub, Int.reduceEq, Int.reduceLT, Int.reduceLE, Int.reduceToNat]
      refine up_ws1 ?_ (fun j h1 h2 => ?_)
      · simp only [gc]
        simp (disch := omega) only [ite_ne, go_sem, ↓reduceIte, Nat.reduceEqDiff, Nat.reduceBEq, Nat.reduceAdd, Nat.reduceLeDiff, Nat.reduceLT, reduceCtorEq, Nat.reduceMul, Nat.reduceSub, Int.reduceEq, Int.reduceLT, Int.reduceLE, Int.reduceToNat]
      · repeat rw [gc_ne _ _ (by omega)]
    · have e1 : drO v o b = o := by
        unfold drO
        rw [if_neg]
        simpa using q
      rw [e1]
      simp (disch := omega) only [ite_ne, hc, go_sem, ↓reduceIte, Nat.reduceEqDiff, Nat.reduceBEq, Nat.reduceAdd, Nat.reduceLeDiff, Nat.reduceLT, reduceCtorEq, Nat.reduceMul, Nat.reduceSub, Int.reduceEq, Int.reduceLT, Int.reduceLE, Int.reduceToNat]
      refine up_ws1 ?_ (fun j h1 h2 => ?_)
      · simp only [gc]
        simp (disch := omega) only [ite_ne, go_sem, ↓reduceIte, Nat.reduceEqDiff, Nat.reduceBEq, Nat.reduceAdd, Nat.reduceLeDiff, Nat.reduceLT, reduceCtorEq, Nat.reduceMul, Nat.reduceSub, Int.reduceEq, Int.reduceLT, Int.reduceLE, Int.reduceToNat]
      · repeat rw [gc_ne _ _ (by omega)]
end
end Go.Proofs.Ytpenniildabheaa
