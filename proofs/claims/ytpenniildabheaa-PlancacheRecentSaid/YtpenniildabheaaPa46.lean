/-
  The parts PcO of the proof, in one file. Conditions: none.
-/
import Derived.Test.YtpenniildabheaaPa45
namespace Go.Proofs.Ytpenniildabheaa
open Go.Eng
set_option linter.unusedVariables false
set_option linter.unusedSimpArgs false
set_option maxRecDepth 20000
/-- No key twice. -/
def Uq (L : List Ent) : Prop := L.Pairwise fun x y => ¬ (x.t = y.t ∧ x.v = y.v)
theorem qE_iff {t : ByteArray} {v : Int} {x : Ent} : qE t v x = true ↔ x.t = t ∧ x.v = v := by simp [qE]
theorem range_filter (L : List Ent) (i : Int) : ∀ j, j ≤ L.length → (List.range j).filterMap (fun (k : Nat) => if (k : Int) = i then none else L[k]?) = if 0 ≤ i ∧ i < (j : Int) then (L.take j).eraseIdx i.toNat else L.take j
  | 0, _ => by simp
  | j + 1, h => by
    have hj : j < L.length := by omega
    have ej : L[j]? = some L[j] := by simp [hj]
    have e1 : L.take (j + 1) = L.take j ++ [L[j]] := by rw [List.take_add_one, ej]; rfl
    have htl : (L.take j).length = j := by rw [List.length_take]; omega
    rw [List.range_succ, List.filterMap_append, range_filter L i j (by omega), e1]
    by_cases q : (j : Int) = i
    · subst q
      rw [if_neg (by omega), if_pos (by omega)]
      simp only [List.filterMap_cons, if_true, List.filterMap_nil, List.append_nil, Int.toNat_natCast]
      rw [List.eraseIdx_append_of_length_le (by omega), htl, Nat.sub_self]
      simp
    · by_cases q2 : 0 ≤ i ∧ i < (j : Int)
      · rw [if_pos q2, if_pos (by omega), List.eraseIdx_append_of_lt_length (by omega)]
        simp [q, ej]
      · rw [if_neg q2, if_neg (by omega)]
        simp [q, ej]
theorem frR_eq (L : List Ent) (x : Ent) (i : Int) : frR L x i L.length = x :: (if 0 ≤ i ∧ i < (L.length : Int) then L.eraseIdx i.toNat else L) := by
  unfold frR
  rw [range_filter L i L.length (Nat.le_refl _), List.take_length]
theorem tkE_none {t : ByteArray} {v : Int} {L : List Ent} (h : ∀ x ∈ L, ¬ (x.t = t ∧ x.v = v)) : tkE t v L = L := by
  unfold tkE
  have : L.findIdx (qE t v) = L.length := List.findIdx_eq_length.2 fun x hx => by
    cases hq : qE t v x with
    | false => rfl
    | true => exact absurd (qE_iff.1 hq) (h x hx)
  rw [this, List.eraseIdx_of_length_le (Nat.le_refl _)]
theorem Uq.tk {L : List Ent} (u : Uq L) (t : ByteArray) (v : Int) : Uq (tkE t v L) := List.Pairwise.sublist (List.eraseIdx_sublist _ _) u
theorem tkE_mem {L : List Ent} (u : Uq L) {t : ByteArray} {v : Int} {x : Ent} : x ∈ tkE t v L ↔ x ∈ L ∧ ¬ (x.t = t ∧ x.v = v) := by
  unfold tkE
  induction L with
  | nil => simp
  | cons y r ih =>
    have u2 := List.pairwise_cons.1 u
    rw [List.findIdx_cons]
    cases hq : qE t v y with
    | true =>
      have hy := qE_iff.1 hq
      simp only [cond_true, List.eraseIdx_zero, List.tail_cons, List.mem_cons]
      constructor
      · intro hx
        exact ⟨.inr hx, fun e => u2.1 x hx ⟨hy.1.trans e.1.symm, hy.2.trans e.2.symm⟩⟩
      · rintro ⟨rfl | hx, hn⟩
        · exact absurd hy hn
        · exact hx
    | false =>
      have hy : ¬ (y.t = t ∧ y.v = v) := fun e => by rw [qE_iff.2 e] at hq; cases hq
      simp only [cond_false, List.eraseIdx_cons_succ, List.mem_cons]
      rw [ih u2.2]
      constructor
      · rintro (rfl | ⟨h1, h2⟩)
        · exact ⟨.inl rfl, hy⟩
        · exact ⟨.inr h1, h2⟩
      · rintro ⟨rfl | h1, h2⟩
        · exact .inl rfl
        · exact .inr ⟨h1, h2⟩
theorem Uq.put {L : List Ent} (u : Uq L) (room : Int) (e : Ent) : Uq (putL room e L) := by
  have h1 := u.tk e.t e.v
  have h2 : ∀ x ∈ tkE e.t e.v L, ¬ (e.t = x.t ∧ e.v = x.v) := fun x hx ⟨a, b⟩ => (tkE_mem u).1 hx |>.2 ⟨a.symm, b.symm⟩
  unfold putL
  split
  · exact List.pairwise_cons.2 ⟨fun x hx => h2 x (List.mem_of_mem_take hx), List.Pairwise.sublist (List.take_sublist _ _) h1⟩
  · exact List.pairwise_cons.2 ⟨h2, h1⟩
theorem Uq.dr {L : List Ent} (u : Uq L) (v : Int) : Uq (drL v L) := List.Pairwise.sublist List.filter_sublist u
/-- What is put: as in the reference. -/
theorem put_ref {L : List Ent} (u : Uq L) {room : Int} (hr : 1 ≤ room) (hl : (L.length : Int) ≤ room) (t : ByteArray) (v x : Int) : frR L ⟨t, v, x⟩ (outI room (fidx (qE t v) L 0) L) L.length = putL room ⟨t, v, x⟩ L := by
  rw [frR_eq]
  unfold putL
  rw [Ent.t_mk, Ent.v_mk]
  congr 1
  rcases fidx_find (qE t v) L 0 with ⟨h1, h2⟩ | ⟨h1, h2⟩
  · have e0 : outI room (fidx (qE t v) L 0) L = (L.findIdx (qE t v) : Nat) := by
      rw [h2, Nat.zero_add]
      exact if_neg (by omega)
    rw [e0, if_pos ⟨by omega, by omega⟩, Int.toNat_natCast]
    have : (tkE t v L).length = L.length - 1 := List.length_eraseIdx_of_lt h1
    rw [this, if_neg (by omega)]
    rfl
  · have ht : tkE t v L = L := by unfold tkE; rw [h1, List.eraseIdx_of_length_le (Nat.le_refl _)]
    rw [ht]
    by_cases q : (L.length : Int) = room
    · have e0 : outI room (fidx (qE t v) L 0) L = (L.length : Int) - 1 := by
        rw [h2]
        exact if_pos ⟨by omega, q⟩
      rw [e0, if_pos ⟨by omega, by omega⟩, if_pos (by omega)]
      have e1 : ((L.length : Int) - 1).toNat = L.length - 1 := by omega
      have e2 : (room - 1).toNat = L.length - 1 := by omega
      rw [e1, e2]
      obtain ⟨k, hk⟩ : ∃ k, L.length = k + 1 := ⟨L.length - 1, by omega⟩
      rw [hk, Nat.add_sub_cancel]
      have e3 : L.eraseIdx k = L.take k ++ L.drop (k + 1) := List.eraseIdx_eq_take_drop_succ ..
      rw [e3, List.drop_of_length_le (by omega), List.append_nil]
    · have e0 : outI room (fidx (qE t v) L 0) L = -1 := by
        rw [h2]
        exact if_neg (by omega)
      rw [e0, if_neg (by omega), if_neg (by omega)]
/-- What is got: as in the reference. -/
theorem get_ref {L : List Ent} (u : Uq L) {room : Int} (hr : 1 ≤ room) (hl : (L.length : Int) ≤ room) {t : ByteArray} {v : Int} {x : Ent} (hx : L[L.findIdx (qE t v)]? = some x) : frR L x (L.findIdx (qE t v) : Nat) L.length = putL room ⟨t, v, x.n⟩ (tkE t v L) := by
  have hlt := (List.getElem?_eq_some_iff.1 hx).1
  have hq : qE t v x = true := by
    have := List.findIdx_getElem (w := hlt)
    rw [List.getElem?_eq_getElem hlt] at hx
    cases hx
    exact this
  have hxe : x = ⟨t, v, x.n⟩ := Ent.ext (by rw [Ent.t_mk]; exact (qE_iff.1 hq).1) (by rw [Ent.v_mk]; exact (qE_iff.1 hq).2) rfl
  have h2 : tkE t v (tkE t v L) = tkE t v L := tkE_none fun y hy => ((tkE_mem u).1 hy).2
  have h3 : (tkE t v L).length = L.length - 1 := List.length_eraseIdx_of_lt hlt
  rw [frR_eq, if_pos (by omega), Int.toNat_natCast]
  unfold putL
  rw [Ent.t_mk, Ent.v_mk, h2, if_neg (by omega), ← hxe]
  rfl
theorem drL_len (v : Int) (L : List Ent) : (drL v L).length ≤ L.length := List.length_filter_le _ _
/-- What holds of a cache after k calls. -/
structure CI (room h mi : Int) (L : List Ent) (k : Nat) : Prop where
  r1 : 1 ≤ room
  r2 : room ≤ 1024
  h0 : 0 ≤ h
  m0 : 0 ≤ mi
  hm : h + mi ≤ k
  ll : (L.length : Int) ≤ room
  uq : Uq L
theorem CI.put {room h mi : Int} {L : List Ent} {k : Nat} (c : CI room h mi L k) (e : Ent) : CI room h mi (putL room e L) (k + 1) := ⟨c.r1, c.r2, c.h0, c.m0, by have := c.hm; omega, (putL_len c.r1 e L c.ll).1, c.uq.put room e⟩
theorem CI.no {room h mi : Int} {L : List Ent} {k : Nat} (c : CI room h mi L k) : CI room h mi L (k + 1) := ⟨c.r1, c.r2, c.h0, c.m0, by have := c.hm; omega, c.ll, c.uq⟩
theorem CI.miss {room h mi : Int} {L : List Ent} {k : Nat} (c : CI room h mi L k) : CI room h (mi + 1) L (k + 1) := ⟨c.r1, c.r2, c.h0, by have := c.m0; omega, by have := c.hm; omega, c.ll, c.uq⟩
theorem CI.hit {room h mi : Int} {L : List Ent} {k : Nat} (c : CI room h mi L k) (t : ByteArray) (v : Int) (e : Ent) : CI room (h + 1) mi (putL room e (tkE t v L)) (k + 1) :=
  ⟨c.r1, c.r2, by have := c.h0; omega, c.m0, by have := c.hm; omega, (putL_len c.r1 e _ (by have := tkE_len t v L; have := c.ll; omega)).1, (c.uq.tk t v).put room e⟩
theorem CI.dr {room h mi : Int} {L : List Ent} {k : Nat} (c : CI room h mi L k) (v : Int) : CI room h mi (drL v L) (k + 1) := ⟨c.r1, c.r2, c.h0, c.m0, by have := c.hm; omega, by have := drL_len v L; have := c.ll; omega, c.uq.dr v⟩
end Go.Proofs.Ytpenniildabheaa
