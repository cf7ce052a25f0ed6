/-
  Plain facts of streams of frames. Conditions: none.
-/
import Derived.Test.YtnkddjdjiibkfaaFrP
namespace Go.Proofs.Ytnkddjdjiibkfaa
open Go.Eng
set_option linter.unusedVariables false
set_option linter.unusedSimpArgs false
set_option maxRecDepth 20000
/-- The bytes of frames. -/
def cat : List Frm → List UInt8
  | [] => []
  | f :: l => putB f ++ cat l
theorem cat_snoc (l : List Frm) (f : Frm) : cat (l ++ [f]) = cat l ++ putB f := by
  induction l with
  | nil => simp [cat]
  | cons a l ih => simp [cat, ih]
theorem cat_len (l : List Frm) : l.length ≤ (cat l).length := by
  induction l with
  | nil => simp [cat]
  | cons a l ih => simp [cat, putB]; omega
theorem allN_cat : ∀ (l : List Frm) (r : List UInt8) (n : Nat), (∀ f ∈ l, chk f = 0) → (getS r).2.2 = 8 → l.length < n → allN n (cat l ++ r) = (l, r, 0)
  | [], r, n + 1, h, hr, hn => by
    show allN (n + 1) r = _
    rw [allN, if_neg (by rw [hr]; decide), if_pos hr]
  | f :: l, r, n + 1, h, hr, hn => by
    have e := getS_put f (h f (by simp)) (cat l ++ r)
    have ih := allN_cat l r n (fun g hg => h g (by simp [hg])) hr (by simp at hn; omega)
    rw [show cat (f :: l) ++ r = putB f ++ (cat l ++ r) by simp [cat], allN, e]
    dsimp only
    rw [if_pos rfl, ih]
theorem allS_cat (l : List Frm) (r : List UInt8) (h : ∀ f ∈ l, chk f = 0) (hr : (getS r).2.2 = 8) : allS (cat l ++ r) = (l, r, 0) := by
  have := cat_len l
  exact allN_cat l r _ h hr (by simp; omega)
/-- What holds of the bytes so far, the frames that are complete, and their length. -/
def Inv (n : Int) (a : List UInt8) (w : List Frm) (k : Nat) : Prop :=
  (∀ f ∈ w, chk f = 0) ∧ k = (cat w).length ∧ (0 ≤ n → (k : Int) ≤ n) ∧ (a = cat w ∨ ∃ g r, chk g = 0 ∧ a = cat w ++ (putB g ++ r) ∧ n < (k : Int) + ((putB g).length : Int))
theorem inv_nil (n : Int) : Inv n [] [] 0 := ⟨by simp, rfl, fun h => by simpa using h, .inl rfl⟩
theorem inv_yes {n : Int} {a : List UInt8} {w : List Frm} {k : Nat} (h : Inv n a w k) {f : Frm} (hf : chk f = 0) (hl : ((a.length + (putB f).length : Nat) : Int) ≤ n) : Inv n (a ++ putB f) (w ++ [f]) (a.length + (putB f).length) := by
  obtain ⟨h1, h2, h3, h4⟩ := h
  rcases h4 with rfl | ⟨g, r, h5, rfl, h6⟩
  · refine ⟨fun g hg => ?_, by simp [cat_snoc], fun _ => by simpa using hl, .inl (by rw [cat_snoc])⟩
    rcases List.mem_append.1 hg with hg | hg
    · exact h1 g hg
    · simp at hg; subst hg; exact hf
  · simp at hl
    omega
theorem inv_no {n : Int} {a : List UInt8} {w : List Frm} {k : Nat} (h : Inv n a w k) {f : Frm} (hf : chk f = 0) (hl : n < ((a.length + (putB f).length : Nat) : Int)) : Inv n (a ++ putB f) w k := by
  obtain ⟨h1, h2, h3, h4⟩ := h
  refine ⟨h1, h2, h3, .inr ?_⟩
  rcases h4 with rfl | ⟨g, r, h5, rfl, h6⟩
  · exact ⟨f, [], hf, by simp, by rw [h2]; simpa using hl⟩
  · exact ⟨g, r ++ putB f, h5, by simp, h6⟩
theorem inv_end {n : Int} {a : List UInt8} {w : List Frm} {k : Nat} (h : Inv n a w k) (h0 : 0 ≤ n) (hn : n ≤ (a.length : Int)) : (k : Int) ≤ n ∧ allS (a.take n.toNat) = (w, (a.take n.toNat).drop k, 0) := by
  obtain ⟨h1, h2, h3, h4⟩ := h
  have h3 := h3 h0
  refine ⟨h3, ?_⟩
  rcases h4 with rfl | ⟨g, r, h5, rfl, h6⟩
  · have : n.toNat = (cat w).length := by omega
    rw [this, List.take_length, h2, List.drop_length]
    have := allS_cat w [] h1 (by simp [getS])
    simpa using this
  · have e : (cat w ++ (putB g ++ r)).take n.toNat = cat w ++ (putB g).take (n.toNat - k) := by
      rw [List.take_append, List.take_of_length_le (by omega), ← h2, List.take_append_of_le_length (by omega)]
    rw [e, List.drop_append_of_le_length (by omega), h2, List.drop_length, List.nil_append, ← h2]
    exact allS_cat w _ h1 (by rw [getS_cut g h5 _ (by omega)])
end Go.Proofs.Ytnkddjdjiibkfaa
