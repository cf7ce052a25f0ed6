/-
  The parts VsC of the proof, in one file. Conditions: none.
-/
import Derived.Test.YtaeablbcfkamjaaVt41
namespace Go.Proofs.Ytaeablbcfkamjaa.Vs
set_option linter.unusedVariables false
set_option maxRecDepth 20000
set_option linter.unusedSectionVars false
/-- An element sinks to its place. -/
def sinkS (lt : Nat → Nat → Bool) (a : Nat) : Nat → List Nat → List Nat
  | 0, L => L
  | j + 1, L => if a < j + 1 ∧ lt (rd L (j + 1)) (rd L j) = true then sinkS lt a j ((L.set (j + 1) (rd L j)).set j (rd L (j + 1))) else L
def insS (lt : Nat → Nat → Bool) (a : Nat) : Nat → Nat → List Nat → List Nat
  | 0, _, L => L
  | c + 1, i, L => insS lt a c (i + 1) (sinkS lt a i L)
section
variable {T : Nat → Nat → Prop} {lt : Nat → Nat → Bool}
theorem mvL_self (i : Nat) (c : List Nat) : pm c (mvL i i) = c := pm_id fun k hk => by
  unfold mvL
  repeat' split
  all_goals omega
theorem sink_pm (lt : Nat → Nat → Bool) (a i : Nat) (c : List Nat) (hi : i < c.length) : ∀ (j : Nat), a ≤ j → j ≤ i → (j = i ∨ lt (rd c i) (rd c j) = true) →
    ∃ t, a ≤ t ∧ t ≤ i ∧ sinkS lt a j (pm c (mvL i j)) = pm c (mvL i t) ∧ (t = a ∨ lt (rd c i) (rd c (t - 1)) = false) ∧ (t = i ∨ lt (rd c i) (rd c t) = true)
  | 0, h1, h2, h3 => ⟨0, h1, h2, rfl, .inl (by omega), h3⟩
  | j + 1, h1, h2, h3 => by
    rw [sinkS]
    have e1 : rd (pm c (mvL i (j + 1))) (j + 1) = rd c i := by
      rw [rd_pm _ _ (by omega)]; congr 1; unfold mvL; rw [if_pos rfl]
    have e2 : rd (pm c (mvL i (j + 1))) j = rd c j := by
      rw [rd_pm _ _ (by omega)]; congr 1; unfold mvL; rw [if_neg (by omega), if_neg (by omega)]
    by_cases q : a < j + 1 ∧ lt (rd c i) (rd c j) = true
    · rw [if_pos (by rw [e1, e2]; exact q), mvL_step h2 hi]
      exact sink_pm lt a i c hi j (by omega) (by omega) (.inr q.2)
    · rw [if_neg (by rw [e1, e2]; exact q)]
      refine ⟨j + 1, h1, h2, rfl, ?_, h3⟩
      rcases Nat.lt_or_ge a (j + 1) with w | w
      · right
        rw [Nat.add_sub_cancel]
        cases e : lt (rd c i) (rd c j) with
        | false => rfl
        | true => exact absurd ⟨w, e⟩ q
      · left; omega
/-- Nothing to merge. -/
theorem mrg_one (a : Nat) (d : List Nat) : Mrg T a (a + 1) d d := ⟨rfl, fun _ _ => rfl, fun k h1 h2 => ⟨k, h1, h2, rfl⟩, fun i j h1 h2 h3 => by omega⟩
theorem insS_mrg (hT : ∀ x y z, T x y → T y z → T x z) (hx : ∀ x y, x < y → (lt y x = true → T y x) ∧ (lt y x = false → T x y)) (a b : Nat) (d : List Nat) (hb : b ≤ d.length) (hd : ∀ i j, a ≤ i → i < j → j < b → rd d i < rd d j) :
    ∀ (n i : Nat) (c : List Nat), a < i → i + n = b → Mrg T a i d c → Mrg T a b d (insS lt a n i c)
  | 0, i, c, h1, h2, h3 => by
    have : i = b := by omega
    subst this
    exact h3
  | n + 1, i, c, h1, h2, h3 => by
    rw [insS]
    refine insS_mrg hT hx a b d hb hd n (i + 1) _ (by omega) (by omega) ?_
    have hl := h3.len
    obtain ⟨t, t1, t2, t3, t4, t5⟩ := sink_pm lt a i c (by omega) i (by omega) (Nat.le_refl _) (.inl rfl)
    rw [mvL_self] at t3
    rw [t3]
    have hci : rd c i = rd d i := h3.out i (by omega)
    have hp : Pre T lt c a i (i + 1) := by
      refine ⟨h3.srt, fun x y q1 q2 q3 => by omega, fun x y q1 q2 q3 q4 => ?_⟩
      have : y = i := by omega
      subst this
      obtain ⟨k', k1, k2, k3⟩ := h3.mem x q1 q2
      rw [hci, k3]
      exact hx _ _ (hd k' y k1 k2 (by omega))
    have M := mrg_right hT hp (by omega) t1 t2 t4 t5
    refine ⟨by rw [M.len]; exact hl, fun k hk => ?_, fun k k1 k2 => ?_, M.srt⟩
    · rw [M.out k hk]
      exact h3.out k (by omega)
    · obtain ⟨k', q1, q2, q3⟩ := M.mem k k1 k2
      rcases Nat.lt_or_ge k' i with w | w
      · obtain ⟨k2', r1, r2, r3⟩ := h3.mem k' q1 w
        exact ⟨k2', r1, by omega, by rw [q3, r3]⟩
      · have : k' = i := by omega
        subst this
        exact ⟨k', q1, q2, by rw [q3, hci]⟩
end
/-! ### A list in order is one alone -/
theorem nodup_bound : ∀ (n : Nat) (c : List Nat), c.Nodup → (∀ x ∈ c, x < n) → c.length ≤ n
  | 0, c, _, h => by
    cases c with
    | nil => exact Nat.le_refl _
    | cons x c => exact absurd (h x (by simp)) (by omega)
  | n + 1, c, hn, h => by
    by_cases q : n ∈ c
    · have h1 := List.length_erase_of_mem q
      have h2 := nodup_bound n (c.erase n) (hn.erase n) fun x hx => by
        have := (hn.mem_erase_iff.1 hx)
        have := h x this.2
        omega
      omega
    · have := nodup_bound n c hn fun x hx => by
        have h1 := h x hx
        have : x ≠ n := fun e => q (e ▸ hx)
        omega
      omega
theorem perm_range : ∀ (n : Nat) (c : List Nat), c.Nodup → (∀ x ∈ c, x < n) → c.length = n → c.Perm (List.range n)
  | 0, c, _, _, hl => by rw [List.eq_nil_of_length_eq_zero hl]; exact List.Perm.refl _
  | n + 1, c, hn, h, hl => by
    have q : n ∈ c := by
      apply Classical.byContradiction
      intro q
      have := nodup_bound n c hn fun x hx => by
        have h1 := h x hx
        have : x ≠ n := fun e => q (e ▸ hx)
        omega
      omega
    have ih := perm_range n (c.erase n) (hn.erase n) (fun x hx => by
      have := (hn.mem_erase_iff.1 hx)
      have := h x this.2
      omega) (by rw [List.length_erase_of_mem q]; omega)
    refine (List.perm_cons_erase q).trans ?_
    rw [List.range_succ]
    refine (ih.cons n).trans ?_
    exact (List.perm_append_comm (l₁ := List.range n) (l₂ := [n])).symm
/-- How many come ahead. -/
def rank (T : Nat → Nat → Prop) [DecidableRel T] (n x : Nat) : Nat := (List.range n).countP fun y => decide (T y x)
section
variable {T : Nat → Nat → Prop} [DecidableRel T]
/-- A list of all numbers below n, in order. -/
structure Ord (T : Nat → Nat → Prop) (n : Nat) (c : List Nat) : Prop where
  len : c.length = n
  lt : ∀ k, k < n → rd c k < n
  srt : Srt T c 0 n
theorem Ord.nodup (hi : ∀ x, ¬ T x x) {n : Nat} {c : List Nat} (h : Ord T n c) : c.Nodup := by
  rw [List.nodup_iff_pairwise_ne, List.pairwise_iff_getElem]
  intro i j hi1 hj1 hij e
  have := h.srt i j (Nat.zero_le _) hij (by rw [← h.len]; exact hj1)
  have e1 := get_rd hi1
  have e2 := get_rd hj1
  rw [List.getElem?_eq_getElem hi1] at e1
  rw [List.getElem?_eq_getElem hj1] at e2
  have e1 : c[i] = rd c i := by simpa using e1
  have e2 : c[j] = rd c j := by simpa using e2
  rw [← e1, ← e2, e] at this
  exact hi _ this
theorem Ord.perm (hi : ∀ x, ¬ T x x) {n : Nat} {c : List Nat} (h : Ord T n c) : c.Perm (List.range n) := by
  refine perm_range n c (h.nodup hi) (fun x hx => ?_) h.len
  obtain ⟨k, hk⟩ := List.getElem?_of_mem hx
  have hl := (List.getElem?_eq_some_iff.1 hk).1
  have := get_rd hl
  rw [hk] at this
  cases this
  exact h.lt k (by rw [← h.len]; exact hl)
theorem count_take {n : Nat} {c : List Nat} (hi : ∀ x, ¬ T x x) (ha : ∀ x y, T x y → ¬ T y x) (h : Ord T n c) {i : Nat} (h1 : i < n) : (c.countP fun y => decide (T y (rd c i))) = i := by
  have hl := h.len
  have e : c = c.take i ++ c.drop i := (List.take_append_drop i c).symm
  have c1 : ((c.take i).countP fun y => decide (T y (rd c i))) = i := by
    have : ((c.take i).countP fun y => decide (T y (rd c i))) = (c.take i).length := by
      rw [List.countP_eq_length]
      intro y hy
      obtain ⟨k, hk⟩ := List.getElem?_of_mem hy
      rw [List.getElem?_take] at hk
      split at hk
      · rename_i w
        have := get_rd (d := c) (k := k) (by omega)
        rw [hk] at this
        cases this
        exact decide_eq_true (h.srt k i (Nat.zero_le _) w h1)
      · cases hk
    rw [this, List.length_take]
    omega
  have c2 : ((c.drop i).countP fun y => decide (T y (rd c i))) = 0 := by
    rw [List.countP_eq_zero]
    intro y hy
    obtain ⟨k, hk⟩ := List.getElem?_of_mem hy
    rw [List.getElem?_drop] at hk
    have hkl := (List.getElem?_eq_some_iff.1 hk).1
    have := get_rd (d := c) hkl
    rw [hk] at this
    cases this
    have hno : ¬ T (rd c (i + k)) (rd c i) := by
      rcases Nat.eq_zero_or_pos k with w | w
      · subst w; exact hi _
      · exact ha _ _ (h.srt i (i + k) (Nat.zero_le _) (by omega) (by omega))
    simpa using hno
  calc (c.countP fun y => decide (T y (rd c i))) = ((c.take i ++ c.drop i).countP fun y => decide (T y (rd c i))) := by rw [← e]
    _ = i := by rw [List.countP_append, c1, c2, Nat.add_zero]
theorem Ord.rank (hi : ∀ x, ¬ T x x) (ha : ∀ x y, T x y → ¬ T y x) {n : Nat} {c : List Nat} (h : Ord T n c) {i : Nat} (h1 : i < n) : Vs.rank T n (rd c i) = i := by
  unfold Vs.rank
  rw [← (h.perm hi).countP_eq]
  exact count_take hi ha h h1
theorem Ord.at (hi : ∀ x, ¬ T x x) (ha : ∀ x y, T x y → ¬ T y x) {n : Nat} {c : List Nat} (h : Ord T n c) {x : Nat} (hx : x < n) : Vs.rank T n x < n ∧ rd c (Vs.rank T n x) = x := by
  have hm : x ∈ c := (h.perm hi).mem_iff.2 (by simpa using hx)
  obtain ⟨k, hk⟩ := List.getElem?_of_mem hm
  have hl := (List.getElem?_eq_some_iff.1 hk).1
  have e := get_rd hl
  rw [hk] at e
  have e : x = rd c k := by simpa using e
  have hr := h.rank hi ha (i := k) (by rw [← h.len]; exact hl)
  rw [← e] at hr
  rw [hr]
  exact ⟨by rw [← h.len]; exact hl, e.symm⟩
theorem Ord.one (hi : ∀ x, ¬ T x x) (ha : ∀ x y, T x y → ¬ T y x) {n : Nat} {c d : List Nat} (h : Ord T n c) (h2 : Ord T n d) : c = d := by
  refine ext_rd (by rw [h.len, h2.len]) fun k hk => ?_
  have hkn : k < n := by rw [← h2.len]; exact hk
  have h3 := h.rank hi ha hkn
  have h4 := (h2.at hi ha (h.lt k hkn)).2
  rw [h3] at h4
  exact h4.symm
end
end Go.Proofs.Ytaeablbcfkamjaa.Vs
