/-
  The parts VsG of the proof, in one file. Conditions: none.
-/
import Derived.Test.YtaeablbcfkamjaaVt45
namespace Go.Proofs.Ytaeablbcfkamjaa.Vs
set_option linter.unusedVariables false
set_option linter.unusedSectionVars false
set_option maxRecDepth 20000
section
variable {T : Nat → Nat → Prop} {lt : Nat → Nat → Bool}
theorem blk_at {s q A k : Nat} (hA : A = q * s) (h1 : A ≤ k) (h2 : k < A + s) : k / s = q := by
  subst hA
  refine Nat.div_eq_of_lt_le h1 ?_
  rw [Nat.succ_mul]
  exact h2
theorem blk_lt {s q A k : Nat} (hA : A = q * s) (h : k < A) : k / s < q := by
  subst hA
  refine Nat.div_lt_of_lt_mul ?_
  rw [Nat.mul_comm]
  exact h
/-- Blocks up to A are in order. -/
structure Blk (T : Nat → Nat → Prop) (n s A : Nat) (c : List Nat) : Prop where
  len : c.length = n
  v : ∀ k, k < A → rd c k / s = k / s
  r : ∀ k, A ≤ k → k < n → rd c k = k
  s : ∀ i j, i < j → j < A → i / s = j / s → T (rd c i) (rd c j)
theorem rd_range {n k : Nat} (h : k < n) : rd (List.range n) k = k := by
  unfold rd
  rw [List.getD_eq_getElem?_getD, List.getElem?_range h]
  rfl
theorem Blk.zero (T : Nat → Nat → Prop) (n s : Nat) : Blk T n s 0 (List.range n) := ⟨by simp, fun k h => by omega, fun k _ h => rd_range h, fun i j _ h => by omega⟩
theorem Blk.step (hT : ∀ x y z, T x y → T y z → T x z) (hx : ∀ x y, x < y → (lt y x = true → T y x) ∧ (lt y x = false → T x y)) {n s q A B : Nat} {c : List Nat} (h : Blk T n s A c) (hA : A = q * s) (h1 : A ≤ B) (h2 : B ≤ A + s) (h3 : B ≤ n) :
    Blk T n s B (insS lt A (B - (A + 1)) (A + 1) c) := by
  by_cases e : A = B
  · subst e
    have : A - (A + 1) = 0 := by omega
    rw [this, insS]
    exact h
  have M : Mrg T A B c (insS lt A (B - (A + 1)) (A + 1) c) := insS_mrg hT hx A B c (by rw [h.len]; exact h3) (fun i j i1 i2 i3 => by rw [h.r i i1 (by omega), h.r j (by omega) (by omega)]; exact i2) _ _ c (by omega) (by omega) (mrg_one A c)
  refine ⟨by rw [M.len]; exact h.len, fun k hk => ?_, fun k k1 k2 => ?_, fun i j hij hj he => ?_⟩
  · rcases Nat.lt_or_ge k A with w | w
    · rw [M.out k (by omega)]; exact h.v k w
    · obtain ⟨k', q1, q2, q3⟩ := M.mem k w hk
      rw [q3, h.r k' q1 (by omega), blk_at hA q1 (by omega), blk_at hA w (by omega)]
  · rw [M.out k (by omega)]; exact h.r k (by omega) k2
  · rcases Nat.lt_or_ge j A with w | w
    · rw [M.out i (by omega), M.out j (by omega)]; exact h.s i j hij w he
    · refine M.srt i j ?_ hij hj
      rcases Nat.lt_or_ge i A with w2 | w2
      · have := blk_lt hA w2
        rw [he, blk_at hA w (by omega)] at this
        omega
      · exact w2
/-- Double blocks up to A are in order, single ones behind. -/
structure Pas (T : Nat → Nat → Prop) (n s A : Nat) (c : List Nat) : Prop where
  len : c.length = n
  v1 : ∀ k, k < A → rd c k / s / 2 = k / s / 2
  v2 : ∀ k, A ≤ k → k < n → rd c k / s = k / s
  s1 : ∀ i j, i < j → j < A → i / s / 2 = j / s / 2 → T (rd c i) (rd c j)
  s2 : ∀ i j, A ≤ i → i < j → j < n → i / s = j / s → T (rd c i) (rd c j)
theorem Blk.pas {n s : Nat} {c : List Nat} (h : Blk T n s n c) : Pas T n s 0 c := ⟨h.len, fun k hk => by omega, fun k _ hk => h.v k hk, fun i j _ hj => by omega, fun i j _ hij hj he => h.s i j hij hj he⟩
theorem Pas.blk {n s : Nat} {c : List Nat} (h : Pas T n s n c) : Blk T n (s * 2) n c := ⟨h.len, fun k hk => by rw [← Nat.div_div_eq_div_mul, ← Nat.div_div_eq_div_mul]; exact h.v1 k hk, fun k k1 k2 => by omega, fun i j hij hj he => h.s1 i j hij hj (by rw [Nat.div_div_eq_div_mul, Nat.div_div_eq_div_mul]; exact he)⟩
theorem two_mul' (p s : Nat) : (2 * p + 1) * s = 2 * p * s + s := by rw [Nat.add_mul, Nat.one_mul]
theorem Pas.pre (hx : ∀ x y, x < y → (lt y x = true → T y x) ∧ (lt y x = false → T x y)) {n s p A B : Nat} {c : List Nat} (h : Pas T n s A c) (hs : 0 < s) (hA : A = 2 * p * s) (h1 : A + s ≤ B) (h2 : B ≤ A + s + s) (h3 : B ≤ n) : Pre T lt c A (A + s) B := by
  have hA2 : A + s = (2 * p + 1) * s := by rw [two_mul', hA]
  have u1 : ∀ k, A ≤ k → k < A + s → k / s = 2 * p := fun k a b => blk_at hA a b
  have u2 : ∀ k, A + s ≤ k → k < B → k / s = 2 * p + 1 := fun k a b => blk_at hA2 a (by omega)
  refine ⟨fun i j i1 i2 i3 => h.s2 i j i1 i2 (by omega) (by rw [u1 i i1 (by omega), u1 j (by omega) i3]), fun i j i1 i2 i3 => h.s2 i j (by omega) i2 (by omega) (by rw [u2 i i1 (by omega), u2 j (by omega) i3]), fun i j i1 i2 j1 j2 => ?_⟩
  have e1 := h.v2 i i1 (by omega)
  have e2 := h.v2 j (by omega) (by omega)
  rw [u1 i i1 i2] at e1
  rw [u2 j j1 j2] at e2
  have : rd c i < rd c j := by
    rcases Nat.lt_or_ge (rd c i) (rd c j) with w | w
    · exact w
    · have := Nat.div_le_div_right (c := s) w
      omega
  exact hx _ _ this
theorem Pas.step {n s p A B : Nat} {c c' : List Nat} (h : Pas T n s A c) (hs : 0 < s) (hA : A = 2 * p * s) (h1 : A + s ≤ B) (h2 : B ≤ A + s + s) (h3 : B ≤ n) (h4 : B = A + s + s ∨ B = n) (M : Mrg T A B c c') : Pas T n s B c' := by
  have hA2 : A + s = (2 * p + 1) * s := by rw [two_mul', hA]
  have u : ∀ k, A ≤ k → k < B → k / s / 2 = p := fun k a b => by
    rcases Nat.lt_or_ge k (A + s) with w | w
    · rw [blk_at hA a w]; omega
    · rw [blk_at hA2 w (by omega)]; omega
  refine ⟨by rw [M.len]; exact h.len, fun k hk => ?_, fun k k1 k2 => ?_, fun i j hij hj he => ?_, fun i j i1 hij hj he => ?_⟩
  · rcases Nat.lt_or_ge k A with w | w
    · rw [M.out k (by omega)]; exact h.v1 k w
    · obtain ⟨k', q1, q2, q3⟩ := M.mem k w hk
      rw [q3, h.v2 k' q1 (by omega), u k' q1 q2, u k w hk]
  · rw [M.out k (by omega)]; exact h.v2 k (by omega) k2
  · rcases Nat.lt_or_ge j A with w | w
    · rw [M.out i (by omega), M.out j (by omega)]; exact h.s1 i j hij w he
    · refine M.srt i j ?_ hij hj
      rcases Nat.lt_or_ge i A with w2 | w2
      · have := blk_lt hA w2
        rw [u j w hj] at he
        omega
      · exact w2
  · rw [M.out i (by omega), M.out j (by omega)]
    exact h.s2 i j (by omega) hij hj he
theorem Pas.last {n s p A : Nat} {c : List Nat} (h : Pas T n s A c) (hA : A = 2 * p * s) (h1 : n ≤ A + s) (h2 : A ≤ n) : Pas T n s n c := by
  have u : ∀ k, A ≤ k → k < n → k / s = 2 * p := fun k a b => blk_at hA a (by omega)
  refine ⟨h.len, fun k hk => ?_, fun k k1 k2 => by omega, fun i j hij hj he => ?_, fun i j i1 hij hj he => by omega⟩
  · rcases Nat.lt_or_ge k A with w | w
    · exact h.v1 k w
    · rw [h.v2 k w hk]
  · rcases Nat.lt_or_ge j A with w | w
    · exact h.s1 i j hij w he
    · have hi : A ≤ i := by
        rcases Nat.lt_or_ge i A with w2 | w2
        · have := blk_lt hA w2
          rw [u j w hj] at he
          omega
        · exact w2
      exact h.s2 i j hi hij hj (by rw [u i hi (by omega), u j w hj])
theorem Blk.ord {n s : Nat} {c : List Nat} (h : Blk T n s n c) (hs : n ≤ s) (hl : ∀ k, k < n → rd c k < n) : Ord T n c := by
  refine ⟨h.len, hl, fun i j _ hij hj => h.s i j hij hj ?_⟩
  rw [Nat.div_eq_of_lt (by omega), Nat.div_eq_of_lt (by omega)]
end
end Go.Proofs.Ytaeablbcfkamjaa.Vs
