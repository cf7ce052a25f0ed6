/-
  The parts VaT VbE of the proof, in one file. Conditions: none.
-/
import Derived.Test.YtaeablbcfkamjaaVt47
namespace Go.Proofs.Ytaeablbcfkamjaa
open Go.Eng
set_option linter.unusedVariables false
set_option linter.unusedSimpArgs false
theorem less_asymm : ∀ a b : List UInt8, Op.bytesLess a b = true → Op.bytesLess b a = false
  | [], [], h => by simp [Op.bytesLess] at h
  | [], y :: b, h => by simp [Op.bytesLess]
  | x :: a, [], h => by simp [Op.bytesLess] at h
  | x :: a, y :: b, h => by
    have ih := less_asymm a b
    simp only [Op.bytesLess, Bool.or_eq_true, decide_eq_true_eq, Bool.and_eq_true, beq_iff_eq, Bool.or_eq_false_iff, decide_eq_false_iff_not, Bool.and_eq_false_iff, beq_eq_false_iff_ne] at h ⊢
    rcases h with h | ⟨h1, h2⟩
    · exact ⟨UInt8.not_lt.2 (UInt8.le_of_lt h), .inl fun e => by subst e; exact UInt8.lt_irrefl _ h⟩
    · subst h1
      exact ⟨UInt8.lt_irrefl _, .inr (ih h2)⟩
theorem less_trans : ∀ a b c : List UInt8, Op.bytesLess a b = true → Op.bytesLess b c = true → Op.bytesLess a c = true
  | [], [], c, h, h2 => by simp [Op.bytesLess] at h
  | [], y :: b, [], h, h2 => by simp [Op.bytesLess] at h2
  | [], y :: b, z :: c, h, h2 => by simp [Op.bytesLess]
  | x :: a, [], c, h, h2 => by simp [Op.bytesLess] at h
  | x :: a, y :: b, [], h, h2 => by simp [Op.bytesLess] at h2
  | x :: a, y :: b, z :: c, h, h2 => by
    have ih := less_trans a b c
    simp only [Op.bytesLess, Bool.or_eq_true, decide_eq_true_eq, Bool.and_eq_true, beq_iff_eq] at h h2 ⊢
    rcases h with h | ⟨h1, h⟩
    · rcases h2 with h2 | ⟨h3, h2⟩
      · exact .inl (UInt8.lt_trans h h2)
      · subst h3; exact .inl h
    · subst h1
      rcases h2 with h2 | ⟨h3, h2⟩
      · exact .inl h2
      · subst h3; exact .inr ⟨rfl, ih h h2⟩
theorem less_total : ∀ a b : List UInt8, Op.bytesLess a b = false → Op.bytesLess b a = false → a = b
  | [], [], _, _ => rfl
  | [], y :: b, h, _ => by simp [Op.bytesLess] at h
  | x :: a, [], _, h => by simp [Op.bytesLess] at h
  | x :: a, y :: b, h, h2 => by
    have ih := less_total a b
    simp only [Op.bytesLess, Bool.or_eq_false_iff, decide_eq_false_iff_not, Bool.and_eq_false_iff, beq_eq_false_iff_ne] at h h2
    have e : x = y := UInt8.le_antisymm (UInt8.not_lt.1 h2.1) (UInt8.not_lt.1 h.1)
    subst e
    rw [ih (by rcases h.2 with q | q; exact absurd rfl q; exact q) (by rcases h2.2 with q | q; exact absurd rfl q; exact q)]
/-- Is a string less than another one? -/
def sl' (a b : ByteArray) : Bool := Op.bytesLess a.toList b.toList
theorem cs_of (a b : ByteArray) : cs a b = if sl' a b = true then -1 else if sl' b a = true then 1 else 0 := by
  unfold cs sl'
  by_cases h : Op.bytesLess a.toList b.toList = true
  · rw [if_pos h, if_pos h]
  · rw [if_neg h, if_neg h]
    have h : Op.bytesLess a.toList b.toList = false := by simpa using h
    by_cases h2 : Op.bytesLess b.toList a.toList = true
    · rw [if_pos h2]
      have : ¬ a = b := fun e => by subst e; rw [h2] at h; cases h
      rw [if_pos (by simp [h, this])]
    · have h2 : Op.bytesLess b.toList a.toList = false := by simpa using h2
      have e := toList_inj (less_total _ _ h h2)
      subst e
      simp [h]
theorem cs_anti (a b : ByteArray) : cs b a = - cs a b := by
  rw [cs_of, cs_of]
  by_cases h : sl' a b = true
  · have := less_asymm _ _ h
    have h2 : sl' b a = false := this
    simp [h, h2]
  · by_cases h2 : sl' b a = true <;> simp [h, h2]
end Go.Proofs.Ytaeablbcfkamjaa
namespace Go.Proofs.Ytaeablbcfkamjaa
open Go.Eng
set_option linter.unusedVariables false
set_option linter.unusedSimpArgs false
set_option maxRecDepth 20000
/-- Three comparisons that fit together. -/
def Tri (x y z : Int) : Prop := (x ≤ 0 ∧ y ≤ 0 → z ≤ 0 ∧ (z = 0 → x = 0 ∧ y = 0)) ∧ (0 ≤ x ∧ 0 ≤ y → 0 ≤ z ∧ (z = 0 → x = 0 ∧ y = 0))
theorem cs_tri (a b c : ByteArray) : Tri (cs a b) (cs b c) (cs a c) := by
  rw [cs_of, cs_of, cs_of]
  have t1 := less_trans a.toList b.toList c.toList
  have t2 := less_trans c.toList b.toList a.toList
  have t3 := less_trans a.toList c.toList b.toList
  have t4 := less_trans b.toList c.toList a.toList
  have t5 := less_trans b.toList a.toList c.toList
  have t6 := less_trans c.toList a.toList b.toList
  have a1 := less_asymm a.toList b.toList
  have a2 := less_asymm b.toList c.toList
  have a3 := less_asymm a.toList c.toList
  unfold Tri sl'
  have u1 := less_total a.toList b.toList
  have u2 := less_total b.toList c.toList
  have u3 := less_total a.toList c.toList
  cases h1 : Op.bytesLess a.toList b.toList <;> cases h2 : Op.bytesLess b.toList c.toList <;> cases h3 : Op.bytesLess a.toList c.toList <;>
    cases h4 : Op.bytesLess b.toList a.toList <;> cases h5 : Op.bytesLess c.toList b.toList <;> cases h6 : Op.bytesLess c.toList a.toList <;> simp_all
end Go.Proofs.Ytaeablbcfkamjaa
