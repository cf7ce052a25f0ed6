/-
  Comparing values the other way round. Conditions: none.
-/
import Derived.Test.YtjalbhlahfgogaaVaD
namespace Go.Proofs.Ytjalbhlahfgogaa
open Go.Eng
set_option linter.unusedVariables false
set_option linter.unusedSimpArgs false
theorem ci_anti (a b : Int) : ci b a = - ci a b := by
  unfold ci
  grind
theorem less_asymm : ∀ a b : List UInt8, Op.bytesLess a b = true → Op.bytesLess b a = false
  | [], [], h => by simp [Op.bytesLess] at h
  | [], y :: b, h => by simp [Op.bytesLess]
  | x :: a, [], h => by simp [Op.bytesLess] at h
  | x :: a, y :: b, h => by
    have ih := less_asymm a b
    simp only [Op.bytesLess, Bool.or_eq_true, decide_eq_true_eq, Bool.and_eq_true, beq_iff_eq, Bool.or_eq_false_iff, decide_eq_false_iff_not, Bool.and_eq_false_iff, beq_eq_false_iff_ne] at h ⊢
    rcases h with h | ⟨h1, h2⟩
    · exact ⟨UInt8.not_lt.2 (UInt8.le_of_lt h), .inl fun e => by subst e; exact UInt8.lt_irrefl _ h⟩
    · subst h1
      exact ⟨UInt8.lt_irrefl _, .inr (ih h2)⟩
theorem less_trans : ∀ a b c : List UInt8, Op.bytesLess a b = true → Op.bytesLess b c = true → Op.bytesLess a c = true
  | [], [], c, h, h2 => by simp [Op.bytesLess] at h
  | [], y :: b, [], h, h2 => by simp [Op.bytesLess] at h2
  | [], y :: b, z :: c, h, h2 => by simp [Op.bytesLess]
  | x :: a, [], c, h, h2 => by simp [Op.bytesLess] at h
  | x :: a, y :: b, [], h, h2 => by simp [Op.bytesLess] at h2
  | x :: a, y :: b, z :: c, h, h2 => by
    have ih := less_trans a b c
    simp only [Op.bytesLess, Bool.or_eq_true, decide_eq_true_eq, Bool.and_eq_true, beq_iff_eq] at h h2 ⊢
    rcases h with h | ⟨h1, h⟩
    · rcases h2 with h2 | ⟨h3, h2⟩
      · exact .inl (UInt8.lt_trans h h2)
      · subst h3; exact .inl h
    · subst h1
      rcases h2 with h2 | ⟨h3, h2⟩
      · exact .inl h2
      · subst h3; exact .inr ⟨rfl, ih h h2⟩
theorem less_total : ∀ a b : List UInt8, Op.bytesLess a b = false → Op.bytesLess b a = false → a = b
  | [], [], _, _ => rfl
  | [], y :: b, h, _ => by simp [Op.bytesLess] at h
  | x :: a, [], _, h => by simp [Op.bytesLess] at h
  | x :: a, y :: b, h, h2 => by
    have ih := less_total a b
    simp only [Op.bytesLess, Bool.or_eq_false_iff, decide_eq_false_iff_not, Bool.and_eq_false_iff, beq_eq_false_iff_ne] at h h2
    have e : x = y := UInt8.le_antisymm (UInt8.not_lt.1 h2.1) (UInt8.not_lt.1 h.1)
    subst e
    rw [ih (by rcases h.2 with q | q; exact absurd rfl q; exact q) (by rcases h2.2 with q | q; exact absurd rfl q; exact q)]
/-- Is a string less than another one? -/
def sl' (a b : ByteArray) : Bool := Op.bytesLess a.toList b.toList
theorem cs_of (a b : ByteArray) : cs a b = if sl' a b = true then -1 else if sl' b a = true then 1 else 0 := by
  unfold cs sl'
  by_cases h : Op.bytesLess a.toList b.toList = true
  · rw [if_pos h, if_pos h]
  · rw [if_neg h, if_neg h]
    have h : Op.bytesLess a.toList b.toList = false := by simpa using h
    by_cases h2 : Op.bytesLess b.toList a.toList = true
    · rw [if_pos h2]
      have : ¬ a = b := fun e => by subst e; rw [h2] at h; cases h
      rw [if_pos (by simp [h, this])]
    · have h2 : Op.bytesLess b.toList a.toList = false := by simpa using h2
      have e := toList_inj (less_total _ _ h h2)
      subst e
      simp [h]
theorem cs_anti (a b : ByteArray) : cs b a = - cs a b := by
  rw [cs_of, cs_of]
  by_cases h : sl' a b = true
  · have := less_asymm _ _ h
    have h2 : sl' b a = false := this
    simp [h, h2]
  · by_cases h2 : sl' b a = true <;> simp [h, h2]
theorem cmpL_anti : ∀ (l l' : List Val), (∀ x ∈ l, ∀ y, cmpV y x = - cmpV x y) → ∀ (k k' : List ByteArray) (n m : Nat), cmpL l' l k' k m n = - cmpL l l' k k' n m
  | [], [], _, k, k', n, m => by rw [cmpL, cmpL]; exact ci_anti _ _
  | [], y :: r, _, k, k', n, m => by rw [cmpL, cmpL]; exact ci_anti _ _
  | x :: r, [], _, k, k', n, m => by rw [cmpL, cmpL]; exact ci_anti _ _
  | x :: r, y :: r', h, k, k', n, m => by
    rw [cmpL, cmpL, cs_anti, h x (by simp) y, cmpL_anti r r' (fun x hx => h x (by simp [hx]))]
    grind
theorem cmpV_anti (a b : Val) : cmpV b a = - cmpV a b := by
  have := Val.ind (Q := fun a => ∀ b, cmpV b a = - cmpV a b) (fun a ih b => by
    rw [cmpV_eq, cmpV_eq a b, ci_anti a.k, ci_anti a.n, cs_anti a.s, cmpL_anti a.items b.items ih]
    grind) a
  exact this b
end Go.Proofs.Ytjalbhlahfgogaa
