/-
  The order of values; the laws of chapter 2 but for sorting. Conditions: none.
-/
import Derived.Test.YtaeablbcfkamjaaVbD
namespace Go.Proofs.Ytaeablbcfkamjaa
open Go.Eng
set_option linter.unusedVariables false
set_option linter.unusedSimpArgs false
set_option maxRecDepth 20000
/-- Three comparisons that fit together. -/
def Tri (x y z : Int) : Prop := (x ≤ 0 ∧ y ≤ 0 → z ≤ 0 ∧ (z = 0 → x = 0 ∧ y = 0)) ∧ (0 ≤ x ∧ 0 ≤ y → 0 ≤ z ∧ (z = 0 → x = 0 ∧ y = 0))
theorem Tri.lex {x y z x' y' z' : Int} (h : Tri x y z) (h' : Tri x' y' z') : Tri (if x ≠ 0 then x else x') (if y ≠ 0 then y else y') (if z ≠ 0 then z else z') := by
  unfold Tri at *
  split <;> split <;> split <;> omega
theorem ci_tri (a b c : Int) : Tri (ci a b) (ci b c) (ci a c) := by
  unfold Tri ci
  grind
theorem ci_anti (a b : Int) : ci b a = - ci a b := by
  unfold ci
  grind
theorem less_asymm : ∀ a b : List UInt8, Op.bytesLess a b = true → Op.bytesLess b a = false
  | [], [], h => by simp [Op.bytesLess] at h
  | [], y :: b, h => by simp [Op.bytesLess]
  | x :: a, [], h => by simp [Op.bytesLess] at h
  | x :: a, y :: b, h => by
    have ih := less_asymm a b
    simp only [Op.bytesLess, Bool.or_eq_true, decide_eq_true_eq, Bool.and_eq_true, beq_iff_eq, Bool.or_eq_false_iff, decide_eq_false_iff_not, Bool.and_eq_false_iff, beq_eq_false_iff_ne] at h ⊢
    rcases h with h | ⟨h1, h2⟩
    · exact ⟨UInt8.not_lt.2 (UInt8.le_of_lt h), .inl fun e => by subst e; exact UInt8.lt_irrefl _ h⟩
    · subst h1
      exact ⟨UInt8.lt_irrefl _, .inr (ih h2)⟩
theorem less_trans : ∀ a b c : List UInt8, Op.bytesLess a b = true → Op.bytesLess b c = true → Op.bytesLess a c = true
  | [], [], c, h, h2 => by simp [Op.bytesLess] at h
  | [], y :: b, [], h, h2 => by simp [Op.bytesLess] at h2
  | [], y :: b, z :: c, h, h2 => by simp [Op.bytesLess]
  | x :: a, [], c, h, h2 => by simp [Op.bytesLess] at h
  | x :: a, y :: b, [], h, h2 => by simp [Op.bytesLess] at h2
  | x :: a, y :: b, z :: c, h, h2 => by
    have ih := less_trans a b c
    simp only [Op.bytesLess, Bool.or_eq_true, decide_eq_true_eq, Bool.and_eq_true, beq_iff_eq] at h h2 ⊢
    rcases h with h | ⟨h1, h⟩
    · rcases h2 with h2 | ⟨h3, h2⟩
      · exact .inl (UInt8.lt_trans h h2)
      · subst h3; exact .inl h
    · subst h1
      rcases h2 with h2 | ⟨h3, h2⟩
      · exact .inl h2
      · subst h3; exact .inr ⟨rfl, ih h h2⟩
theorem less_total : ∀ a b : List UInt8, Op.bytesLess a b = false → Op.bytesLess b a = false → a = b
  | [], [], _, _ => rfl
  | [], y :: b, h, _ => by simp [Op.bytesLess] at h
  | x :: a, [], _, h => by simp [Op.bytesLess] at h
  | x :: a, y :: b, h, h2 => by
    have ih := less_total a b
    simp only [Op.bytesLess, Bool.or_eq_false_iff, decide_eq_false_iff_not, Bool.and_eq_false_iff, beq_eq_false_iff_ne] at h h2
    have e : x = y := UInt8.le_antisymm (UInt8.not_lt.1 h2.1) (UInt8.not_lt.1 h.1)
    subst e
    rw [ih (by rcases h.2 with q | q; exact absurd rfl q; exact q) (by rcases h2.2 with q | q; exact absurd rfl q; exact q)]
/-- Is a string less than another one? -/
def sl' (a b : ByteArray) : Bool := Op.bytesLess a.toList b.toList
theorem cs_of (a b : ByteArray) : cs a b = if sl' a b = true then -1 else if sl' b a = true then 1 else 0 := by
  unfold cs sl'
  by_cases h : Op.bytesLess a.toList b.toList = true
  · rw [if_pos h, if_pos h]
  · rw [if_neg h, if_neg h]
    have h : Op.bytesLess a.toList b.toList = false := by simpa using h
    by_cases h2 : Op.bytesLess b.toList a.toList = true
    · rw [if_pos h2]
      have : ¬ a = b := fun e => by subst e; rw [h2] at h; cases h
      rw [if_pos (by simp [h, this])]
    · have h2 : Op.bytesLess b.toList a.toList = false := by simpa using h2
      have e := toList_inj (less_total _ _ h h2)
      subst e
      simp [h]
theorem cs_anti (a b : ByteArray) : cs b a = - cs a b := by
  rw [cs_of, cs_of]
  by_cases h : sl' a b = true
  · have := less_asymm _ _ h
    have h2 : sl' b a = false := this
    simp [h, h2]
  · by_cases h2 : sl' b a = true <;> simp [h, h2]
theorem cs_tri (a b c : ByteArray) : Tri (cs a b) (cs b c) (cs a c) := by
  rw [cs_of, cs_of, cs_of]
  have t1 := less_trans a.toList b.toList c.toList
  have t2 := less_trans c.toList b.toList a.toList
  have t3 := less_trans a.toList c.toList b.toList
  have t4 := less_trans b.toList c.toList a.toList
  have t5 := less_trans b.toList a.toList c.toList
  have t6 := less_trans c.toList a.toList b.toList
  have a1 := less_asymm a.toList b.toList
  have a2 := less_asymm b.toList c.toList
  have a3 := less_asymm a.toList c.toList
  unfold Tri sl'
  have u1 := less_total a.toList b.toList
  have u2 := less_total b.toList c.toList
  have u3 := less_total a.toList c.toList
  cases h1 : Op.bytesLess a.toList b.toList <;> cases h2 : Op.bytesLess b.toList c.toList <;> cases h3 : Op.bytesLess a.toList c.toList <;>
    cases h4 : Op.bytesLess b.toList a.toList <;> cases h5 : Op.bytesLess c.toList b.toList <;> cases h6 : Op.bytesLess c.toList a.toList <;> simp_all
theorem cmpL_anti : ∀ (l l' : List Val), (∀ x ∈ l, ∀ y, cmpV y x = - cmpV x y) → ∀ (k k' : List ByteArray) (n m : Nat), cmpL l' l k' k m n = - cmpL l l' k k' n m
  | [], [], _, k, k', n, m => by rw [cmpL, cmpL]; exact ci_anti _ _
  | [], y :: r, _, k, k', n, m => by rw [cmpL, cmpL]; exact ci_anti _ _
  | x :: r, [], _, k, k', n, m => by rw [cmpL, cmpL]; exact ci_anti _ _
  | x :: r, y :: r', h, k, k', n, m => by
    rw [cmpL, cmpL, cs_anti, h x (by simp) y, cmpL_anti r r' (fun x hx => h x (by simp [hx]))]
    grind
theorem cmpV_anti (a b : Val) : cmpV b a = - cmpV a b := by
  have := Val.ind (Q := fun a => ∀ b, cmpV b a = - cmpV a b) (fun a ih b => by
    rw [cmpV_eq, cmpV_eq a b, ci_anti a.k, ci_anti a.n, cs_anti a.s, cmpL_anti a.items b.items ih]
    grind) a
  exact this b
theorem cmpL_tri : ∀ (l1 l2 l3 : List Val), (∀ x ∈ l1, ∀ y z, Tri (cmpV x y) (cmpV y z) (cmpV x z)) → ∀ (k1 k2 k3 : List ByteArray) (n1 n2 n3 j : Nat), n1 = j + l1.length → n2 = j + l2.length → n3 = j + l3.length →
    Tri (cmpL l1 l2 k1 k2 n1 n2) (cmpL l2 l3 k2 k3 n2 n3) (cmpL l1 l3 k1 k3 n1 n3)
  | [], [], l3, _, k1, k2, k3, n1, n2, n3, j, e1, e2, e3 => by
    have : n1 = n2 := by simp at e1 e2; omega
    subst this
    rw [cmpL, cmpL, cmpL]
    exact ci_tri _ _ _
  | [], y :: l2, [], _, k1, k2, k3, n1, n2, n3, j, e1, e2, e3 => by
    rw [cmpL, cmpL, cmpL]
    exact ci_tri _ _ _
  | [], y :: l2, z :: l3, _, k1, k2, k3, n1, n2, n3, j, e1, e2, e3 => by
    simp only [List.length_nil, List.length_cons] at e1 e2 e3
    have h1 : ci n1 n2 = -1 := by unfold ci; rw [if_pos (by omega)]
    have h2 : ci n1 n3 = -1 := by unfold ci; rw [if_pos (by omega)]
    rw [show cmpL [] (y :: l2) k1 k2 n1 n2 = ci n1 n2 by rw [cmpL], show cmpL [] (z :: l3) k1 k3 n1 n3 = ci n1 n3 by rw [cmpL], h1, h2]
    unfold Tri
    omega
  | x :: l1, [], [], _, k1, k2, k3, n1, n2, n3, j, e1, e2, e3 => by
    rw [cmpL, cmpL, cmpL]
    exact ci_tri _ _ _
  | x :: l1, [], z :: l3, _, k1, k2, k3, n1, n2, n3, j, e1, e2, e3 => by
    simp only [List.length_nil, List.length_cons] at e1 e2 e3
    have h1 : ci n1 n2 = 1 := by unfold ci; rw [if_neg (by omega), if_pos (by omega)]
    have h2 : ci n2 n3 = -1 := by unfold ci; rw [if_pos (by omega)]
    rw [show cmpL (x :: l1) [] k1 k2 n1 n2 = ci n1 n2 by rw [cmpL], show cmpL [] (z :: l3) k2 k3 n2 n3 = ci n2 n3 by rw [cmpL], h1, h2]
    unfold Tri
    omega
  | x :: l1, y :: l2, [], _, k1, k2, k3, n1, n2, n3, j, e1, e2, e3 => by
    simp only [List.length_nil, List.length_cons] at e1 e2 e3
    have h1 : ci n2 n3 = 1 := by unfold ci; rw [if_neg (by omega), if_pos (by omega)]
    have h2 : ci n1 n3 = 1 := by unfold ci; rw [if_neg (by omega), if_pos (by omega)]
    rw [show cmpL (y :: l2) [] k2 k3 n2 n3 = ci n2 n3 by rw [cmpL], show cmpL (x :: l1) [] k1 k3 n1 n3 = ci n1 n3 by rw [cmpL], h1, h2]
    unfold Tri
    omega
  | x :: l1, y :: l2, z :: l3, h, k1, k2, k3, n1, n2, n3, j, e1, e2, e3 => by
    simp only [List.length_cons] at e1 e2 e3
    have ih := cmpL_tri l1 l2 l3 (fun x hx => h x (by simp [hx])) k1.tail k2.tail k3.tail n1 n2 n3 (j + 1) (by omega) (by omega) (by omega)
    rw [cmpL, cmpL, cmpL]
    exact (cs_tri _ _ _).lex ((h x (by simp) y z).lex ih)
theorem cmpV_tri (a b c : Val) : Tri (cmpV a b) (cmpV b c) (cmpV a c) := by
  have := Val.ind (Q := fun a => ∀ b c, Tri (cmpV a b) (cmpV b c) (cmpV a c)) (fun a ih b c => by
    rw [cmpV_eq a b, cmpV_eq b c, cmpV_eq a c]
    exact (ci_tri _ _ _).lex ((ci_tri _ _ _).lex ((cs_tri _ _ _).lex (cmpL_tri a.items b.items c.items ih _ _ _ _ _ _ 0 (by omega) (by omega) (by omega))))) a
  exact this b c
theorem cmpV_order (a b c : Val) : (decide (0 < cmpV a b) || decide (0 < cmpV b c) || decide (cmpV a c ≤ 0)) = true ∧ (decide (cmpV a b < 0) || decide (cmpV b c < 0) || decide (0 ≤ cmpV a c)) = true := by
  have h := cmpV_tri a b c
  unfold Tri at h
  simp only [Bool.or_eq_true, decide_eq_true_eq]
  omega
theorem ci_range (a b : Int) : ci a b = -1 ∨ ci a b = 0 ∨ ci a b = 1 := by unfold ci; grind
theorem cs_range (a b : ByteArray) : cs a b = -1 ∨ cs a b = 0 ∨ cs a b = 1 := by unfold cs; grind
theorem cmpL_range : ∀ (l l' : List Val), (∀ x ∈ l, ∀ y, cmpV x y = -1 ∨ cmpV x y = 0 ∨ cmpV x y = 1) → ∀ (k k' : List ByteArray) (n m : Nat), cmpL l l' k k' n m = -1 ∨ cmpL l l' k k' n m = 0 ∨ cmpL l l' k k' n m = 1
  | [], _, _, k, k', n, m => by rw [cmpL]; exact ci_range _ _
  | x :: r, [], _, k, k', n, m => by rw [cmpL]; exact ci_range _ _
  | x :: r, y :: r', h, k, k', n, m => by
    have h1 := cs_range (k.headD ⟨#[]⟩) (k'.headD ⟨#[]⟩)
    have h2 := h x (by simp) y
    have h3 := cmpL_range r r' (fun x hx => h x (by simp [hx])) k.tail k'.tail n m
    rw [cmpL]
    split
    · exact h1
    · split
      · exact h2
      · exact h3
theorem cmpV_range (a b : Val) : cmpV a b = -1 ∨ cmpV a b = 0 ∨ cmpV a b = 1 := by
  have := Val.ind (Q := fun a => ∀ b, cmpV a b = -1 ∨ cmpV a b = 0 ∨ cmpV a b = 1) (fun a ih b => by
    have h1 := ci_range a.k b.k
    have h2 := ci_range a.n b.n
    have h3 := cs_range a.s b.s
    have h4 := cmpL_range a.items b.items ih a.keys b.keys a.items.length b.items.length
    rw [cmpV_eq]
    split
    · exact h1
    · split
      · exact h2
      · split
        · exact h3
        · exact h4) a
  exact this b
theorem lawRight (v : Val) (hv : v.Fit) (hp : CH) (m : Nat) : MeetsF Try.prog 3 hp m [vx v] (.b true) := by
  refine meetsF Try.func3 (by kernel_rfl) cc3 cr3 rfl fun hf => ?_; unfold ck3
  simp only [go_sem, ↓reduceIte, Nat.reduceEqDiff, Nat.reduceBEq, Nat.reduceAdd, Nat.reduceLeDiff, Nat.reduceLT, reduceCtorEq, Nat.reduceMul, Nat.reduceSub, Int.reduceEq, Int.reduceLT, Int.reduceLE, Int.reduceToNat]
  refine vcCall.f (count_ok v hv _ _ _ _) ?_
  simp only [go_sem, ↓reduceIte, Nat.reduceEqDiff, Nat.reduceBEq, Nat.reduceAdd, Nat.reduceLeDiff, Nat.reduceLT, reduceCtorEq, Nat.reduceMul, Nat.reduceSub, Int.reduceEq, Int.reduceLT, Int.reduceLE, Int.reduceToNat]
  refine cdK_of (fun c => ?_) (fun c => ?_)
  · simp only [go_sem, ↓reduceIte, Nat.reduceEqDiff, Nat.reduceBEq, Nat.reduceAdd, Nat.reduceLeDiff, Nat.reduceLT, reduceCtorEq, Nat.reduceMul, Nat.reduceSub, Int.reduceEq, Int.reduceLT, Int.reduceLE, Int.reduceToNat]
    refine vcCall.f (knows_ok _ _) ?_
    simp only [go_sem, ↓reduceIte, Nat.reduceEqDiff, Nat.reduceBEq, Nat.reduceAdd, Nat.reduceLeDiff, Nat.reduceLT, reduceCtorEq, Nat.reduceMul, Nat.reduceSub, Int.reduceEq, Int.reduceLT, Int.reduceLE, Int.reduceToNat]
  · simp only [go_sem, ↓reduceIte, Nat.reduceEqDiff, Nat.reduceBEq, Nat.reduceAdd, Nat.reduceLeDiff, Nat.reduceLT, reduceCtorEq, Nat.reduceMul, Nat.reduceSub, Int.reduceEq, Int.reduceLT, Int.reduceLE, Int.reduceToNat]
    first | refine dCallR.f (fun _ _ _ => vRight_ok v hv _ _) ?_ | refine dCall.f (fun _ _ _ => vRight_ok v hv _ _) ?_
    simp only [go_sem, ↓reduceIte, Nat.reduceEqDiff, Nat.reduceBEq, Nat.reduceAdd, Nat.reduceLeDiff, Nat.reduceLT, reduceCtorEq, Nat.reduceMul, Nat.reduceSub, Int.reduceEq, Int.reduceLT, Int.reduceLE, Int.reduceToNat]
    first | refine dCallR.f (fun _ _ _ => rRight_ok v hv _ _) ?_ | refine dCall.f (fun _ _ _ => rRight_ok v hv _ _) ?_
    simp only [go_sem, ↓reduceIte, Nat.reduceEqDiff, Nat.reduceBEq, Nat.reduceAdd, Nat.reduceLeDiff, Nat.reduceLT, reduceCtorEq, Nat.reduceMul, Nat.reduceSub, Int.reduceEq, Int.reduceLT, Int.reduceLE, Int.reduceToNat]
    simp only [beq_self_eq_true, go_sem, ↓reduceIte, Nat.reduceEqDiff, Nat.reduceBEq, Nat.reduceAdd, Nat.reduceLeDiff, Nat.reduceLT, reduceCtorEq, Nat.reduceMul, Nat.reduceSub, Int.reduceEq, Int.reduceLT, Int.reduceLE, Int.reduceToNat]
    first | refine dCallR.f (fun _ _ _ => vLiteral_ok v hv _ _) ?_ | refine dCall.f (fun _ _ _ => vLiteral_ok v hv _ _) ?_
    simp only [go_sem, ↓reduceIte, Nat.reduceEqDiff, Nat.reduceBEq, Nat.reduceAdd, Nat.reduceLeDiff, Nat.reduceLT, reduceCtorEq, Nat.reduceMul, Nat.reduceSub, Int.reduceEq, Int.reduceLT, Int.reduceLE, Int.reduceToNat]
    first | refine dCallR.f (fun _ _ _ => rLiteral_ok v hv _ _) ?_ | refine dCall.f (fun _ _ _ => rLiteral_ok v hv _ _) ?_
    simp only [go_sem, ↓reduceIte, Nat.reduceEqDiff, Nat.reduceBEq, Nat.reduceAdd, Nat.reduceLeDiff, Nat.reduceLT, reduceCtorEq, Nat.reduceMul, Nat.reduceSub, Int.reduceEq, Int.reduceLT, Int.reduceLE, Int.reduceToNat]
    simp only [beq_self_eq_true, go_sem, ↓reduceIte, Nat.reduceEqDiff, Nat.reduceBEq, Nat.reduceAdd, Nat.reduceLeDiff, Nat.reduceLT, reduceCtorEq, Nat.reduceMul, Nat.reduceSub, Int.reduceEq, Int.reduceLT, Int.reduceLE, Int.reduceToNat]
    first | refine dCallR.f (fun _ _ _ => knows_ok _ _) ?_ | refine dCall.f (fun _ _ _ => knows_ok _ _) ?_
    simp only [go_sem, ↓reduceIte, Nat.reduceEqDiff, Nat.reduceBEq, Nat.reduceAdd, Nat.reduceLeDiff, Nat.reduceLT, reduceCtorEq, Nat.reduceMul, Nat.reduceSub, Int.reduceEq, Int.reduceLT, Int.reduceLE, Int.reduceToNat]
theorem szL_pos : ∀ (l : List Val) (n : Int), szL l n = szL l n := fun _ _ => rfl
theorem sz_li (v : Val) : szV (liV [v]) = IntKind.i64.wrap (szV v + 1) := by
  rw [szV_eq, liV, Val.items_mk, szL, szL, Int.add_comm]
theorem dpL_le : ∀ (l : List Val) (n : Int) (B : Int), n ≤ B → (∀ x ∈ l, dpV x ≤ B) → n ≤ dpL l n ∧ dpL l n ≤ B
  | [], n, B, h, _ => by rw [dpL]; omega
  | x :: r, n, B, h, hx => by
    have h1 := hx x (by simp)
    have ih := dpL_le r (if n < dpV x then dpV x else n) B (by split <;> omega) (fun y hy => hx y (by simp [hy]))
    have h2 : n ≤ (if n < dpV x then dpV x else n) := by split <;> omega
    rw [dpL]
    omega
theorem dpV_bound (v : Val) (h : wtV v ≤ 1000000000000) : 1 ≤ dpV v ∧ dpV v ≤ wtV v := by
  have := Val.ind (Q := fun v => wtV v ≤ 1000000000000 → 1 ≤ dpV v ∧ dpV v ≤ wtV v) (fun v ih h => by
    have hb := dpL_le v.items 0 (wtV v - 1 : Int) (by have := wtV_pos v; omega) (fun x hx => by
      have h1 := wtL_mem hx
      have h2 := wtV_eq v
      have := ih x hx (by omega)
      omega)
    rw [dpV_eq, wr64 (by omega)]
    omega) v
  exact this h
theorem dp_li (v : Val) (h : wtV v ≤ 1000000000000) : dpV (liV [v]) = IntKind.i64.wrap (dpV v + 1) := by
  have := dpV_bound v h
  rw [dpV_eq, liV, Val.items_mk, dpL, dpL, if_pos (by omega)]
theorem lawMeasure (v : Val) (hv : v.Fit) (hw : wtV v ≤ 1000000000000) (hp : CH) (m : Nat) : MeetsF Try.prog 4 hp m [vx v] (.b true) := by
  have hlf : (liV [v]).Fit := li_fit (by simp) (by simpa using hv)
  have h1 := vsize_ok (liV [v]) hlf
  rw [sz_li] at h1
  have h2 := vdepth_ok (liV [v]) hlf
  rw [dp_li v hw] at h2
  refine meetsF Try.func4 (by kernel_rfl) cc4 cr4 rfl fun hf => ?_; unfold ck4
  simp only [go_sem, ↓reduceIte, Nat.reduceEqDiff, Nat.reduceBEq, Nat.reduceAdd, Nat.reduceLeDiff, Nat.reduceLT, reduceCtorEq, Nat.reduceMul, Nat.reduceSub, Int.reduceEq, Int.reduceLT, Int.reduceLE, Int.reduceToNat]
  refine vcCall.f (few_ok v hv _ _) ?_
  simp only [go_sem, ↓reduceIte, Nat.reduceEqDiff, Nat.reduceBEq, Nat.reduceAdd, Nat.reduceLeDiff, Nat.reduceLT, reduceCtorEq, Nat.reduceMul, Nat.reduceSub, Int.reduceEq, Int.reduceLT, Int.reduceLE, Int.reduceToNat]
  refine cdK_of (fun c => ?_) (fun c => ?_)
  · simp only [go_sem, ↓reduceIte, Nat.reduceEqDiff, Nat.reduceBEq, Nat.reduceAdd, Nat.reduceLeDiff, Nat.reduceLT, reduceCtorEq, Nat.reduceMul, Nat.reduceSub, Int.reduceEq, Int.reduceLT, Int.reduceLE, Int.reduceToNat]
    refine vcCall.f (knows_ok _ _) ?_
    simp only [go_sem, ↓reduceIte, Nat.reduceEqDiff, Nat.reduceBEq, Nat.reduceAdd, Nat.reduceLeDiff, Nat.reduceLT, reduceCtorEq, Nat.reduceMul, Nat.reduceSub, Int.reduceEq, Int.reduceLT, Int.reduceLE, Int.reduceToNat]
  · simp only [go_sem, ↓reduceIte, Nat.reduceEqDiff, Nat.reduceBEq, Nat.reduceAdd, Nat.reduceLeDiff, Nat.reduceLT, reduceCtorEq, Nat.reduceMul, Nat.reduceSub, Int.reduceEq, Int.reduceLT, Int.reduceLE, Int.reduceToNat]
    refine vcCall.f (vList_w [v] (by simp) (by simpa using hv) _ _ 1 rfl _ _ ?_) ?_
    · simp only [go_sem, ↓reduceIte, Nat.reduceEqDiff, Nat.reduceBEq, Nat.reduceAdd, Nat.reduceLeDiff, Nat.reduceLT, reduceCtorEq, Nat.reduceMul, Nat.reduceSub, Int.reduceEq, Int.reduceLT, Int.reduceLE, Int.reduceToNat]
    simp only [go_sem, ↓reduceIte, Nat.reduceEqDiff, Nat.reduceBEq, Nat.reduceAdd, Nat.reduceLeDiff, Nat.reduceLT, reduceCtorEq, Nat.reduceMul, Nat.reduceSub, Int.reduceEq, Int.reduceLT, Int.reduceLE, Int.reduceToNat]
    first | refine dCallR.f (fun _ _ _ => vsize_ok v hv _ _) ?_ | refine dCall.f (fun _ _ _ => vsize_ok v hv _ _) ?_
    simp only [go_sem, ↓reduceIte, Nat.reduceEqDiff, Nat.reduceBEq, Nat.reduceAdd, Nat.reduceLeDiff, Nat.reduceLT, reduceCtorEq, Nat.reduceMul, Nat.reduceSub, Int.reduceEq, Int.reduceLT, Int.reduceLE, Int.reduceToNat]
    first | refine dCallR.f (fun _ _ _ => size_ok v hv _ _) ?_ | refine dCall.f (fun _ _ _ => size_ok v hv _ _) ?_
    simp only [go_sem, ↓reduceIte, Nat.reduceEqDiff, Nat.reduceBEq, Nat.reduceAdd, Nat.reduceLeDiff, Nat.reduceLT, reduceCtorEq, Nat.reduceMul, Nat.reduceSub, Int.reduceEq, Int.reduceLT, Int.reduceLE, Int.reduceToNat]
    first | refine dCallR.f (fun _ _ _ => vdepth_ok v hv _ _) ?_ | refine dCall.f (fun _ _ _ => vdepth_ok v hv _ _) ?_
    simp only [go_sem, ↓reduceIte, Nat.reduceEqDiff, Nat.reduceBEq, Nat.reduceAdd, Nat.reduceLeDiff, Nat.reduceLT, reduceCtorEq, Nat.reduceMul, Nat.reduceSub, Int.reduceEq, Int.reduceLT, Int.reduceLE, Int.reduceToNat]
    first | refine dCallR.f (fun _ _ _ => rdepth_ok v hv _ _) ?_ | refine dCall.f (fun _ _ _ => rdepth_ok v hv _ _) ?_
    simp only [go_sem, ↓reduceIte, Nat.reduceEqDiff, Nat.reduceBEq, Nat.reduceAdd, Nat.reduceLeDiff, Nat.reduceLT, reduceCtorEq, Nat.reduceMul, Nat.reduceSub, Int.reduceEq, Int.reduceLT, Int.reduceLE, Int.reduceToNat]
    first | refine dCallR.f (fun _ _ _ => h1 _ _) ?_ | refine dCall.f (fun _ _ _ => h1 _ _) ?_
    simp only [go_sem, ↓reduceIte, Nat.reduceEqDiff, Nat.reduceBEq, Nat.reduceAdd, Nat.reduceLeDiff, Nat.reduceLT, reduceCtorEq, Nat.reduceMul, Nat.reduceSub, Int.reduceEq, Int.reduceLT, Int.reduceLE, Int.reduceToNat]
    first | refine dCallR.f (fun _ _ _ => vsize_ok v hv _ _) ?_ | refine dCall.f (fun _ _ _ => vsize_ok v hv _ _) ?_
    simp only [go_sem, ↓reduceIte, Nat.reduceEqDiff, Nat.reduceBEq, Nat.reduceAdd, Nat.reduceLeDiff, Nat.reduceLT, reduceCtorEq, Nat.reduceMul, Nat.reduceSub, Int.reduceEq, Int.reduceLT, Int.reduceLE, Int.reduceToNat]
    first | refine dCallR.f (fun _ _ _ => h2 _ _) ?_ | refine dCall.f (fun _ _ _ => h2 _ _) ?_
    simp only [go_sem, ↓reduceIte, Nat.reduceEqDiff, Nat.reduceBEq, Nat.reduceAdd, Nat.reduceLeDiff, Nat.reduceLT, reduceCtorEq, Nat.reduceMul, Nat.reduceSub, Int.reduceEq, Int.reduceLT, Int.reduceLE, Int.reduceToNat]
    first | refine dCallR.f (fun _ _ _ => vdepth_ok v hv _ _) ?_ | refine dCall.f (fun _ _ _ => vdepth_ok v hv _ _) ?_
    simp only [go_sem, ↓reduceIte, Nat.reduceEqDiff, Nat.reduceBEq, Nat.reduceAdd, Nat.reduceLeDiff, Nat.reduceLT, reduceCtorEq, Nat.reduceMul, Nat.reduceSub, Int.reduceEq, Int.reduceLT, Int.reduceLE, Int.reduceToNat]
    first | refine dCallR.f (fun _ _ _ => knows_ok _ _) ?_ | refine dCall.f (fun _ _ _ => knows_ok _ _) ?_
    simp only [go_sem, ↓reduceIte, Nat.reduceEqDiff, Nat.reduceBEq, Nat.reduceAdd, Nat.reduceLeDiff, Nat.reduceLT, reduceCtorEq, Nat.reduceMul, Nat.reduceSub, Int.reduceEq, Int.reduceLT, Int.reduceLE, Int.reduceToNat]
end Go.Proofs.Ytaeablbcfkamjaa
