/-
  The parts VaK of the proof, in one file. Conditions: none.
-/
import Derived.Test.YtaeablbcfkamjaaVt35
namespace Go.Proofs.Ytaeablbcfkamjaa
open Go.Eng
set_option linter.unusedVariables false
set_option linter.unusedSimpArgs false
set_option maxRecDepth 20000
theorem cmpB_eq : ∀ a b : List UInt8, Lib.compareBytes a b = if Op.bytesLess a b = true then -1 else if (!(Op.bytesLess a b || decide (a = b))) = true then 1 else 0
  | [], [] => rfl
  | [], _ :: _ => by simp [Lib.compareBytes, Op.bytesLess]
  | _ :: _, [] => by simp [Lib.compareBytes, Op.bytesLess]
  | x :: a, y :: b => by
    have ih := cmpB_eq a b
    rw [Lib.compareBytes, Op.bytesLess]
    by_cases h : x < y
    · simp [h]
    · by_cases h2 : y < x
      · have h3 : ¬ x = y := fun e => by subst e; exact UInt8.lt_irrefl _ h2
        simp [h, h2, h3]
      · have h3 : x = y := UInt8.le_antisymm (UInt8.not_lt.1 h2) (UInt8.not_lt.1 h)
        subst h3
        simp only [h, decide_false, Bool.false_or, beq_self_eq_true, Bool.true_and, if_false]
        rw [ih]
        simp
theorem cmpS_eq (a b : ByteArray) : Lib.compareBytes a.data.toList b.data.toList = cs a b := by
  have e : decide (a.data.toList = b.data.toList) = decide (a = b) := by
    congr 1
    exact propext ⟨fun h => ByteArray.ext (Array.ext' h), fun h => by rw [h]⟩
  rw [cmpB_eq, cs, ByteArray.toList_eq, ByteArray.toList_eq, e]
theorem cmpString_ok (a b : ByteArray) (hp : CH) (m : Nat) : MeetsF Try.prog 66 hp m [.s a, .s b] (.i .i64 (cs a b)) := by
  refine ⟨⟨_, Try.func66, by kernel_rfl, by kernel_rfl⟩, fun h ρ w vs hm hr => ?_⟩
  have e : vs = [.string a, .string b] := by
    obtain ⟨hl, hr⟩ := hr
    match vs, hl, hr with
    | [x, y], _, hr =>
      have h1 := (hr 0 (.s a) x rfl rfl).str
      have h2 := (hr 1 (.s b) y rfl rfl).str
      rw [h1, h2]
  subst e
  refine (cmpStr a b w).mono ?_
  rintro e w' ⟨rfl, rfl⟩
  rw [cmpS_eq]
  exact ⟨_, rfl, h, HLe.refl _, hm, .i _ _, Keeps.refl _ _⟩
theorem cmpStrings_ok (a b : ByteArray) (hp : CH) (m : Nat) : MeetsF Try.prog 45 hp m [.s a, .s b] (.i .i64 (cs a b)) := by
  refine meetsF Try.func45 (by kernel_rfl) cc45 cr45 rfl fun hf => ?_; unfold ck45
  simp only [go_sem, ↓reduceIte, Nat.reduceEqDiff, Nat.reduceBEq, Nat.reduceAdd, Nat.reduceLeDiff, Nat.reduceLT, reduceCtorEq, Nat.reduceMul, Nat.reduceSub, Int.reduceEq, Int.reduceLT, Int.reduceLE, Int.reduceToNat]
  refine vcCall.f (cmpString_ok a b _ _) ?_
  simp only [go_sem, ↓reduceIte, Nat.reduceEqDiff, Nat.reduceBEq, Nat.reduceAdd, Nat.reduceLeDiff, Nat.reduceLT, reduceCtorEq, Nat.reduceMul, Nat.reduceSub, Int.reduceEq, Int.reduceLT, Int.reduceLE, Int.reduceToNat]
theorem isNaN_ok (a : Int) (hp : CH) (m : Nat) : MeetsF Try.prog 65 hp m [.i .i64 a] (.b false) := by
  refine meetsF Try.func65 (by kernel_rfl) cc65 cr65 rfl fun hf => ?_; unfold ck65
  simp only [go_sem, ↓reduceIte, Nat.reduceEqDiff, Nat.reduceBEq, Nat.reduceAdd, Nat.reduceLeDiff, Nat.reduceLT, reduceCtorEq, Nat.reduceMul, Nat.reduceSub, Int.reduceEq, Int.reduceLT, Int.reduceLE, Int.reduceToNat]
  try simp
theorem cmpInt_ok (a b : Int) (hp : CH) (m : Nat) : MeetsF Try.prog 44 hp m [.i .i64 a, .i .i64 b] (.i .i64 (ci a b)) := by
  refine meetsF Try.func44 (by kernel_rfl) cc44 cr44 rfl fun hf => ?_; unfold ck44
  simp only [go_sem, ↓reduceIte, Nat.reduceEqDiff, Nat.reduceBEq, Nat.reduceAdd, Nat.reduceLeDiff, Nat.reduceLT, reduceCtorEq, Nat.reduceMul, Nat.reduceSub, Int.reduceEq, Int.reduceLT, Int.reduceLE, Int.reduceToNat]
  refine vcCall.f (isNaN_ok _ _ _) ?_
  simp only [go_sem, ↓reduceIte, Nat.reduceEqDiff, Nat.reduceBEq, Nat.reduceAdd, Nat.reduceLeDiff, Nat.reduceLT, reduceCtorEq, Nat.reduceMul, Nat.reduceSub, Int.reduceEq, Int.reduceLT, Int.reduceLE, Int.reduceToNat]
  refine vcCall.f (isNaN_ok _ _ _) ?_
  simp only [go_sem, ↓reduceIte, Nat.reduceEqDiff, Nat.reduceBEq, Nat.reduceAdd, Nat.reduceLeDiff, Nat.reduceLT, reduceCtorEq, Nat.reduceMul, Nat.reduceSub, Int.reduceEq, Int.reduceLT, Int.reduceLE, Int.reduceToNat]
  repeat' (first
    | ((with_reducible refine cdK_of (fun _ => ?_) (fun _ => ?_)) <;> (try simp only [go_sem, ↓reduceIte, Nat.reduceEqDiff, Nat.reduceBEq, Nat.reduceAdd, Nat.reduceLeDiff, Nat.reduceLT, reduceCtorEq, Nat.reduceMul, Nat.reduceSub, Int.reduceEq, Int.reduceLT, Int.reduceLE, Int.reduceToNat]))
    | ((with_reducible refine grK_of (fun _ => ?_) (fun _ => ?_)) <;> (try simp only [go_sem, ↓reduceIte, Nat.reduceEqDiff, Nat.reduceBEq, Nat.reduceAdd, Nat.reduceLeDiff, Nat.reduceLT, reduceCtorEq, Nat.reduceMul, Nat.reduceSub, Int.reduceEq, Int.reduceLT, Int.reduceLE, Int.reduceToNat]))
    | ((with_reducible refine gCall.s (vcIf_of (fun _ => ?_) (fun _ => ?_))) <;> (try simp only [go_sem, ↓reduceIte, Nat.reduceEqDiff, Nat.reduceBEq, Nat.reduceAdd, Nat.reduceLeDiff, Nat.reduceLT, reduceCtorEq, Nat.reduceMul, Nat.reduceSub, Int.reduceEq, Int.reduceLT, Int.reduceLE, Int.reduceToNat]))
    | ((with_reducible refine getK.m ?_ (fun _ _ => ?_)); rotate_left; try simp only [go_sem, ↓reduceIte, Nat.reduceEqDiff, Nat.reduceBEq, Nat.reduceAdd, Nat.reduceLeDiff, Nat.reduceLT, reduceCtorEq, Nat.reduceMul, Nat.reduceSub, Int.reduceEq, Int.reduceLT, Int.reduceLE, Int.reduceToNat])
    | exact mapC_all (fun _ => rfl)
    | exact mapC_alln (fun _ => ⟨rfl, rfl⟩)
    | with_reducible refine And.intro ?_ ?_)
  all_goals clear hf
  all_goals grind [ci]
theorem vkey_ok (v : Val) (j : Nat) (hp : CH) (m : Nat) : MeetsF Try.prog 46 hp m [vx v, .i .i64 j] (.s ((v.keys.drop j).headD ⟨#[]⟩)) := by
  refine meetsF Try.func46 (by kernel_rfl) cc46 cr46 rfl fun hf => ?_; unfold ck46
  simp only [go_sem, ↓reduceIte, Nat.reduceEqDiff, Nat.reduceBEq, Nat.reduceAdd, Nat.reduceLeDiff, Nat.reduceLT, reduceCtorEq, Nat.reduceMul, Nat.reduceSub, Int.reduceEq, Int.reduceLT, Int.reduceLE, Int.reduceToNat]
  refine cdK_of (fun d => ?_) (fun d => ?_)
  · have d : j < v.keys.length := by simpa using d
    obtain ⟨x, ex⟩ : ∃ x, v.keys[j]? = some x := ⟨v.keys[j], by simp [d]⟩
    simp only [d, getK_s (mapC_get st1 ex), go_sem, ↓reduceIte, Nat.reduceEqDiff, Nat.reduceBEq, Nat.reduceAdd, Nat.reduceLeDiff, Nat.reduceLT, reduceCtorEq, Nat.reduceMul, Nat.reduceSub, Int.reduceEq, Int.reduceLT, Int.reduceLE, Int.reduceToNat]
    rw [drop_at ex]
    rfl
  · have d : v.keys.length ≤ j := by simp at d; omega
    simp only [go_sem, ↓reduceIte, Nat.reduceEqDiff, Nat.reduceBEq, Nat.reduceAdd, Nat.reduceLeDiff, Nat.reduceLT, reduceCtorEq, Nat.reduceMul, Nat.reduceSub, Int.reduceEq, Int.reduceLT, Int.reduceLE, Int.reduceToNat]
    rw [List.drop_eq_nil_of_le d]
    rfl
theorem ci_ne {a b : Int} (h : ¬ a = b) : ci a b ≠ 0 := by unfold ci; split; simp; split; simp; omega
theorem cs_ne {a b : ByteArray} (h : ¬ a = b) : cs a b ≠ 0 := by
  unfold cs
  split
  · simp
  · rename_i h1
    rw [if_pos (by simp [h, h1])]
    simp
theorem vcmp_of (a b : Val) (ha : a.Fit) (hb : b.Fit) (h : ∀ x ∈ a.items, ∀ y ∈ b.items, ∀ hp m, MeetsF Try.prog 22 hp m [vx x, vx y] (.i .i64 (cmpV x y))) (hp : CH) (m : Nat) :
    MeetsF Try.prog 22 hp m [vx a, vx b] (.i .i64 (cmpV a b)) := by
  have h1 := ha.i
  have h2 := hb.i
  have e := cmpV_eq a b
  obtain ⟨R, hR⟩ : ∃ R, cmpV a b = R := ⟨_, rfl⟩
  rw [hR] at e ⊢
  refine meetsF Try.func22 (by kernel_rfl) cc22 cr22 rfl fun hf => ?_; unfold ck22
  simp only [go_sem, ↓reduceIte, Nat.reduceEqDiff, Nat.reduceBEq, Nat.reduceAdd, Nat.reduceLeDiff, Nat.reduceLT, reduceCtorEq, Nat.reduceMul, Nat.reduceSub, Int.reduceEq, Int.reduceLT, Int.reduceLE, Int.reduceToNat]
  refine loop (fun p : Nat × Int × Nat => ⟨[(2, .bx m 0), (3, .bx (m + 1) 0), (5, .i .i64 p.2.1), (7, .i .i64 p.1)], (m + 1, .bx [.i .i64 b.k, .i .i64 b.n, .s b.s, .ds (mapC valC b.items), .ds (stC b.keys)]) :: (m, .bx [.i .i64 a.k, .i .i64 a.n, .s a.s, .ds (mapC valC a.items), .ds (stC a.keys)]) :: hp, p.2.2⟩)
    (fun p => p.1 ≤ 1 ∧ m + 2 ≤ p.2.2 ∧ (p.1 = 1 → p.2.1 = R)) (fun p => 1 - p.1) (0, 0, m + 2) ?_ ?_ (fun ⟨j, c, n⟩ hj => ?_)
  · exact ⟨by simp, by simp, by simp⟩
  · refine weak_ok ?_ (Sub.refl _) (Nat.le_refl _)
    simp only [go_sem, ↓reduceIte, Nat.reduceEqDiff, Nat.reduceBEq, Nat.reduceAdd, Nat.reduceLeDiff, Nat.reduceLT, reduceCtorEq, Nat.reduceMul, Nat.reduceSub, Int.reduceEq, Int.reduceLT, Int.reduceLE, Int.reduceToNat]
  dsimp only at hj
  obtain ⟨hj1, hj2, hj3⟩ := hj
  simp only [go_sem, ↓reduceIte, Nat.reduceEqDiff, Nat.reduceBEq, Nat.reduceAdd, Nat.reduceLeDiff, Nat.reduceLT, reduceCtorEq, Nat.reduceMul, Nat.reduceSub, Int.reduceEq, Int.reduceLT, Int.reduceLE, Int.reduceToNat]
  refine cdK_of (fun d => ?_) (fun d => ?_)
  · have d : j = 0 := by simp at d; omega
    subst d
    simp only [go_sem, ↓reduceIte, Nat.reduceEqDiff, Nat.reduceBEq, Nat.reduceAdd, Nat.reduceLeDiff, Nat.reduceLT, reduceCtorEq, Nat.reduceMul, Nat.reduceSub, Int.reduceEq, Int.reduceLT, Int.reduceLE, Int.reduceToNat]
    refine cdK_of (fun q => ?_) (fun q => ?_)
    · have q : ¬ a.k = b.k := by simpa using q
      rw [if_pos (ci_ne q)] at e
      simp only [go_sem, ↓reduceIte, Nat.reduceEqDiff, Nat.reduceBEq, Nat.reduceAdd, Nat.reduceLeDiff, Nat.reduceLT, reduceCtorEq, Nat.reduceMul, Nat.reduceSub, Int.reduceEq, Int.reduceLT, Int.reduceLE, Int.reduceToNat]
      refine vcCall.f (cmpInt_ok _ _ _ _) ?_
      simp only [go_sem, ↓reduceIte, Nat.reduceEqDiff, Nat.reduceBEq, Nat.reduceAdd, Nat.reduceLeDiff, Nat.reduceLT, reduceCtorEq, Nat.reduceMul, Nat.reduceSub, Int.reduceEq, Int.reduceLT, Int.reduceLE, Int.reduceToNat]
      rw [e]
    have q : a.k = b.k := by simpa using q
    rw [q, ci_refl, if_neg (by simp)] at e
    simp only [go_sem, ↓reduceIte, Nat.reduceEqDiff, Nat.reduceBEq, Nat.reduceAdd, Nat.reduceLeDiff, Nat.reduceLT, reduceCtorEq, Nat.reduceMul, Nat.reduceSub, Int.reduceEq, Int.reduceLT, Int.reduceLE, Int.reduceToNat]
    refine cdK_of (fun q2 => ?_) (fun q2 => ?_)
    · have q2 : ¬ a.n = b.n := by simpa using q2
      rw [if_pos (ci_ne q2)] at e
      simp only [go_sem, ↓reduceIte, Nat.reduceEqDiff, Nat.reduceBEq, Nat.reduceAdd, Nat.reduceLeDiff, Nat.reduceLT, reduceCtorEq, Nat.reduceMul, Nat.reduceSub, Int.reduceEq, Int.reduceLT, Int.reduceLE, Int.reduceToNat]
      refine vcCall.f (cmpInt_ok _ _ _ _) ?_
      simp only [go_sem, ↓reduceIte, Nat.reduceEqDiff, Nat.reduceBEq, Nat.reduceAdd, Nat.reduceLeDiff, Nat.reduceLT, reduceCtorEq, Nat.reduceMul, Nat.reduceSub, Int.reduceEq, Int.reduceLT, Int.reduceLE, Int.reduceToNat]
      rw [e]
    have q2 : a.n = b.n := by simpa using q2
    rw [q2, ci_refl, if_neg (by simp)] at e
    simp only [go_sem, ↓reduceIte, Nat.reduceEqDiff, Nat.reduceBEq, Nat.reduceAdd, Nat.reduceLeDiff, Nat.reduceLT, reduceCtorEq, Nat.reduceMul, Nat.reduceSub, Int.reduceEq, Int.reduceLT, Int.reduceLE, Int.reduceToNat]
    refine cdK_of (fun q3 => ?_) (fun q3 => ?_)
    · have q3 : ¬ a.s = b.s := by simpa using q3
      simp only [go_sem, ↓reduceIte, Nat.reduceEqDiff, Nat.reduceBEq, Nat.reduceAdd, Nat.reduceLeDiff, Nat.reduceLT, reduceCtorEq, Nat.reduceMul, Nat.reduceSub, Int.reduceEq, Int.reduceLT, Int.reduceLE, Int.reduceToNat]
      refine vcCall.f (cmpStrings_ok _ _ _ _) ?_
      simp only [go_sem, ↓reduceIte, Nat.reduceEqDiff, Nat.reduceBEq, Nat.reduceAdd, Nat.reduceLeDiff, Nat.reduceLT, reduceCtorEq, Nat.reduceMul, Nat.reduceSub, Int.reduceEq, Int.reduceLT, Int.reduceLE, Int.reduceToNat]
      rw [if_pos (cs_ne q3)] at e
      rw [e]
    have q3 : a.s = b.s := by simpa using q3
    rw [q3, cs_refl, if_neg (by simp)] at e
    simp only [go_sem, ↓reduceIte, Nat.reduceEqDiff, Nat.reduceBEq, Nat.reduceAdd, Nat.reduceLeDiff, Nat.reduceLT, reduceCtorEq, Nat.reduceMul, Nat.reduceSub, Int.reduceEq, Int.reduceLT, Int.reduceLE, Int.reduceToNat]
    obtain ⟨M, hM⟩ : ∃ M : Nat, M = min a.items.length b.items.length := ⟨_, rfl⟩
    have hM2 : (if (b.items.length : Int) < a.items.length then (b.items.length : Int) else a.items.length) = (M : Int) := by subst hM; split <;> omega
    refine loop (fun p : Nat × Nat => ⟨[(2, .bx m 0), (3, .bx (m + 1) 0), (7, .i .i64 0), (48, .i .i64 M), (49, .i .i64 p.1)], (m + 1, .bx [.i .i64 b.k, .i .i64 b.n, .s b.s, .ds (mapC valC b.items), .ds (stC b.keys)]) :: (m, .bx [.i .i64 a.k, .i .i64 a.n, .s a.s, .ds (mapC valC a.items), .ds (stC a.keys)]) :: hp, p.2⟩)
      (fun p => p.1 ≤ M ∧ m + 2 ≤ p.2 ∧ R = cmpL (a.items.drop p.1) (b.items.drop p.1) (a.keys.drop p.1) (b.keys.drop p.1) a.items.length b.items.length) (fun p => M - p.1) (0, n) ?_ ?_ (fun ⟨j, n⟩ hj => ?_)
    · exact ⟨by simp, hj2, e⟩
    · refine weak_ok ?_ (Sub.refl _) (Nat.le_refl _)
      simp only [hM2, go_sem, ↓reduceIte, Nat.reduceEqDiff, Nat.reduceBEq, Nat.reduceAdd, Nat.reduceLeDiff, Nat.reduceLT, reduceCtorEq, Nat.reduceMul, Nat.reduceSub, Int.reduceEq, Int.reduceLT, Int.reduceLE, Int.reduceToNat]
    dsimp only at hj
    obtain ⟨hj4, hj5, hj6⟩ := hj
    simp only [go_sem, ↓reduceIte, Nat.reduceEqDiff, Nat.reduceBEq, Nat.reduceAdd, Nat.reduceLeDiff, Nat.reduceLT, reduceCtorEq, Nat.reduceMul, Nat.reduceSub, Int.reduceEq, Int.reduceLT, Int.reduceLE, Int.reduceToNat]
    refine cdK_of (fun d1 => ?_) (fun d1 => ?_)
    · have d1 : j < M := by simpa using d1
      have q1 : j < a.items.length := by omega
      have q2 : j < b.items.length := by omega
      obtain ⟨x, ex⟩ : ∃ x, a.items[j]? = some x := ⟨a.items[j], by simp [q1]⟩
      obtain ⟨y, ey⟩ : ∃ y, b.items[j]? = some y := ⟨b.items[j], by simp [q2]⟩
      rw [drop_at ex, drop_at ey, cmpL] at hj6
      simp only [List.tail_drop] at hj6
      simp only [go_sem, ↓reduceIte, Nat.reduceEqDiff, Nat.reduceBEq, Nat.reduceAdd, Nat.reduceLeDiff, Nat.reduceLT, reduceCtorEq, Nat.reduceMul, Nat.reduceSub, Int.reduceEq, Int.reduceLT, Int.reduceLE, Int.reduceToNat]
      first | refine dCallR.f (fun _ _ _ => vkey_ok a j _ _) ?_ | refine dCall.f (fun _ _ _ => vkey_ok a j _ _) ?_
      simp only [go_sem, ↓reduceIte, Nat.reduceEqDiff, Nat.reduceBEq, Nat.reduceAdd, Nat.reduceLeDiff, Nat.reduceLT, reduceCtorEq, Nat.reduceMul, Nat.reduceSub, Int.reduceEq, Int.reduceLT, Int.reduceLE, Int.reduceToNat]
      first | refine dCallR.f (fun _ _ _ => vkey_ok b j _ _) ?_ | refine dCall.f (fun _ _ _ => vkey_ok b j _ _) ?_
      simp only [go_sem, ↓reduceIte, Nat.reduceEqDiff, Nat.reduceBEq, Nat.reduceAdd, Nat.reduceLeDiff, Nat.reduceLT, reduceCtorEq, Nat.reduceMul, Nat.reduceSub, Int.reduceEq, Int.reduceLT, Int.reduceLE, Int.reduceToNat]
      first | refine dCallR.f (fun _ _ _ => cmpStrings_ok _ _ _ _) ?_ | refine dCall.f (fun _ _ _ => cmpStrings_ok _ _ _ _) ?_
      simp only [go_sem, ↓reduceIte, Nat.reduceEqDiff, Nat.reduceBEq, Nat.reduceAdd, Nat.reduceLeDiff, Nat.reduceLT, reduceCtorEq, Nat.reduceMul, Nat.reduceSub, Int.reduceEq, Int.reduceLT, Int.reduceLE, Int.reduceToNat]
      refine cdK_of (fun d2 => ?_) (fun d2 => ?_)
      · have d2 : ¬ cs ((a.keys.drop j).headD ⟨#[]⟩) ((b.keys.drop j).headD ⟨#[]⟩) = 0 := by simpa using d2
        rw [if_pos d2] at hj6
        simp only [go_sem, ↓reduceIte, Nat.reduceEqDiff, Nat.reduceBEq, Nat.reduceAdd, Nat.reduceLeDiff, Nat.reduceLT, reduceCtorEq, Nat.reduceMul, Nat.reduceSub, Int.reduceEq, Int.reduceLT, Int.reduceLE, Int.reduceToNat]
        rw [hj6]
      · have d2 : cs ((a.keys.drop j).headD ⟨#[]⟩) ((b.keys.drop j).headD ⟨#[]⟩) = 0 := by simpa using d2
        rw [d2, if_neg (by simp)] at hj6
        simp only [q1, q2, getK_s (mapC_get valC ex), getK_s (mapC_get valC ey), go_sem, ↓reduceIte, Nat.reduceEqDiff, Nat.reduceBEq, Nat.reduceAdd, Nat.reduceLeDiff, Nat.reduceLT, reduceCtorEq, Nat.reduceMul, Nat.reduceSub, Int.reduceEq, Int.reduceLT, Int.reduceLE, Int.reduceToNat]
        first | refine dCallR.f (fun _ _ _ => h x (List.mem_of_getElem? ex) y (List.mem_of_getElem? ey) _ _) ?_ | refine dCall.f (fun _ _ _ => h x (List.mem_of_getElem? ex) y (List.mem_of_getElem? ey) _ _) ?_
        simp only [go_sem, ↓reduceIte, Nat.reduceEqDiff, Nat.reduceBEq, Nat.reduceAdd, Nat.reduceLeDiff, Nat.reduceLT, reduceCtorEq, Nat.reduceMul, Nat.reduceSub, Int.reduceEq, Int.reduceLT, Int.reduceLE, Int.reduceToNat]
        refine cdK_of (fun d3 => ?_) (fun d3 => ?_)
        · have d3 : ¬ cmpV x y = 0 := by simpa using d3
          rw [if_pos d3] at hj6
          simp only [go_sem, ↓reduceIte, Nat.reduceEqDiff, Nat.reduceBEq, Nat.reduceAdd, Nat.reduceLeDiff, Nat.reduceLT, reduceCtorEq, Nat.reduceMul, Nat.reduceSub, Int.reduceEq, Int.reduceLT, Int.reduceLE, Int.reduceToNat]
          rw [hj6]
        · have d3 : cmpV x y = 0 := by simpa using d3
          rw [d3, if_neg (by simp)] at hj6
          simp only [go_sem, ↓reduceIte, Nat.reduceEqDiff, Nat.reduceBEq, Nat.reduceAdd, Nat.reduceLeDiff, Nat.reduceLT, reduceCtorEq, Nat.reduceMul, Nat.reduceSub, Int.reduceEq, Int.reduceLT, Int.reduceLE, Int.reduceToNat]
          refine ⟨(j + 1, _), ⟨by dsimp only; omega, by dsimp only; omega, hj6⟩, by dsimp only; omega, weak_ok ?_ (Sub.refl _) (Nat.le_refl _)⟩
          simp only [wr64s j (by omega), go_sem, ↓reduceIte, Nat.reduceEqDiff, Nat.reduceBEq, Nat.reduceAdd, Nat.reduceLeDiff, Nat.reduceLT, reduceCtorEq, Nat.reduceMul, Nat.reduceSub, Int.reduceEq, Int.reduceLT, Int.reduceLE, Int.reduceToNat]
    · have d1 : j = M := by simp at d1; omega
      have e2 : R = ci a.items.length b.items.length := by
        rw [hj6]
        rcases Nat.lt_or_ge j a.items.length with q | q
        · have q2 : j = b.items.length := by omega
          obtain ⟨x, ex⟩ : ∃ x, a.items[j]? = some x := ⟨a.items[j], by simp [q]⟩
          rw [drop_at ex, q2, List.drop_length, cmpL]
        · have q2 : j = a.items.length := by omega
          rw [q2, List.drop_length, cmpL]
      simp only [go_sem, ↓reduceIte, Nat.reduceEqDiff, Nat.reduceBEq, Nat.reduceAdd, Nat.reduceLeDiff, Nat.reduceLT, reduceCtorEq, Nat.reduceMul, Nat.reduceSub, Int.reduceEq, Int.reduceLT, Int.reduceLE, Int.reduceToNat]
      refine vcCall.f (cmpInt_ok _ _ _ _) ?_
      simp only [go_sem, ↓reduceIte, Nat.reduceEqDiff, Nat.reduceBEq, Nat.reduceAdd, Nat.reduceLeDiff, Nat.reduceLT, reduceCtorEq, Nat.reduceMul, Nat.reduceSub, Int.reduceEq, Int.reduceLT, Int.reduceLE, Int.reduceToNat]
      refine ⟨(1, R, n), ⟨by simp, hj5, by simp⟩, by simp, weak_ok ?_ (Sub.refl _) (Nat.le_refl _)⟩
      simp only [e2, go_sem, ↓reduceIte, Nat.reduceEqDiff, Nat.reduceBEq, Nat.reduceAdd, Nat.reduceLeDiff, Nat.reduceLT, reduceCtorEq, Nat.reduceMul, Nat.reduceSub, Int.reduceEq, Int.reduceLT, Int.reduceLE, Int.reduceToNat]
      exact congrArg _ (wr64s 0 (by omega))
  · have d : j = 1 := by simp at d; omega
    subst d
    have hj3 := hj3 rfl
    subst hj3
    simp only [go_sem, ↓reduceIte, Nat.reduceEqDiff, Nat.reduceBEq, Nat.reduceAdd, Nat.reduceLeDiff, Nat.reduceLT, reduceCtorEq, Nat.reduceMul, Nat.reduceSub, Int.reduceEq, Int.reduceLT, Int.reduceLE, Int.reduceToNat]
theorem vcmp_ok (a b : Val) (ha : a.Fit) (hb : b.Fit) (hp : CH) (m : Nat) : MeetsF Try.prog 22 hp m [vx a, vx b] (.i .i64 (cmpV a b)) := by
  have := Val.ind (Q := fun a => a.Fit → ∀ b, b.Fit → ∀ hp m, MeetsF Try.prog 22 hp m [vx a, vx b] (.i .i64 (cmpV a b))) (fun a ih ha b hb hp m => vcmp_of a b ha hb (fun x hx y hy => ih x hx (ha.x hx) y (hb.x hy)) hp m) a
  exact this ha b hb hp m
theorem vsame_ok (a b : Val) (ha : a.Fit) (hb : b.Fit) (hp : CH) (m : Nat) : MeetsF Try.prog 24 hp m [vx a, vx b] (.b (decide (cmpV a b = 0))) := by
  refine meetsF Try.func24 (by kernel_rfl) cc24 cr24 rfl fun hf => ?_; unfold ck24
  simp only [go_sem, ↓reduceIte, Nat.reduceEqDiff, Nat.reduceBEq, Nat.reduceAdd, Nat.reduceLeDiff, Nat.reduceLT, reduceCtorEq, Nat.reduceMul, Nat.reduceSub, Int.reduceEq, Int.reduceLT, Int.reduceLE, Int.reduceToNat]
  refine vcCall.f (vcmp_ok a b ha hb _ _) ?_
  simp only [go_sem, ↓reduceIte, Nat.reduceEqDiff, Nat.reduceBEq, Nat.reduceAdd, Nat.reduceLeDiff, Nat.reduceLT, reduceCtorEq, Nat.reduceMul, Nat.reduceSub, Int.reduceEq, Int.reduceLT, Int.reduceLE, Int.reduceToNat]
end Go.Proofs.Ytaeablbcfkamjaa
