/-
  The parts EngY of the proof, in one file. Conditions: none.
-/
import Derived.Test.YthiifoleopdieaaPj39
namespace Go.Eng
set_option linter.unusedVariables false
set_option linter.unusedSimpArgs false
/-- What a contract leaves is told of in another way. -/
theorem Meets.post {P : Program} {f : FuncId} {hp : CH} {n : Nat} {args : List AV} {R R' : CH → Nat → AV → Prop} (m : Meets P f hp n args R)
    (k : ∀ hp' n' r h ρ w v, R hp' n' r → SatH h ρ hp' n' w → Rel h ρ r v → ∃ h' ρ' hp2 n2 r2, R' hp2 n2 r2 ∧ HLe h h' ∧ RLe ρ ρ' ∧ SatH h' ρ' hp2 n2 w ∧ Rel h' ρ' r2 v ∧ ∀ b, live ρ' hp2 b → live ρ hp' b) : Meets P f hp n args R' := by
  refine ⟨m.1, fun h ρ w vs hs ha => (m.2 h ρ w vs hs ha).mono fun e w' ⟨v, he, h', ρ', hp', n', r', q1, hh, hr, hm, hrel, hk, hl⟩ => ?_⟩
  obtain ⟨h2, ρ2, hp2, n2, r2, x1, x2, x3, x4, x5, x6⟩ := k hp' n' r' h' ρ' w' v q1 hm hrel
  exact ⟨v, he, h2, ρ2, hp2, n2, r2, x1, hh.trans x2, hr.trans x3, x4, x5, hk, fun b hb => hl b (x6 b hb)⟩
/-! ### Parts of memory, but for some chunks -/
def UpX (X : List Nat) (n : Nat) (hp hp' : CH) : Prop := ∀ k, k < n → k ∉ X → gc hp' k = gc hp k
def SubX (X : List Nat) (hp hp' : CH) : Prop := ∀ k, k ∉ X → gc hp' k = gc hp k ∨ gc hp' k = .no
theorem SubX.sub {hp hp' : CH} (h : SubX [] hp hp') : Sub hp hp' := fun k => h k (by simp)
theorem SubX.cons {X : List Nat} {hp hp' : CH} {k : Nat} {c : Chunk} (h : gc hp k = c) (s : SubX (k :: X) hp hp') : SubX X hp ((k, c) :: hp') := fun j hj => by
  by_cases q : k = j
  · subst q
    exact .inl (by rw [gc_same]; exact h.symm)
  · rw [gc_ne c hp' q]
    exact s j (by simp [hj, Ne.symm q])
theorem SubX.base {X : List Nat} {n : Nat} {B hp : CH} (hf : ∀ k, n ≤ k → gc B k = .no) (hu : UpX X n B hp) : SubX X hp B := fun k hk => by
  rcases Nat.lt_or_ge k n with h | h
  · exact .inl (hu k h hk).symm
  · exact .inr (hf k h)
def SubGX (X : List Nat) (n : Nat) (h0 hp hp' : CH) : Prop := ∀ k, k ∉ X → gc hp' k = .no ∨ gc hp k = gc hp' k ∧ k < n ∧ ((gc hp' k).und n ∨ gc hp' k = gc h0 k)
theorem SubGX.sub {n : Nat} {h0 hp hp' : CH} (h : SubGX [] n h0 hp hp') : SubG n h0 hp hp' := fun k => h k (by simp)
theorem SubGX.cons {X : List Nat} {n : Nat} {h0 hp hp' : CH} {k : Nat} {c : Chunk} (h : gc hp k = c) (hk : k < n) (hb : c.und n) (s : SubGX (k :: X) n h0 hp hp') : SubGX X n h0 hp ((k, c) :: hp') := fun j hj => by
  by_cases q : k = j
  · subst q
    exact .inr ⟨by rw [gc_same]; exact h, hk, .inl (by rw [gc_same]; exact hb)⟩
  · rw [gc_ne c hp' q]
    exact s j (by simp [hj, Ne.symm q])
theorem SubGX.base {X : List Nat} {n m : Nat} {B h0 hp : CH} (hf : ∀ k, m ≤ k → gc B k = .no) (hm : m ≤ n) (h1 : UpX X m B h0) (h2 : UpX X m B hp) : SubGX X n h0 hp B := fun k hk => by
  rcases Nat.lt_or_ge k m with h | h
  · exact .inr ⟨h2 k h hk, Nat.lt_of_lt_of_le h hm, .inr (h1 k h hk).symm⟩
  · exact .inl (hf k h)
end Go.Eng
