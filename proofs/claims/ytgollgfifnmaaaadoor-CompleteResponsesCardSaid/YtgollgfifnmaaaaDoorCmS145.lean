/-
  The parts CmB CmC of the proof, in one file. Conditions: none.
-/
import Derived.Test.YtgollgfifnmaaaaDoorCmS144
namespace Go.Proofs.YtgollgfifnmaaaaDoor
open Go.Eng
set_option linter.unusedVariables false
set_option linter.unusedSimpArgs false
set_option maxRecDepth 20000
/-- Picks of one type have different keys; and types are without two outer wrappers of one kind. -/
def RgtW : List Int → Prop
  | [] => True
  | [_] => True
  | a :: b :: r => ¬ (a = 1 ∧ b = 1) ∧ RgtW (b :: r)
inductive Good : List Pk → Prop
  | mk (l : List Pk) : (∀ (i j : Nat) p q, i < j → l[i]? = some p → l[j]? = some q → ¬ (p.on = q.on ∧ p.key = q.key)) → (∀ p ∈ l, RgtW p.tw) → (∀ p ∈ l, Good p.picks) → Good l
theorem Good.d {l : List Pk} : Good l → ∀ (i j : Nat) p q, i < j → l[i]? = some p → l[j]? = some q → ¬ (p.on = q.on ∧ p.key = q.key) | .mk _ h _ _ => h
theorem Good.r {l : List Pk} : Good l → ∀ p ∈ l, RgtW p.tw | .mk _ _ h _ => h
theorem Good.x {l : List Pk} : Good l → ∀ p ∈ l, Good p.picks | .mk _ _ _ h => h
/-- The cases of a completion. -/
theorem cplV_cases {doc : List Dfn} {v : Val} {tn : ByteArray} {tw : List Int} {picks : List Pk} {path : List Val} {Q : CRes → Prop} (h1 : ∀ s, (v.k ≠ 0) → Q (failR path s)) (h2 : v.k = 0 → Q (nulR tw path))
    (h3 : v.k = 5 → lstW (nulW tw) = true → Q (listR (v.items.map (cplV doc)) tn (innW (nulW tw)) picks path)) (h4 : v.k ≠ 0 → lstW (nulW tw) = false → leafB doc tn = true → ∀ x, leafC doc tn v = some x → Q (x, []))
    (h5 : v.k = 6 → lstW (nulW tw) = false → leafB doc tn = false → ∀ on, typO v = some on → compB doc tn = true → on ∈ posL doc tn → Q (objR v.keys (v.items.map (cplV doc)) on picks path)) : Q (cplV doc v tn tw picks path) := by
  rw [cplV_eq, cplB]
  split
  · rename_i c; exact h1 _ (by omega)
  split
  · rename_i c; exact h2 c
  rename_i c9 c0
  split
  · rename_i c
    split
    · rename_i c5; exact h3 c5 c
    · exact h1 _ c0
  rename_i c
  have c : lstW (nulW tw) = false := by simpa using c
  split
  · rename_i cl
    split
    · rename_i x hx; exact h4 c0 c cl x hx
    · exact h1 _ c0
  rename_i cl
  have cl : leafB doc tn = false := by simpa using cl
  split
  · exact h1 _ c0
  · rename_i on hon
    split
    · rename_i hc; exact h5 (typO_k hon) c cl on hon hc.1 hc.2
    · exact h1 _ c0
theorem leafC_k {doc : List Dfn} {tn : ByteArray} {v x : Val} (h : leafC doc tn v = some x) : 1 ≤ x.k ∧ x.k ≤ 4 ∧ x.items = [] ∧ x.keys = [] := by
  unfold leafC scaC at h
  repeat' split at h
  all_goals first
    | (cases h; done)
    | (cases h; exact ⟨by first | (show (1 : Int) ≤ 2; decide) | (show (1 : Int) ≤ 3; decide) | (show (1 : Int) ≤ 4; decide) | (show (1 : Int) ≤ 1; decide), by first | (show (2 : Int) ≤ 4; decide) | (show (3 : Int) ≤ 4; decide) | (show (4 : Int) ≤ 4; decide) | (show (1 : Int) ≤ 4; decide), rfl, rfl⟩)
theorem obS_mem {doc : List Dfn} {v : Val} (h6 : v.k = 6) {on : ByteArray} {path : List Val} {picks : List Pk} {r : Pk × CRes} (h : r ∈ obS v.keys (v.items.map (cplV doc)) on path picks) :
    r.1 ∈ picks ∧ r.1.on = on ∧ r.2 = cplV doc ((getV v r.1.key).getD zVal) r.1.tn r.1.tw r.1.picks (path ++ [txV r.1.key]) := by
  unfold obS at h
  obtain ⟨p, hp, rfl⟩ := List.mem_map.1 h
  obtain ⟨h1, h2⟩ := List.mem_filter.1 hp
  exact ⟨h1, by simpa using h2, by rw [itF_get doc v h6]⟩
end Go.Proofs.YtgollgfifnmaaaaDoor
namespace Go.Proofs.YtgollgfifnmaaaaDoor
open Go.Eng
set_option linter.unusedVariables false
set_option linter.unusedSimpArgs false
set_option maxRecDepth 20000
theorem RgtW.tail {w : List Int} (h : RgtW w) : RgtW w.tail := by
  cases w with
  | nil => trivial
  | cons a w =>
    cases w with
    | nil => trivial
    | cons b w => exact h.2
end Go.Proofs.YtgollgfifnmaaaaDoor
