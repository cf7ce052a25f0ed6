/-
  The parts VaJ of the proof, in one file. Conditions: none.
-/
import Derived.Test.YthiifoleopdieaaPj30
namespace Go.Proofs.Ythiifoleopdieaa
open Go.Eng
set_option linter.unusedVariables false
set_option linter.unusedSimpArgs false
set_option maxRecDepth 20000
theorem bx_lt {hp : CH} {m c : Nat} {l : List AV} (hf : ∀ k, m ≤ k → gc hp k = .no) (h : gc hp c = .bx l) : c < m := by
  rcases Nat.lt_or_ge c m with q | q
  · exact q
  · rw [hf c q] at h; cases h
mutual
noncomputable def evV (lit : Bool) : Val → Bool
  | .mk k n s i l => nodeW (.mk k n s i l) lit && evL lit i
noncomputable def evL (lit : Bool) : List Val → Bool
  | [] => true
  | x :: r => evV lit x && evL lit r
end
/-- A right value. -/
noncomputable def rightV (lit : Bool) (v : Val) : Bool := decide (szV v ≤ 4096) && decide (dpV v ≤ 24) && evV lit v
end Go.Proofs.Ythiifoleopdieaa
