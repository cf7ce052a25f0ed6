/-
  The parts VaI of the proof, in one file. Conditions: none.
-/
import Derived.Test.YthiifoleopdieaaPj29
namespace Go.Proofs.Ythiifoleopdieaa
open Go.Eng
set_option linter.unusedVariables false
set_option linter.unusedSimpArgs false
set_option maxRecDepth 20000
mutual
def dpV : Val → Int
  | .mk _ _ _ i _ => IntKind.i64.wrap (dpL i 0 + 1)
def dpL : List Val → Int → Int
  | [], n => n
  | x :: r, n => dpL r (if n < dpV x then dpV x else n)
end
/-- A node that is right apart from its items. -/
noncomputable def nodeV (v : Val) (lit : Bool) : Bool :=
  if v.k = 0 then decide (v.n = 0) && decide (v.s = ⟨#[]⟩) && decide ((v.items.length : Int) = 0) && decide ((v.keys.length : Int) = 0)
  else if v.k = 1 then (decide (v.n = 0) || decide (v.n = 1)) && decide (v.s = ⟨#[]⟩) && decide ((v.items.length : Int) = 0) && decide ((v.keys.length : Int) = 0)
  else if v.k = 2 then decide (v.s = ⟨#[]⟩) && decide ((v.items.length : Int) = 0) && decide ((v.keys.length : Int) = 0)
  else if v.k = 3 then decide (v.n = 0) && decide ((v.items.length : Int) = 0) && decide ((v.keys.length : Int) = 0)
  else if v.k = 4 then decide (v.n = 0) && decide ((v.items.length : Int) = 0) && decide ((v.keys.length : Int) = 0) && nmS v.s && !decide (v.s = ⟨#[116, 114, 117, 101]⟩) && !decide (v.s = ⟨#[102, 97, 108, 115, 101]⟩) && !decide (v.s = ⟨#[110, 117, 108, 108]⟩)
  else if v.k = 5 then decide (v.n = 0) && decide (v.s = ⟨#[]⟩) && decide ((v.keys.length : Int) = 0)
  else if v.k = 6 then decide (v.n = 0) && decide (v.s = ⟨#[]⟩) && decide ((v.keys.length : Int) = v.items.length) && !tw v.keys
  else if v.k = 7 then lit && decide (v.n = 0) && decide ((v.items.length : Int) = 0) && decide ((v.keys.length : Int) = 0) && nmS v.s
  else false
/-- A node with keys that are names, if it is a literal's. -/
noncomputable def nodeW (v : Val) (lit : Bool) : Bool := nodeV v lit && !(lit && v.keys.any fun k => !nmS k)
end Go.Proofs.Ythiifoleopdieaa
