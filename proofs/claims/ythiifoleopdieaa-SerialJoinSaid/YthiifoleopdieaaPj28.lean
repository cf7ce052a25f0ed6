/-
  The parts VaF of the proof, in one file. Conditions: none.
-/
import Derived.Test.YthiifoleopdieaaPj27
namespace Go.Proofs.Ythiifoleopdieaa
open Go.Eng
set_option linter.unusedVariables false
set_option linter.unusedSimpArgs false
set_option maxRecDepth 20000
def chL (c : Int) : Bool := decide (65 ≤ c) && decide (c ≤ 90) || decide (97 ≤ c) && decide (c ≤ 122) || decide (c = 95)
def chD (c : Int) : Bool := decide (48 ≤ c) && decide (c ≤ 57)
def nmL (l : List UInt8) : Bool := l.all fun c => chL c.toNat || chD c.toNat
/-- A name. -/
def nmS (s : ByteArray) : Bool := decide (0 < s.size) && decide (s.size ≤ 64) && !chD ((bs s).getD 0 0).toNat && nmL (bs s)
end Go.Proofs.Ythiifoleopdieaa
