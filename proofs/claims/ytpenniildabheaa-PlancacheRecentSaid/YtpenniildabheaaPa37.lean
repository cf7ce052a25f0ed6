/-
  The parts VaF of the proof, in one file. Conditions: none.
-/
import Derived.Test.YtpenniildabheaaPa36
namespace Go.Proofs.Ytpenniildabheaa
open Go.Eng
set_option linter.unusedVariables false
set_option linter.unusedSimpArgs false
set_option maxRecDepth 20000
def chL (c : Int) : Bool := decide (65 ≤ c) && decide (c ≤ 90) || decide (97 ≤ c) && decide (c ≤ 122) || decide (c = 95)
end Go.Proofs.Ytpenniildabheaa
