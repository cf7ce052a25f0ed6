/-
  The parts MxQ of the proof, in one file. Conditions: none.
-/
import Derived.Test.YtdodiembhgjecaaMc44
namespace Go.Proofs.Ytdodiembhgjecaa
open Go.Eng
set_option linter.unusedVariables false
set_option linter.unusedSimpArgs false
set_option maxRecDepth 20000
set_option maxHeartbeats 1000000
def drL (x : Int) (S : List Int) : List Int := S.filter fun y => decide (y ≠ x)
end Go.Proofs.Ytdodiembhgjecaa
