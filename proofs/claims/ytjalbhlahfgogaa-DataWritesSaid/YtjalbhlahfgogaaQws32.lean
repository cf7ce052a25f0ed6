/-
  The parts VaS of the proof, in one file. Conditions: none.
-/
import Derived.Test.YtjalbhlahfgogaaProg
import Derived.WalkKit
import Derived.Lib.Bytealg
import Derived.Test.YtjalbhlahfgogaaQws31
namespace Go.Proofs.Ytjalbhlahfgogaa
open Go.Eng
set_option linter.unusedVariables false
set_option linter.unusedSimpArgs false
end Go.Proofs.Ytjalbhlahfgogaa
