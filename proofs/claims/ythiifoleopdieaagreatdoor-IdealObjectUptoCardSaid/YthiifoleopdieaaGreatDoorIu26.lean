/-
  The parts VaS of the proof, in one file. Conditions: none.
-/
import Derived.Test.YthiifoleopdieaaGreatDoorProg
import Derived.WalkKit
import Derived.Lib.Bytealg
import Derived.Test.YthiifoleopdieaaGreatDoorIu25
namespace Go.Proofs.YthiifoleopdieaaGreatDoor
open Go.Eng
set_option linter.unusedVariables false
set_option linter.unusedSimpArgs false
end Go.Proofs.YthiifoleopdieaaGreatDoor
