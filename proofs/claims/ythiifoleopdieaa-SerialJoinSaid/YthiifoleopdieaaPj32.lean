/-
  The parts VaS of the proof, in one file. Conditions: none.
-/
import Derived.Test.YthiifoleopdieaaProg
import Derived.WalkKit
import Derived.Lib.Bytealg
import Derived.Test.YthiifoleopdieaaPj31
namespace Go.Proofs.Ythiifoleopdieaa
open Go.Eng
set_option linter.unusedVariables false
set_option linter.unusedSimpArgs false
end Go.Proofs.Ythiifoleopdieaa
