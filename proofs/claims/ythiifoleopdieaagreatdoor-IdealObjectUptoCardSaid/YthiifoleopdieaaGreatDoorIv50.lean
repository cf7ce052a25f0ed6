/-
  The parts EngSO of the proof, in one file. Conditions: none.
-/
import Derived.Shelf.Sort.Plain
import Derived.Sort.OwnSortedInts
import Derived.Shelf.Slices.In.SortNone
import Derived.Test.YthiifoleopdieaaGreatDoorIv49
namespace Go.Eng
open Go.Shelf Go.RowKit Go.Proofs Go.Sort
set_option linter.unusedVariables false
set_option linter.unusedSimpArgs false
variable {P:Program} {ρ:Ren}
end Go.Eng
