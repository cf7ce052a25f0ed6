/- Proof. Conditions: none. -/
import Derived.Shelf.Sort.Plain
import Derived.Sort.OwnSortedInts
import Derived.Shelf.Slices.In.SortNone
import Derived.Test.YtinbodeocoeneaaGreatDoorIs40
namespace Go.Eng
open Go.Shelf Go.RowKit Go.Proofs Go.Sort
set_option linter.all false
variable {P:Program} {ρ:Ren}
end Go.Eng
