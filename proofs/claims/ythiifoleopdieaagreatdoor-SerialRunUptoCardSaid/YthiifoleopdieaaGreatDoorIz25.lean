/- Proof. Conditions: none. -/
import Derived.Test.YthiifoleopdieaaGreatDoorProg
import Derived.WalkKit
import Derived.Lib.Bytealg
import Derived.Test.YthiifoleopdieaaGreatDoorIz24
namespace Go.Proofs.YthiifoleopdieaaGreatDoor
open Go.Eng
set_option linter.all false
end Go.Proofs.YthiifoleopdieaaGreatDoor
