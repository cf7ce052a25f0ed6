/- Proof. Conditions: none. -/
import Derived.Test.YtinbodeocoeneaaGreatDoorProg
import Derived.WalkKit
import Derived.Lib.Bytealg
import Derived.Test.YtinbodeocoeneaaGreatDoorIc23
namespace Go.Proofs.YtinbodeocoeneaaGreatDoor
open Go.Eng
set_option linter.all false
end Go.Proofs.YtinbodeocoeneaaGreatDoor
