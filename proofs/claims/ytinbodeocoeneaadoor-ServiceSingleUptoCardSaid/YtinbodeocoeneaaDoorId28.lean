/- Proof. Conditions: none. -/
import Derived.Test.YtinbodeocoeneaaDoorProg
import Derived.WalkKit
import Derived.Lib.Bytealg
import Derived.Test.YtinbodeocoeneaaDoorId27
namespace Go.Proofs.YtinbodeocoeneaaDoor
open Go.Eng
set_option linter.all false
end Go.Proofs.YtinbodeocoeneaaDoor
