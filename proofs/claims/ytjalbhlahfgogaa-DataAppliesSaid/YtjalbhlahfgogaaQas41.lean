/-
  The parts DaM of the proof, in one file. Conditions: none.
-/
import Derived.Test.YtjalbhlahfgogaaQas40
namespace Go.Proofs.Ytjalbhlahfgogaa
open Go.Eng
set_option linter.unusedVariables false
set_option linter.unusedSimpArgs false
theorem appV_len (d : Dat) (f a : ByteArray) : (appV d f a).i.length = d.i.length := appL_len _ _ _ _
end Go.Proofs.Ytjalbhlahfgogaa
