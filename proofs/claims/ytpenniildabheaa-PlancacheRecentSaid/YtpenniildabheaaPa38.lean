/-
  The parts VaH of the proof, in one file. Conditions: none.
-/
import Derived.Test.YtpenniildabheaaPa37
namespace Go.Proofs.Ytpenniildabheaa
open Go.Eng
set_option linter.unusedVariables false
set_option linter.unusedSimpArgs false
set_option maxRecDepth 20000
def fidx {α : Type} (q : α → Bool) : List α → Nat → Int
  | [], _ => -1
  | x :: r, j => if q x = true then j else fidx q r (j + 1)
attribute [go_sem] st1
abbrev sx (s : ByteArray) : AV := .s s
end Go.Proofs.Ytpenniildabheaa
