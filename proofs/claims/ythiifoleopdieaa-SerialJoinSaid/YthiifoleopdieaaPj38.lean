/-
  The parts DaF of the proof, in one file. Conditions: none.
-/
import Derived.Test.YthiifoleopdieaaPj37
namespace Go.Proofs.Ythiifoleopdieaa
open Go.Eng
set_option linter.unusedVariables false
set_option linter.unusedSimpArgs false
set_option maxRecDepth 20000
inductive Ky where
  | mk (t : ByteArray) (g : Int) (l : List ByteArray)
def Ky.t : Ky → ByteArray | .mk t _ _ => t
theorem Ky.t_mk (t : ByteArray) (g : Int) (l : List ByteArray) : (Ky.mk t g l).t = t := rfl
def Ky.g : Ky → Int | .mk _ g _ => g
theorem Ky.g_mk (t : ByteArray) (g : Int) (l : List ByteArray) : (Ky.mk t g l).g = g := rfl
def Ky.l : Ky → List ByteArray | .mk _ _ l => l
theorem Ky.l_mk (t : ByteArray) (g : Int) (l : List ByteArray) : (Ky.mk t g l).l = l := rfl
theorem Ky.eta (x : Ky) : Ky.mk x.t x.g x.l = x := by cases x; rfl
theorem Ky.ext {x y : Ky} (h0 : x.t = y.t) (h1 : x.g = y.g) (h2 : x.l = y.l) : x = y := by cases x; cases y; simp only [Ky.t_mk, Ky.g_mk, Ky.l_mk] at *; simp [*]
attribute [go_sem] Ky.t_mk Ky.g_mk Ky.l_mk
attribute [grind =] Ky.t_mk Ky.g_mk Ky.l_mk
attribute [ext] Ky.ext
attribute [grind ext] Ky.ext
end Go.Proofs.Ythiifoleopdieaa
