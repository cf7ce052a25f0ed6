/-
  The parts FrS of the proof, in one file. Conditions: none.
-/
import Derived.Test.YtdodiembhgjecaaMc23
namespace Go.Proofs.Ytdodiembhgjecaa
open Go.Eng
inductive Frm where
  | mk (k : Int) (i : Int) (s : Int) (a : Int) (b : ByteArray)
deriving DecidableEq
def Frm.k : Frm → Int | .mk k _ _ _ _ => k
theorem Frm.k_mk (k : Int) (i : Int) (s : Int) (a : Int) (b : ByteArray) : (Frm.mk k i s a b).k = k := rfl
def Frm.i : Frm → Int | .mk _ i _ _ _ => i
theorem Frm.i_mk (k : Int) (i : Int) (s : Int) (a : Int) (b : ByteArray) : (Frm.mk k i s a b).i = i := rfl
def Frm.s : Frm → Int | .mk _ _ s _ _ => s
theorem Frm.s_mk (k : Int) (i : Int) (s : Int) (a : Int) (b : ByteArray) : (Frm.mk k i s a b).s = s := rfl
def Frm.a : Frm → Int | .mk _ _ _ a _ => a
theorem Frm.a_mk (k : Int) (i : Int) (s : Int) (a : Int) (b : ByteArray) : (Frm.mk k i s a b).a = a := rfl
def Frm.b : Frm → ByteArray | .mk _ _ _ _ b => b
theorem Frm.b_mk (k : Int) (i : Int) (s : Int) (a : Int) (b : ByteArray) : (Frm.mk k i s a b).b = b := rfl
theorem Frm.ext {x y : Frm} (h0 : x.k = y.k) (h1 : x.i = y.i) (h2 : x.s = y.s) (h3 : x.a = y.a) (h4 : x.b = y.b) : x = y := by cases x; cases y; simp only [Frm.k_mk, Frm.i_mk, Frm.s_mk, Frm.a_mk, Frm.b_mk] at *; simp [*]
def frC (x : Frm) : List AV := [.i .i64 x.k, .i .i64 x.i, .i .i64 x.s, .i .i64 x.a, .s x.b]
theorem elsOk_frC (l : List Frm) : elsOk 5 (mapC frC l) = True := elsOk_map fun _ => ⟨rfl, rfl⟩
attribute [go_sem] elsOk_frC
attribute [go_sem] frC Frm.k_mk Frm.i_mk Frm.s_mk Frm.a_mk Frm.b_mk
attribute [grind =] Frm.k_mk Frm.i_mk Frm.s_mk Frm.a_mk Frm.b_mk
attribute [ext] Frm.ext
attribute [grind ext] Frm.ext
abbrev Frm.av (f : Frm) : AV := .ag (frC f)
def kOk (k : Int) : Bool := decide (1 ≤ k ∧ k ≤ 8)
def hI (k : Int) : Bool := k == 2 || k == 3 || k == 5 || k == 7 || k == 6
def hS (k : Int) : Bool := k == 5 || k == 7 || k == 6
def hA (k : Int) : Bool := k == 1 || k == 4 || k == 8
def hB (k : Int) : Bool := k == 2 || k == 5 || k == 7
def wide (n : Int) : Bool := decide (n < 0) || decide (4294967295 < n)
def oth (f : Frm) (n : Int) : Bool := (decide (f.i ≠ 0) && !hI f.k) || (decide (f.s ≠ 0) && !hS f.k) || (decide (f.a ≠ 0) && !hA f.k) || (decide (n ≠ 0) && !hB f.k)
def chk (f : Frm) : Int :=
  if kOk f.k = false then 9
  else if wide f.i || wide f.s || wide f.a then 2
  else if oth f f.b.size then 3
  else if 65536 < (f.b.size : Int) then 4
  else 0
end Go.Proofs.Ytdodiembhgjecaa
