/-
  The parts DaA of the proof, in one file. Conditions: none.
-/
import Derived.Test.YthiifoleopdieaaPj33
namespace Go.Proofs.Ythiifoleopdieaa
open Go.Eng
set_option linter.unusedVariables false
set_option linter.unusedSimpArgs false
set_option maxRecDepth 20000
inductive Cel where
  | mk (f a : ByteArray) (v : Val)
def Cel.f : Cel → ByteArray | .mk f _ _ => f
def Cel.a : Cel → ByteArray | .mk _ a _ => a
def Cel.v : Cel → Val | .mk _ _ v => v
theorem Cel.f_mk (f a : ByteArray) (v : Val) : (Cel.mk f a v).f = f := rfl
theorem Cel.a_mk (f a : ByteArray) (v : Val) : (Cel.mk f a v).a = a := rfl
theorem Cel.v_mk (f a : ByteArray) (v : Val) : (Cel.mk f a v).v = v := rfl
def celC (x : Cel) : List AV := [.s x.f, .s x.a, .i .i64 x.v.k, .i .i64 x.v.n, .s x.v.s, .ds (mapC valC x.v.items), .ds (stC x.v.keys)]
attribute [go_sem] celC Cel.f_mk Cel.a_mk Cel.v_mk
abbrev cx (x : Cel) : AV := .ag [.s x.f, .s x.a, .i .i64 x.v.k, .i .i64 x.v.n, .s x.v.s, .ds (mapC valC x.v.items), .ds (stC x.v.keys)]
inductive Itm where
  | mk (t : ByteArray) (l : List Cel)
def Itm.t : Itm → ByteArray | .mk t _ => t
theorem Itm.t_mk (t : ByteArray) (l : List Cel) : (Itm.mk t l).t = t := rfl
def Itm.l : Itm → List Cel | .mk _ l => l
theorem Itm.l_mk (t : ByteArray) (l : List Cel) : (Itm.mk t l).l = l := rfl
theorem Itm.eta (x : Itm) : Itm.mk x.t x.l = x := by cases x; rfl
theorem Itm.ext {x y : Itm} (h0 : x.t = y.t) (h1 : x.l = y.l) : x = y := by cases x; cases y; simp only [Itm.t_mk, Itm.l_mk] at *; simp [*]
def itC (x : Itm) : List AV := [.s x.t, .ds (mapC celC x.l)]
attribute [go_sem] itC Itm.t_mk Itm.l_mk
attribute [grind =] Itm.t_mk Itm.l_mk
attribute [ext] Itm.ext
attribute [grind ext] Itm.ext
inductive Wri where
  | mk (f a : ByteArray) (i : Int) (c : Cel)
def Wri.f : Wri → ByteArray | .mk f _ _ _ => f
def Wri.a : Wri → ByteArray | .mk _ a _ _ => a
def Wri.i : Wri → Int | .mk _ _ i _ => i
def Wri.c : Wri → Cel | .mk _ _ _ c => c
theorem Wri.f_mk (f a : ByteArray) (i : Int) (c : Cel) : (Wri.mk f a i c).f = f := rfl
theorem Wri.a_mk (f a : ByteArray) (i : Int) (c : Cel) : (Wri.mk f a i c).a = a := rfl
theorem Wri.i_mk (f a : ByteArray) (i : Int) (c : Cel) : (Wri.mk f a i c).i = i := rfl
theorem Wri.c_mk (f a : ByteArray) (i : Int) (c : Cel) : (Wri.mk f a i c).c = c := rfl
def wrC (x : Wri) : List AV := [.s x.f, .s x.a, .i .i64 x.i, .s x.c.f, .s x.c.a, .i .i64 x.c.v.k, .i .i64 x.c.v.n, .s x.c.v.s, .ds (mapC valC x.c.v.items), .ds (stC x.c.v.keys)]
attribute [go_sem] wrC Wri.f_mk Wri.a_mk Wri.i_mk Wri.c_mk
abbrev wx (x : Wri) : AV := .ag [.s x.f, .s x.a, .i .i64 x.i, .s x.c.f, .s x.c.a, .i .i64 x.c.v.k, .i .i64 x.c.v.n, .s x.c.v.s, .ds (mapC valC x.c.v.items), .ds (stC x.c.v.keys)]
inductive Dat where
  | mk (i : List Itm) (w : List Wri)
def Dat.i : Dat → List Itm | .mk i _ => i
theorem Dat.i_mk (i : List Itm) (w : List Wri) : (Dat.mk i w).i = i := rfl
def Dat.w : Dat → List Wri | .mk _ w => w
theorem Dat.w_mk (i : List Itm) (w : List Wri) : (Dat.mk i w).w = w := rfl
theorem Dat.eta (x : Dat) : Dat.mk x.i x.w = x := by cases x; rfl
theorem Dat.ext {x y : Dat} (h0 : x.i = y.i) (h1 : x.w = y.w) : x = y := by cases x; cases y; simp only [Dat.i_mk, Dat.w_mk] at *; simp [*]
attribute [go_sem] Dat.i_mk Dat.w_mk
attribute [grind =] Dat.i_mk Dat.w_mk
attribute [ext] Dat.ext
attribute [grind ext] Dat.ext
abbrev dx (x : Dat) : AV := .ag [.ds (mapC itC x.i), .ds (mapC wrC x.w)]
/-- A reference or a failure that is well-formed. -/
noncomputable def refV (v : Val) : Bool := decide ((v.items.length : Int) = 0) && decide ((v.keys.length : Int) = 0) && (decide (v.k = 8) && decide (0 ≤ v.n) && decide (v.s = ⟨#[]⟩) || decide (v.k = 9) && decide (v.n = 0))
mutual
noncomputable def plV : Val → Val × Bool
  | .mk k n s i l => if k = 8 ∨ k = 9 then (zVal, refV (.mk k n s i l)) else (.mk k n s (plL i).1 l, (plL i).2)
noncomputable def plL : List Val → List Val × Bool
  | [] => ([], true)
  | x :: r => ((plV x).1 :: (plL r).1, (plV x).2 && (plL r).2)
end
theorem zVal_fit : zVal.Fit := .mk _ (by simp [zVal, Val.items_mk]) (by simp [zVal, Val.keys_mk]) (by simp [zVal, Val.items_mk])
/-- A right cell. -/
noncomputable def okC (c : Cel) : Bool := (plV c.v).2 && nmS c.f && rightV false (plV c.v).1
end Go.Proofs.Ythiifoleopdieaa
