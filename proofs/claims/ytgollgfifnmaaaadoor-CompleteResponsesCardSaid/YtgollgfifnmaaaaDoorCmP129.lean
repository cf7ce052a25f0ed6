/-
  The parts VaS CcD DaA DaB DaD DaF of the proof, in one file. Conditions: none.
-/
import Derived.Test.YtgollgfifnmaaaaDoorProg
import Derived.WalkKit
import Derived.Lib.Bytealg
import Derived.KernelRfl
import Derived.Test.YtgollgfifnmaaaaDoorCmP128
namespace Go.Proofs.YtgollgfifnmaaaaDoor
open Go.Eng
set_option linter.unusedVariables false
set_option linter.unusedSimpArgs false
end Go.Proofs.YtgollgfifnmaaaaDoor
namespace Go.Proofs.YtgollgfifnmaaaaDoor
open Go.Eng
set_option maxRecDepth 100000
def ck29 : CC := (.sq (.rg [⟨(some 5), (.bo (.t 2)), none, [2, 3, 4, 6, 7], false⟩, ⟨(some 6), (.al [(.i .i64 0), (.i .i64 0), (.s ⟨#[]⟩), .e0, .e0]), none, [], false⟩]) (.sq (.rg [⟨(some 7), (.mv (.t 1)), none, [1], false⟩, ⟨(some 8), (.bs false 1 [(.c (.s ⟨#[95, 95, 116]⟩)), (.t 7)]), none, [7], false⟩, ⟨(some 9), (.mv (.t 0)), none, [0], false⟩, ⟨(some 10), (.bd [(.i .i64 0), (.i .i64 0), (.s ⟨#[]⟩), .e0, .e0] [(0, (1, (.c (.i .i64 3)))), (2, (1, (.t 9)))]), none, [9], false⟩, ⟨(some 11), (.ld (.t 5) 5 true), none, [5], false⟩, ⟨(some 12), (.bs false 5 [(.t 10), (.t 11)]), none, [10, 11], false⟩, ⟨(some 13), (.bd [(.i .i64 0), (.i .i64 0), (.s ⟨#[]⟩), .e0, .e0] [(0, (1, (.c (.i .i64 6)))), (4, (1, (.t 8))), (3, (1, (.t 12)))]), none, [8, 12], false⟩, ⟨none, (.st (.t 6) (.t 13) 5), none, [13], false⟩]) .rt))
theorem cc29 : (Tryd.f29.body.bind (ccode Tryd.prog 14)) = some ck29.erase := by kernel_rfl
theorem cr29 : rsv Tryd.prog 14 Tryd.f29.results.toList = some [(.c 6 5 true)] := by kernel_rfl
end Go.Proofs.YtgollgfifnmaaaaDoor
namespace Go.Proofs.YtgollgfifnmaaaaDoor
open Go.Eng
set_option linter.unusedVariables false
set_option linter.unusedSimpArgs false
set_option maxRecDepth 20000
inductive Cel where
  | mk (f a : ByteArray) (v : Val)
def Cel.f : Cel → ByteArray | .mk f _ _ => f
def Cel.a : Cel → ByteArray | .mk _ a _ => a
def Cel.v : Cel → Val | .mk _ _ v => v
theorem Cel.f_mk (f a : ByteArray) (v : Val) : (Cel.mk f a v).f = f := rfl
theorem Cel.a_mk (f a : ByteArray) (v : Val) : (Cel.mk f a v).a = a := rfl
theorem Cel.v_mk (f a : ByteArray) (v : Val) : (Cel.mk f a v).v = v := rfl
attribute [go_sem] Cel.f_mk Cel.a_mk Cel.v_mk
abbrev cx (x : Cel) : AV := .ag [.s x.f, .s x.a, .i .i64 x.v.k, .i .i64 x.v.n, .s x.v.s, .ds (mapC valC x.v.items), .ds (stC x.v.keys)]
inductive Itm where
  | mk (t : ByteArray) (l : List Cel)
def Itm.t : Itm → ByteArray | .mk t _ => t
theorem Itm.t_mk (t : ByteArray) (l : List Cel) : (Itm.mk t l).t = t := rfl
def Itm.l : Itm → List Cel | .mk _ l => l
theorem Itm.l_mk (t : ByteArray) (l : List Cel) : (Itm.mk t l).l = l := rfl
theorem Itm.ext {x y : Itm} (h0 : x.t = y.t) (h1 : x.l = y.l) : x = y := by cases x; cases y; simp only [Itm.t_mk, Itm.l_mk] at *; simp [*]
attribute [go_sem] Itm.t_mk Itm.l_mk
attribute [grind =] Itm.t_mk Itm.l_mk
attribute [ext] Itm.ext
attribute [grind ext] Itm.ext
inductive Wri where
  | mk (f a : ByteArray) (i : Int) (c : Cel)
def Wri.f : Wri → ByteArray | .mk f _ _ _ => f
def Wri.a : Wri → ByteArray | .mk _ a _ _ => a
def Wri.i : Wri → Int | .mk _ _ i _ => i
def Wri.c : Wri → Cel | .mk _ _ _ c => c
theorem Wri.f_mk (f a : ByteArray) (i : Int) (c : Cel) : (Wri.mk f a i c).f = f := rfl
theorem Wri.a_mk (f a : ByteArray) (i : Int) (c : Cel) : (Wri.mk f a i c).a = a := rfl
theorem Wri.i_mk (f a : ByteArray) (i : Int) (c : Cel) : (Wri.mk f a i c).i = i := rfl
theorem Wri.c_mk (f a : ByteArray) (i : Int) (c : Cel) : (Wri.mk f a i c).c = c := rfl
attribute [go_sem] Wri.f_mk Wri.a_mk Wri.i_mk Wri.c_mk
abbrev wx (x : Wri) : AV := .ag [.s x.f, .s x.a, .i .i64 x.i, .s x.c.f, .s x.c.a, .i .i64 x.c.v.k, .i .i64 x.c.v.n, .s x.c.v.s, .ds (mapC valC x.c.v.items), .ds (stC x.c.v.keys)]
inductive Dat where
  | mk (i : List Itm) (w : List Wri)
def Dat.i : Dat → List Itm | .mk i _ => i
theorem Dat.i_mk (i : List Itm) (w : List Wri) : (Dat.mk i w).i = i := rfl
def Dat.w : Dat → List Wri | .mk _ w => w
theorem Dat.w_mk (i : List Itm) (w : List Wri) : (Dat.mk i w).w = w := rfl
theorem Dat.ext {x y : Dat} (h0 : x.i = y.i) (h1 : x.w = y.w) : x = y := by cases x; cases y; simp only [Dat.i_mk, Dat.w_mk] at *; simp [*]
attribute [go_sem] Dat.i_mk Dat.w_mk
attribute [grind =] Dat.i_mk Dat.w_mk
attribute [ext] Dat.ext
attribute [grind ext] Dat.ext
/-- A reference or a failure that is well-formed. -/
noncomputable def refV (v : Val) : Bool := decide ((v.items.length : Int) = 0) && decide ((v.keys.length : Int) = 0) && (decide (v.k = 8) && decide (0 ≤ v.n) && decide (v.s = ⟨#[]⟩) || decide (v.k = 9) && decide (v.n = 0))
mutual
noncomputable def plV : Val → Val × Bool
  | .mk k n s i l => if k = 8 ∨ k = 9 then (zVal, refV (.mk k n s i l)) else (.mk k n s (plL i).1 l, (plL i).2)
noncomputable def plL : List Val → List Val × Bool
  | [] => ([], true)
  | x :: r => ((plV x).1 :: (plL r).1, (plV x).2 && (plL r).2)
end
/-- A right cell. -/
noncomputable def okC (c : Cel) : Bool := (plV c.v).2 && nmS c.f && rightV false (plV c.v).1
end Go.Proofs.YtgollgfifnmaaaaDoor
namespace Go.Proofs.YtgollgfifnmaaaaDoor
open Go.Eng
set_option linter.unusedVariables false
set_option linter.unusedSimpArgs false
set_option maxRecDepth 20000
inductive Dat.Fit : Dat → Prop
  | mk (d : Dat) : d.i.length ≤ 1000000000000 → d.w.length ≤ 1000000000000 → (∀ x ∈ d.i, x.l.length ≤ 1000000000000 ∧ ∀ c ∈ x.l, c.v.Fit) → (∀ x ∈ d.w, x.c.v.Fit) → Dat.Fit d
theorem Dat.Fit.li {d : Dat} (h : d.Fit) : d.i.length ≤ 1000000000000 := by cases h; assumption
theorem Dat.Fit.c {d : Dat} (h : d.Fit) {x : Itm} (hx : x ∈ d.i) {c : Cel} (hc : c ∈ x.l) : c.v.Fit := by cases h; rename_i h _; exact (h x hx).2 c hc
theorem Dat.Fit.w {d : Dat} (h : d.Fit) {x : Wri} (hx : x ∈ d.w) : x.c.v.Fit := by cases h; rename_i h; exact h x hx
end Go.Proofs.YtgollgfifnmaaaaDoor
namespace Go.Proofs.YtgollgfifnmaaaaDoor
open Go.Eng
set_option linter.unusedVariables false
set_option linter.unusedSimpArgs false
set_option maxRecDepth 20000
def txV (s : ByteArray) : Val := .mk 3 0 s [] []
end Go.Proofs.YtgollgfifnmaaaaDoor
namespace Go.Proofs.YtgollgfifnmaaaaDoor
open Go.Eng
set_option linter.unusedVariables false
set_option linter.unusedSimpArgs false
set_option maxRecDepth 20000
inductive Ky where
  | mk (t : ByteArray) (g : Int) (l : List ByteArray)
def Ky.t : Ky → ByteArray | .mk t _ _ => t
theorem Ky.t_mk (t : ByteArray) (g : Int) (l : List ByteArray) : (Ky.mk t g l).t = t := rfl
def Ky.g : Ky → Int | .mk _ g _ => g
theorem Ky.g_mk (t : ByteArray) (g : Int) (l : List ByteArray) : (Ky.mk t g l).g = g := rfl
def Ky.l : Ky → List ByteArray | .mk _ _ l => l
theorem Ky.l_mk (t : ByteArray) (g : Int) (l : List ByteArray) : (Ky.mk t g l).l = l := rfl
theorem Ky.ext {x y : Ky} (h0 : x.t = y.t) (h1 : x.g = y.g) (h2 : x.l = y.l) : x = y := by cases x; cases y; simp only [Ky.t_mk, Ky.g_mk, Ky.l_mk] at *; simp [*]
attribute [go_sem] Ky.t_mk Ky.g_mk Ky.l_mk
attribute [grind =] Ky.t_mk Ky.g_mk Ky.l_mk
attribute [ext] Ky.ext
attribute [grind ext] Ky.ext
end Go.Proofs.YtgollgfifnmaaaaDoor
