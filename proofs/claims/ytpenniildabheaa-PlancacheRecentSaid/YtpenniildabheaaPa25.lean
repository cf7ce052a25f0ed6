/-
  The parts VaA of the proof, in one file. Conditions: none.
-/
import Derived.Test.YtpenniildabheaaPa24
namespace Go.Proofs.Ytpenniildabheaa
open Go.Eng
set_option linter.unusedVariables false
set_option linter.unusedSimpArgs false
inductive Val where
  | mk (k n : Int) (s : ByteArray) (items : List Val) (keys : List ByteArray)
def Val.k : Val → Int | .mk k _ _ _ _ => k
def Val.n : Val → Int | .mk _ n _ _ _ => n
def Val.s : Val → ByteArray | .mk _ _ s _ _ => s
def Val.items : Val → List Val | .mk _ _ _ i _ => i
def Val.keys : Val → List ByteArray | .mk _ _ _ _ l => l
section
variable (k n : Int) (s : ByteArray) (i : List Val) (l : List ByteArray)
theorem Val.k_mk : (Val.mk k n s i l).k = k := rfl
theorem Val.n_mk : (Val.mk k n s i l).n = n := rfl
theorem Val.s_mk : (Val.mk k n s i l).s = s := rfl
theorem Val.items_mk : (Val.mk k n s i l).items = i := rfl
theorem Val.keys_mk : (Val.mk k n s i l).keys = l := rfl
end
theorem Val.ext {v w : Val} (h1 : v.k = w.k) (h2 : v.n = w.n) (h3 : v.s = w.s) (h4 : v.items = w.items) (h5 : v.keys = w.keys) : v = w := by
  cases v; cases w
  simp only [Val.k_mk, Val.n_mk, Val.s_mk, Val.items_mk, Val.keys_mk] at *
  simp [*]
mutual
def valC : Val → List AV
  | .mk k n s i l => [.i .i64 k, .i .i64 n, .s s, .ds (valsC i), .ds (stC l)]
def valsC : List Val → List (List AV)
  | [] => []
  | v :: r => valC v :: valsC r
end
def Val.av (v : Val) : AV := .ag (valC v)
theorem Val.av_eq (v : Val) : v.av = .ag (valC v) := rfl
/-- No list is too long for memory. -/
inductive Val.Fit : Val → Prop
  | mk (v : Val) : v.items.length * 80 ≤ 140737488355327 → v.keys.length * 16 ≤ 140737488355327 → (∀ x ∈ v.items, Val.Fit x) → Val.Fit v
theorem Val.Fit.i {v : Val} (h : v.Fit) : v.items.length * 80 ≤ 140737488355327 := by cases h; assumption
theorem Val.Fit.l {v : Val} (h : v.Fit) : v.keys.length * 16 ≤ 140737488355327 := by cases h; assumption
theorem Val.Fit.x {v : Val} (h : v.Fit) {x : Val} (hx : x ∈ v.items) : x.Fit := by cases h with | mk _ _ _ h => exact h x hx
/-- A value as a struct. -/
abbrev vx (v : Val) : AV := .ag [.i .i64 v.k, .i .i64 v.n, .s v.s, .ds (mapC valC v.items), .ds (stC v.keys)]
theorem snoc_st (l : List ByteArray) (y : ByteArray) : mapC st1 l ++ [[AV.s y]] = mapC st1 (l ++ [y]) := mapC_snoc st1 l y
theorem pos_sn (n : Nat) : (0 < n + 1) = True := by simp
attribute [go_sem] pos_sn
attribute [go_sem] snoc_st AV.one
attribute [go_sem] vx
attribute [go_sem] Val.av_eq Val.k_mk Val.n_mk Val.s_mk Val.items_mk Val.keys_mk
attribute [grind =] Val.k_mk Val.n_mk Val.s_mk Val.items_mk Val.keys_mk
theorem drop_at {α : Type} {l : List α} {j : Nat} {x : α} (h : l[j]? = some x) : l.drop j = x :: l.drop (j + 1) := by
  obtain ⟨hj, rfl⟩ := List.getElem?_eq_some_iff.1 h
  exact List.drop_eq_getElem_cons hj
/-- The place of a key, counted from j on, or -1. -/
def ix (k : ByteArray) : List ByteArray → Nat → Int
  | [], _ => -1
  | x :: r, j => if k = x then j else ix k r (j + 1)
noncomputable instance : DecidableEq Val := fun _ _ => Classical.propDecidable _
end Go.Proofs.Ytpenniildabheaa
