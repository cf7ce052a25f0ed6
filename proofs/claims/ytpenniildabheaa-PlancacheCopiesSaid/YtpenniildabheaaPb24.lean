/-
  The parts CcV VaA VaB of the proof, in one file. Conditions: none.
-/
import Derived.Test.YtpenniildabheaaProg
import Derived.KernelRfl
import Derived.Test.YtpenniildabheaaPb23
namespace Go.Proofs.Ytpenniildabheaa
open Go.Eng
set_option maxRecDepth 100000
def ck38 : CC := (.sq (.rg [⟨(some 2), (.mv (.c .e0)), none, [1, 2, 3, 4, 5, 6, 7], false⟩]) (.sq (.sq (.rg [⟨(some 3), (.mv (.t 0)), none, [], false⟩, ⟨(some 4), (.nl false (.t 3)), none, [3], false⟩]) (.cd (.t 4) (.sq (.rg [⟨(some 2), (.mv (.c .e0)), none, [0, 4], false⟩]) .rt) .skip)) (.sq (.rg [⟨(some 5), (.bs false 2 []), none, [4], false⟩, ⟨(some 6), (.mv (.t 0)), none, [0], false⟩, ⟨(some 7), (.ap (.t 5) (.t 6) 2 32), none, [5, 6], false⟩, ⟨(some 2), (.mv (.t 7)), none, [7], false⟩]) .rt)))
theorem cc38 : (Try.f38.body.bind (ccode Try.prog 8)) = some ck38.erase := by kernel_rfl
theorem cr38 : rsv Try.prog 8 Try.f38.results.toList = some [(.t 2)] := by kernel_rfl
def ck39 : CC := (.sq (.rg [⟨(some 2), (.mv (.c .e0)), none, [1, 2, 3, 4, 5, 6, 7], false⟩]) (.sq (.sq (.rg [⟨(some 3), (.mv (.t 0)), none, [], false⟩, ⟨(some 4), (.nl false (.t 3)), none, [3], false⟩]) (.cd (.t 4) (.sq (.rg [⟨(some 2), (.mv (.c .e0)), none, [0, 4], false⟩]) .rt) .skip)) (.sq (.rg [⟨(some 5), (.bs false 1 []), none, [4], false⟩, ⟨(some 6), (.mv (.t 0)), none, [0], false⟩, ⟨(some 7), (.ap (.t 5) (.t 6) 1 16), none, [5, 6], false⟩, ⟨(some 2), (.mv (.t 7)), none, [7], false⟩]) .rt)))
theorem cc39 : (Try.f39.body.bind (ccode Try.prog 8)) = some ck39.erase := by kernel_rfl
theorem cr39 : rsv Try.prog 8 Try.f39.results.toList = some [(.t 2)] := by kernel_rfl
def ck40 : CC := (.sq (.rg [⟨(some 2), (.mv (.c .e0)), none, [1, 2, 3, 4, 5, 6, 7], false⟩]) (.sq (.sq (.rg [⟨(some 3), (.mv (.t 0)), none, [], false⟩, ⟨(some 4), (.nl false (.t 3)), none, [3], false⟩]) (.cd (.t 4) (.sq (.rg [⟨(some 2), (.mv (.c .e0)), none, [0, 4], false⟩]) .rt) .skip)) (.sq (.rg [⟨(some 5), (.bs false 1 []), none, [4], false⟩, ⟨(some 6), (.mv (.t 0)), none, [0], false⟩, ⟨(some 7), (.ap (.t 5) (.t 6) 1 8), none, [5, 6], false⟩, ⟨(some 2), (.mv (.t 7)), none, [7], false⟩]) .rt)))
theorem cc40 : (Try.f40.body.bind (ccode Try.prog 8)) = some ck40.erase := by kernel_rfl
theorem cr40 : rsv Try.prog 8 Try.f40.results.toList = some [(.t 2)] := by kernel_rfl
end Go.Proofs.Ytpenniildabheaa
namespace Go.Proofs.Ytpenniildabheaa
open Go.Eng
set_option linter.unusedVariables false
set_option linter.unusedSimpArgs false
inductive Val where
  | mk (k n : Int) (s : ByteArray) (items : List Val) (keys : List ByteArray)
def Val.k : Val → Int | .mk k _ _ _ _ => k
def Val.n : Val → Int | .mk _ n _ _ _ => n
def Val.s : Val → ByteArray | .mk _ _ s _ _ => s
def Val.items : Val → List Val | .mk _ _ _ i _ => i
def Val.keys : Val → List ByteArray | .mk _ _ _ _ l => l
section
variable (k n : Int) (s : ByteArray) (i : List Val) (l : List ByteArray)
theorem Val.k_mk : (Val.mk k n s i l).k = k := rfl
theorem Val.n_mk : (Val.mk k n s i l).n = n := rfl
theorem Val.s_mk : (Val.mk k n s i l).s = s := rfl
theorem Val.items_mk : (Val.mk k n s i l).items = i := rfl
theorem Val.keys_mk : (Val.mk k n s i l).keys = l := rfl
end
theorem Val.ext {v w : Val} (h1 : v.k = w.k) (h2 : v.n = w.n) (h3 : v.s = w.s) (h4 : v.items = w.items) (h5 : v.keys = w.keys) : v = w := by
  cases v; cases w
  simp only [Val.k_mk, Val.n_mk, Val.s_mk, Val.items_mk, Val.keys_mk] at *
  simp [*]
mutual
def valC : Val → List AV
  | .mk k n s i l => [.i .i64 k, .i .i64 n, .s s, .ds (valsC i), .ds (stC l)]
def valsC : List Val → List (List AV)
  | [] => []
  | v :: r => valC v :: valsC r
end
def Val.av (v : Val) : AV := .ag (valC v)
theorem Val.av_eq (v : Val) : v.av = .ag (valC v) := rfl
/-- No list is too long for memory. -/
inductive Val.Fit : Val → Prop
  | mk (v : Val) : v.items.length * 80 ≤ 140737488355327 → v.keys.length * 16 ≤ 140737488355327 → (∀ x ∈ v.items, Val.Fit x) → Val.Fit v
theorem Val.Fit.i {v : Val} (h : v.Fit) : v.items.length * 80 ≤ 140737488355327 := by cases h; assumption
theorem Val.Fit.l {v : Val} (h : v.Fit) : v.keys.length * 16 ≤ 140737488355327 := by cases h; assumption
theorem Val.Fit.x {v : Val} (h : v.Fit) {x : Val} (hx : x ∈ v.items) : x.Fit := by cases h with | mk _ _ _ h => exact h x hx
/-- A value as a struct. -/
abbrev vx (v : Val) : AV := .ag [.i .i64 v.k, .i .i64 v.n, .s v.s, .ds (mapC valC v.items), .ds (stC v.keys)]
theorem snoc_st (l : List ByteArray) (y : ByteArray) : mapC st1 l ++ [[AV.s y]] = mapC st1 (l ++ [y]) := mapC_snoc st1 l y
theorem pos_sn (n : Nat) : (0 < n + 1) = True := by simp
attribute [go_sem] pos_sn
attribute [go_sem] snoc_st AV.one
attribute [go_sem] vx
attribute [go_sem] Val.av_eq Val.k_mk Val.n_mk Val.s_mk Val.items_mk Val.keys_mk
attribute [grind =] Val.k_mk Val.n_mk Val.s_mk Val.items_mk Val.keys_mk
theorem drop_at {α : Type} {l : List α} {j : Nat} {x : α} (h : l[j]? = some x) : l.drop j = x :: l.drop (j + 1) := by
  obtain ⟨hj, rfl⟩ := List.getElem?_eq_some_iff.1 h
  exact List.drop_eq_getElem_cons hj
/-- The place of a key, counted from j on, or -1. -/
def ix (k : ByteArray) : List ByteArray → Nat → Int
  | [], _ => -1
  | x :: r, j => if k = x then j else ix k r (j + 1)
noncomputable instance : DecidableEq Val := fun _ _ => Classical.propDecidable _
end Go.Proofs.Ytpenniildabheaa
namespace Go.Proofs.Ytpenniildabheaa
open Go.Eng
set_option linter.unusedVariables false
set_option linter.unusedSimpArgs false
set_option maxRecDepth 20000
theorem clone_ok (l : List ByteArray) (h : l.length * 16 ≤ 140737488355327) (hp : CH) (m : Nat) : MeetsF Try.prog 39 hp m [.ds (stC l)] (.ds (stC l)) := by
  refine meetsF Try.func39 (by kernel_rfl) cc39 cr39 rfl fun hf => ?_; unfold ck39
  simp only [go_sem, ↓reduceIte, Nat.reduceEqDiff, Nat.reduceBEq, Nat.reduceAdd, Nat.reduceLeDiff, Nat.reduceLT, reduceCtorEq, Nat.reduceMul, Nat.reduceSub, Int.reduceEq, Int.reduceLT, Int.reduceLE, Int.reduceToNat]
  exact ⟨fun e => by rw [e], by omega, by omega⟩
end Go.Proofs.Ytpenniildabheaa
