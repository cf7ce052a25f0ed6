/-
  The parts VaF VaH of the proof, in one file. Conditions: none.
-/
import Derived.Test.YthiifoleopdieaaPu27
namespace Go.Proofs.Ythiifoleopdieaa
open Go.Eng
set_option linter.unusedVariables false
set_option linter.unusedSimpArgs false
set_option maxRecDepth 20000
def chL (c : Int) : Bool := decide (65 ≤ c) && decide (c ≤ 90) || decide (97 ≤ c) && decide (c ≤ 122) || decide (c = 95)
def chD (c : Int) : Bool := decide (48 ≤ c) && decide (c ≤ 57)
def nmL (l : List UInt8) : Bool := l.all fun c => chL c.toNat || chD c.toNat
/-- A name. -/
def nmS (s : ByteArray) : Bool := decide (0 < s.size) && decide (s.size ≤ 64) && !chD ((bs s).getD 0 0).toNat && nmL (bs s)
end Go.Proofs.Ythiifoleopdieaa
namespace Go.Proofs.Ythiifoleopdieaa
open Go.Eng
set_option linter.unusedVariables false
set_option linter.unusedSimpArgs false
set_option maxRecDepth 20000
def fidx {α : Type} (q : α → Bool) : List α → Nat → Int
  | [], _ => -1
  | x :: r, j => if q x = true then j else fidx q r (j + 1)
theorem fidx_any {α : Type} (q : α → Bool) : ∀ (l : List α) (j : Nat), decide (0 ≤ fidx q l j) = l.any q
  | [], j => rfl
  | x :: r, j => by
    rw [fidx, List.any_cons]
    cases h : q x
    · rw [if_neg (by simp), fidx_any q r (j + 1), Bool.false_or]
    · rw [if_pos rfl]; simp
attribute [go_sem] st1
abbrev sx (s : ByteArray) : AV := .s s
/-- Whether a string occurs twice. -/
noncomputable def tw (l : List ByteArray) : Bool := !decide l.Nodup
end Go.Proofs.Ythiifoleopdieaa
