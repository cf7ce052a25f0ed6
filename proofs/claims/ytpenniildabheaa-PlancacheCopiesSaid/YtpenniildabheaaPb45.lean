/-
  The parts PcCA of the proof, in one file. Conditions: none.
-/
import Derived.Test.YtpenniildabheaaPb44
namespace Go.Eng
set_option linter.unusedVariables false
/-- How often a loop is gone through. -/
inductive Fl
  | z
  | s (f : Fl)
def unrQ (K : St → Prop) (Q : Exit → St → Prop) : Exit → St → Prop
  | .normal, s => K s
  | e, s => Q e s
def unr (P : Program) (c : CC) (Q : Exit → St → Prop) : Fl → St → Prop
  | .z, _ => False
  | .s f, st => vc P c st (unrQ (unr P c Q f) Q)
def Fl.n : Fl → Nat
  | .z => 0
  | .s f => f.n + 1
theorem unroll {P : Program} {c : CC} {Q : Exit → St → Prop} (f : Fl) {st : St} (h : unr P c Q f st) : vcLoop (vc P c) st Q := by
  refine ⟨fun m s => ∃ f : Fl, f.n = m ∧ unr P c Q f s, ⟨f.n, st, ⟨f, rfl, h⟩, Weak.refl _⟩, ?_⟩
  rintro m s ⟨f, rfl, h⟩
  cases f with
  | z => exact h.elim
  | s f =>
    refine vc_mono c s _ _ (fun e s' q => ?_) (show vc P c s (unrQ (unr P c Q f) Q) from h)
    cases e with
    | normal => exact ⟨f.n, s', Nat.lt_succ_self _, ⟨f, rfl, q⟩, (Weak.refl _).g⟩
    | _ => exact q
attribute [go_sem] unrQ unr
end Go.Eng
namespace Go.Proofs.Ytpenniildabheaa
open Go.Eng
set_option linter.unusedVariables false
set_option linter.unusedSimpArgs false
/-- A pick of plans that stand for a number: its arguments, wrappers and picks may lie in rows. -/
def pkN (k : ByteArray) (β α γ : AV) : List AV := [.s k, .s ⟨#[81, 117, 101, 114, 121]⟩, .s ⟨#[97]⟩, β, .s ⟨#[73, 110, 116]⟩, α, .s ⟨#[]⟩, .i .i64 (-1), γ]
end Go.Proofs.Ytpenniildabheaa
