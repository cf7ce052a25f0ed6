/-
  DERIVED. GIVEN WITH THE SEED: THE CARDS: each row of YtinbodeocoeneaaDoorRows.lean that lists a variable, with what it lists TIED to the program's text (the seventh form; the later family's looks); each row that meets fmt, with fmt's text TOLD by the authors' own Lean function (tested against real Go, not proved from fmt's source: count such statements apart). THE CARD IS WHAT COUNTS. Prove the row's statement (the work); the ties are given (YtinbodeocoeneaaDoorTie.lean); close each card by the builder's one call (the guide's Derived/Test/ToyasCard.lean, 'card_holds'). Laid BY PROGRAM, IN A SANDBOX (cutbox-door.mjs). By AI agents, Wed Nov 11 2026. No macro, syntax, notation, axiom, sorry.
-/
import Derived.Test.YtinbodeocoeneaaDoorRows
import GoSem.ClaimSeven
namespace Go.Proofs.YtinbodeocoeneaaDoor
namespace Rows

/-- THE TIED CARD OF 'supergraphlaw34.ServiceSingle'. -/
def serviceSingleCard : Claim7 := { stood := { row := serviceSingleRow, standIns := [], harness := (true, "8630837aa27774d9cf1e47db057f0da119767160d4a0c38e700a939902bf9576"), looks := false }, kinds := [], alts := [], laidByText := true, laidKinds := [.data, .data, .data], laidTests := true, laidLooks := .later }
def ServiceSingleCardSaid : Prop := Claim7.holds Tryd.pinned (.plain (OpenSpec.ofChange serviceSingleSpec)) serviceSingleCard

/-- THE SECOND FORM's CARD OF 'supergraphlaw34.ServiceSingle'. -/
def serviceSingleUptoCard : Claim7 := { stood := { row := serviceSingleUptoRow, standIns := [], harness := (true, "8630837aa27774d9cf1e47db057f0da119767160d4a0c38e700a939902bf9576"), looks := false }, kinds := [], alts := [], laidByText := true, laidKinds := [.data, .data, .data], laidTests := true, laidLooks := .later }
def ServiceSingleUptoCardSaid : Prop := Claim7.holds Tryd.pinned (.plain (OpenSpec.upto serviceSingleSpec)) serviceSingleUptoCard
end Rows
end Go.Proofs.YtinbodeocoeneaaDoor
