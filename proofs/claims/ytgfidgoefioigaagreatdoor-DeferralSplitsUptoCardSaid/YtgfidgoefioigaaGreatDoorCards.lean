/-
  DERIVED. GIVEN WITH THE SEED: THE CARDS: each row of YtgfidgoefioigaaGreatDoorRows.lean that lists a variable, with what it lists TIED to the program's text (the seventh form; the later family's looks); each row that meets fmt, with fmt's text TOLD by the authors' own Lean function (tested against real Go, not proved from fmt's source: count such statements apart). THE CARD IS WHAT COUNTS. Prove the row's statement (the work); the ties are given (YtgfidgoefioigaaGreatDoorTie.lean); close each card by the builder's one call (the guide's Derived/Test/ToyasCard.lean, 'card_holds'). Laid BY PROGRAM, IN A SANDBOX (cutbox-door.mjs). By AI agents, Wed Nov 11 2026. No macro, syntax, notation, axiom, sorry.
-/
import Derived.Test.YtgfidgoefioigaaGreatDoorRows
import GoSem.ClaimSeven
namespace Go.Proofs.YtgfidgoefioigaaGreatDoor
namespace Rows

/-- THE TIED CARD OF 'supergraphlaw38.DeferralSplits'. -/
def deferralSplitsCard : Claim7 := { stood := { row := deferralSplitsRow, standIns := [], harness := (true, "038ecd8f70fbc927b42b8d552f72ab59316e9051e2c0ca584d9b4ea5a63f0856"), looks := false }, kinds := [], alts := [], laidByText := true, laidKinds := [.data, .data, .data], laidTests := true, laidLooks := .later }
def DeferralSplitsCardSaid : Prop := Claim7.holds Tryz.pinned (.plain (OpenSpec.ofChange deferralSplitsSpec)) deferralSplitsCard

/-- THE TIED CARD OF 'supergraphlaw38.DeferralWhole'. -/
def deferralWholeCard : Claim7 := { stood := { row := deferralWholeRow, standIns := [], harness := (true, "038ecd8f70fbc927b42b8d552f72ab59316e9051e2c0ca584d9b4ea5a63f0856"), looks := false }, kinds := [], alts := [], laidByText := true, laidKinds := [.data, .data, .data], laidTests := true, laidLooks := .later }
def DeferralWholeCardSaid : Prop := Claim7.holds Tryz.pinned (.plain (OpenSpec.ofChange deferralWholeSpec)) deferralWholeCard

/-- THE TIED CARD OF 'supergraphlaw38.DeferralJoins'. -/
def deferralJoinsCard : Claim7 := { stood := { row := deferralJoinsRow, standIns := [], harness := (true, "038ecd8f70fbc927b42b8d552f72ab59316e9051e2c0ca584d9b4ea5a63f0856"), looks := false }, kinds := [], alts := [], laidByText := true, laidKinds := [.data, .data, .data], laidTests := true, laidLooks := .later }
def DeferralJoinsCardSaid : Prop := Claim7.holds Tryz.pinned (.plain (OpenSpec.ofChange deferralJoinsSpec)) deferralJoinsCard

/-- THE SECOND FORM's CARD OF 'supergraphlaw38.DeferralSplits'. -/
def deferralSplitsUptoCard : Claim7 := { stood := { row := deferralSplitsUptoRow, standIns := [], harness := (true, "038ecd8f70fbc927b42b8d552f72ab59316e9051e2c0ca584d9b4ea5a63f0856"), looks := false }, kinds := [], alts := [], laidByText := true, laidKinds := [.data, .data, .data], laidTests := true, laidLooks := .later }
def DeferralSplitsUptoCardSaid : Prop := Claim7.holds Tryz.pinned (.plain (OpenSpec.upto deferralSplitsSpec)) deferralSplitsUptoCard

/-- THE SECOND FORM's CARD OF 'supergraphlaw38.DeferralWhole'. -/
def deferralWholeUptoCard : Claim7 := { stood := { row := deferralWholeUptoRow, standIns := [], harness := (true, "038ecd8f70fbc927b42b8d552f72ab59316e9051e2c0ca584d9b4ea5a63f0856"), looks := false }, kinds := [], alts := [], laidByText := true, laidKinds := [.data, .data, .data], laidTests := true, laidLooks := .later }
def DeferralWholeUptoCardSaid : Prop := Claim7.holds Tryz.pinned (.plain (OpenSpec.upto deferralWholeSpec)) deferralWholeUptoCard

/-- THE SECOND FORM's CARD OF 'supergraphlaw38.DeferralJoins'. -/
def deferralJoinsUptoCard : Claim7 := { stood := { row := deferralJoinsUptoRow, standIns := [], harness := (true, "038ecd8f70fbc927b42b8d552f72ab59316e9051e2c0ca584d9b4ea5a63f0856"), looks := false }, kinds := [], alts := [], laidByText := true, laidKinds := [.data, .data, .data], laidTests := true, laidLooks := .later }
def DeferralJoinsUptoCardSaid : Prop := Claim7.holds Tryz.pinned (.plain (OpenSpec.upto deferralJoinsSpec)) deferralJoinsUptoCard
end Rows
end Go.Proofs.YtgfidgoefioigaaGreatDoor
