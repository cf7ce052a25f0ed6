/-
  DERIVED. GIVEN WITH THE SEED: THE CARDS: each row of YtgollgfifnmaaaaDoorRows.lean that lists a variable, with what it lists TIED to the program's text (the seventh form; the later family's looks); each row that meets fmt, with fmt's text TOLD by the authors' own Lean function (tested against real Go, not proved from fmt's source: count such statements apart). THE CARD IS WHAT COUNTS. Prove the row's statement (the work); the ties are given (YtgollgfifnmaaaaDoorTie.lean); close each card by the builder's one call (the guide's Derived/Test/ToyasCard.lean, 'card_holds'). Laid BY PROGRAM, IN A SANDBOX (cutbox-door.mjs). By AI agents, Wed Nov 11 2026. No macro, syntax, notation, axiom, sorry.
-/
import Derived.Test.YtgollgfifnmaaaaDoorRows
import GoSem.ClaimSeven
namespace Go.Proofs.YtgollgfifnmaaaaDoor
namespace Rows

/-- THE TIED CARD OF 'supergraphlaw22.CompleteRuns'. -/
def completeRunsCard : Claim7 := { stood := { row := completeRunsRow, standIns := [], harness := (true, "9c687e16bd1ebc418c31332b30b2782bacec14d0fcdac6c3be93e267fe2e39d3"), looks := false }, kinds := [], alts := [], laidByText := true, laidKinds := [.data, .data, .data], laidTests := true, laidLooks := .later }
def CompleteRunsCardSaid : Prop := Claim7.holds Tryd.pinned (.plain (OpenSpec.ofChange completeRunsSpec)) completeRunsCard

/-- THE TIED CARD OF 'supergraphlaw22.CompleteLeaves'. -/
def completeLeavesCard : Claim7 := { stood := { row := completeLeavesRow, standIns := [], harness := (true, "9c687e16bd1ebc418c31332b30b2782bacec14d0fcdac6c3be93e267fe2e39d3"), looks := false }, kinds := [], alts := [], laidByText := true, laidKinds := [.data, .data, .data], laidTests := true, laidLooks := .later }
def CompleteLeavesCardSaid : Prop := Claim7.holds Tryd.pinned (.plain (OpenSpec.ofChange completeLeavesSpec)) completeLeavesCard

/-- THE TIED CARD OF 'supergraphlaw22.CompleteResponses'. -/
def completeResponsesCard : Claim7 := { stood := { row := completeResponsesRow, standIns := [], harness := (true, "9c687e16bd1ebc418c31332b30b2782bacec14d0fcdac6c3be93e267fe2e39d3"), looks := false }, kinds := [], alts := [], laidByText := true, laidKinds := [.data, .data, .data], laidTests := true, laidLooks := .later }
def CompleteResponsesCardSaid : Prop := Claim7.holds Tryd.pinned (.plain (OpenSpec.ofChange completeResponsesSpec)) completeResponsesCard

/-- THE TIED CARD OF 'supergraphlaw22.CompleteFits'. -/
def completeFitsCard : Claim7 := { stood := { row := completeFitsRow, standIns := [], harness := (true, "9c687e16bd1ebc418c31332b30b2782bacec14d0fcdac6c3be93e267fe2e39d3"), looks := false }, kinds := [], alts := [], laidByText := true, laidKinds := [.data, .data, .data], laidTests := true, laidLooks := .later }
def CompleteFitsCardSaid : Prop := Claim7.holds Tryd.pinned (.plain (OpenSpec.ofChange completeFitsSpec)) completeFitsCard

/-- THE TIED CARD OF 'supergraphlaw22.CompleteNulls'. -/
def completeNullsCard : Claim7 := { stood := { row := completeNullsRow, standIns := [], harness := (true, "9c687e16bd1ebc418c31332b30b2782bacec14d0fcdac6c3be93e267fe2e39d3"), looks := false }, kinds := [], alts := [], laidByText := true, laidKinds := [.data, .data, .data], laidTests := true, laidLooks := .later }
def CompleteNullsCardSaid : Prop := Claim7.holds Tryd.pinned (.plain (OpenSpec.ofChange completeNullsSpec)) completeNullsCard

/-- THE TIED CARD OF 'supergraphlaw22.CompleteCuts'. -/
def completeCutsCard : Claim7 := { stood := { row := completeCutsRow, standIns := [], harness := (true, "9c687e16bd1ebc418c31332b30b2782bacec14d0fcdac6c3be93e267fe2e39d3"), looks := false }, kinds := [], alts := [], laidByText := true, laidKinds := [.data, .data, .data], laidTests := true, laidLooks := .later }
def CompleteCutsCardSaid : Prop := Claim7.holds Tryd.pinned (.plain (OpenSpec.ofChange completeCutsSpec)) completeCutsCard

/-- THE SECOND FORM's CARD OF 'supergraphlaw22.CompleteRuns'. -/
def completeRunsUptoCard : Claim7 := { stood := { row := completeRunsUptoRow, standIns := [], harness := (true, "9c687e16bd1ebc418c31332b30b2782bacec14d0fcdac6c3be93e267fe2e39d3"), looks := false }, kinds := [], alts := [], laidByText := true, laidKinds := [.data, .data, .data], laidTests := true, laidLooks := .later }
def CompleteRunsUptoCardSaid : Prop := Claim7.holds Tryd.pinned (.plain (OpenSpec.upto completeRunsSpec)) completeRunsUptoCard

/-- THE SECOND FORM's CARD OF 'supergraphlaw22.CompleteLeaves'. -/
def completeLeavesUptoCard : Claim7 := { stood := { row := completeLeavesUptoRow, standIns := [], harness := (true, "9c687e16bd1ebc418c31332b30b2782bacec14d0fcdac6c3be93e267fe2e39d3"), looks := false }, kinds := [], alts := [], laidByText := true, laidKinds := [.data, .data, .data], laidTests := true, laidLooks := .later }
def CompleteLeavesUptoCardSaid : Prop := Claim7.holds Tryd.pinned (.plain (OpenSpec.upto completeLeavesSpec)) completeLeavesUptoCard

/-- THE SECOND FORM's CARD OF 'supergraphlaw22.CompleteResponses'. -/
def completeResponsesUptoCard : Claim7 := { stood := { row := completeResponsesUptoRow, standIns := [], harness := (true, "9c687e16bd1ebc418c31332b30b2782bacec14d0fcdac6c3be93e267fe2e39d3"), looks := false }, kinds := [], alts := [], laidByText := true, laidKinds := [.data, .data, .data], laidTests := true, laidLooks := .later }
def CompleteResponsesUptoCardSaid : Prop := Claim7.holds Tryd.pinned (.plain (OpenSpec.upto completeResponsesSpec)) completeResponsesUptoCard

/-- THE SECOND FORM's CARD OF 'supergraphlaw22.CompleteFits'. -/
def completeFitsUptoCard : Claim7 := { stood := { row := completeFitsUptoRow, standIns := [], harness := (true, "9c687e16bd1ebc418c31332b30b2782bacec14d0fcdac6c3be93e267fe2e39d3"), looks := false }, kinds := [], alts := [], laidByText := true, laidKinds := [.data, .data, .data], laidTests := true, laidLooks := .later }
def CompleteFitsUptoCardSaid : Prop := Claim7.holds Tryd.pinned (.plain (OpenSpec.upto completeFitsSpec)) completeFitsUptoCard

/-- THE SECOND FORM's CARD OF 'supergraphlaw22.CompleteNulls'. -/
def completeNullsUptoCard : Claim7 := { stood := { row := completeNullsUptoRow, standIns := [], harness := (true, "9c687e16bd1ebc418c31332b30b2782bacec14d0fcdac6c3be93e267fe2e39d3"), looks := false }, kinds := [], alts := [], laidByText := true, laidKinds := [.data, .data, .data], laidTests := true, laidLooks := .later }
def CompleteNullsUptoCardSaid : Prop := Claim7.holds Tryd.pinned (.plain (OpenSpec.upto completeNullsSpec)) completeNullsUptoCard

/-- THE SECOND FORM's CARD OF 'supergraphlaw22.CompleteCuts'. -/
def completeCutsUptoCard : Claim7 := { stood := { row := completeCutsUptoRow, standIns := [], harness := (true, "9c687e16bd1ebc418c31332b30b2782bacec14d0fcdac6c3be93e267fe2e39d3"), looks := false }, kinds := [], alts := [], laidByText := true, laidKinds := [.data, .data, .data], laidTests := true, laidLooks := .later }
def CompleteCutsUptoCardSaid : Prop := Claim7.holds Tryd.pinned (.plain (OpenSpec.upto completeCutsSpec)) completeCutsUptoCard
end Rows
end Go.Proofs.YtgollgfifnmaaaaDoor
