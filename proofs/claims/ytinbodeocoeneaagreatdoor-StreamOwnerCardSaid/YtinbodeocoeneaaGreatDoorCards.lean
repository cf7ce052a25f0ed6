/-
  DERIVED. GIVEN WITH THE SEED: THE CARDS: each row of YtinbodeocoeneaaGreatDoorRows.lean that lists a variable, with what it lists TIED to the program's text (the seventh form; the later family's looks); each row that meets fmt, with fmt's text TOLD by the authors' own Lean function (tested against real Go, not proved from fmt's source: count such statements apart). THE CARD IS WHAT COUNTS. Prove the row's statement (the work); the ties are given (YtinbodeocoeneaaGreatDoorTie.lean); close each card by the builder's one call (the guide's Derived/Test/ToyasCard.lean, 'card_holds'). Laid BY PROGRAM, IN A SANDBOX (cutbox-door.mjs). By AI agents, Wed Nov 11 2026. No macro, syntax, notation, axiom, sorry.
-/
import Derived.Test.YtinbodeocoeneaaGreatDoorRows
import GoSem.ClaimSeven
namespace Go.Proofs.YtinbodeocoeneaaGreatDoor
namespace Rows

/-- THE TIED CARD OF 'supergraphlaw45.StreamSource'. -/
def streamSourceCard : Claim7 := { stood := { row := streamSourceRow, standIns := [], harness := (true, "21254ccbfc8e31eb4a86f80ca0438102f2a7484fc6989bc506056de68da91d2b"), looks := false }, kinds := [], alts := [], laidByText := true, laidKinds := [.data, .data, .data], laidTests := true, laidLooks := .later }
def StreamSourceCardSaid : Prop := Claim7.holds Tryz.pinned (.plain (OpenSpec.ofChange streamSourceSpec)) streamSourceCard

/-- THE TIED CARD OF 'supergraphlaw45.StreamEvent'. -/
def streamEventCard : Claim7 := { stood := { row := streamEventRow, standIns := [], harness := (true, "21254ccbfc8e31eb4a86f80ca0438102f2a7484fc6989bc506056de68da91d2b"), looks := false }, kinds := [], alts := [], laidByText := true, laidKinds := [.data, .data, .data], laidTests := true, laidLooks := .later }
def StreamEventCardSaid : Prop := Claim7.holds Tryz.pinned (.plain (OpenSpec.ofChange streamEventSpec)) streamEventCard

/-- THE TIED CARD OF 'supergraphlaw45.StreamEach'. -/
def streamEachCard : Claim7 := { stood := { row := streamEachRow, standIns := [], harness := (true, "21254ccbfc8e31eb4a86f80ca0438102f2a7484fc6989bc506056de68da91d2b"), looks := false }, kinds := [], alts := [], laidByText := true, laidKinds := [.data, .data, .data], laidTests := true, laidLooks := .later }
def StreamEachCardSaid : Prop := Claim7.holds Tryz.pinned (.plain (OpenSpec.ofChange streamEachSpec)) streamEachCard

/-- THE TIED CARD OF 'supergraphlaw45.StreamOwner'. -/
def streamOwnerCard : Claim7 := { stood := { row := streamOwnerRow, standIns := [], harness := (true, "21254ccbfc8e31eb4a86f80ca0438102f2a7484fc6989bc506056de68da91d2b"), looks := false }, kinds := [], alts := [], laidByText := true, laidKinds := [.data, .data, .data], laidTests := true, laidLooks := .later }
def StreamOwnerCardSaid : Prop := Claim7.holds Tryz.pinned (.plain (OpenSpec.ofChange streamOwnerSpec)) streamOwnerCard

/-- THE TIED CARD OF 'supergraphlaw45.StreamShape'. -/
def streamShapeCard : Claim7 := { stood := { row := streamShapeRow, standIns := [], harness := (true, "21254ccbfc8e31eb4a86f80ca0438102f2a7484fc6989bc506056de68da91d2b"), looks := false }, kinds := [], alts := [], laidByText := true, laidKinds := [.data, .data, .data], laidTests := true, laidLooks := .later }
def StreamShapeCardSaid : Prop := Claim7.holds Tryz.pinned (.plain (OpenSpec.ofChange streamShapeSpec)) streamShapeCard

/-- THE TIED CARD OF 'supergraphlaw34.ServiceRoots'. -/
def serviceRootsCard : Claim7 := { stood := { row := serviceRootsRow, standIns := [], harness := (true, "21254ccbfc8e31eb4a86f80ca0438102f2a7484fc6989bc506056de68da91d2b"), looks := false }, kinds := [], alts := [], laidByText := true, laidKinds := [.data, .data, .data], laidTests := true, laidLooks := .later }
def ServiceRootsCardSaid : Prop := Claim7.holds Tryz.pinned (.plain (OpenSpec.ofChange serviceRootsSpec)) serviceRootsCard

/-- THE TIED CARD OF 'supergraphlaw34.ServiceEntities'. -/
def serviceEntitiesCard : Claim7 := { stood := { row := serviceEntitiesRow, standIns := [], harness := (true, "21254ccbfc8e31eb4a86f80ca0438102f2a7484fc6989bc506056de68da91d2b"), looks := false }, kinds := [], alts := [], laidByText := true, laidKinds := [.data, .data, .data], laidTests := true, laidLooks := .later }
def ServiceEntitiesCardSaid : Prop := Claim7.holds Tryz.pinned (.plain (OpenSpec.ofChange serviceEntitiesSpec)) serviceEntitiesCard

/-- THE SECOND FORM's CARD OF 'supergraphlaw45.StreamSource'. -/
def streamSourceUptoCard : Claim7 := { stood := { row := streamSourceUptoRow, standIns := [], harness := (true, "21254ccbfc8e31eb4a86f80ca0438102f2a7484fc6989bc506056de68da91d2b"), looks := false }, kinds := [], alts := [], laidByText := true, laidKinds := [.data, .data, .data], laidTests := true, laidLooks := .later }
def StreamSourceUptoCardSaid : Prop := Claim7.holds Tryz.pinned (.plain (OpenSpec.upto streamSourceSpec)) streamSourceUptoCard

/-- THE SECOND FORM's CARD OF 'supergraphlaw45.StreamEvent'. -/
def streamEventUptoCard : Claim7 := { stood := { row := streamEventUptoRow, standIns := [], harness := (true, "21254ccbfc8e31eb4a86f80ca0438102f2a7484fc6989bc506056de68da91d2b"), looks := false }, kinds := [], alts := [], laidByText := true, laidKinds := [.data, .data, .data], laidTests := true, laidLooks := .later }
def StreamEventUptoCardSaid : Prop := Claim7.holds Tryz.pinned (.plain (OpenSpec.upto streamEventSpec)) streamEventUptoCard

/-- THE SECOND FORM's CARD OF 'supergraphlaw45.StreamEach'. -/
def streamEachUptoCard : Claim7 := { stood := { row := streamEachUptoRow, standIns := [], harness := (true, "21254ccbfc8e31eb4a86f80ca0438102f2a7484fc6989bc506056de68da91d2b"), looks := false }, kinds := [], alts := [], laidByText := true, laidKinds := [.data, .data, .data], laidTests := true, laidLooks := .later }
def StreamEachUptoCardSaid : Prop := Claim7.holds Tryz.pinned (.plain (OpenSpec.upto streamEachSpec)) streamEachUptoCard

/-- THE SECOND FORM's CARD OF 'supergraphlaw45.StreamOwner'. -/
def streamOwnerUptoCard : Claim7 := { stood := { row := streamOwnerUptoRow, standIns := [], harness := (true, "21254ccbfc8e31eb4a86f80ca0438102f2a7484fc6989bc506056de68da91d2b"), looks := false }, kinds := [], alts := [], laidByText := true, laidKinds := [.data, .data, .data], laidTests := true, laidLooks := .later }
def StreamOwnerUptoCardSaid : Prop := Claim7.holds Tryz.pinned (.plain (OpenSpec.upto streamOwnerSpec)) streamOwnerUptoCard

/-- THE SECOND FORM's CARD OF 'supergraphlaw45.StreamShape'. -/
def streamShapeUptoCard : Claim7 := { stood := { row := streamShapeUptoRow, standIns := [], harness := (true, "21254ccbfc8e31eb4a86f80ca0438102f2a7484fc6989bc506056de68da91d2b"), looks := false }, kinds := [], alts := [], laidByText := true, laidKinds := [.data, .data, .data], laidTests := true, laidLooks := .later }
def StreamShapeUptoCardSaid : Prop := Claim7.holds Tryz.pinned (.plain (OpenSpec.upto streamShapeSpec)) streamShapeUptoCard

/-- THE SECOND FORM's CARD OF 'supergraphlaw34.ServiceRoots'. -/
def serviceRootsUptoCard : Claim7 := { stood := { row := serviceRootsUptoRow, standIns := [], harness := (true, "21254ccbfc8e31eb4a86f80ca0438102f2a7484fc6989bc506056de68da91d2b"), looks := false }, kinds := [], alts := [], laidByText := true, laidKinds := [.data, .data, .data], laidTests := true, laidLooks := .later }
def ServiceRootsUptoCardSaid : Prop := Claim7.holds Tryz.pinned (.plain (OpenSpec.upto serviceRootsSpec)) serviceRootsUptoCard

/-- THE SECOND FORM's CARD OF 'supergraphlaw34.ServiceEntities'. -/
def serviceEntitiesUptoCard : Claim7 := { stood := { row := serviceEntitiesUptoRow, standIns := [], harness := (true, "21254ccbfc8e31eb4a86f80ca0438102f2a7484fc6989bc506056de68da91d2b"), looks := false }, kinds := [], alts := [], laidByText := true, laidKinds := [.data, .data, .data], laidTests := true, laidLooks := .later }
def ServiceEntitiesUptoCardSaid : Prop := Claim7.holds Tryz.pinned (.plain (OpenSpec.upto serviceEntitiesSpec)) serviceEntitiesUptoCard
end Rows
end Go.Proofs.YtinbodeocoeneaaGreatDoor
