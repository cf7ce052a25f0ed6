/-
  DERIVED. GIVEN WITH THE SEED: THE CARDS: each row of YthiifoleopdieaaGreatDoorRows.lean that lists a variable, with what it lists TIED to the program's text (the seventh form; the later family's looks); each row that meets fmt, with fmt's text TOLD by the authors' own Lean function (tested against real Go, not proved from fmt's source: count such statements apart). THE CARD IS WHAT COUNTS. Prove the row's statement (the work); the ties are given (YthiifoleopdieaaGreatDoorTie.lean); close each card by the builder's one call (the guide's Derived/Test/ToyasCard.lean, 'card_holds'). Laid BY PROGRAM, IN A SANDBOX (cutbox-door.mjs). By AI agents, Wed Nov 11 2026. No macro, syntax, notation, axiom, sorry.
-/
import Derived.Test.YthiifoleopdieaaGreatDoorRows
import GoSem.ClaimSeven
namespace Go.Proofs.YthiifoleopdieaaGreatDoor
namespace Rows

/-- THE TIED CARD OF 'supergraphlaw21.IdealArgs'. -/
def idealArgsCard : Claim7 := { stood := { row := idealArgsRow, standIns := [], harness := (true, "542a1d5bc038b7b39b7a410f80ac5c8458394fa4bc5ad58c2b6b802961a55e9a"), looks := false }, kinds := [], alts := [], laidByText := true, laidKinds := [.data, .data, .data], laidTests := true, laidLooks := .later }
def IdealArgsCardSaid : Prop := Claim7.holds Tryz.pinned (.plain (OpenSpec.ofChange idealArgsSpec)) idealArgsCard

/-- THE TIED CARD OF 'supergraphlaw21.IdealObject'. -/
def idealObjectCard : Claim7 := { stood := { row := idealObjectRow, standIns := [], harness := (true, "542a1d5bc038b7b39b7a410f80ac5c8458394fa4bc5ad58c2b6b802961a55e9a"), looks := false }, kinds := [], alts := [], laidByText := true, laidKinds := [.data, .data, .data], laidTests := true, laidLooks := .later }
def IdealObjectCardSaid : Prop := Claim7.holds Tryz.pinned (.plain (OpenSpec.ofChange idealObjectSpec)) idealObjectCard

/-- THE TIED CARD OF 'supergraphlaw21.IdealRun'. -/
def idealRunCard : Claim7 := { stood := { row := idealRunRow, standIns := [], harness := (true, "542a1d5bc038b7b39b7a410f80ac5c8458394fa4bc5ad58c2b6b802961a55e9a"), looks := false }, kinds := [], alts := [], laidByText := true, laidKinds := [.data, .data, .data], laidTests := true, laidLooks := .later }
def IdealRunCardSaid : Prop := Claim7.holds Tryz.pinned (.plain (OpenSpec.ofChange idealRunSpec)) idealRunCard

/-- THE TIED CARD OF 'supergraphlaw21.IdealFields'. -/
def idealFieldsCard : Claim7 := { stood := { row := idealFieldsRow, standIns := [], harness := (true, "542a1d5bc038b7b39b7a410f80ac5c8458394fa4bc5ad58c2b6b802961a55e9a"), looks := false }, kinds := [], alts := [], laidByText := true, laidKinds := [.data, .data, .data], laidTests := true, laidLooks := .later }
def IdealFieldsCardSaid : Prop := Claim7.holds Tryz.pinned (.plain (OpenSpec.ofChange idealFieldsSpec)) idealFieldsCard

/-- THE TIED CARD OF 'supergraphlaw21.IdealParts'. -/
def idealPartsCard : Claim7 := { stood := { row := idealPartsRow, standIns := [], harness := (true, "542a1d5bc038b7b39b7a410f80ac5c8458394fa4bc5ad58c2b6b802961a55e9a"), looks := false }, kinds := [], alts := [], laidByText := true, laidKinds := [.data, .data, .data], laidTests := true, laidLooks := .later }
def IdealPartsCardSaid : Prop := Claim7.holds Tryz.pinned (.plain (OpenSpec.ofChange idealPartsSpec)) idealPartsCard

/-- THE TIED CARD OF 'supergraphlaw39.SerialRun'. -/
def serialRunCard : Claim7 := { stood := { row := serialRunRow, standIns := [], harness := (true, "542a1d5bc038b7b39b7a410f80ac5c8458394fa4bc5ad58c2b6b802961a55e9a"), looks := false }, kinds := [], alts := [], laidByText := true, laidKinds := [.data, .data, .data], laidTests := true, laidLooks := .later }
def SerialRunCardSaid : Prop := Claim7.holds Tryz.pinned (.plain (OpenSpec.ofChange serialRunSpec)) serialRunCard

/-- THE TIED CARD OF 'supergraphlaw39.SerialIdeal'. -/
def serialIdealCard : Claim7 := { stood := { row := serialIdealRow, standIns := [], harness := (true, "542a1d5bc038b7b39b7a410f80ac5c8458394fa4bc5ad58c2b6b802961a55e9a"), looks := false }, kinds := [], alts := [], laidByText := true, laidKinds := [.data, .data, .data], laidTests := true, laidLooks := .later }
def SerialIdealCardSaid : Prop := Claim7.holds Tryz.pinned (.plain (OpenSpec.ofChange serialIdealSpec)) serialIdealCard

/-- THE SECOND FORM's CARD OF 'supergraphlaw21.IdealArgs'. -/
def idealArgsUptoCard : Claim7 := { stood := { row := idealArgsUptoRow, standIns := [], harness := (true, "542a1d5bc038b7b39b7a410f80ac5c8458394fa4bc5ad58c2b6b802961a55e9a"), looks := false }, kinds := [], alts := [], laidByText := true, laidKinds := [.data, .data, .data], laidTests := true, laidLooks := .later }
def IdealArgsUptoCardSaid : Prop := Claim7.holds Tryz.pinned (.plain (OpenSpec.upto idealArgsSpec)) idealArgsUptoCard

/-- THE SECOND FORM's CARD OF 'supergraphlaw21.IdealObject'. -/
def idealObjectUptoCard : Claim7 := { stood := { row := idealObjectUptoRow, standIns := [], harness := (true, "542a1d5bc038b7b39b7a410f80ac5c8458394fa4bc5ad58c2b6b802961a55e9a"), looks := false }, kinds := [], alts := [], laidByText := true, laidKinds := [.data, .data, .data], laidTests := true, laidLooks := .later }
def IdealObjectUptoCardSaid : Prop := Claim7.holds Tryz.pinned (.plain (OpenSpec.upto idealObjectSpec)) idealObjectUptoCard

/-- THE SECOND FORM's CARD OF 'supergraphlaw21.IdealRun'. -/
def idealRunUptoCard : Claim7 := { stood := { row := idealRunUptoRow, standIns := [], harness := (true, "542a1d5bc038b7b39b7a410f80ac5c8458394fa4bc5ad58c2b6b802961a55e9a"), looks := false }, kinds := [], alts := [], laidByText := true, laidKinds := [.data, .data, .data], laidTests := true, laidLooks := .later }
def IdealRunUptoCardSaid : Prop := Claim7.holds Tryz.pinned (.plain (OpenSpec.upto idealRunSpec)) idealRunUptoCard

/-- THE SECOND FORM's CARD OF 'supergraphlaw21.IdealFields'. -/
def idealFieldsUptoCard : Claim7 := { stood := { row := idealFieldsUptoRow, standIns := [], harness := (true, "542a1d5bc038b7b39b7a410f80ac5c8458394fa4bc5ad58c2b6b802961a55e9a"), looks := false }, kinds := [], alts := [], laidByText := true, laidKinds := [.data, .data, .data], laidTests := true, laidLooks := .later }
def IdealFieldsUptoCardSaid : Prop := Claim7.holds Tryz.pinned (.plain (OpenSpec.upto idealFieldsSpec)) idealFieldsUptoCard

/-- THE SECOND FORM's CARD OF 'supergraphlaw21.IdealParts'. -/
def idealPartsUptoCard : Claim7 := { stood := { row := idealPartsUptoRow, standIns := [], harness := (true, "542a1d5bc038b7b39b7a410f80ac5c8458394fa4bc5ad58c2b6b802961a55e9a"), looks := false }, kinds := [], alts := [], laidByText := true, laidKinds := [.data, .data, .data], laidTests := true, laidLooks := .later }
def IdealPartsUptoCardSaid : Prop := Claim7.holds Tryz.pinned (.plain (OpenSpec.upto idealPartsSpec)) idealPartsUptoCard

/-- THE SECOND FORM's CARD OF 'supergraphlaw39.SerialRun'. -/
def serialRunUptoCard : Claim7 := { stood := { row := serialRunUptoRow, standIns := [], harness := (true, "542a1d5bc038b7b39b7a410f80ac5c8458394fa4bc5ad58c2b6b802961a55e9a"), looks := false }, kinds := [], alts := [], laidByText := true, laidKinds := [.data, .data, .data], laidTests := true, laidLooks := .later }
def SerialRunUptoCardSaid : Prop := Claim7.holds Tryz.pinned (.plain (OpenSpec.upto serialRunSpec)) serialRunUptoCard

/-- THE SECOND FORM's CARD OF 'supergraphlaw39.SerialIdeal'. -/
def serialIdealUptoCard : Claim7 := { stood := { row := serialIdealUptoRow, standIns := [], harness := (true, "542a1d5bc038b7b39b7a410f80ac5c8458394fa4bc5ad58c2b6b802961a55e9a"), looks := false }, kinds := [], alts := [], laidByText := true, laidKinds := [.data, .data, .data], laidTests := true, laidLooks := .later }
def SerialIdealUptoCardSaid : Prop := Claim7.holds Tryz.pinned (.plain (OpenSpec.upto serialIdealSpec)) serialIdealUptoCard
end Rows
end Go.Proofs.YthiifoleopdieaaGreatDoor
