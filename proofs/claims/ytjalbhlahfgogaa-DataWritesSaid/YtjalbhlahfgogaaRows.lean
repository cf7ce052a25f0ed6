/-
  NARROWER THAN 'FOR EVERY INPUT', by the rows' own cells (each row's printed sentence says how): DataRights: loops · DataLookups: loops · DataApplies: loops · DataWrites: loops · DataFinds: loops · DataSounds: loops.
  DERIVED. THE GIVEN ROWS OF THIS SEAT. 7 by the template 'for every input the law returns true; each argument reads behind the call as it read before'; 0 by the template 'total and deterministic' (their statements: YtjalbhlahfgogaaTotals.lean).
  GIVEN WITH THE SEED: the statements are not yours to turn. If you find one false, say at which input.
  Laid BY PROGRAM, IN A SANDBOX (cutbox-rows.mjs): the forced cells as the released guide's own fill.sh prints them over the translation 264f2b1613946efb… (all of the seat's roots in one cut). By AI agents, Wed Nov 11 2026. No macro, syntax, notation, axiom, sorry.
-/
import Derived.Test.YtjalbhlahfgogaaChecked
import GoSem.Claim
import GoSem.ClaimJoined
import GoSem.ClaimMapViews
import Derived.JoinedTies
import Derived.KernelRfl
namespace Go.Proofs.Ytjalbhlahfgogaa
/- THE CELL 'sum', in the pinned program and in every row, IS THE sha256 OF THE DUMP (.gsa) THAT YtjalbhlahfgogaaProg.lean LOADS. Nothing in Lean hashes anything: it is a label: what it is worth is what the hold of that sum in a sandbox is worth. -/
noncomputable def Try.pinned : Pinned := { name := "ytjalbhlahfgogaa", sum := "264f2b1613946efbdefa908e7595b34b73e82b77843f9128ec0461e1f109d698", checked := Try.checked }
namespace Rows
def none {H : Type} : Left H := { results := [], args := [] }

/-- 'supergraphlaw20.DataRights': WHATEVER THE INPUT: true; the input reads as it did. -/
def dataRightsSpec : ChangeSpec := { name := "dataRights", fn := fun _ => fun
  | [d] => { results := [.lit (.bool true)], args := [d] }
  | _ => none }
def dataRightsRow : OpenClaim := { program := "ytjalbhlahfgogaa", sum := "264f2b1613946efbdefa908e7595b34b73e82b77843f9128ec0461e1f109d698", func := "supergraph/supergraphlaw20.DataRights", spec := "dataRights", unfollowed := true, recurses := true, loops := true, apart := false }
def DataRightsSaid : Prop := dataRightsRow.holds Try.pinned (OpenSpec.ofChange dataRightsSpec)

/-- ITS FALSE NEIGHBOUR: 'it returns false'. Refute it at one input. -/
def dataRightsWrong : ChangeSpec := { name := "dataRights", fn := fun _ => fun
  | [d] => { results := [.lit (.bool false)], args := [d] }
  | _ => none }
def DataRightsWrongFalsely : Prop := dataRightsRow.holds Try.pinned (OpenSpec.ofChange dataRightsWrong)

/-- 'supergraphlaw20.DataSizes': WHATEVER THE INPUT: true; the input reads as it did. -/
def dataSizesSpec : ChangeSpec := { name := "dataSizes", fn := fun _ => fun
  | [d1, d2] => { results := [.lit (.bool true)], args := [d1, d2] }
  | _ => none }
def dataSizesRow : OpenClaim := { program := "ytjalbhlahfgogaa", sum := "264f2b1613946efbdefa908e7595b34b73e82b77843f9128ec0461e1f109d698", func := "supergraph/supergraphlaw20.DataSizes", spec := "dataSizes", unfollowed := true, recurses := true, apart := false }
def DataSizesSaid : Prop := dataSizesRow.holds Try.pinned (OpenSpec.ofChange dataSizesSpec)

/-- ITS FALSE NEIGHBOUR: 'it returns false'. Refute it at one input. -/
def dataSizesWrong : ChangeSpec := { name := "dataSizes", fn := fun _ => fun
  | [d1, d2] => { results := [.lit (.bool false)], args := [d1, d2] }
  | _ => none }
def DataSizesWrongFalsely : Prop := dataSizesRow.holds Try.pinned (OpenSpec.ofChange dataSizesWrong)

/-- 'supergraphlaw20.DataLookups': WHATEVER THE INPUT: true; the input reads as it did. -/
def dataLookupsSpec : ChangeSpec := { name := "dataLookups", fn := fun _ => fun
  | [d1, d2, d3] => { results := [.lit (.bool true)], args := [d1, d2, d3] }
  | _ => none }
def dataLookupsRow : OpenClaim := { program := "ytjalbhlahfgogaa", sum := "264f2b1613946efbdefa908e7595b34b73e82b77843f9128ec0461e1f109d698", func := "supergraph/supergraphlaw20.DataLookups", spec := "dataLookups", unfollowed := true, recurses := true, loops := true, apart := false }
def DataLookupsSaid : Prop := dataLookupsRow.holds Try.pinned (OpenSpec.ofChange dataLookupsSpec)

/-- ITS FALSE NEIGHBOUR: 'it returns false'. Refute it at one input. -/
def dataLookupsWrong : ChangeSpec := { name := "dataLookups", fn := fun _ => fun
  | [d1, d2, d3] => { results := [.lit (.bool false)], args := [d1, d2, d3] }
  | _ => none }
def DataLookupsWrongFalsely : Prop := dataLookupsRow.holds Try.pinned (OpenSpec.ofChange dataLookupsWrong)

/-- 'supergraphlaw20.DataApplies': WHATEVER THE INPUT: true; the input reads as it did. -/
def dataAppliesSpec : ChangeSpec := { name := "dataApplies", fn := fun _ => fun
  | [d1, d2, d3] => { results := [.lit (.bool true)], args := [d1, d2, d3] }
  | _ => none }
def dataAppliesRow : OpenClaim := { program := "ytjalbhlahfgogaa", sum := "264f2b1613946efbdefa908e7595b34b73e82b77843f9128ec0461e1f109d698", func := "supergraph/supergraphlaw20.DataApplies", spec := "dataApplies", unfollowed := true, recurses := true, loops := true, apart := false }
def DataAppliesSaid : Prop := dataAppliesRow.holds Try.pinned (OpenSpec.ofChange dataAppliesSpec)

/-- ITS FALSE NEIGHBOUR: 'it returns false'. Refute it at one input. -/
def dataAppliesWrong : ChangeSpec := { name := "dataApplies", fn := fun _ => fun
  | [d1, d2, d3] => { results := [.lit (.bool false)], args := [d1, d2, d3] }
  | _ => none }
def DataAppliesWrongFalsely : Prop := dataAppliesRow.holds Try.pinned (OpenSpec.ofChange dataAppliesWrong)

/-- 'supergraphlaw20.DataWrites': WHATEVER THE INPUT: true; the input reads as it did. -/
def dataWritesSpec : ChangeSpec := { name := "dataWrites", fn := fun _ => fun
  | [d1, d2, d3] => { results := [.lit (.bool true)], args := [d1, d2, d3] }
  | _ => none }
def dataWritesRow : OpenClaim := { program := "ytjalbhlahfgogaa", sum := "264f2b1613946efbdefa908e7595b34b73e82b77843f9128ec0461e1f109d698", func := "supergraph/supergraphlaw20.DataWrites", spec := "dataWrites", unfollowed := true, recurses := true, loops := true, apart := false }
def DataWritesSaid : Prop := dataWritesRow.holds Try.pinned (OpenSpec.ofChange dataWritesSpec)

/-- ITS FALSE NEIGHBOUR: 'it returns false'. Refute it at one input. -/
def dataWritesWrong : ChangeSpec := { name := "dataWrites", fn := fun _ => fun
  | [d1, d2, d3] => { results := [.lit (.bool false)], args := [d1, d2, d3] }
  | _ => none }
def DataWritesWrongFalsely : Prop := dataWritesRow.holds Try.pinned (OpenSpec.ofChange dataWritesWrong)

/-- 'supergraphlaw20.DataFinds': WHATEVER THE INPUT: true; the input reads as it did. -/
def dataFindsSpec : ChangeSpec := { name := "dataFinds", fn := fun _ => fun
  | [d1, d2, d3] => { results := [.lit (.bool true)], args := [d1, d2, d3] }
  | _ => none }
def dataFindsRow : OpenClaim := { program := "ytjalbhlahfgogaa", sum := "264f2b1613946efbdefa908e7595b34b73e82b77843f9128ec0461e1f109d698", func := "supergraph/supergraphlaw20.DataFinds", spec := "dataFinds", inPlace := ["internal/bytealg.abigen_runtime_cmpstring"], unfollowed := true, recurses := true, loops := true, apart := false }
def DataFindsSaid : Prop := dataFindsRow.holds Try.pinned (OpenSpec.ofChange dataFindsSpec)

/-- ITS FALSE NEIGHBOUR: 'it returns false'. Refute it at one input. -/
def dataFindsWrong : ChangeSpec := { name := "dataFinds", fn := fun _ => fun
  | [d1, d2, d3] => { results := [.lit (.bool false)], args := [d1, d2, d3] }
  | _ => none }
def DataFindsWrongFalsely : Prop := dataFindsRow.holds Try.pinned (OpenSpec.ofChange dataFindsWrong)

/-- 'supergraphlaw20.DataSounds': WHATEVER THE INPUT: true; the input reads as it did. -/
def dataSoundsSpec : ChangeSpec := { name := "dataSounds", fn := fun _ => fun
  | [d1, d2] => { results := [.lit (.bool true)], args := [d1, d2] }
  | _ => none }
def dataSoundsRow : OpenClaim := { program := "ytjalbhlahfgogaa", sum := "264f2b1613946efbdefa908e7595b34b73e82b77843f9128ec0461e1f109d698", func := "supergraph/supergraphlaw20.DataSounds", spec := "dataSounds", inPlace := ["internal/bytealg.abigen_runtime_cmpstring"], unfollowed := true, recurses := true, loops := true, apart := false }
def DataSoundsSaid : Prop := dataSoundsRow.holds Try.pinned (OpenSpec.ofChange dataSoundsSpec)

/-- ITS FALSE NEIGHBOUR: 'it returns false'. Refute it at one input. -/
def dataSoundsWrong : ChangeSpec := { name := "dataSounds", fn := fun _ => fun
  | [d1, d2] => { results := [.lit (.bool false)], args := [d1, d2] }
  | _ => none }
def DataSoundsWrongFalsely : Prop := dataSoundsRow.holds Try.pinned (OpenSpec.ofChange dataSoundsWrong)

/- THE SECOND FORM. 'bulk': how many values and letters a reading holds, each counted each time it is reached (what is shared counts as often as it is met; a slice's spare places count too). A statement '..UptoSaid' is the law's where the arguments, and the package variables that the reading takes, are together of bulk at most 1048576: NARROWER than '..Said'. Prove '..Said' where nothing that the law and all that it calls make is longer than what came in: it says more and counts as full. Else prove '..UptoSaid'. A law counts once. -/
mutual
def uptoBulk {H : Type} : DataW H → Nat
  | .lit (.string bytes) => bytes.length + 1
  | .lit _ => 1
  | .nil => 1
  | .ptr d => uptoBulk d + 1
  | .slice elems spare => uptoBulkAll elems + uptoBulkAll spare + 1
  | .agg parts => uptoBulkAll parts + 1
  | .iface _ d => uptoBulk d + 1
  | .map entries => uptoBulkEntries entries + 1
  | .held _ => 1
def uptoBulkAll {H : Type} : List (DataW H) → Nat
  | [] => 0
  | d :: r => uptoBulk d + uptoBulkAll r
def uptoBulkEntries {H : Type} : List (Lit × DataW H) → Nat
  | [] => 0
  | x :: r => uptoBulkEntry x + uptoBulkEntries r
def uptoBulkEntry {H : Type} : Lit × DataW H → Nat
  | (.string bytes, d) => bytes.length + uptoBulk d + 1
  | (_, d) => uptoBulk d + 1
 end
def uptoSmall : (H : Type) → List (DataW H) → Bool := fun _ ds => decide (uptoBulkAll ds ≤ 1048576)
def OpenSpec.upto (s : _root_.Go.ChangeSpec) : _root_.Go.OpenSpec := { _root_.Go.OpenSpec.ofChange s with cond := some uptoSmall }

/-- 'supergraphlaw20.DataRights', WHERE WHAT IT READS IS OF BULK AT MOST 1048576: true; the input reads as it did. -/
def dataRightsUptoRow : OpenClaim := { program := "ytjalbhlahfgogaa", sum := "264f2b1613946efbdefa908e7595b34b73e82b77843f9128ec0461e1f109d698", func := "supergraph/supergraphlaw20.DataRights", spec := "dataRights", unfollowed := true, recurses := true, loops := true, apart := false, narrowed := true }
def DataRightsUptoSaid : Prop := dataRightsUptoRow.holds Try.pinned (OpenSpec.upto dataRightsSpec)

/-- 'supergraphlaw20.DataSizes', WHERE WHAT IT READS IS OF BULK AT MOST 1048576: true; the input reads as it did. -/
def dataSizesUptoRow : OpenClaim := { program := "ytjalbhlahfgogaa", sum := "264f2b1613946efbdefa908e7595b34b73e82b77843f9128ec0461e1f109d698", func := "supergraph/supergraphlaw20.DataSizes", spec := "dataSizes", unfollowed := true, recurses := true, apart := false, narrowed := true }
def DataSizesUptoSaid : Prop := dataSizesUptoRow.holds Try.pinned (OpenSpec.upto dataSizesSpec)

/-- 'supergraphlaw20.DataLookups', WHERE WHAT IT READS IS OF BULK AT MOST 1048576: true; the input reads as it did. -/
def dataLookupsUptoRow : OpenClaim := { program := "ytjalbhlahfgogaa", sum := "264f2b1613946efbdefa908e7595b34b73e82b77843f9128ec0461e1f109d698", func := "supergraph/supergraphlaw20.DataLookups", spec := "dataLookups", unfollowed := true, recurses := true, loops := true, apart := false, narrowed := true }
def DataLookupsUptoSaid : Prop := dataLookupsUptoRow.holds Try.pinned (OpenSpec.upto dataLookupsSpec)

/-- 'supergraphlaw20.DataApplies', WHERE WHAT IT READS IS OF BULK AT MOST 1048576: true; the input reads as it did. -/
def dataAppliesUptoRow : OpenClaim := { program := "ytjalbhlahfgogaa", sum := "264f2b1613946efbdefa908e7595b34b73e82b77843f9128ec0461e1f109d698", func := "supergraph/supergraphlaw20.DataApplies", spec := "dataApplies", unfollowed := true, recurses := true, loops := true, apart := false, narrowed := true }
def DataAppliesUptoSaid : Prop := dataAppliesUptoRow.holds Try.pinned (OpenSpec.upto dataAppliesSpec)

/-- 'supergraphlaw20.DataWrites', WHERE WHAT IT READS IS OF BULK AT MOST 1048576: true; the input reads as it did. -/
def dataWritesUptoRow : OpenClaim := { program := "ytjalbhlahfgogaa", sum := "264f2b1613946efbdefa908e7595b34b73e82b77843f9128ec0461e1f109d698", func := "supergraph/supergraphlaw20.DataWrites", spec := "dataWrites", unfollowed := true, recurses := true, loops := true, apart := false, narrowed := true }
def DataWritesUptoSaid : Prop := dataWritesUptoRow.holds Try.pinned (OpenSpec.upto dataWritesSpec)

/-- 'supergraphlaw20.DataFinds', WHERE WHAT IT READS IS OF BULK AT MOST 1048576: true; the input reads as it did. -/
def dataFindsUptoRow : OpenClaim := { program := "ytjalbhlahfgogaa", sum := "264f2b1613946efbdefa908e7595b34b73e82b77843f9128ec0461e1f109d698", func := "supergraph/supergraphlaw20.DataFinds", spec := "dataFinds", inPlace := ["internal/bytealg.abigen_runtime_cmpstring"], unfollowed := true, recurses := true, loops := true, apart := false, narrowed := true }
def DataFindsUptoSaid : Prop := dataFindsUptoRow.holds Try.pinned (OpenSpec.upto dataFindsSpec)

/-- 'supergraphlaw20.DataSounds', WHERE WHAT IT READS IS OF BULK AT MOST 1048576: true; the input reads as it did. -/
def dataSoundsUptoRow : OpenClaim := { program := "ytjalbhlahfgogaa", sum := "264f2b1613946efbdefa908e7595b34b73e82b77843f9128ec0461e1f109d698", func := "supergraph/supergraphlaw20.DataSounds", spec := "dataSounds", inPlace := ["internal/bytealg.abigen_runtime_cmpstring"], unfollowed := true, recurses := true, loops := true, apart := false, narrowed := true }
def DataSoundsUptoSaid : Prop := dataSoundsUptoRow.holds Try.pinned (OpenSpec.upto dataSoundsSpec)

end Rows
end Go.Proofs.Ytjalbhlahfgogaa
