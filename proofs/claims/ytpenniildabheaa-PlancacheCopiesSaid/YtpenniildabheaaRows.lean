/-
  No cell of these rows narrows 'for every input' (looked for: loops, veiled, ifaces, maps, wideKeys, modest, calm, conditions, laid).
  DERIVED. THE GIVEN ROWS OF THIS SEAT. 5 by the template 'for every input the law returns true; each argument reads behind the call as it read before'; 0 by the template 'total and deterministic' (their statements: YtpenniildabheaaTotals.lean).
  GIVEN WITH THE SEED: the statements are not yours to turn. If you find one false, say at which input.
  Laid BY PROGRAM, IN A SANDBOX (cutbox-rows.mjs): the forced cells as the released guide's own fill.sh prints them over the translation 9bf1cd3cf199060e… (all of the seat's roots in one cut). By AI agents, Wed Nov 11 2026. No macro, syntax, notation, axiom, sorry.
-/
import Derived.Test.YtpenniildabheaaChecked
import GoSem.Claim
import GoSem.ClaimJoined
import GoSem.ClaimMapViews
import Derived.JoinedTies
import Derived.KernelRfl
namespace Go.Proofs.Ytpenniildabheaa
/- THE CELL 'sum', in the pinned program and in every row, IS THE sha256 OF THE DUMP (.gsa) THAT YtpenniildabheaaProg.lean LOADS. Nothing in Lean hashes anything: it is a label: what it is worth is what the hold of that sum in a sandbox is worth. -/
noncomputable def Try.pinned : Pinned := { name := "ytpenniildabheaa", sum := "9bf1cd3cf199060e4554805bd5c19c5167bd91af3245f9f3b1b26c8845c818cc", checked := Try.checked }
namespace Rows
def none {H : Type} : Left H := { results := [], args := [] }

/-- 'supergraphlaw33.PlancacheRecent': WHATEVER THE INPUT: true; the input reads as it did. -/
def plancacheRecentSpec : ChangeSpec := { name := "plancacheRecent", fn := fun _ => fun
  | [d1, d2] => { results := [.lit (.bool true)], args := [d1, d2] }
  | _ => none }
def plancacheRecentRow : OpenClaim := { program := "ytpenniildabheaa", sum := "9bf1cd3cf199060e4554805bd5c19c5167bd91af3245f9f3b1b26c8845c818cc", func := "supergraph/supergraphlaw33.PlancacheRecent", spec := "plancacheRecent", inPlace := ["slices.overlaps[supergraph/plancache.entry[supergraph/plancache.key, []supergraph/api.Plan]]"], unfollowed := true, recurses := true, apart := false }
def PlancacheRecentSaid : Prop := plancacheRecentRow.holds Try.pinned (OpenSpec.ofChange plancacheRecentSpec)

/-- ITS FALSE NEIGHBOUR: 'it returns false'. Refute it at one input. -/
def plancacheRecentWrong : ChangeSpec := { name := "plancacheRecent", fn := fun _ => fun
  | [d1, d2] => { results := [.lit (.bool false)], args := [d1, d2] }
  | _ => none }
def PlancacheRecentWrongFalsely : Prop := plancacheRecentRow.holds Try.pinned (OpenSpec.ofChange plancacheRecentWrong)

/-- 'supergraphlaw33.PlancacheCopies': WHATEVER THE INPUT: true; the input reads as it did. -/
def plancacheCopiesSpec : ChangeSpec := { name := "plancacheCopies", fn := fun _ => fun
  | [d1, d2, d3] => { results := [.lit (.bool true)], args := [d1, d2, d3] }
  | _ => none }
def plancacheCopiesRow : OpenClaim := { program := "ytpenniildabheaa", sum := "9bf1cd3cf199060e4554805bd5c19c5167bd91af3245f9f3b1b26c8845c818cc", func := "supergraph/supergraphlaw33.PlancacheCopies", spec := "plancacheCopies", inPlace := ["slices.overlaps[supergraph/plancache.entry[supergraph/plancache.key, []supergraph/api.Plan]]"], unfollowed := true, recurses := true, apart := false }
def PlancacheCopiesSaid : Prop := plancacheCopiesRow.holds Try.pinned (OpenSpec.ofChange plancacheCopiesSpec)

/-- ITS FALSE NEIGHBOUR: 'it returns false'. Refute it at one input. -/
def plancacheCopiesWrong : ChangeSpec := { name := "plancacheCopies", fn := fun _ => fun
  | [d1, d2, d3] => { results := [.lit (.bool false)], args := [d1, d2, d3] }
  | _ => none }
def PlancacheCopiesWrongFalsely : Prop := plancacheCopiesRow.holds Try.pinned (OpenSpec.ofChange plancacheCopiesWrong)

/-- 'supergraphlaw33.PlancachePlays': WHATEVER THE INPUT: true; the input reads as it did. -/
def plancachePlaysSpec : ChangeSpec := { name := "plancachePlays", fn := fun _ => fun
  | [d1, d2] => { results := [.lit (.bool true)], args := [d1, d2] }
  | _ => none }
def plancachePlaysRow : OpenClaim := { program := "ytpenniildabheaa", sum := "9bf1cd3cf199060e4554805bd5c19c5167bd91af3245f9f3b1b26c8845c818cc", func := "supergraph/supergraphlaw33.PlancachePlays", spec := "plancachePlays", inPlace := ["slices.overlaps[supergraph/plancache.entry[supergraph/plancache.key, []supergraph/api.Plan]]"], unfollowed := true, recurses := true, apart := false }
def PlancachePlaysSaid : Prop := plancachePlaysRow.holds Try.pinned (OpenSpec.ofChange plancachePlaysSpec)

/-- ITS FALSE NEIGHBOUR: 'it returns false'. Refute it at one input. -/
def plancachePlaysWrong : ChangeSpec := { name := "plancachePlays", fn := fun _ => fun
  | [d1, d2] => { results := [.lit (.bool false)], args := [d1, d2] }
  | _ => none }
def PlancachePlaysWrongFalsely : Prop := plancachePlaysRow.holds Try.pinned (OpenSpec.ofChange plancachePlaysWrong)

/-- 'supergraphlaw33.PlancacheCounts': WHATEVER THE INPUT: true; the input reads as it did. -/
def plancacheCountsSpec : ChangeSpec := { name := "plancacheCounts", fn := fun _ => fun
  | [d1, d2] => { results := [.lit (.bool true)], args := [d1, d2] }
  | _ => none }
def plancacheCountsRow : OpenClaim := { program := "ytpenniildabheaa", sum := "9bf1cd3cf199060e4554805bd5c19c5167bd91af3245f9f3b1b26c8845c818cc", func := "supergraph/supergraphlaw33.PlancacheCounts", spec := "plancacheCounts", inPlace := ["slices.overlaps[supergraph/plancache.entry[supergraph/plancache.key, []supergraph/api.Plan]]"], unfollowed := true, recurses := true, apart := false }
def PlancacheCountsSaid : Prop := plancacheCountsRow.holds Try.pinned (OpenSpec.ofChange plancacheCountsSpec)

/-- ITS FALSE NEIGHBOUR: 'it returns false'. Refute it at one input. -/
def plancacheCountsWrong : ChangeSpec := { name := "plancacheCounts", fn := fun _ => fun
  | [d1, d2] => { results := [.lit (.bool false)], args := [d1, d2] }
  | _ => none }
def PlancacheCountsWrongFalsely : Prop := plancacheCountsRow.holds Try.pinned (OpenSpec.ofChange plancacheCountsWrong)

/-- 'supergraphlaw33.PlancacheNil': WHATEVER THE INPUT: true; the input reads as it did. -/
def plancacheNilSpec : ChangeSpec := { name := "plancacheNil", fn := fun _ => fun
  | [d] => { results := [.lit (.bool true)], args := [d] }
  | _ => none }
def plancacheNilRow : OpenClaim := { program := "ytpenniildabheaa", sum := "9bf1cd3cf199060e4554805bd5c19c5167bd91af3245f9f3b1b26c8845c818cc", func := "supergraph/supergraphlaw33.PlancacheNil", spec := "plancacheNil", inPlace := ["slices.overlaps[supergraph/plancache.entry[supergraph/plancache.key, []supergraph/api.Plan]]"], unfollowed := true, recurses := true, apart := false }
def PlancacheNilSaid : Prop := plancacheNilRow.holds Try.pinned (OpenSpec.ofChange plancacheNilSpec)

/-- ITS FALSE NEIGHBOUR: 'it returns false'. Refute it at one input. -/
def plancacheNilWrong : ChangeSpec := { name := "plancacheNil", fn := fun _ => fun
  | [d] => { results := [.lit (.bool false)], args := [d] }
  | _ => none }
def PlancacheNilWrongFalsely : Prop := plancacheNilRow.holds Try.pinned (OpenSpec.ofChange plancacheNilWrong)

/- THE SECOND FORM. 'bulk': how many values and letters a reading holds, each counted each time it is reached (what is shared counts as often as it is met; a slice's spare places count too). A statement '..UptoSaid' is the law's where the arguments, and the package variables that the reading takes, are together of bulk at most 1048576: NARROWER than '..Said'. Prove '..Said' where nothing that the law and all that it calls make is longer than what came in: it says more and counts as full. Else prove '..UptoSaid'. A law counts once. -/
mutual
def uptoBulk {H : Type} : DataW H → Nat
  | .lit (.string bytes) => bytes.length + 1
  | .lit _ => 1
  | .nil => 1
  | .ptr d => uptoBulk d + 1
  | .slice elems spare => uptoBulkAll elems + uptoBulkAll spare + 1
  | .agg parts => uptoBulkAll parts + 1
  | .iface _ d => uptoBulk d + 1
  | .map entries => uptoBulkEntries entries + 1
  | .held _ => 1
def uptoBulkAll {H : Type} : List (DataW H) → Nat
  | [] => 0
  | d :: r => uptoBulk d + uptoBulkAll r
def uptoBulkEntries {H : Type} : List (Lit × DataW H) → Nat
  | [] => 0
  | x :: r => uptoBulkEntry x + uptoBulkEntries r
def uptoBulkEntry {H : Type} : Lit × DataW H → Nat
  | (.string bytes, d) => bytes.length + uptoBulk d + 1
  | (_, d) => uptoBulk d + 1
 end
def uptoSmall : (H : Type) → List (DataW H) → Bool := fun _ ds => decide (uptoBulkAll ds ≤ 1048576)
def OpenSpec.upto (s : _root_.Go.ChangeSpec) : _root_.Go.OpenSpec := { _root_.Go.OpenSpec.ofChange s with cond := some uptoSmall }

/-- 'supergraphlaw33.PlancacheRecent', WHERE WHAT IT READS IS OF BULK AT MOST 1048576: true; the input reads as it did. -/
def plancacheRecentUptoRow : OpenClaim := { program := "ytpenniildabheaa", sum := "9bf1cd3cf199060e4554805bd5c19c5167bd91af3245f9f3b1b26c8845c818cc", func := "supergraph/supergraphlaw33.PlancacheRecent", spec := "plancacheRecent", inPlace := ["slices.overlaps[supergraph/plancache.entry[supergraph/plancache.key, []supergraph/api.Plan]]"], unfollowed := true, recurses := true, apart := false, narrowed := true }
def PlancacheRecentUptoSaid : Prop := plancacheRecentUptoRow.holds Try.pinned (OpenSpec.upto plancacheRecentSpec)

/-- 'supergraphlaw33.PlancacheCopies', WHERE WHAT IT READS IS OF BULK AT MOST 1048576: true; the input reads as it did. -/
def plancacheCopiesUptoRow : OpenClaim := { program := "ytpenniildabheaa", sum := "9bf1cd3cf199060e4554805bd5c19c5167bd91af3245f9f3b1b26c8845c818cc", func := "supergraph/supergraphlaw33.PlancacheCopies", spec := "plancacheCopies", inPlace := ["slices.overlaps[supergraph/plancache.entry[supergraph/plancache.key, []supergraph/api.Plan]]"], unfollowed := true, recurses := true, apart := false, narrowed := true }
def PlancacheCopiesUptoSaid : Prop := plancacheCopiesUptoRow.holds Try.pinned (OpenSpec.upto plancacheCopiesSpec)

/-- 'supergraphlaw33.PlancachePlays', WHERE WHAT IT READS IS OF BULK AT MOST 1048576: true; the input reads as it did. -/
def plancachePlaysUptoRow : OpenClaim := { program := "ytpenniildabheaa", sum := "9bf1cd3cf199060e4554805bd5c19c5167bd91af3245f9f3b1b26c8845c818cc", func := "supergraph/supergraphlaw33.PlancachePlays", spec := "plancachePlays", inPlace := ["slices.overlaps[supergraph/plancache.entry[supergraph/plancache.key, []supergraph/api.Plan]]"], unfollowed := true, recurses := true, apart := false, narrowed := true }
def PlancachePlaysUptoSaid : Prop := plancachePlaysUptoRow.holds Try.pinned (OpenSpec.upto plancachePlaysSpec)

/-- 'supergraphlaw33.PlancacheCounts', WHERE WHAT IT READS IS OF BULK AT MOST 1048576: true; the input reads as it did. -/
def plancacheCountsUptoRow : OpenClaim := { program := "ytpenniildabheaa", sum := "9bf1cd3cf199060e4554805bd5c19c5167bd91af3245f9f3b1b26c8845c818cc", func := "supergraph/supergraphlaw33.PlancacheCounts", spec := "plancacheCounts", inPlace := ["slices.overlaps[supergraph/plancache.entry[supergraph/plancache.key, []supergraph/api.Plan]]"], unfollowed := true, recurses := true, apart := false, narrowed := true }
def PlancacheCountsUptoSaid : Prop := plancacheCountsUptoRow.holds Try.pinned (OpenSpec.upto plancacheCountsSpec)

/-- 'supergraphlaw33.PlancacheNil', WHERE WHAT IT READS IS OF BULK AT MOST 1048576: true; the input reads as it did. -/
def plancacheNilUptoRow : OpenClaim := { program := "ytpenniildabheaa", sum := "9bf1cd3cf199060e4554805bd5c19c5167bd91af3245f9f3b1b26c8845c818cc", func := "supergraph/supergraphlaw33.PlancacheNil", spec := "plancacheNil", inPlace := ["slices.overlaps[supergraph/plancache.entry[supergraph/plancache.key, []supergraph/api.Plan]]"], unfollowed := true, recurses := true, apart := false, narrowed := true }
def PlancacheNilUptoSaid : Prop := plancacheNilUptoRow.holds Try.pinned (OpenSpec.upto plancacheNilSpec)

end Rows
end Go.Proofs.Ytpenniildabheaa
