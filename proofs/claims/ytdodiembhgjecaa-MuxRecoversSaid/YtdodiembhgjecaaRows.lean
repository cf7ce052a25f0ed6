/-
  No cell of these rows narrows 'for every input' (looked for: loops, veiled, ifaces, maps, wideKeys, modest, calm, conditions, laid).
  DERIVED. THE GIVEN ROWS OF THIS SEAT. 4 by the template 'for every input the law returns true; each argument reads behind the call as it read before'; 0 by the template 'total and deterministic' (their statements: YtdodiembhgjecaaTotals.lean).
  GIVEN WITH THE SEED: the statements are not yours to turn. If you find one false, say at which input.
  Laid BY PROGRAM, IN A SANDBOX (cutbox-rows.mjs): the forced cells as the released guide's own fill.sh prints them over the translation f60956d3da56208e… (all of the seat's roots in one cut). By AI agents, Wed Nov 11 2026. No macro, syntax, notation, axiom, sorry.
-/
import Derived.Test.YtdodiembhgjecaaChecked
import GoSem.Claim
import GoSem.ClaimJoined
import GoSem.ClaimMapViews
import Derived.JoinedTies
import Derived.KernelRfl
namespace Go.Proofs.Ytdodiembhgjecaa
/- THE CELL 'sum', in the pinned program and in every row, IS THE sha256 OF THE DUMP (.gsa) THAT YtdodiembhgjecaaProg.lean LOADS. Nothing in Lean hashes anything: it is a label: what it is worth is what the hold of that sum in a sandbox is worth. -/
noncomputable def Try.pinned : Pinned := { name := "ytdodiembhgjecaa", sum := "f60956d3da56208e47ab0bdb3be17c8fafb6bc621e37bbc9beca99b68a51f437", checked := Try.checked }
namespace Rows
def none {H : Type} : Left H := { results := [], args := [] }

/-- 'supergraphlaw47.MuxServes': WHATEVER THE INPUT: true; the input reads as it did. -/
def muxServesSpec : ChangeSpec := { name := "muxServes", fn := fun _ => fun
  | [d1, d2] => { results := [.lit (.bool true)], args := [d1, d2] }
  | _ => none }
def muxServesRow : OpenClaim := { program := "ytdodiembhgjecaa", sum := "f60956d3da56208e47ab0bdb3be17c8fafb6bc621e37bbc9beca99b68a51f437", func := "supergraph/supergraphlaw47.MuxServes", spec := "muxServes", inPlace := ["slices.overlaps[int]"], apart := false }
def MuxServesSaid : Prop := muxServesRow.holds Try.pinned (OpenSpec.ofChange muxServesSpec)

/-- ITS FALSE NEIGHBOUR: 'it returns false'. Refute it at one input. -/
def muxServesWrong : ChangeSpec := { name := "muxServes", fn := fun _ => fun
  | [d1, d2] => { results := [.lit (.bool false)], args := [d1, d2] }
  | _ => none }
def MuxServesWrongFalsely : Prop := muxServesRow.holds Try.pinned (OpenSpec.ofChange muxServesWrong)

/-- 'supergraphlaw47.MuxListens': WHATEVER THE INPUT: true; the input reads as it did. -/
def muxListensSpec : ChangeSpec := { name := "muxListens", fn := fun _ => fun
  | [d] => { results := [.lit (.bool true)], args := [d] }
  | _ => none }
def muxListensRow : OpenClaim := { program := "ytdodiembhgjecaa", sum := "f60956d3da56208e47ab0bdb3be17c8fafb6bc621e37bbc9beca99b68a51f437", func := "supergraph/supergraphlaw47.MuxListens", spec := "muxListens", inPlace := ["slices.overlaps[int]"], apart := false }
def MuxListensSaid : Prop := muxListensRow.holds Try.pinned (OpenSpec.ofChange muxListensSpec)

/-- ITS FALSE NEIGHBOUR: 'it returns false'. Refute it at one input. -/
def muxListensWrong : ChangeSpec := { name := "muxListens", fn := fun _ => fun
  | [d] => { results := [.lit (.bool false)], args := [d] }
  | _ => none }
def MuxListensWrongFalsely : Prop := muxListensRow.holds Try.pinned (OpenSpec.ofChange muxListensWrong)

/-- 'supergraphlaw47.MuxRecovers': WHATEVER THE INPUT: true; the input reads as it did. -/
def muxRecoversSpec : ChangeSpec := { name := "muxRecovers", fn := fun _ => fun
  | [d1, d2] => { results := [.lit (.bool true)], args := [d1, d2] }
  | _ => none }
def muxRecoversRow : OpenClaim := { program := "ytdodiembhgjecaa", sum := "f60956d3da56208e47ab0bdb3be17c8fafb6bc621e37bbc9beca99b68a51f437", func := "supergraph/supergraphlaw47.MuxRecovers", spec := "muxRecovers", inPlace := ["slices.overlaps[int]"], apart := false }
def MuxRecoversSaid : Prop := muxRecoversRow.holds Try.pinned (OpenSpec.ofChange muxRecoversSpec)

/-- ITS FALSE NEIGHBOUR: 'it returns false'. Refute it at one input. -/
def muxRecoversWrong : ChangeSpec := { name := "muxRecovers", fn := fun _ => fun
  | [d1, d2] => { results := [.lit (.bool false)], args := [d1, d2] }
  | _ => none }
def MuxRecoversWrongFalsely : Prop := muxRecoversRow.holds Try.pinned (OpenSpec.ofChange muxRecoversWrong)

/-- 'supergraphlaw47.MuxNil': WHATEVER THE INPUT: true; the input reads as it did. -/
def muxNilSpec : ChangeSpec := { name := "muxNil", fn := fun _ => fun
  | [d] => { results := [.lit (.bool true)], args := [d] }
  | _ => none }
def muxNilRow : OpenClaim := { program := "ytdodiembhgjecaa", sum := "f60956d3da56208e47ab0bdb3be17c8fafb6bc621e37bbc9beca99b68a51f437", func := "supergraph/supergraphlaw47.MuxNil", spec := "muxNil", inPlace := ["slices.overlaps[int]"], apart := false }
def MuxNilSaid : Prop := muxNilRow.holds Try.pinned (OpenSpec.ofChange muxNilSpec)

/-- ITS FALSE NEIGHBOUR: 'it returns false'. Refute it at one input. -/
def muxNilWrong : ChangeSpec := { name := "muxNil", fn := fun _ => fun
  | [d] => { results := [.lit (.bool false)], args := [d] }
  | _ => none }
def MuxNilWrongFalsely : Prop := muxNilRow.holds Try.pinned (OpenSpec.ofChange muxNilWrong)

/- THE SECOND FORM. 'bulk': how many values and letters a reading holds, each counted each time it is reached (what is shared counts as often as it is met; a slice's spare places count too). A statement '..UptoSaid' is the law's where the arguments, and the package variables that the reading takes, are together of bulk at most 1048576: NARROWER than '..Said'. Prove '..Said' where nothing that the law and all that it calls make is longer than what came in: it says more and counts as full. Else prove '..UptoSaid'. A law counts once. -/
mutual
def uptoBulk {H : Type} : DataW H → Nat
  | .lit (.string bytes) => bytes.length + 1
  | .lit _ => 1
  | .nil => 1
  | .ptr d => uptoBulk d + 1
  | .slice elems spare => uptoBulkAll elems + uptoBulkAll spare + 1
  | .agg parts => uptoBulkAll parts + 1
  | .iface _ d => uptoBulk d + 1
  | .map entries => uptoBulkEntries entries + 1
  | .held _ => 1
def uptoBulkAll {H : Type} : List (DataW H) → Nat
  | [] => 0
  | d :: r => uptoBulk d + uptoBulkAll r
def uptoBulkEntries {H : Type} : List (Lit × DataW H) → Nat
  | [] => 0
  | x :: r => uptoBulkEntry x + uptoBulkEntries r
def uptoBulkEntry {H : Type} : Lit × DataW H → Nat
  | (.string bytes, d) => bytes.length + uptoBulk d + 1
  | (_, d) => uptoBulk d + 1
 end
def uptoSmall : (H : Type) → List (DataW H) → Bool := fun _ ds => decide (uptoBulkAll ds ≤ 1048576)
def OpenSpec.upto (s : _root_.Go.ChangeSpec) : _root_.Go.OpenSpec := { _root_.Go.OpenSpec.ofChange s with cond := some uptoSmall }

/-- 'supergraphlaw47.MuxServes', WHERE WHAT IT READS IS OF BULK AT MOST 1048576: true; the input reads as it did. -/
def muxServesUptoRow : OpenClaim := { program := "ytdodiembhgjecaa", sum := "f60956d3da56208e47ab0bdb3be17c8fafb6bc621e37bbc9beca99b68a51f437", func := "supergraph/supergraphlaw47.MuxServes", spec := "muxServes", inPlace := ["slices.overlaps[int]"], apart := false, narrowed := true }
def MuxServesUptoSaid : Prop := muxServesUptoRow.holds Try.pinned (OpenSpec.upto muxServesSpec)

/-- 'supergraphlaw47.MuxListens', WHERE WHAT IT READS IS OF BULK AT MOST 1048576: true; the input reads as it did. -/
def muxListensUptoRow : OpenClaim := { program := "ytdodiembhgjecaa", sum := "f60956d3da56208e47ab0bdb3be17c8fafb6bc621e37bbc9beca99b68a51f437", func := "supergraph/supergraphlaw47.MuxListens", spec := "muxListens", inPlace := ["slices.overlaps[int]"], apart := false, narrowed := true }
def MuxListensUptoSaid : Prop := muxListensUptoRow.holds Try.pinned (OpenSpec.upto muxListensSpec)

/-- 'supergraphlaw47.MuxRecovers', WHERE WHAT IT READS IS OF BULK AT MOST 1048576: true; the input reads as it did. -/
def muxRecoversUptoRow : OpenClaim := { program := "ytdodiembhgjecaa", sum := "f60956d3da56208e47ab0bdb3be17c8fafb6bc621e37bbc9beca99b68a51f437", func := "supergraph/supergraphlaw47.MuxRecovers", spec := "muxRecovers", inPlace := ["slices.overlaps[int]"], apart := false, narrowed := true }
def MuxRecoversUptoSaid : Prop := muxRecoversUptoRow.holds Try.pinned (OpenSpec.upto muxRecoversSpec)

/-- 'supergraphlaw47.MuxNil', WHERE WHAT IT READS IS OF BULK AT MOST 1048576: true; the input reads as it did. -/
def muxNilUptoRow : OpenClaim := { program := "ytdodiembhgjecaa", sum := "f60956d3da56208e47ab0bdb3be17c8fafb6bc621e37bbc9beca99b68a51f437", func := "supergraph/supergraphlaw47.MuxNil", spec := "muxNil", inPlace := ["slices.overlaps[int]"], apart := false, narrowed := true }
def MuxNilUptoSaid : Prop := muxNilUptoRow.holds Try.pinned (OpenSpec.upto muxNilSpec)

end Rows
end Go.Proofs.Ytdodiembhgjecaa
