/-
  NARROWER THAN 'FOR EVERY INPUT', by the rows' own cells (each row's printed sentence says how): SerialSplit: loops · SerialJoin: loops · SerialTouched: loops.
  DERIVED. THE GIVEN ROWS OF THIS SEAT. 3 by the template 'for every input the law returns true; each argument reads behind the call as it read before'; 0 by the template 'total and deterministic' (their statements: YthiifoleopdieaaTotals.lean).
  GIVEN WITH THE SEED: the statements are not yours to turn. If you find one false, say at which input.
  Laid BY PROGRAM, IN A SANDBOX (cutbox-rows.mjs): the forced cells as the released guide's own fill.sh prints them over the translation b2214d422fd30178… (all of the seat's roots in one cut). By AI agents, Wed Nov 11 2026. No macro, syntax, notation, axiom, sorry.
-/
import Derived.Test.YthiifoleopdieaaChecked
import GoSem.Claim
import GoSem.ClaimJoined
import GoSem.ClaimMapViews
import Derived.JoinedTies
import Derived.KernelRfl
namespace Go.Proofs.Ythiifoleopdieaa
/- THE CELL 'sum', in the pinned program and in every row, IS THE sha256 OF THE DUMP (.gsa) THAT YthiifoleopdieaaProg.lean LOADS. Nothing in Lean hashes anything: it is a label: what it is worth is what the hold of that sum in a sandbox is worth. -/
noncomputable def Try.pinned : Pinned := { name := "ythiifoleopdieaa", sum := "b2214d422fd301784e733bff1916990345327da1818c55f1a0313e911a4db899", checked := Try.checked }
namespace Rows
def none {H : Type} : Left H := { results := [], args := [] }

/-- 'supergraphlaw39.SerialSplit': WHATEVER THE INPUT: true; the input reads as it did. -/
def serialSplitSpec : ChangeSpec := { name := "serialSplit", fn := fun _ => fun
  | [d] => { results := [.lit (.bool true)], args := [d] }
  | _ => none }
def serialSplitRow : OpenClaim := { program := "ythiifoleopdieaa", sum := "b2214d422fd301784e733bff1916990345327da1818c55f1a0313e911a4db899", func := "supergraph/supergraphlaw39.SerialSplit", spec := "serialSplit", unfollowed := true, recurses := true, loops := true, apart := false }
def SerialSplitSaid : Prop := serialSplitRow.holds Try.pinned (OpenSpec.ofChange serialSplitSpec)

/-- ITS FALSE NEIGHBOUR: 'it returns false'. Refute it at one input. -/
def serialSplitWrong : ChangeSpec := { name := "serialSplit", fn := fun _ => fun
  | [d] => { results := [.lit (.bool false)], args := [d] }
  | _ => none }
def SerialSplitWrongFalsely : Prop := serialSplitRow.holds Try.pinned (OpenSpec.ofChange serialSplitWrong)

/-- 'supergraphlaw39.SerialJoin': WHATEVER THE INPUT: true; the input reads as it did. -/
def serialJoinSpec : ChangeSpec := { name := "serialJoin", fn := fun _ => fun
  | [d] => { results := [.lit (.bool true)], args := [d] }
  | _ => none }
def serialJoinRow : OpenClaim := { program := "ythiifoleopdieaa", sum := "b2214d422fd301784e733bff1916990345327da1818c55f1a0313e911a4db899", func := "supergraph/supergraphlaw39.SerialJoin", spec := "serialJoin", unfollowed := true, recurses := true, loops := true, apart := false }
def SerialJoinSaid : Prop := serialJoinRow.holds Try.pinned (OpenSpec.ofChange serialJoinSpec)

/-- ITS FALSE NEIGHBOUR: 'it returns false'. Refute it at one input. -/
def serialJoinWrong : ChangeSpec := { name := "serialJoin", fn := fun _ => fun
  | [d] => { results := [.lit (.bool false)], args := [d] }
  | _ => none }
def SerialJoinWrongFalsely : Prop := serialJoinRow.holds Try.pinned (OpenSpec.ofChange serialJoinWrong)

/-- 'supergraphlaw39.SerialTouched': WHATEVER THE INPUT: true; the input reads as it did. -/
def serialTouchedSpec : ChangeSpec := { name := "serialTouched", fn := fun _ => fun
  | [d1, d2, d3] => { results := [.lit (.bool true)], args := [d1, d2, d3] }
  | _ => none }
def serialTouchedRow : OpenClaim := { program := "ythiifoleopdieaa", sum := "b2214d422fd301784e733bff1916990345327da1818c55f1a0313e911a4db899", func := "supergraph/supergraphlaw39.SerialTouched", spec := "serialTouched", unfollowed := true, recurses := true, loops := true, apart := false }
def SerialTouchedSaid : Prop := serialTouchedRow.holds Try.pinned (OpenSpec.ofChange serialTouchedSpec)

/-- ITS FALSE NEIGHBOUR: 'it returns false'. Refute it at one input. -/
def serialTouchedWrong : ChangeSpec := { name := "serialTouched", fn := fun _ => fun
  | [d1, d2, d3] => { results := [.lit (.bool false)], args := [d1, d2, d3] }
  | _ => none }
def SerialTouchedWrongFalsely : Prop := serialTouchedRow.holds Try.pinned (OpenSpec.ofChange serialTouchedWrong)

/- THE SECOND FORM. 'bulk': how many values and letters a reading holds, each counted each time it is reached (what is shared counts as often as it is met; a slice's spare places count too). A statement '..UptoSaid' is the law's where the arguments, and the package variables that the reading takes, are together of bulk at most 1048576: NARROWER than '..Said'. Prove '..Said' where nothing that the law and all that it calls make is longer than what came in: it says more and counts as full. Else prove '..UptoSaid'. A law counts once. -/
mutual
def uptoBulk {H : Type} : DataW H → Nat
  | .lit (.string bytes) => bytes.length + 1
  | .lit _ => 1
  | .nil => 1
  | .ptr d => uptoBulk d + 1
  | .slice elems spare => uptoBulkAll elems + uptoBulkAll spare + 1
  | .agg parts => uptoBulkAll parts + 1
  | .iface _ d => uptoBulk d + 1
  | .map entries => uptoBulkEntries entries + 1
  | .held _ => 1
def uptoBulkAll {H : Type} : List (DataW H) → Nat
  | [] => 0
  | d :: r => uptoBulk d + uptoBulkAll r
def uptoBulkEntries {H : Type} : List (Lit × DataW H) → Nat
  | [] => 0
  | x :: r => uptoBulkEntry x + uptoBulkEntries r
def uptoBulkEntry {H : Type} : Lit × DataW H → Nat
  | (.string bytes, d) => bytes.length + uptoBulk d + 1
  | (_, d) => uptoBulk d + 1
 end
def uptoSmall : (H : Type) → List (DataW H) → Bool := fun _ ds => decide (uptoBulkAll ds ≤ 1048576)
def OpenSpec.upto (s : _root_.Go.ChangeSpec) : _root_.Go.OpenSpec := { _root_.Go.OpenSpec.ofChange s with cond := some uptoSmall }

/-- 'supergraphlaw39.SerialSplit', WHERE WHAT IT READS IS OF BULK AT MOST 1048576: true; the input reads as it did. -/
def serialSplitUptoRow : OpenClaim := { program := "ythiifoleopdieaa", sum := "b2214d422fd301784e733bff1916990345327da1818c55f1a0313e911a4db899", func := "supergraph/supergraphlaw39.SerialSplit", spec := "serialSplit", unfollowed := true, recurses := true, loops := true, apart := false, narrowed := true }
def SerialSplitUptoSaid : Prop := serialSplitUptoRow.holds Try.pinned (OpenSpec.upto serialSplitSpec)

/-- 'supergraphlaw39.SerialJoin', WHERE WHAT IT READS IS OF BULK AT MOST 1048576: true; the input reads as it did. -/
def serialJoinUptoRow : OpenClaim := { program := "ythiifoleopdieaa", sum := "b2214d422fd301784e733bff1916990345327da1818c55f1a0313e911a4db899", func := "supergraph/supergraphlaw39.SerialJoin", spec := "serialJoin", unfollowed := true, recurses := true, loops := true, apart := false, narrowed := true }
def SerialJoinUptoSaid : Prop := serialJoinUptoRow.holds Try.pinned (OpenSpec.upto serialJoinSpec)

/-- 'supergraphlaw39.SerialTouched', WHERE WHAT IT READS IS OF BULK AT MOST 1048576: true; the input reads as it did. -/
def serialTouchedUptoRow : OpenClaim := { program := "ythiifoleopdieaa", sum := "b2214d422fd301784e733bff1916990345327da1818c55f1a0313e911a4db899", func := "supergraph/supergraphlaw39.SerialTouched", spec := "serialTouched", unfollowed := true, recurses := true, loops := true, apart := false, narrowed := true }
def SerialTouchedUptoSaid : Prop := serialTouchedUptoRow.holds Try.pinned (OpenSpec.upto serialTouchedSpec)

end Rows
end Go.Proofs.Ythiifoleopdieaa
