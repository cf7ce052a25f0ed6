/-
  NARROWER THAN 'FOR EVERY INPUT', by the rows' own cells (each row's printed sentence says how): ValueRight: loops · ValueMeasure: loops · ValueOrder: loops · ValueObject: loops · ValueGet: loops · ValueSort: loops.
  DERIVED. THE GIVEN ROWS OF THIS SEAT. 7 by the template 'for every input the law returns true; each argument reads behind the call as it read before'; 0 by the template 'total and deterministic' (their statements: YtaeablbcfkamjaaTotals.lean).
  GIVEN WITH THE SEED: the statements are not yours to turn. If you find one false, say at which input.
  Laid BY PROGRAM, IN A SANDBOX (cutbox-rows.mjs): the forced cells as the released guide's own fill.sh prints them over the translation 34c7462f800c3b53… (all of the seat's roots in one cut). By AI agents, Wed Nov 11 2026. No macro, syntax, notation, axiom, sorry.
-/
import Derived.Test.YtaeablbcfkamjaaChecked
import GoSem.Claim
import GoSem.ClaimJoined
import GoSem.ClaimMapViews
import Derived.JoinedTies
import Derived.KernelRfl
namespace Go.Proofs.Ytaeablbcfkamjaa
/- THE CELL 'sum', in the pinned program and in every row, IS THE sha256 OF THE DUMP (.gsa) THAT YtaeablbcfkamjaaProg.lean LOADS. Nothing in Lean hashes anything: it is a label: what it is worth is what the hold of that sum in a sandbox is worth. -/
noncomputable def Try.pinned : Pinned := { name := "ytaeablbcfkamjaa", sum := "34c7462f800c3b53832e4e04dda9f957181b63fb829b1441a989f8eb977d0808", checked := Try.checked }
namespace Rows
def none {H : Type} : Left H := { results := [], args := [] }

/-- 'supergraphlaw02.ValueRight': WHATEVER THE INPUT: true; the input reads as it did. -/
def valueRightSpec : ChangeSpec := { name := "valueRight", fn := fun _ => fun
  | [d] => { results := [.lit (.bool true)], args := [d] }
  | _ => none }
def valueRightRow : OpenClaim := { program := "ytaeablbcfkamjaa", sum := "34c7462f800c3b53832e4e04dda9f957181b63fb829b1441a989f8eb977d0808", func := "supergraph/supergraphlaw02.ValueRight", spec := "valueRight", inPlace := ["internal/bytealg.abigen_runtime_cmpstring"], unfollowed := true, recurses := true, loops := true, apart := false }
def ValueRightSaid : Prop := valueRightRow.holds Try.pinned (OpenSpec.ofChange valueRightSpec)

/-- ITS FALSE NEIGHBOUR: 'it returns false'. Refute it at one input. -/
def valueRightWrong : ChangeSpec := { name := "valueRight", fn := fun _ => fun
  | [d] => { results := [.lit (.bool false)], args := [d] }
  | _ => none }
def ValueRightWrongFalsely : Prop := valueRightRow.holds Try.pinned (OpenSpec.ofChange valueRightWrong)

/-- 'supergraphlaw02.ValueMeasure': WHATEVER THE INPUT: true; the input reads as it did. -/
def valueMeasureSpec : ChangeSpec := { name := "valueMeasure", fn := fun _ => fun
  | [d] => { results := [.lit (.bool true)], args := [d] }
  | _ => none }
def valueMeasureRow : OpenClaim := { program := "ytaeablbcfkamjaa", sum := "34c7462f800c3b53832e4e04dda9f957181b63fb829b1441a989f8eb977d0808", func := "supergraph/supergraphlaw02.ValueMeasure", spec := "valueMeasure", inPlace := ["internal/bytealg.abigen_runtime_cmpstring"], unfollowed := true, recurses := true, loops := true, apart := false }
def ValueMeasureSaid : Prop := valueMeasureRow.holds Try.pinned (OpenSpec.ofChange valueMeasureSpec)

/-- ITS FALSE NEIGHBOUR: 'it returns false'. Refute it at one input. -/
def valueMeasureWrong : ChangeSpec := { name := "valueMeasure", fn := fun _ => fun
  | [d] => { results := [.lit (.bool false)], args := [d] }
  | _ => none }
def ValueMeasureWrongFalsely : Prop := valueMeasureRow.holds Try.pinned (OpenSpec.ofChange valueMeasureWrong)

/-- 'supergraphlaw02.ValueOrder': WHATEVER THE INPUT: true; the input reads as it did. -/
def valueOrderSpec : ChangeSpec := { name := "valueOrder", fn := fun _ => fun
  | [d1, d2, d3] => { results := [.lit (.bool true)], args := [d1, d2, d3] }
  | _ => none }
def valueOrderRow : OpenClaim := { program := "ytaeablbcfkamjaa", sum := "34c7462f800c3b53832e4e04dda9f957181b63fb829b1441a989f8eb977d0808", func := "supergraph/supergraphlaw02.ValueOrder", spec := "valueOrder", inPlace := ["internal/bytealg.abigen_runtime_cmpstring"], unfollowed := true, recurses := true, loops := true, apart := false }
def ValueOrderSaid : Prop := valueOrderRow.holds Try.pinned (OpenSpec.ofChange valueOrderSpec)

/-- ITS FALSE NEIGHBOUR: 'it returns false'. Refute it at one input. -/
def valueOrderWrong : ChangeSpec := { name := "valueOrder", fn := fun _ => fun
  | [d1, d2, d3] => { results := [.lit (.bool false)], args := [d1, d2, d3] }
  | _ => none }
def ValueOrderWrongFalsely : Prop := valueOrderRow.holds Try.pinned (OpenSpec.ofChange valueOrderWrong)

/-- 'supergraphlaw02.ValueObject': WHATEVER THE INPUT: true; the input reads as it did. -/
def valueObjectSpec : ChangeSpec := { name := "valueObject", fn := fun _ => fun
  | [d1, d2, d3] => { results := [.lit (.bool true)], args := [d1, d2, d3] }
  | _ => none }
def valueObjectRow : OpenClaim := { program := "ytaeablbcfkamjaa", sum := "34c7462f800c3b53832e4e04dda9f957181b63fb829b1441a989f8eb977d0808", func := "supergraph/supergraphlaw02.ValueObject", spec := "valueObject", inPlace := ["internal/bytealg.abigen_runtime_cmpstring"], unfollowed := true, recurses := true, loops := true, apart := false }
def ValueObjectSaid : Prop := valueObjectRow.holds Try.pinned (OpenSpec.ofChange valueObjectSpec)

/-- ITS FALSE NEIGHBOUR: 'it returns false'. Refute it at one input. -/
def valueObjectWrong : ChangeSpec := { name := "valueObject", fn := fun _ => fun
  | [d1, d2, d3] => { results := [.lit (.bool false)], args := [d1, d2, d3] }
  | _ => none }
def ValueObjectWrongFalsely : Prop := valueObjectRow.holds Try.pinned (OpenSpec.ofChange valueObjectWrong)

/-- 'supergraphlaw02.ValueGet': WHATEVER THE INPUT: true; the input reads as it did. -/
def valueGetSpec : ChangeSpec := { name := "valueGet", fn := fun _ => fun
  | [d1, d2] => { results := [.lit (.bool true)], args := [d1, d2] }
  | _ => none }
def valueGetRow : OpenClaim := { program := "ytaeablbcfkamjaa", sum := "34c7462f800c3b53832e4e04dda9f957181b63fb829b1441a989f8eb977d0808", func := "supergraph/supergraphlaw02.ValueGet", spec := "valueGet", inPlace := ["internal/bytealg.abigen_runtime_cmpstring"], unfollowed := true, recurses := true, loops := true, apart := false }
def ValueGetSaid : Prop := valueGetRow.holds Try.pinned (OpenSpec.ofChange valueGetSpec)

/-- ITS FALSE NEIGHBOUR: 'it returns false'. Refute it at one input. -/
def valueGetWrong : ChangeSpec := { name := "valueGet", fn := fun _ => fun
  | [d1, d2] => { results := [.lit (.bool false)], args := [d1, d2] }
  | _ => none }
def ValueGetWrongFalsely : Prop := valueGetRow.holds Try.pinned (OpenSpec.ofChange valueGetWrong)

/-- 'supergraphlaw02.ValueSort': WHATEVER THE INPUT: true; the input reads as it did. -/
def valueSortSpec : ChangeSpec := { name := "valueSort", fn := fun _ => fun
  | [d] => { results := [.lit (.bool true)], args := [d] }
  | _ => none }
def valueSortRow : OpenClaim := { program := "ytaeablbcfkamjaa", sum := "34c7462f800c3b53832e4e04dda9f957181b63fb829b1441a989f8eb977d0808", func := "supergraph/supergraphlaw02.ValueSort", spec := "valueSort", inPlace := ["internal/bytealg.abigen_runtime_cmpstring"], unfollowed := true, recurses := true, loops := true, apart := false }
def ValueSortSaid : Prop := valueSortRow.holds Try.pinned (OpenSpec.ofChange valueSortSpec)

/-- ITS FALSE NEIGHBOUR: 'it returns false'. Refute it at one input. -/
def valueSortWrong : ChangeSpec := { name := "valueSort", fn := fun _ => fun
  | [d] => { results := [.lit (.bool false)], args := [d] }
  | _ => none }
def ValueSortWrongFalsely : Prop := valueSortRow.holds Try.pinned (OpenSpec.ofChange valueSortWrong)

/-- 'supergraphlaw02.ValueMakes': WHATEVER THE INPUT: true; the input reads as it did. -/
def valueMakesSpec : ChangeSpec := { name := "valueMakes", fn := fun _ => fun
  | [d1, d2, d3] => { results := [.lit (.bool true)], args := [d1, d2, d3] }
  | _ => none }
def valueMakesRow : OpenClaim := { program := "ytaeablbcfkamjaa", sum := "34c7462f800c3b53832e4e04dda9f957181b63fb829b1441a989f8eb977d0808", func := "supergraph/supergraphlaw02.ValueMakes", spec := "valueMakes", inPlace := ["internal/bytealg.abigen_runtime_cmpstring"], unfollowed := true, recurses := true, apart := false }
def ValueMakesSaid : Prop := valueMakesRow.holds Try.pinned (OpenSpec.ofChange valueMakesSpec)

/-- ITS FALSE NEIGHBOUR: 'it returns false'. Refute it at one input. -/
def valueMakesWrong : ChangeSpec := { name := "valueMakes", fn := fun _ => fun
  | [d1, d2, d3] => { results := [.lit (.bool false)], args := [d1, d2, d3] }
  | _ => none }
def ValueMakesWrongFalsely : Prop := valueMakesRow.holds Try.pinned (OpenSpec.ofChange valueMakesWrong)

/- THE SECOND FORM. 'bulk': how many values and letters a reading holds, each counted each time it is reached (what is shared counts as often as it is met; a slice's spare places count too). A statement '..UptoSaid' is the law's where the arguments, and the package variables that the reading takes, are together of bulk at most 1048576: NARROWER than '..Said'. Prove '..Said' where nothing that the law and all that it calls make is longer than what came in: it says more and counts as full. Else prove '..UptoSaid'. A law counts once. -/
mutual
def uptoBulk {H : Type} : DataW H → Nat
  | .lit (.string bytes) => bytes.length + 1
  | .lit _ => 1
  | .nil => 1
  | .ptr d => uptoBulk d + 1
  | .slice elems spare => uptoBulkAll elems + uptoBulkAll spare + 1
  | .agg parts => uptoBulkAll parts + 1
  | .iface _ d => uptoBulk d + 1
  | .map entries => uptoBulkEntries entries + 1
  | .held _ => 1
def uptoBulkAll {H : Type} : List (DataW H) → Nat
  | [] => 0
  | d :: r => uptoBulk d + uptoBulkAll r
def uptoBulkEntries {H : Type} : List (Lit × DataW H) → Nat
  | [] => 0
  | x :: r => uptoBulkEntry x + uptoBulkEntries r
def uptoBulkEntry {H : Type} : Lit × DataW H → Nat
  | (.string bytes, d) => bytes.length + uptoBulk d + 1
  | (_, d) => uptoBulk d + 1
 end
def uptoSmall : (H : Type) → List (DataW H) → Bool := fun _ ds => decide (uptoBulkAll ds ≤ 1048576)
def OpenSpec.upto (s : _root_.Go.ChangeSpec) : _root_.Go.OpenSpec := { _root_.Go.OpenSpec.ofChange s with cond := some uptoSmall }

/-- 'supergraphlaw02.ValueRight', WHERE WHAT IT READS IS OF BULK AT MOST 1048576: true; the input reads as it did. -/
def valueRightUptoRow : OpenClaim := { program := "ytaeablbcfkamjaa", sum := "34c7462f800c3b53832e4e04dda9f957181b63fb829b1441a989f8eb977d0808", func := "supergraph/supergraphlaw02.ValueRight", spec := "valueRight", inPlace := ["internal/bytealg.abigen_runtime_cmpstring"], unfollowed := true, recurses := true, loops := true, apart := false, narrowed := true }
def ValueRightUptoSaid : Prop := valueRightUptoRow.holds Try.pinned (OpenSpec.upto valueRightSpec)

/-- 'supergraphlaw02.ValueMeasure', WHERE WHAT IT READS IS OF BULK AT MOST 1048576: true; the input reads as it did. -/
def valueMeasureUptoRow : OpenClaim := { program := "ytaeablbcfkamjaa", sum := "34c7462f800c3b53832e4e04dda9f957181b63fb829b1441a989f8eb977d0808", func := "supergraph/supergraphlaw02.ValueMeasure", spec := "valueMeasure", inPlace := ["internal/bytealg.abigen_runtime_cmpstring"], unfollowed := true, recurses := true, loops := true, apart := false, narrowed := true }
def ValueMeasureUptoSaid : Prop := valueMeasureUptoRow.holds Try.pinned (OpenSpec.upto valueMeasureSpec)

/-- 'supergraphlaw02.ValueOrder', WHERE WHAT IT READS IS OF BULK AT MOST 1048576: true; the input reads as it did. -/
def valueOrderUptoRow : OpenClaim := { program := "ytaeablbcfkamjaa", sum := "34c7462f800c3b53832e4e04dda9f957181b63fb829b1441a989f8eb977d0808", func := "supergraph/supergraphlaw02.ValueOrder", spec := "valueOrder", inPlace := ["internal/bytealg.abigen_runtime_cmpstring"], unfollowed := true, recurses := true, loops := true, apart := false, narrowed := true }
def ValueOrderUptoSaid : Prop := valueOrderUptoRow.holds Try.pinned (OpenSpec.upto valueOrderSpec)

/-- 'supergraphlaw02.ValueObject', WHERE WHAT IT READS IS OF BULK AT MOST 1048576: true; the input reads as it did. -/
def valueObjectUptoRow : OpenClaim := { program := "ytaeablbcfkamjaa", sum := "34c7462f800c3b53832e4e04dda9f957181b63fb829b1441a989f8eb977d0808", func := "supergraph/supergraphlaw02.ValueObject", spec := "valueObject", inPlace := ["internal/bytealg.abigen_runtime_cmpstring"], unfollowed := true, recurses := true, loops := true, apart := false, narrowed := true }
def ValueObjectUptoSaid : Prop := valueObjectUptoRow.holds Try.pinned (OpenSpec.upto valueObjectSpec)

/-- 'supergraphlaw02.ValueGet', WHERE WHAT IT READS IS OF BULK AT MOST 1048576: true; the input reads as it did. -/
def valueGetUptoRow : OpenClaim := { program := "ytaeablbcfkamjaa", sum := "34c7462f800c3b53832e4e04dda9f957181b63fb829b1441a989f8eb977d0808", func := "supergraph/supergraphlaw02.ValueGet", spec := "valueGet", inPlace := ["internal/bytealg.abigen_runtime_cmpstring"], unfollowed := true, recurses := true, loops := true, apart := false, narrowed := true }
def ValueGetUptoSaid : Prop := valueGetUptoRow.holds Try.pinned (OpenSpec.upto valueGetSpec)

/-- 'supergraphlaw02.ValueSort', WHERE WHAT IT READS IS OF BULK AT MOST 1048576: true; the input reads as it did. -/
def valueSortUptoRow : OpenClaim := { program := "ytaeablbcfkamjaa", sum := "34c7462f800c3b53832e4e04dda9f957181b63fb829b1441a989f8eb977d0808", func := "supergraph/supergraphlaw02.ValueSort", spec := "valueSort", inPlace := ["internal/bytealg.abigen_runtime_cmpstring"], unfollowed := true, recurses := true, loops := true, apart := false, narrowed := true }
def ValueSortUptoSaid : Prop := valueSortUptoRow.holds Try.pinned (OpenSpec.upto valueSortSpec)

/-- 'supergraphlaw02.ValueMakes', WHERE WHAT IT READS IS OF BULK AT MOST 1048576: true; the input reads as it did. -/
def valueMakesUptoRow : OpenClaim := { program := "ytaeablbcfkamjaa", sum := "34c7462f800c3b53832e4e04dda9f957181b63fb829b1441a989f8eb977d0808", func := "supergraph/supergraphlaw02.ValueMakes", spec := "valueMakes", inPlace := ["internal/bytealg.abigen_runtime_cmpstring"], unfollowed := true, recurses := true, apart := false, narrowed := true }
def ValueMakesUptoSaid : Prop := valueMakesUptoRow.holds Try.pinned (OpenSpec.upto valueMakesSpec)

end Rows
end Go.Proofs.Ytaeablbcfkamjaa
