/-
  NARROWER THAN 'FOR EVERY INPUT', by the rows' own cells (each row's printed sentence says how): DeferralMerges: loops · DeferralLabels: loops · StitchReps: loops · StitchMerges: loops · StitchJoins: loops · StitchStrips: loops · StitchSettles: loops · StitchKeeps: loops.
  DERIVED. THE GIVEN ROWS OF THIS SEAT. 8 by the template 'for every input the law returns true; each argument reads behind the call as it read before'; 0 by the template 'total and deterministic' (their statements: YtmcgjccheehehaaTotals.lean).
  GIVEN WITH THE SEED: the statements are not yours to turn. If you find one false, say at which input.
  Laid BY PROGRAM, IN A SANDBOX (cutbox-rows.mjs): the forced cells as the released guide's own fill.sh prints them over the translation 9dd6716244fd1177… (all of the seat's roots in one cut). By AI agents, Wed Nov 11 2026. No macro, syntax, notation, axiom, sorry.
-/
import Derived.Test.YtmcgjccheehehaaChecked
import GoSem.Claim
import GoSem.ClaimJoined
import GoSem.ClaimMapViews
import Derived.JoinedTies
import Derived.KernelRfl
namespace Go.Proofs.Ytmcgjccheehehaa
/- THE CELL 'sum', in the pinned program and in every row, IS THE sha256 OF THE DUMP (.gsa) THAT YtmcgjccheehehaaProg.lean LOADS. Nothing in Lean hashes anything: it is a label: what it is worth is what the hold of that sum in a sandbox is worth. -/
noncomputable def Try.pinned : Pinned := { name := "ytmcgjccheehehaa", sum := "9dd6716244fd117746a1757fc0ade455be1514cdeda62518bb60085c25558565", checked := Try.checked }
namespace Rows
def none {H : Type} : Left H := { results := [], args := [] }

/-- 'supergraphlaw38.DeferralMerges': WHATEVER THE INPUT: true; the input reads as it did. -/
def deferralMergesSpec : ChangeSpec := { name := "deferralMerges", fn := fun _ => fun
  | [d1, d2] => { results := [.lit (.bool true)], args := [d1, d2] }
  | _ => none }
def deferralMergesRow : OpenClaim := { program := "ytmcgjccheehehaa", sum := "9dd6716244fd117746a1757fc0ade455be1514cdeda62518bb60085c25558565", func := "supergraph/supergraphlaw38.DeferralMerges", spec := "deferralMerges", recurses := true, loops := true, apart := false }
def DeferralMergesSaid : Prop := deferralMergesRow.holds Try.pinned (OpenSpec.ofChange deferralMergesSpec)

/-- ITS FALSE NEIGHBOUR: 'it returns false'. Refute it at one input. -/
def deferralMergesWrong : ChangeSpec := { name := "deferralMerges", fn := fun _ => fun
  | [d1, d2] => { results := [.lit (.bool false)], args := [d1, d2] }
  | _ => none }
def DeferralMergesWrongFalsely : Prop := deferralMergesRow.holds Try.pinned (OpenSpec.ofChange deferralMergesWrong)

/-- 'supergraphlaw38.DeferralLabels': WHATEVER THE INPUT: true; the input reads as it did. -/
def deferralLabelsSpec : ChangeSpec := { name := "deferralLabels", fn := fun _ => fun
  | [d] => { results := [.lit (.bool true)], args := [d] }
  | _ => none }
def deferralLabelsRow : OpenClaim := { program := "ytmcgjccheehehaa", sum := "9dd6716244fd117746a1757fc0ade455be1514cdeda62518bb60085c25558565", func := "supergraph/supergraphlaw38.DeferralLabels", spec := "deferralLabels", recurses := true, loops := true, apart := false }
def DeferralLabelsSaid : Prop := deferralLabelsRow.holds Try.pinned (OpenSpec.ofChange deferralLabelsSpec)

/-- ITS FALSE NEIGHBOUR: 'it returns false'. Refute it at one input. -/
def deferralLabelsWrong : ChangeSpec := { name := "deferralLabels", fn := fun _ => fun
  | [d] => { results := [.lit (.bool false)], args := [d] }
  | _ => none }
def DeferralLabelsWrongFalsely : Prop := deferralLabelsRow.holds Try.pinned (OpenSpec.ofChange deferralLabelsWrong)

/-- 'supergraphlaw36.StitchReps': WHATEVER THE INPUT: true; the input reads as it did. -/
def stitchRepsSpec : ChangeSpec := { name := "stitchReps", fn := fun _ => fun
  | [d1, d2] => { results := [.lit (.bool true)], args := [d1, d2] }
  | _ => none }
def stitchRepsRow : OpenClaim := { program := "ytmcgjccheehehaa", sum := "9dd6716244fd117746a1757fc0ade455be1514cdeda62518bb60085c25558565", func := "supergraph/supergraphlaw36.StitchReps", spec := "stitchReps", unfollowed := true, recurses := true, loops := true, apart := false }
def StitchRepsSaid : Prop := stitchRepsRow.holds Try.pinned (OpenSpec.ofChange stitchRepsSpec)

/-- ITS FALSE NEIGHBOUR: 'it returns false'. Refute it at one input. -/
def stitchRepsWrong : ChangeSpec := { name := "stitchReps", fn := fun _ => fun
  | [d1, d2] => { results := [.lit (.bool false)], args := [d1, d2] }
  | _ => none }
def StitchRepsWrongFalsely : Prop := stitchRepsRow.holds Try.pinned (OpenSpec.ofChange stitchRepsWrong)

/-- 'supergraphlaw36.StitchMerges': WHATEVER THE INPUT: true; the input reads as it did. -/
def stitchMergesSpec : ChangeSpec := { name := "stitchMerges", fn := fun _ => fun
  | [d1, d2, d3] => { results := [.lit (.bool true)], args := [d1, d2, d3] }
  | _ => none }
def stitchMergesRow : OpenClaim := { program := "ytmcgjccheehehaa", sum := "9dd6716244fd117746a1757fc0ade455be1514cdeda62518bb60085c25558565", func := "supergraph/supergraphlaw36.StitchMerges", spec := "stitchMerges", unfollowed := true, recurses := true, loops := true, apart := false }
def StitchMergesSaid : Prop := stitchMergesRow.holds Try.pinned (OpenSpec.ofChange stitchMergesSpec)

/-- ITS FALSE NEIGHBOUR: 'it returns false'. Refute it at one input. -/
def stitchMergesWrong : ChangeSpec := { name := "stitchMerges", fn := fun _ => fun
  | [d1, d2, d3] => { results := [.lit (.bool false)], args := [d1, d2, d3] }
  | _ => none }
def StitchMergesWrongFalsely : Prop := stitchMergesRow.holds Try.pinned (OpenSpec.ofChange stitchMergesWrong)

/-- 'supergraphlaw36.StitchJoins': WHATEVER THE INPUT: true; the input reads as it did. -/
def stitchJoinsSpec : ChangeSpec := { name := "stitchJoins", fn := fun _ => fun
  | [d1, d2] => { results := [.lit (.bool true)], args := [d1, d2] }
  | _ => none }
def stitchJoinsRow : OpenClaim := { program := "ytmcgjccheehehaa", sum := "9dd6716244fd117746a1757fc0ade455be1514cdeda62518bb60085c25558565", func := "supergraph/supergraphlaw36.StitchJoins", spec := "stitchJoins", unfollowed := true, recurses := true, loops := true, apart := false }
def StitchJoinsSaid : Prop := stitchJoinsRow.holds Try.pinned (OpenSpec.ofChange stitchJoinsSpec)

/-- ITS FALSE NEIGHBOUR: 'it returns false'. Refute it at one input. -/
def stitchJoinsWrong : ChangeSpec := { name := "stitchJoins", fn := fun _ => fun
  | [d1, d2] => { results := [.lit (.bool false)], args := [d1, d2] }
  | _ => none }
def StitchJoinsWrongFalsely : Prop := stitchJoinsRow.holds Try.pinned (OpenSpec.ofChange stitchJoinsWrong)

/-- 'supergraphlaw36.StitchStrips': WHATEVER THE INPUT: true; the input reads as it did. -/
def stitchStripsSpec : ChangeSpec := { name := "stitchStrips", fn := fun _ => fun
  | [d1, d2, d3, d4] => { results := [.lit (.bool true)], args := [d1, d2, d3, d4] }
  | _ => none }
def stitchStripsRow : OpenClaim := { program := "ytmcgjccheehehaa", sum := "9dd6716244fd117746a1757fc0ade455be1514cdeda62518bb60085c25558565", func := "supergraph/supergraphlaw36.StitchStrips", spec := "stitchStrips", unfollowed := true, recurses := true, loops := true, apart := false }
def StitchStripsSaid : Prop := stitchStripsRow.holds Try.pinned (OpenSpec.ofChange stitchStripsSpec)

/-- ITS FALSE NEIGHBOUR: 'it returns false'. Refute it at one input. -/
def stitchStripsWrong : ChangeSpec := { name := "stitchStrips", fn := fun _ => fun
  | [d1, d2, d3, d4] => { results := [.lit (.bool false)], args := [d1, d2, d3, d4] }
  | _ => none }
def StitchStripsWrongFalsely : Prop := stitchStripsRow.holds Try.pinned (OpenSpec.ofChange stitchStripsWrong)

/-- 'supergraphlaw36.StitchSettles': WHATEVER THE INPUT: true; the input reads as it did. -/
def stitchSettlesSpec : ChangeSpec := { name := "stitchSettles", fn := fun _ => fun
  | [d1, d2] => { results := [.lit (.bool true)], args := [d1, d2] }
  | _ => none }
def stitchSettlesRow : OpenClaim := { program := "ytmcgjccheehehaa", sum := "9dd6716244fd117746a1757fc0ade455be1514cdeda62518bb60085c25558565", func := "supergraph/supergraphlaw36.StitchSettles", spec := "stitchSettles", unfollowed := true, recurses := true, loops := true, apart := false }
def StitchSettlesSaid : Prop := stitchSettlesRow.holds Try.pinned (OpenSpec.ofChange stitchSettlesSpec)

/-- ITS FALSE NEIGHBOUR: 'it returns false'. Refute it at one input. -/
def stitchSettlesWrong : ChangeSpec := { name := "stitchSettles", fn := fun _ => fun
  | [d1, d2] => { results := [.lit (.bool false)], args := [d1, d2] }
  | _ => none }
def StitchSettlesWrongFalsely : Prop := stitchSettlesRow.holds Try.pinned (OpenSpec.ofChange stitchSettlesWrong)

/-- 'supergraphlaw36.StitchKeeps': WHATEVER THE INPUT: true; the input reads as it did. -/
def stitchKeepsSpec : ChangeSpec := { name := "stitchKeeps", fn := fun _ => fun
  | [d1, d2, d3] => { results := [.lit (.bool true)], args := [d1, d2, d3] }
  | _ => none }
def stitchKeepsRow : OpenClaim := { program := "ytmcgjccheehehaa", sum := "9dd6716244fd117746a1757fc0ade455be1514cdeda62518bb60085c25558565", func := "supergraph/supergraphlaw36.StitchKeeps", spec := "stitchKeeps", unfollowed := true, recurses := true, loops := true, apart := false }
def StitchKeepsSaid : Prop := stitchKeepsRow.holds Try.pinned (OpenSpec.ofChange stitchKeepsSpec)

/-- ITS FALSE NEIGHBOUR: 'it returns false'. Refute it at one input. -/
def stitchKeepsWrong : ChangeSpec := { name := "stitchKeeps", fn := fun _ => fun
  | [d1, d2, d3] => { results := [.lit (.bool false)], args := [d1, d2, d3] }
  | _ => none }
def StitchKeepsWrongFalsely : Prop := stitchKeepsRow.holds Try.pinned (OpenSpec.ofChange stitchKeepsWrong)

/- THE SECOND FORM. 'bulk': how many values and letters a reading holds, each counted each time it is reached (what is shared counts as often as it is met; a slice's spare places count too). A statement '..UptoSaid' is the law's where the arguments, and the package variables that the reading takes, are together of bulk at most 1048576: NARROWER than '..Said'. Prove '..Said' where nothing that the law and all that it calls make is longer than what came in: it says more and counts as full. Else prove '..UptoSaid'. A law counts once. -/
mutual
def uptoBulk {H : Type} : DataW H → Nat
  | .lit (.string bytes) => bytes.length + 1
  | .lit _ => 1
  | .nil => 1
  | .ptr d => uptoBulk d + 1
  | .slice elems spare => uptoBulkAll elems + uptoBulkAll spare + 1
  | .agg parts => uptoBulkAll parts + 1
  | .iface _ d => uptoBulk d + 1
  | .map entries => uptoBulkEntries entries + 1
  | .held _ => 1
def uptoBulkAll {H : Type} : List (DataW H) → Nat
  | [] => 0
  | d :: r => uptoBulk d + uptoBulkAll r
def uptoBulkEntries {H : Type} : List (Lit × DataW H) → Nat
  | [] => 0
  | x :: r => uptoBulkEntry x + uptoBulkEntries r
def uptoBulkEntry {H : Type} : Lit × DataW H → Nat
  | (.string bytes, d) => bytes.length + uptoBulk d + 1
  | (_, d) => uptoBulk d + 1
 end
def uptoSmall : (H : Type) → List (DataW H) → Bool := fun _ ds => decide (uptoBulkAll ds ≤ 1048576)
def OpenSpec.upto (s : _root_.Go.ChangeSpec) : _root_.Go.OpenSpec := { _root_.Go.OpenSpec.ofChange s with cond := some uptoSmall }

/-- 'supergraphlaw38.DeferralMerges', WHERE WHAT IT READS IS OF BULK AT MOST 1048576: true; the input reads as it did. -/
def deferralMergesUptoRow : OpenClaim := { program := "ytmcgjccheehehaa", sum := "9dd6716244fd117746a1757fc0ade455be1514cdeda62518bb60085c25558565", func := "supergraph/supergraphlaw38.DeferralMerges", spec := "deferralMerges", recurses := true, loops := true, apart := false, narrowed := true }
def DeferralMergesUptoSaid : Prop := deferralMergesUptoRow.holds Try.pinned (OpenSpec.upto deferralMergesSpec)

/-- 'supergraphlaw38.DeferralLabels', WHERE WHAT IT READS IS OF BULK AT MOST 1048576: true; the input reads as it did. -/
def deferralLabelsUptoRow : OpenClaim := { program := "ytmcgjccheehehaa", sum := "9dd6716244fd117746a1757fc0ade455be1514cdeda62518bb60085c25558565", func := "supergraph/supergraphlaw38.DeferralLabels", spec := "deferralLabels", recurses := true, loops := true, apart := false, narrowed := true }
def DeferralLabelsUptoSaid : Prop := deferralLabelsUptoRow.holds Try.pinned (OpenSpec.upto deferralLabelsSpec)

/-- 'supergraphlaw36.StitchReps', WHERE WHAT IT READS IS OF BULK AT MOST 1048576: true; the input reads as it did. -/
def stitchRepsUptoRow : OpenClaim := { program := "ytmcgjccheehehaa", sum := "9dd6716244fd117746a1757fc0ade455be1514cdeda62518bb60085c25558565", func := "supergraph/supergraphlaw36.StitchReps", spec := "stitchReps", unfollowed := true, recurses := true, loops := true, apart := false, narrowed := true }
def StitchRepsUptoSaid : Prop := stitchRepsUptoRow.holds Try.pinned (OpenSpec.upto stitchRepsSpec)

/-- 'supergraphlaw36.StitchMerges', WHERE WHAT IT READS IS OF BULK AT MOST 1048576: true; the input reads as it did. -/
def stitchMergesUptoRow : OpenClaim := { program := "ytmcgjccheehehaa", sum := "9dd6716244fd117746a1757fc0ade455be1514cdeda62518bb60085c25558565", func := "supergraph/supergraphlaw36.StitchMerges", spec := "stitchMerges", unfollowed := true, recurses := true, loops := true, apart := false, narrowed := true }
def StitchMergesUptoSaid : Prop := stitchMergesUptoRow.holds Try.pinned (OpenSpec.upto stitchMergesSpec)

/-- 'supergraphlaw36.StitchJoins', WHERE WHAT IT READS IS OF BULK AT MOST 1048576: true; the input reads as it did. -/
def stitchJoinsUptoRow : OpenClaim := { program := "ytmcgjccheehehaa", sum := "9dd6716244fd117746a1757fc0ade455be1514cdeda62518bb60085c25558565", func := "supergraph/supergraphlaw36.StitchJoins", spec := "stitchJoins", unfollowed := true, recurses := true, loops := true, apart := false, narrowed := true }
def StitchJoinsUptoSaid : Prop := stitchJoinsUptoRow.holds Try.pinned (OpenSpec.upto stitchJoinsSpec)

/-- 'supergraphlaw36.StitchStrips', WHERE WHAT IT READS IS OF BULK AT MOST 1048576: true; the input reads as it did. -/
def stitchStripsUptoRow : OpenClaim := { program := "ytmcgjccheehehaa", sum := "9dd6716244fd117746a1757fc0ade455be1514cdeda62518bb60085c25558565", func := "supergraph/supergraphlaw36.StitchStrips", spec := "stitchStrips", unfollowed := true, recurses := true, loops := true, apart := false, narrowed := true }
def StitchStripsUptoSaid : Prop := stitchStripsUptoRow.holds Try.pinned (OpenSpec.upto stitchStripsSpec)

/-- 'supergraphlaw36.StitchSettles', WHERE WHAT IT READS IS OF BULK AT MOST 1048576: true; the input reads as it did. -/
def stitchSettlesUptoRow : OpenClaim := { program := "ytmcgjccheehehaa", sum := "9dd6716244fd117746a1757fc0ade455be1514cdeda62518bb60085c25558565", func := "supergraph/supergraphlaw36.StitchSettles", spec := "stitchSettles", unfollowed := true, recurses := true, loops := true, apart := false, narrowed := true }
def StitchSettlesUptoSaid : Prop := stitchSettlesUptoRow.holds Try.pinned (OpenSpec.upto stitchSettlesSpec)

/-- 'supergraphlaw36.StitchKeeps', WHERE WHAT IT READS IS OF BULK AT MOST 1048576: true; the input reads as it did. -/
def stitchKeepsUptoRow : OpenClaim := { program := "ytmcgjccheehehaa", sum := "9dd6716244fd117746a1757fc0ade455be1514cdeda62518bb60085c25558565", func := "supergraph/supergraphlaw36.StitchKeeps", spec := "stitchKeeps", unfollowed := true, recurses := true, loops := true, apart := false, narrowed := true }
def StitchKeepsUptoSaid : Prop := stitchKeepsUptoRow.holds Try.pinned (OpenSpec.upto stitchKeepsSpec)

end Rows
end Go.Proofs.Ytmcgjccheehehaa
