/-
  NARROWER THAN 'FOR EVERY INPUT', by the rows' own cells (each row's printed sentence says how): StreamSource: loops, laid · StreamEvent: loops, laid · StreamEach: loops, laid · StreamOwner: loops, laid · StreamShape: loops, laid · ServiceRoots: loops, laid · ServiceEntities: loops, laid.
  DERIVED. THE GIVEN ROWS OF THIS SEAT. 7 by the template 'for every input the law returns true; each argument reads behind the call as it read before'; 0 by the template 'total and deterministic' (their statements: YtinbodeocoeneaaGreatDoorTotals.lean).
  GIVEN WITH THE SEED: the statements are not yours to turn. If you find one false, say at which input.
  Laid BY PROGRAM, IN A SANDBOX (cutbox-rows.mjs): the forced cells as the released guide's own fill.sh prints them over the translation 28fc35e6532abd0c… (all of the seat's roots in one cut). By AI agents, Wed Nov 11 2026. No macro, syntax, notation, axiom, sorry.
-/
import Derived.Test.YtinbodeocoeneaaGreatDoorChecked
import GoSem.Claim
import GoSem.ClaimJoined
import GoSem.ClaimMapViews
import Derived.JoinedTies
import Derived.KernelRfl
namespace Go.Proofs.YtinbodeocoeneaaGreatDoor
/- THE CELL 'sum', in the pinned program and in every row, IS THE sha256 OF THE DUMP (.gsa) THAT YtinbodeocoeneaaGreatDoorProg.lean LOADS. Nothing in Lean hashes anything: it is a label: what it is worth is what the hold of that sum in a sandbox is worth. -/
noncomputable def Tryz.pinned : Pinned := { name := "ytinbodeocoeneaagreatdoor", sum := "28fc35e6532abd0cff899201a30126f4a7ccc6afdc74926e59f0b3c677725ab5", checked := Tryz.checked }
namespace Rows
def none {H : Type} : Left H := { results := [], args := [] }

/- WHAT THE LISTED PACKAGE-LEVEL VARIABLES READ AS WHEN THE CALL BEGINS. Each datum BY PROGRAM (the guide's laid-datum.mjs) off the statement by which the dump's own 'gosem.cut.vars' lays the variable. In a bare row this is a premise. The card (YtinbodeocoeneaaGreatDoorCards.lean) ties it to the program's text. -/
def laid_math_bits_deBruijn32tab {H : Type} : DataW H := .agg [.lit (.int .u8 0), .lit (.int .u8 1), .lit (.int .u8 28), .lit (.int .u8 2), .lit (.int .u8 29), .lit (.int .u8 14), .lit (.int .u8 24), .lit (.int .u8 3), .lit (.int .u8 30), .lit (.int .u8 22), .lit (.int .u8 20), .lit (.int .u8 15), .lit (.int .u8 25), .lit (.int .u8 17), .lit (.int .u8 4), .lit (.int .u8 8), .lit (.int .u8 31), .lit (.int .u8 27), .lit (.int .u8 13), .lit (.int .u8 23), .lit (.int .u8 21), .lit (.int .u8 19), .lit (.int .u8 16), .lit (.int .u8 7), .lit (.int .u8 26), .lit (.int .u8 12), .lit (.int .u8 18), .lit (.int .u8 6), .lit (.int .u8 11), .lit (.int .u8 5), .lit (.int .u8 10), .lit (.int .u8 9)]
def laid_math_bits_deBruijn64tab {H : Type} : DataW H := .agg [.lit (.int .u8 0), .lit (.int .u8 1), .lit (.int .u8 56), .lit (.int .u8 2), .lit (.int .u8 57), .lit (.int .u8 49), .lit (.int .u8 28), .lit (.int .u8 3), .lit (.int .u8 61), .lit (.int .u8 58), .lit (.int .u8 42), .lit (.int .u8 50), .lit (.int .u8 38), .lit (.int .u8 29), .lit (.int .u8 17), .lit (.int .u8 4), .lit (.int .u8 62), .lit (.int .u8 47), .lit (.int .u8 59), .lit (.int .u8 36), .lit (.int .u8 45), .lit (.int .u8 43), .lit (.int .u8 51), .lit (.int .u8 22), .lit (.int .u8 53), .lit (.int .u8 39), .lit (.int .u8 33), .lit (.int .u8 30), .lit (.int .u8 24), .lit (.int .u8 18), .lit (.int .u8 12), .lit (.int .u8 5), .lit (.int .u8 63), .lit (.int .u8 55), .lit (.int .u8 48), .lit (.int .u8 27), .lit (.int .u8 60), .lit (.int .u8 41), .lit (.int .u8 37), .lit (.int .u8 16), .lit (.int .u8 46), .lit (.int .u8 35), .lit (.int .u8 44), .lit (.int .u8 21), .lit (.int .u8 52), .lit (.int .u8 32), .lit (.int .u8 23), .lit (.int .u8 11), .lit (.int .u8 54), .lit (.int .u8 26), .lit (.int .u8 40), .lit (.int .u8 15), .lit (.int .u8 34), .lit (.int .u8 20), .lit (.int .u8 31), .lit (.int .u8 10), .lit (.int .u8 25), .lit (.int .u8 14), .lit (.int .u8 19), .lit (.int .u8 9), .lit (.int .u8 13), .lit (.int .u8 8), .lit (.int .u8 7), .lit (.int .u8 6)]
def laid_internal_strconv_uint64pow10 {H : Type} : DataW H := .agg [.lit (.int .u64 1), .lit (.int .u64 10), .lit (.int .u64 100), .lit (.int .u64 1000), .lit (.int .u64 10000), .lit (.int .u64 100000), .lit (.int .u64 1000000), .lit (.int .u64 10000000), .lit (.int .u64 100000000), .lit (.int .u64 1000000000), .lit (.int .u64 10000000000), .lit (.int .u64 100000000000), .lit (.int .u64 1000000000000), .lit (.int .u64 10000000000000), .lit (.int .u64 100000000000000), .lit (.int .u64 1000000000000000), .lit (.int .u64 10000000000000000), .lit (.int .u64 100000000000000000), .lit (.int .u64 1000000000000000000), .lit (.int .u64 10000000000000000000)]

/-- 'supergraphlaw45.StreamSource': WHATEVER THE INPUT: true; the input reads as it did. -/
def streamSourceSpec : ChangeSpec := { name := "streamSource", fn := fun _ => fun
  | [d] => { results := [.lit (.bool true)], args := [d] }
  | _ => none }
def streamSourceRow : OpenClaim := { program := "ytinbodeocoeneaagreatdoor", sum := "28fc35e6532abd0cff899201a30126f4a7ccc6afdc74926e59f0b3c677725ab5", func := "supergraph/supergraphlaw45.StreamSource", spec := "streamSource", inPlace := ["internal/abi.NoEscape", "internal/bytealg.MakeNoZero"], unfollowed := true, recurses := true, named := ["internal/strconv.uint64pow10", "math/bits.deBruijn32tab", "math/bits.deBruijn64tab"], loops := true, apart := false, laid := [("math/bits.deBruijn32tab", laid_math_bits_deBruijn32tab), ("math/bits.deBruijn64tab", laid_math_bits_deBruijn64tab), ("internal/strconv.uint64pow10", laid_internal_strconv_uint64pow10)] }
def StreamSourceSaid : Prop := streamSourceRow.holds Tryz.pinned (OpenSpec.ofChange streamSourceSpec)

/-- ITS FALSE NEIGHBOUR: 'it returns false'. Refute it at one input. -/
def streamSourceWrong : ChangeSpec := { name := "streamSource", fn := fun _ => fun
  | [d] => { results := [.lit (.bool false)], args := [d] }
  | _ => none }
def StreamSourceWrongFalsely : Prop := streamSourceRow.holds Tryz.pinned (OpenSpec.ofChange streamSourceWrong)

/-- 'supergraphlaw45.StreamEvent': WHATEVER THE INPUT: true; the input reads as it did. -/
def streamEventSpec : ChangeSpec := { name := "streamEvent", fn := fun _ => fun
  | [d1, d2] => { results := [.lit (.bool true)], args := [d1, d2] }
  | _ => none }
def streamEventRow : OpenClaim := { program := "ytinbodeocoeneaagreatdoor", sum := "28fc35e6532abd0cff899201a30126f4a7ccc6afdc74926e59f0b3c677725ab5", func := "supergraph/supergraphlaw45.StreamEvent", spec := "streamEvent", inPlace := ["internal/abi.NoEscape", "internal/bytealg.MakeNoZero"], unfollowed := true, recurses := true, named := ["internal/strconv.uint64pow10", "math/bits.deBruijn32tab", "math/bits.deBruijn64tab"], loops := true, apart := false, laid := [("math/bits.deBruijn32tab", laid_math_bits_deBruijn32tab), ("math/bits.deBruijn64tab", laid_math_bits_deBruijn64tab), ("internal/strconv.uint64pow10", laid_internal_strconv_uint64pow10)] }
def StreamEventSaid : Prop := streamEventRow.holds Tryz.pinned (OpenSpec.ofChange streamEventSpec)

/-- ITS FALSE NEIGHBOUR: 'it returns false'. Refute it at one input. -/
def streamEventWrong : ChangeSpec := { name := "streamEvent", fn := fun _ => fun
  | [d1, d2] => { results := [.lit (.bool false)], args := [d1, d2] }
  | _ => none }
def StreamEventWrongFalsely : Prop := streamEventRow.holds Tryz.pinned (OpenSpec.ofChange streamEventWrong)

/-- 'supergraphlaw45.StreamEach': WHATEVER THE INPUT: true; the input reads as it did. -/
def streamEachSpec : ChangeSpec := { name := "streamEach", fn := fun _ => fun
  | [d1, d2] => { results := [.lit (.bool true)], args := [d1, d2] }
  | _ => none }
def streamEachRow : OpenClaim := { program := "ytinbodeocoeneaagreatdoor", sum := "28fc35e6532abd0cff899201a30126f4a7ccc6afdc74926e59f0b3c677725ab5", func := "supergraph/supergraphlaw45.StreamEach", spec := "streamEach", inPlace := ["internal/abi.NoEscape", "internal/bytealg.MakeNoZero"], unfollowed := true, recurses := true, named := ["internal/strconv.uint64pow10", "math/bits.deBruijn32tab", "math/bits.deBruijn64tab"], loops := true, apart := false, laid := [("math/bits.deBruijn32tab", laid_math_bits_deBruijn32tab), ("math/bits.deBruijn64tab", laid_math_bits_deBruijn64tab), ("internal/strconv.uint64pow10", laid_internal_strconv_uint64pow10)] }
def StreamEachSaid : Prop := streamEachRow.holds Tryz.pinned (OpenSpec.ofChange streamEachSpec)

/-- ITS FALSE NEIGHBOUR: 'it returns false'. Refute it at one input. -/
def streamEachWrong : ChangeSpec := { name := "streamEach", fn := fun _ => fun
  | [d1, d2] => { results := [.lit (.bool false)], args := [d1, d2] }
  | _ => none }
def StreamEachWrongFalsely : Prop := streamEachRow.holds Tryz.pinned (OpenSpec.ofChange streamEachWrong)

/-- 'supergraphlaw45.StreamOwner': WHATEVER THE INPUT: true; the input reads as it did. -/
def streamOwnerSpec : ChangeSpec := { name := "streamOwner", fn := fun _ => fun
  | [d] => { results := [.lit (.bool true)], args := [d] }
  | _ => none }
def streamOwnerRow : OpenClaim := { program := "ytinbodeocoeneaagreatdoor", sum := "28fc35e6532abd0cff899201a30126f4a7ccc6afdc74926e59f0b3c677725ab5", func := "supergraph/supergraphlaw45.StreamOwner", spec := "streamOwner", inPlace := ["internal/abi.NoEscape", "internal/bytealg.MakeNoZero"], unfollowed := true, recurses := true, named := ["internal/strconv.uint64pow10", "math/bits.deBruijn32tab", "math/bits.deBruijn64tab"], loops := true, apart := false, laid := [("math/bits.deBruijn32tab", laid_math_bits_deBruijn32tab), ("math/bits.deBruijn64tab", laid_math_bits_deBruijn64tab), ("internal/strconv.uint64pow10", laid_internal_strconv_uint64pow10)] }
def StreamOwnerSaid : Prop := streamOwnerRow.holds Tryz.pinned (OpenSpec.ofChange streamOwnerSpec)

/-- ITS FALSE NEIGHBOUR: 'it returns false'. Refute it at one input. -/
def streamOwnerWrong : ChangeSpec := { name := "streamOwner", fn := fun _ => fun
  | [d] => { results := [.lit (.bool false)], args := [d] }
  | _ => none }
def StreamOwnerWrongFalsely : Prop := streamOwnerRow.holds Tryz.pinned (OpenSpec.ofChange streamOwnerWrong)

/-- 'supergraphlaw45.StreamShape': WHATEVER THE INPUT: true; the input reads as it did. -/
def streamShapeSpec : ChangeSpec := { name := "streamShape", fn := fun _ => fun
  | [d1, d2] => { results := [.lit (.bool true)], args := [d1, d2] }
  | _ => none }
def streamShapeRow : OpenClaim := { program := "ytinbodeocoeneaagreatdoor", sum := "28fc35e6532abd0cff899201a30126f4a7ccc6afdc74926e59f0b3c677725ab5", func := "supergraph/supergraphlaw45.StreamShape", spec := "streamShape", inPlace := ["internal/abi.NoEscape", "internal/bytealg.MakeNoZero"], unfollowed := true, recurses := true, named := ["internal/strconv.uint64pow10", "math/bits.deBruijn32tab", "math/bits.deBruijn64tab"], loops := true, apart := false, laid := [("math/bits.deBruijn32tab", laid_math_bits_deBruijn32tab), ("math/bits.deBruijn64tab", laid_math_bits_deBruijn64tab), ("internal/strconv.uint64pow10", laid_internal_strconv_uint64pow10)] }
def StreamShapeSaid : Prop := streamShapeRow.holds Tryz.pinned (OpenSpec.ofChange streamShapeSpec)

/-- ITS FALSE NEIGHBOUR: 'it returns false'. Refute it at one input. -/
def streamShapeWrong : ChangeSpec := { name := "streamShape", fn := fun _ => fun
  | [d1, d2] => { results := [.lit (.bool false)], args := [d1, d2] }
  | _ => none }
def StreamShapeWrongFalsely : Prop := streamShapeRow.holds Tryz.pinned (OpenSpec.ofChange streamShapeWrong)

/-- 'supergraphlaw34.ServiceRoots': WHATEVER THE INPUT: true; the input reads as it did. -/
def serviceRootsSpec : ChangeSpec := { name := "serviceRoots", fn := fun _ => fun
  | [d1, d2, d3] => { results := [.lit (.bool true)], args := [d1, d2, d3] }
  | _ => none }
def serviceRootsRow : OpenClaim := { program := "ytinbodeocoeneaagreatdoor", sum := "28fc35e6532abd0cff899201a30126f4a7ccc6afdc74926e59f0b3c677725ab5", func := "supergraph/supergraphlaw34.ServiceRoots", spec := "serviceRoots", inPlace := ["internal/abi.NoEscape", "internal/bytealg.MakeNoZero"], unfollowed := true, recurses := true, named := ["internal/strconv.uint64pow10", "math/bits.deBruijn32tab", "math/bits.deBruijn64tab"], loops := true, apart := false, laid := [("math/bits.deBruijn32tab", laid_math_bits_deBruijn32tab), ("math/bits.deBruijn64tab", laid_math_bits_deBruijn64tab), ("internal/strconv.uint64pow10", laid_internal_strconv_uint64pow10)] }
def ServiceRootsSaid : Prop := serviceRootsRow.holds Tryz.pinned (OpenSpec.ofChange serviceRootsSpec)

/-- ITS FALSE NEIGHBOUR: 'it returns false'. Refute it at one input. -/
def serviceRootsWrong : ChangeSpec := { name := "serviceRoots", fn := fun _ => fun
  | [d1, d2, d3] => { results := [.lit (.bool false)], args := [d1, d2, d3] }
  | _ => none }
def ServiceRootsWrongFalsely : Prop := serviceRootsRow.holds Tryz.pinned (OpenSpec.ofChange serviceRootsWrong)

/-- 'supergraphlaw34.ServiceEntities': WHATEVER THE INPUT: true; the input reads as it did. -/
def serviceEntitiesSpec : ChangeSpec := { name := "serviceEntities", fn := fun _ => fun
  | [d1, d2, d3] => { results := [.lit (.bool true)], args := [d1, d2, d3] }
  | _ => none }
def serviceEntitiesRow : OpenClaim := { program := "ytinbodeocoeneaagreatdoor", sum := "28fc35e6532abd0cff899201a30126f4a7ccc6afdc74926e59f0b3c677725ab5", func := "supergraph/supergraphlaw34.ServiceEntities", spec := "serviceEntities", inPlace := ["internal/abi.NoEscape", "internal/bytealg.MakeNoZero", "internal/bytealg.abigen_runtime_cmpstring"], unfollowed := true, recurses := true, named := ["internal/strconv.uint64pow10", "math/bits.deBruijn32tab", "math/bits.deBruijn64tab"], loops := true, apart := false, laid := [("math/bits.deBruijn32tab", laid_math_bits_deBruijn32tab), ("math/bits.deBruijn64tab", laid_math_bits_deBruijn64tab), ("internal/strconv.uint64pow10", laid_internal_strconv_uint64pow10)] }
def ServiceEntitiesSaid : Prop := serviceEntitiesRow.holds Tryz.pinned (OpenSpec.ofChange serviceEntitiesSpec)

/-- ITS FALSE NEIGHBOUR: 'it returns false'. Refute it at one input. -/
def serviceEntitiesWrong : ChangeSpec := { name := "serviceEntities", fn := fun _ => fun
  | [d1, d2, d3] => { results := [.lit (.bool false)], args := [d1, d2, d3] }
  | _ => none }
def ServiceEntitiesWrongFalsely : Prop := serviceEntitiesRow.holds Tryz.pinned (OpenSpec.ofChange serviceEntitiesWrong)

/- THE SECOND FORM. 'bulk': how many values and letters a reading holds, each counted each time it is reached (what is shared counts as often as it is met; a slice's spare places count too). A statement '..UptoSaid' is the law's where the arguments, and the package variables that the reading takes, are together of bulk at most 1048576: NARROWER than '..Said'. Prove '..Said' where nothing that the law and all that it calls make is longer than what came in: it says more and counts as full. Else prove '..UptoSaid'. A law counts once. -/
mutual
def uptoBulk {H : Type} : DataW H → Nat
  | .lit (.string bytes) => bytes.length + 1
  | .lit _ => 1
  | .nil => 1
  | .ptr d => uptoBulk d + 1
  | .slice elems spare => uptoBulkAll elems + uptoBulkAll spare + 1
  | .agg parts => uptoBulkAll parts + 1
  | .iface _ d => uptoBulk d + 1
  | .map entries => uptoBulkEntries entries + 1
  | .held _ => 1
def uptoBulkAll {H : Type} : List (DataW H) → Nat
  | [] => 0
  | d :: r => uptoBulk d + uptoBulkAll r
def uptoBulkEntries {H : Type} : List (Lit × DataW H) → Nat
  | [] => 0
  | x :: r => uptoBulkEntry x + uptoBulkEntries r
def uptoBulkEntry {H : Type} : Lit × DataW H → Nat
  | (.string bytes, d) => bytes.length + uptoBulk d + 1
  | (_, d) => uptoBulk d + 1
 end
def uptoSmall : (H : Type) → List (DataW H) → Bool := fun _ ds => decide (uptoBulkAll ds ≤ 1048576)
def OpenSpec.upto (s : _root_.Go.ChangeSpec) : _root_.Go.OpenSpec := { _root_.Go.OpenSpec.ofChange s with cond := some uptoSmall }

/-- 'supergraphlaw45.StreamSource', WHERE WHAT IT READS IS OF BULK AT MOST 1048576: true; the input reads as it did. -/
def streamSourceUptoRow : OpenClaim := { program := "ytinbodeocoeneaagreatdoor", sum := "28fc35e6532abd0cff899201a30126f4a7ccc6afdc74926e59f0b3c677725ab5", func := "supergraph/supergraphlaw45.StreamSource", spec := "streamSource", inPlace := ["internal/abi.NoEscape", "internal/bytealg.MakeNoZero"], unfollowed := true, recurses := true, named := ["internal/strconv.uint64pow10", "math/bits.deBruijn32tab", "math/bits.deBruijn64tab"], loops := true, apart := false, laid := [("math/bits.deBruijn32tab", laid_math_bits_deBruijn32tab), ("math/bits.deBruijn64tab", laid_math_bits_deBruijn64tab), ("internal/strconv.uint64pow10", laid_internal_strconv_uint64pow10)], narrowed := true }
def StreamSourceUptoSaid : Prop := streamSourceUptoRow.holds Tryz.pinned (OpenSpec.upto streamSourceSpec)

/-- 'supergraphlaw45.StreamEvent', WHERE WHAT IT READS IS OF BULK AT MOST 1048576: true; the input reads as it did. -/
def streamEventUptoRow : OpenClaim := { program := "ytinbodeocoeneaagreatdoor", sum := "28fc35e6532abd0cff899201a30126f4a7ccc6afdc74926e59f0b3c677725ab5", func := "supergraph/supergraphlaw45.StreamEvent", spec := "streamEvent", inPlace := ["internal/abi.NoEscape", "internal/bytealg.MakeNoZero"], unfollowed := true, recurses := true, named := ["internal/strconv.uint64pow10", "math/bits.deBruijn32tab", "math/bits.deBruijn64tab"], loops := true, apart := false, laid := [("math/bits.deBruijn32tab", laid_math_bits_deBruijn32tab), ("math/bits.deBruijn64tab", laid_math_bits_deBruijn64tab), ("internal/strconv.uint64pow10", laid_internal_strconv_uint64pow10)], narrowed := true }
def StreamEventUptoSaid : Prop := streamEventUptoRow.holds Tryz.pinned (OpenSpec.upto streamEventSpec)

/-- 'supergraphlaw45.StreamEach', WHERE WHAT IT READS IS OF BULK AT MOST 1048576: true; the input reads as it did. -/
def streamEachUptoRow : OpenClaim := { program := "ytinbodeocoeneaagreatdoor", sum := "28fc35e6532abd0cff899201a30126f4a7ccc6afdc74926e59f0b3c677725ab5", func := "supergraph/supergraphlaw45.StreamEach", spec := "streamEach", inPlace := ["internal/abi.NoEscape", "internal/bytealg.MakeNoZero"], unfollowed := true, recurses := true, named := ["internal/strconv.uint64pow10", "math/bits.deBruijn32tab", "math/bits.deBruijn64tab"], loops := true, apart := false, laid := [("math/bits.deBruijn32tab", laid_math_bits_deBruijn32tab), ("math/bits.deBruijn64tab", laid_math_bits_deBruijn64tab), ("internal/strconv.uint64pow10", laid_internal_strconv_uint64pow10)], narrowed := true }
def StreamEachUptoSaid : Prop := streamEachUptoRow.holds Tryz.pinned (OpenSpec.upto streamEachSpec)

/-- 'supergraphlaw45.StreamOwner', WHERE WHAT IT READS IS OF BULK AT MOST 1048576: true; the input reads as it did. -/
def streamOwnerUptoRow : OpenClaim := { program := "ytinbodeocoeneaagreatdoor", sum := "28fc35e6532abd0cff899201a30126f4a7ccc6afdc74926e59f0b3c677725ab5", func := "supergraph/supergraphlaw45.StreamOwner", spec := "streamOwner", inPlace := ["internal/abi.NoEscape", "internal/bytealg.MakeNoZero"], unfollowed := true, recurses := true, named := ["internal/strconv.uint64pow10", "math/bits.deBruijn32tab", "math/bits.deBruijn64tab"], loops := true, apart := false, laid := [("math/bits.deBruijn32tab", laid_math_bits_deBruijn32tab), ("math/bits.deBruijn64tab", laid_math_bits_deBruijn64tab), ("internal/strconv.uint64pow10", laid_internal_strconv_uint64pow10)], narrowed := true }
def StreamOwnerUptoSaid : Prop := streamOwnerUptoRow.holds Tryz.pinned (OpenSpec.upto streamOwnerSpec)

/-- 'supergraphlaw45.StreamShape', WHERE WHAT IT READS IS OF BULK AT MOST 1048576: true; the input reads as it did. -/
def streamShapeUptoRow : OpenClaim := { program := "ytinbodeocoeneaagreatdoor", sum := "28fc35e6532abd0cff899201a30126f4a7ccc6afdc74926e59f0b3c677725ab5", func := "supergraph/supergraphlaw45.StreamShape", spec := "streamShape", inPlace := ["internal/abi.NoEscape", "internal/bytealg.MakeNoZero"], unfollowed := true, recurses := true, named := ["internal/strconv.uint64pow10", "math/bits.deBruijn32tab", "math/bits.deBruijn64tab"], loops := true, apart := false, laid := [("math/bits.deBruijn32tab", laid_math_bits_deBruijn32tab), ("math/bits.deBruijn64tab", laid_math_bits_deBruijn64tab), ("internal/strconv.uint64pow10", laid_internal_strconv_uint64pow10)], narrowed := true }
def StreamShapeUptoSaid : Prop := streamShapeUptoRow.holds Tryz.pinned (OpenSpec.upto streamShapeSpec)

/-- 'supergraphlaw34.ServiceRoots', WHERE WHAT IT READS IS OF BULK AT MOST 1048576: true; the input reads as it did. -/
def serviceRootsUptoRow : OpenClaim := { program := "ytinbodeocoeneaagreatdoor", sum := "28fc35e6532abd0cff899201a30126f4a7ccc6afdc74926e59f0b3c677725ab5", func := "supergraph/supergraphlaw34.ServiceRoots", spec := "serviceRoots", inPlace := ["internal/abi.NoEscape", "internal/bytealg.MakeNoZero"], unfollowed := true, recurses := true, named := ["internal/strconv.uint64pow10", "math/bits.deBruijn32tab", "math/bits.deBruijn64tab"], loops := true, apart := false, laid := [("math/bits.deBruijn32tab", laid_math_bits_deBruijn32tab), ("math/bits.deBruijn64tab", laid_math_bits_deBruijn64tab), ("internal/strconv.uint64pow10", laid_internal_strconv_uint64pow10)], narrowed := true }
def ServiceRootsUptoSaid : Prop := serviceRootsUptoRow.holds Tryz.pinned (OpenSpec.upto serviceRootsSpec)

/-- 'supergraphlaw34.ServiceEntities', WHERE WHAT IT READS IS OF BULK AT MOST 1048576: true; the input reads as it did. -/
def serviceEntitiesUptoRow : OpenClaim := { program := "ytinbodeocoeneaagreatdoor", sum := "28fc35e6532abd0cff899201a30126f4a7ccc6afdc74926e59f0b3c677725ab5", func := "supergraph/supergraphlaw34.ServiceEntities", spec := "serviceEntities", inPlace := ["internal/abi.NoEscape", "internal/bytealg.MakeNoZero", "internal/bytealg.abigen_runtime_cmpstring"], unfollowed := true, recurses := true, named := ["internal/strconv.uint64pow10", "math/bits.deBruijn32tab", "math/bits.deBruijn64tab"], loops := true, apart := false, laid := [("math/bits.deBruijn32tab", laid_math_bits_deBruijn32tab), ("math/bits.deBruijn64tab", laid_math_bits_deBruijn64tab), ("internal/strconv.uint64pow10", laid_internal_strconv_uint64pow10)], narrowed := true }
def ServiceEntitiesUptoSaid : Prop := serviceEntitiesUptoRow.holds Tryz.pinned (OpenSpec.upto serviceEntitiesSpec)

end Rows
end Go.Proofs.YtinbodeocoeneaaGreatDoor
