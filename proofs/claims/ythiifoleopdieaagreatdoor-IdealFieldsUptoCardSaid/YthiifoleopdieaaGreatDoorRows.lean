/-
  NARROWER THAN 'FOR EVERY INPUT', by the rows' own cells (each row's printed sentence says how): IdealArgs: loops, laid · IdealObject: loops, laid · IdealRun: loops, laid · IdealFields: loops, laid · IdealParts: loops, laid · SerialRun: loops, laid · SerialIdeal: loops, laid.
  DERIVED. THE GIVEN ROWS OF THIS SEAT. 7 by the template 'for every input the law returns true; each argument reads behind the call as it read before'; 0 by the template 'total and deterministic' (their statements: YthiifoleopdieaaGreatDoorTotals.lean).
  GIVEN WITH THE SEED: the statements are not yours to turn. If you find one false, say at which input.
  Laid BY PROGRAM, IN A SANDBOX (cutbox-rows.mjs): the forced cells as the released guide's own fill.sh prints them over the translation 33bdf618e28f1ed2… (all of the seat's roots in one cut). By AI agents, Wed Nov 11 2026. No macro, syntax, notation, axiom, sorry.
-/
import Derived.Test.YthiifoleopdieaaGreatDoorChecked
import GoSem.Claim
import GoSem.ClaimJoined
import GoSem.ClaimMapViews
import Derived.JoinedTies
import Derived.KernelRfl
namespace Go.Proofs.YthiifoleopdieaaGreatDoor
/- THE CELL 'sum', in the pinned program and in every row, IS THE sha256 OF THE DUMP (.gsa) THAT YthiifoleopdieaaGreatDoorProg.lean LOADS. Nothing in Lean hashes anything: it is a label: what it is worth is what the hold of that sum in a sandbox is worth. -/
noncomputable def Tryz.pinned : Pinned := { name := "ythiifoleopdieaagreatdoor", sum := "33bdf618e28f1ed21ec604769848c443c2da337ff45776180f5f8e8436c352a4", checked := Tryz.checked }
namespace Rows
def none {H : Type} : Left H := { results := [], args := [] }

/- WHAT THE LISTED PACKAGE-LEVEL VARIABLES READ AS WHEN THE CALL BEGINS. Each datum BY PROGRAM (the guide's laid-datum.mjs) off the statement by which the dump's own 'gosem.cut.vars' lays the variable. In a bare row this is a premise. The card (YthiifoleopdieaaGreatDoorCards.lean) ties it to the program's text. -/
def laid_math_bits_deBruijn32tab {H : Type} : DataW H := .agg [.lit (.int .u8 0), .lit (.int .u8 1), .lit (.int .u8 28), .lit (.int .u8 2), .lit (.int .u8 29), .lit (.int .u8 14), .lit (.int .u8 24), .lit (.int .u8 3), .lit (.int .u8 30), .lit (.int .u8 22), .lit (.int .u8 20), .lit (.int .u8 15), .lit (.int .u8 25), .lit (.int .u8 17), .lit (.int .u8 4), .lit (.int .u8 8), .lit (.int .u8 31), .lit (.int .u8 27), .lit (.int .u8 13), .lit (.int .u8 23), .lit (.int .u8 21), .lit (.int .u8 19), .lit (.int .u8 16), .lit (.int .u8 7), .lit (.int .u8 26), .lit (.int .u8 12), .lit (.int .u8 18), .lit (.int .u8 6), .lit (.int .u8 11), .lit (.int .u8 5), .lit (.int .u8 10), .lit (.int .u8 9)]
def laid_math_bits_deBruijn64tab {H : Type} : DataW H := .agg [.lit (.int .u8 0), .lit (.int .u8 1), .lit (.int .u8 56), .lit (.int .u8 2), .lit (.int .u8 57), .lit (.int .u8 49), .lit (.int .u8 28), .lit (.int .u8 3), .lit (.int .u8 61), .lit (.int .u8 58), .lit (.int .u8 42), .lit (.int .u8 50), .lit (.int .u8 38), .lit (.int .u8 29), .lit (.int .u8 17), .lit (.int .u8 4), .lit (.int .u8 62), .lit (.int .u8 47), .lit (.int .u8 59), .lit (.int .u8 36), .lit (.int .u8 45), .lit (.int .u8 43), .lit (.int .u8 51), .lit (.int .u8 22), .lit (.int .u8 53), .lit (.int .u8 39), .lit (.int .u8 33), .lit (.int .u8 30), .lit (.int .u8 24), .lit (.int .u8 18), .lit (.int .u8 12), .lit (.int .u8 5), .lit (.int .u8 63), .lit (.int .u8 55), .lit (.int .u8 48), .lit (.int .u8 27), .lit (.int .u8 60), .lit (.int .u8 41), .lit (.int .u8 37), .lit (.int .u8 16), .lit (.int .u8 46), .lit (.int .u8 35), .lit (.int .u8 44), .lit (.int .u8 21), .lit (.int .u8 52), .lit (.int .u8 32), .lit (.int .u8 23), .lit (.int .u8 11), .lit (.int .u8 54), .lit (.int .u8 26), .lit (.int .u8 40), .lit (.int .u8 15), .lit (.int .u8 34), .lit (.int .u8 20), .lit (.int .u8 31), .lit (.int .u8 10), .lit (.int .u8 25), .lit (.int .u8 14), .lit (.int .u8 19), .lit (.int .u8 9), .lit (.int .u8 13), .lit (.int .u8 8), .lit (.int .u8 7), .lit (.int .u8 6)]
def laid_internal_strconv_uint64pow10 {H : Type} : DataW H := .agg [.lit (.int .u64 1), .lit (.int .u64 10), .lit (.int .u64 100), .lit (.int .u64 1000), .lit (.int .u64 10000), .lit (.int .u64 100000), .lit (.int .u64 1000000), .lit (.int .u64 10000000), .lit (.int .u64 100000000), .lit (.int .u64 1000000000), .lit (.int .u64 10000000000), .lit (.int .u64 100000000000), .lit (.int .u64 1000000000000), .lit (.int .u64 10000000000000), .lit (.int .u64 100000000000000), .lit (.int .u64 1000000000000000), .lit (.int .u64 10000000000000000), .lit (.int .u64 100000000000000000), .lit (.int .u64 1000000000000000000), .lit (.int .u64 10000000000000000000)]

/-- 'supergraphlaw21.IdealArgs': WHATEVER THE INPUT: true; the input reads as it did. -/
def idealArgsSpec : ChangeSpec := { name := "idealArgs", fn := fun _ => fun
  | [d1, d2] => { results := [.lit (.bool true)], args := [d1, d2] }
  | _ => none }
def idealArgsRow : OpenClaim := { program := "ythiifoleopdieaagreatdoor", sum := "33bdf618e28f1ed21ec604769848c443c2da337ff45776180f5f8e8436c352a4", func := "supergraph/supergraphlaw21.IdealArgs", spec := "idealArgs", inPlace := ["internal/abi.NoEscape", "internal/bytealg.MakeNoZero"], unfollowed := true, recurses := true, named := ["internal/strconv.uint64pow10", "math/bits.deBruijn32tab", "math/bits.deBruijn64tab"], loops := true, apart := false, laid := [("math/bits.deBruijn32tab", laid_math_bits_deBruijn32tab), ("math/bits.deBruijn64tab", laid_math_bits_deBruijn64tab), ("internal/strconv.uint64pow10", laid_internal_strconv_uint64pow10)] }
def IdealArgsSaid : Prop := idealArgsRow.holds Tryz.pinned (OpenSpec.ofChange idealArgsSpec)

/-- ITS FALSE NEIGHBOUR: 'it returns false'. Refute it at one input. -/
def idealArgsWrong : ChangeSpec := { name := "idealArgs", fn := fun _ => fun
  | [d1, d2] => { results := [.lit (.bool false)], args := [d1, d2] }
  | _ => none }
def IdealArgsWrongFalsely : Prop := idealArgsRow.holds Tryz.pinned (OpenSpec.ofChange idealArgsWrong)

/-- 'supergraphlaw21.IdealObject': WHATEVER THE INPUT: true; the input reads as it did. -/
def idealObjectSpec : ChangeSpec := { name := "idealObject", fn := fun _ => fun
  | [d1, d2] => { results := [.lit (.bool true)], args := [d1, d2] }
  | _ => none }
def idealObjectRow : OpenClaim := { program := "ythiifoleopdieaagreatdoor", sum := "33bdf618e28f1ed21ec604769848c443c2da337ff45776180f5f8e8436c352a4", func := "supergraph/supergraphlaw21.IdealObject", spec := "idealObject", inPlace := ["internal/abi.NoEscape", "internal/bytealg.MakeNoZero"], unfollowed := true, recurses := true, named := ["internal/strconv.uint64pow10", "math/bits.deBruijn32tab", "math/bits.deBruijn64tab"], loops := true, apart := false, laid := [("math/bits.deBruijn32tab", laid_math_bits_deBruijn32tab), ("math/bits.deBruijn64tab", laid_math_bits_deBruijn64tab), ("internal/strconv.uint64pow10", laid_internal_strconv_uint64pow10)] }
def IdealObjectSaid : Prop := idealObjectRow.holds Tryz.pinned (OpenSpec.ofChange idealObjectSpec)

/-- ITS FALSE NEIGHBOUR: 'it returns false'. Refute it at one input. -/
def idealObjectWrong : ChangeSpec := { name := "idealObject", fn := fun _ => fun
  | [d1, d2] => { results := [.lit (.bool false)], args := [d1, d2] }
  | _ => none }
def IdealObjectWrongFalsely : Prop := idealObjectRow.holds Tryz.pinned (OpenSpec.ofChange idealObjectWrong)

/-- 'supergraphlaw21.IdealRun': WHATEVER THE INPUT: true; the input reads as it did. -/
def idealRunSpec : ChangeSpec := { name := "idealRun", fn := fun _ => fun
  | [d] => { results := [.lit (.bool true)], args := [d] }
  | _ => none }
def idealRunRow : OpenClaim := { program := "ythiifoleopdieaagreatdoor", sum := "33bdf618e28f1ed21ec604769848c443c2da337ff45776180f5f8e8436c352a4", func := "supergraph/supergraphlaw21.IdealRun", spec := "idealRun", inPlace := ["internal/abi.NoEscape", "internal/bytealg.MakeNoZero"], unfollowed := true, recurses := true, named := ["internal/strconv.uint64pow10", "math/bits.deBruijn32tab", "math/bits.deBruijn64tab"], loops := true, apart := false, laid := [("math/bits.deBruijn32tab", laid_math_bits_deBruijn32tab), ("math/bits.deBruijn64tab", laid_math_bits_deBruijn64tab), ("internal/strconv.uint64pow10", laid_internal_strconv_uint64pow10)] }
def IdealRunSaid : Prop := idealRunRow.holds Tryz.pinned (OpenSpec.ofChange idealRunSpec)

/-- ITS FALSE NEIGHBOUR: 'it returns false'. Refute it at one input. -/
def idealRunWrong : ChangeSpec := { name := "idealRun", fn := fun _ => fun
  | [d] => { results := [.lit (.bool false)], args := [d] }
  | _ => none }
def IdealRunWrongFalsely : Prop := idealRunRow.holds Tryz.pinned (OpenSpec.ofChange idealRunWrong)

/-- 'supergraphlaw21.IdealFields': WHATEVER THE INPUT: true; the input reads as it did. -/
def idealFieldsSpec : ChangeSpec := { name := "idealFields", fn := fun _ => fun
  | [d] => { results := [.lit (.bool true)], args := [d] }
  | _ => none }
def idealFieldsRow : OpenClaim := { program := "ythiifoleopdieaagreatdoor", sum := "33bdf618e28f1ed21ec604769848c443c2da337ff45776180f5f8e8436c352a4", func := "supergraph/supergraphlaw21.IdealFields", spec := "idealFields", inPlace := ["internal/abi.NoEscape", "internal/bytealg.MakeNoZero"], unfollowed := true, recurses := true, named := ["internal/strconv.uint64pow10", "math/bits.deBruijn32tab", "math/bits.deBruijn64tab"], loops := true, apart := false, laid := [("math/bits.deBruijn32tab", laid_math_bits_deBruijn32tab), ("math/bits.deBruijn64tab", laid_math_bits_deBruijn64tab), ("internal/strconv.uint64pow10", laid_internal_strconv_uint64pow10)] }
def IdealFieldsSaid : Prop := idealFieldsRow.holds Tryz.pinned (OpenSpec.ofChange idealFieldsSpec)

/-- ITS FALSE NEIGHBOUR: 'it returns false'. Refute it at one input. -/
def idealFieldsWrong : ChangeSpec := { name := "idealFields", fn := fun _ => fun
  | [d] => { results := [.lit (.bool false)], args := [d] }
  | _ => none }
def IdealFieldsWrongFalsely : Prop := idealFieldsRow.holds Tryz.pinned (OpenSpec.ofChange idealFieldsWrong)

/-- 'supergraphlaw21.IdealParts': WHATEVER THE INPUT: true; the input reads as it did. -/
def idealPartsSpec : ChangeSpec := { name := "idealParts", fn := fun _ => fun
  | [d1, d2] => { results := [.lit (.bool true)], args := [d1, d2] }
  | _ => none }
def idealPartsRow : OpenClaim := { program := "ythiifoleopdieaagreatdoor", sum := "33bdf618e28f1ed21ec604769848c443c2da337ff45776180f5f8e8436c352a4", func := "supergraph/supergraphlaw21.IdealParts", spec := "idealParts", inPlace := ["internal/abi.NoEscape", "internal/bytealg.MakeNoZero"], unfollowed := true, recurses := true, named := ["internal/strconv.uint64pow10", "math/bits.deBruijn32tab", "math/bits.deBruijn64tab"], loops := true, apart := false, laid := [("math/bits.deBruijn32tab", laid_math_bits_deBruijn32tab), ("math/bits.deBruijn64tab", laid_math_bits_deBruijn64tab), ("internal/strconv.uint64pow10", laid_internal_strconv_uint64pow10)] }
def IdealPartsSaid : Prop := idealPartsRow.holds Tryz.pinned (OpenSpec.ofChange idealPartsSpec)

/-- ITS FALSE NEIGHBOUR: 'it returns false'. Refute it at one input. -/
def idealPartsWrong : ChangeSpec := { name := "idealParts", fn := fun _ => fun
  | [d1, d2] => { results := [.lit (.bool false)], args := [d1, d2] }
  | _ => none }
def IdealPartsWrongFalsely : Prop := idealPartsRow.holds Tryz.pinned (OpenSpec.ofChange idealPartsWrong)

/-- 'supergraphlaw39.SerialRun': WHATEVER THE INPUT: true; the input reads as it did. -/
def serialRunSpec : ChangeSpec := { name := "serialRun", fn := fun _ => fun
  | [d] => { results := [.lit (.bool true)], args := [d] }
  | _ => none }
def serialRunRow : OpenClaim := { program := "ythiifoleopdieaagreatdoor", sum := "33bdf618e28f1ed21ec604769848c443c2da337ff45776180f5f8e8436c352a4", func := "supergraph/supergraphlaw39.SerialRun", spec := "serialRun", inPlace := ["internal/abi.NoEscape", "internal/bytealg.MakeNoZero"], unfollowed := true, recurses := true, named := ["internal/strconv.uint64pow10", "math/bits.deBruijn32tab", "math/bits.deBruijn64tab"], loops := true, apart := false, laid := [("math/bits.deBruijn32tab", laid_math_bits_deBruijn32tab), ("math/bits.deBruijn64tab", laid_math_bits_deBruijn64tab), ("internal/strconv.uint64pow10", laid_internal_strconv_uint64pow10)] }
def SerialRunSaid : Prop := serialRunRow.holds Tryz.pinned (OpenSpec.ofChange serialRunSpec)

/-- ITS FALSE NEIGHBOUR: 'it returns false'. Refute it at one input. -/
def serialRunWrong : ChangeSpec := { name := "serialRun", fn := fun _ => fun
  | [d] => { results := [.lit (.bool false)], args := [d] }
  | _ => none }
def SerialRunWrongFalsely : Prop := serialRunRow.holds Tryz.pinned (OpenSpec.ofChange serialRunWrong)

/-- 'supergraphlaw39.SerialIdeal': WHATEVER THE INPUT: true; the input reads as it did. -/
def serialIdealSpec : ChangeSpec := { name := "serialIdeal", fn := fun _ => fun
  | [d] => { results := [.lit (.bool true)], args := [d] }
  | _ => none }
def serialIdealRow : OpenClaim := { program := "ythiifoleopdieaagreatdoor", sum := "33bdf618e28f1ed21ec604769848c443c2da337ff45776180f5f8e8436c352a4", func := "supergraph/supergraphlaw39.SerialIdeal", spec := "serialIdeal", inPlace := ["internal/abi.NoEscape", "internal/bytealg.MakeNoZero"], unfollowed := true, recurses := true, named := ["internal/strconv.uint64pow10", "math/bits.deBruijn32tab", "math/bits.deBruijn64tab"], loops := true, apart := false, laid := [("math/bits.deBruijn32tab", laid_math_bits_deBruijn32tab), ("math/bits.deBruijn64tab", laid_math_bits_deBruijn64tab), ("internal/strconv.uint64pow10", laid_internal_strconv_uint64pow10)] }
def SerialIdealSaid : Prop := serialIdealRow.holds Tryz.pinned (OpenSpec.ofChange serialIdealSpec)

/-- ITS FALSE NEIGHBOUR: 'it returns false'. Refute it at one input. -/
def serialIdealWrong : ChangeSpec := { name := "serialIdeal", fn := fun _ => fun
  | [d] => { results := [.lit (.bool false)], args := [d] }
  | _ => none }
def SerialIdealWrongFalsely : Prop := serialIdealRow.holds Tryz.pinned (OpenSpec.ofChange serialIdealWrong)

/- THE SECOND FORM. 'bulk': how many values and letters a reading holds, each counted each time it is reached (what is shared counts as often as it is met; a slice's spare places count too). A statement '..UptoSaid' is the law's where the arguments, and the package variables that the reading takes, are together of bulk at most 1048576: NARROWER than '..Said'. Prove '..Said' where nothing that the law and all that it calls make is longer than what came in: it says more and counts as full. Else prove '..UptoSaid'. A law counts once. -/
mutual
def uptoBulk {H : Type} : DataW H → Nat
  | .lit (.string bytes) => bytes.length + 1
  | .lit _ => 1
  | .nil => 1
  | .ptr d => uptoBulk d + 1
  | .slice elems spare => uptoBulkAll elems + uptoBulkAll spare + 1
  | .agg parts => uptoBulkAll parts + 1
  | .iface _ d => uptoBulk d + 1
  | .map entries => uptoBulkEntries entries + 1
  | .held _ => 1
def uptoBulkAll {H : Type} : List (DataW H) → Nat
  | [] => 0
  | d :: r => uptoBulk d + uptoBulkAll r
def uptoBulkEntries {H : Type} : List (Lit × DataW H) → Nat
  | [] => 0
  | x :: r => uptoBulkEntry x + uptoBulkEntries r
def uptoBulkEntry {H : Type} : Lit × DataW H → Nat
  | (.string bytes, d) => bytes.length + uptoBulk d + 1
  | (_, d) => uptoBulk d + 1
 end
def uptoSmall : (H : Type) → List (DataW H) → Bool := fun _ ds => decide (uptoBulkAll ds ≤ 1048576)
def OpenSpec.upto (s : _root_.Go.ChangeSpec) : _root_.Go.OpenSpec := { _root_.Go.OpenSpec.ofChange s with cond := some uptoSmall }

/-- 'supergraphlaw21.IdealArgs', WHERE WHAT IT READS IS OF BULK AT MOST 1048576: true; the input reads as it did. -/
def idealArgsUptoRow : OpenClaim := { program := "ythiifoleopdieaagreatdoor", sum := "33bdf618e28f1ed21ec604769848c443c2da337ff45776180f5f8e8436c352a4", func := "supergraph/supergraphlaw21.IdealArgs", spec := "idealArgs", inPlace := ["internal/abi.NoEscape", "internal/bytealg.MakeNoZero"], unfollowed := true, recurses := true, named := ["internal/strconv.uint64pow10", "math/bits.deBruijn32tab", "math/bits.deBruijn64tab"], loops := true, apart := false, laid := [("math/bits.deBruijn32tab", laid_math_bits_deBruijn32tab), ("math/bits.deBruijn64tab", laid_math_bits_deBruijn64tab), ("internal/strconv.uint64pow10", laid_internal_strconv_uint64pow10)], narrowed := true }
def IdealArgsUptoSaid : Prop := idealArgsUptoRow.holds Tryz.pinned (OpenSpec.upto idealArgsSpec)

/-- 'supergraphlaw21.IdealObject', WHERE WHAT IT READS IS OF BULK AT MOST 1048576: true; the input reads as it did. -/
def idealObjectUptoRow : OpenClaim := { program := "ythiifoleopdieaagreatdoor", sum := "33bdf618e28f1ed21ec604769848c443c2da337ff45776180f5f8e8436c352a4", func := "supergraph/supergraphlaw21.IdealObject", spec := "idealObject", inPlace := ["internal/abi.NoEscape", "internal/bytealg.MakeNoZero"], unfollowed := true, recurses := true, named := ["internal/strconv.uint64pow10", "math/bits.deBruijn32tab", "math/bits.deBruijn64tab"], loops := true, apart := false, laid := [("math/bits.deBruijn32tab", laid_math_bits_deBruijn32tab), ("math/bits.deBruijn64tab", laid_math_bits_deBruijn64tab), ("internal/strconv.uint64pow10", laid_internal_strconv_uint64pow10)], narrowed := true }
def IdealObjectUptoSaid : Prop := idealObjectUptoRow.holds Tryz.pinned (OpenSpec.upto idealObjectSpec)

/-- 'supergraphlaw21.IdealRun', WHERE WHAT IT READS IS OF BULK AT MOST 1048576: true; the input reads as it did. -/
def idealRunUptoRow : OpenClaim := { program := "ythiifoleopdieaagreatdoor", sum := "33bdf618e28f1ed21ec604769848c443c2da337ff45776180f5f8e8436c352a4", func := "supergraph/supergraphlaw21.IdealRun", spec := "idealRun", inPlace := ["internal/abi.NoEscape", "internal/bytealg.MakeNoZero"], unfollowed := true, recurses := true, named := ["internal/strconv.uint64pow10", "math/bits.deBruijn32tab", "math/bits.deBruijn64tab"], loops := true, apart := false, laid := [("math/bits.deBruijn32tab", laid_math_bits_deBruijn32tab), ("math/bits.deBruijn64tab", laid_math_bits_deBruijn64tab), ("internal/strconv.uint64pow10", laid_internal_strconv_uint64pow10)], narrowed := true }
def IdealRunUptoSaid : Prop := idealRunUptoRow.holds Tryz.pinned (OpenSpec.upto idealRunSpec)

/-- 'supergraphlaw21.IdealFields', WHERE WHAT IT READS IS OF BULK AT MOST 1048576: true; the input reads as it did. -/
def idealFieldsUptoRow : OpenClaim := { program := "ythiifoleopdieaagreatdoor", sum := "33bdf618e28f1ed21ec604769848c443c2da337ff45776180f5f8e8436c352a4", func := "supergraph/supergraphlaw21.IdealFields", spec := "idealFields", inPlace := ["internal/abi.NoEscape", "internal/bytealg.MakeNoZero"], unfollowed := true, recurses := true, named := ["internal/strconv.uint64pow10", "math/bits.deBruijn32tab", "math/bits.deBruijn64tab"], loops := true, apart := false, laid := [("math/bits.deBruijn32tab", laid_math_bits_deBruijn32tab), ("math/bits.deBruijn64tab", laid_math_bits_deBruijn64tab), ("internal/strconv.uint64pow10", laid_internal_strconv_uint64pow10)], narrowed := true }
def IdealFieldsUptoSaid : Prop := idealFieldsUptoRow.holds Tryz.pinned (OpenSpec.upto idealFieldsSpec)

/-- 'supergraphlaw21.IdealParts', WHERE WHAT IT READS IS OF BULK AT MOST 1048576: true; the input reads as it did. -/
def idealPartsUptoRow : OpenClaim := { program := "ythiifoleopdieaagreatdoor", sum := "33bdf618e28f1ed21ec604769848c443c2da337ff45776180f5f8e8436c352a4", func := "supergraph/supergraphlaw21.IdealParts", spec := "idealParts", inPlace := ["internal/abi.NoEscape", "internal/bytealg.MakeNoZero"], unfollowed := true, recurses := true, named := ["internal/strconv.uint64pow10", "math/bits.deBruijn32tab", "math/bits.deBruijn64tab"], loops := true, apart := false, laid := [("math/bits.deBruijn32tab", laid_math_bits_deBruijn32tab), ("math/bits.deBruijn64tab", laid_math_bits_deBruijn64tab), ("internal/strconv.uint64pow10", laid_internal_strconv_uint64pow10)], narrowed := true }
def IdealPartsUptoSaid : Prop := idealPartsUptoRow.holds Tryz.pinned (OpenSpec.upto idealPartsSpec)

/-- 'supergraphlaw39.SerialRun', WHERE WHAT IT READS IS OF BULK AT MOST 1048576: true; the input reads as it did. -/
def serialRunUptoRow : OpenClaim := { program := "ythiifoleopdieaagreatdoor", sum := "33bdf618e28f1ed21ec604769848c443c2da337ff45776180f5f8e8436c352a4", func := "supergraph/supergraphlaw39.SerialRun", spec := "serialRun", inPlace := ["internal/abi.NoEscape", "internal/bytealg.MakeNoZero"], unfollowed := true, recurses := true, named := ["internal/strconv.uint64pow10", "math/bits.deBruijn32tab", "math/bits.deBruijn64tab"], loops := true, apart := false, laid := [("math/bits.deBruijn32tab", laid_math_bits_deBruijn32tab), ("math/bits.deBruijn64tab", laid_math_bits_deBruijn64tab), ("internal/strconv.uint64pow10", laid_internal_strconv_uint64pow10)], narrowed := true }
def SerialRunUptoSaid : Prop := serialRunUptoRow.holds Tryz.pinned (OpenSpec.upto serialRunSpec)

/-- 'supergraphlaw39.SerialIdeal', WHERE WHAT IT READS IS OF BULK AT MOST 1048576: true; the input reads as it did. -/
def serialIdealUptoRow : OpenClaim := { program := "ythiifoleopdieaagreatdoor", sum := "33bdf618e28f1ed21ec604769848c443c2da337ff45776180f5f8e8436c352a4", func := "supergraph/supergraphlaw39.SerialIdeal", spec := "serialIdeal", inPlace := ["internal/abi.NoEscape", "internal/bytealg.MakeNoZero"], unfollowed := true, recurses := true, named := ["internal/strconv.uint64pow10", "math/bits.deBruijn32tab", "math/bits.deBruijn64tab"], loops := true, apart := false, laid := [("math/bits.deBruijn32tab", laid_math_bits_deBruijn32tab), ("math/bits.deBruijn64tab", laid_math_bits_deBruijn64tab), ("internal/strconv.uint64pow10", laid_internal_strconv_uint64pow10)], narrowed := true }
def SerialIdealUptoSaid : Prop := serialIdealUptoRow.holds Tryz.pinned (OpenSpec.upto serialIdealSpec)

end Rows
end Go.Proofs.YthiifoleopdieaaGreatDoor
