/-
  NARROWER THAN 'FOR EVERY INPUT', by the rows' own cells (each row's printed sentence says how): DagOnce: laid · DagBuckets: laid · DagSame: laid · DagSorts: laid · DagActs: laid · WalkBeneath: laid · WalkOrders: laid · WalkShares: laid · WalkSizes: laid · WalkTwice: laid.
  DERIVED. THE GIVEN ROWS OF THIS SEAT. 10 by the template 'for every input the law returns true; each argument reads behind the call as it read before'; 0 by the template 'total and deterministic' (their statements: YtmlnnepgigieaaaDoorTotals.lean).
  GIVEN WITH THE SEED: the statements are not yours to turn. If you find one false, say at which input.
  Laid BY PROGRAM, IN A SANDBOX (cutbox-rows.mjs): the forced cells as the released guide's own fill.sh prints them over the translation cc98b6efe42322ed… (all of the seat's roots in one cut). By AI agents, Wed Nov 11 2026. No macro, syntax, notation, axiom, sorry.
-/
import Derived.Test.YtmlnnepgigieaaaDoorChecked
import GoSem.Claim
import GoSem.ClaimJoined
import GoSem.ClaimMapViews
import Derived.JoinedTies
import Derived.KernelRfl
namespace Go.Proofs.YtmlnnepgigieaaaDoor
/- THE CELL 'sum', in the pinned program and in every row, IS THE sha256 OF THE DUMP (.gsa) THAT YtmlnnepgigieaaaDoorProg.lean LOADS. Nothing in Lean hashes anything: it is a label: what it is worth is what the hold of that sum in a sandbox is worth. -/
noncomputable def Tryd.pinned : Pinned := { name := "ytmlnnepgigieaaadoor", sum := "cc98b6efe42322ed2e7bbcdc72daa45ed4f5818649149c8d3700646e95e45f12", checked := Tryd.checked }
namespace Rows
def none {H : Type} : Left H := { results := [], args := [] }

/- WHAT THE LISTED PACKAGE-LEVEL VARIABLES READ AS WHEN THE CALL BEGINS. Each datum BY PROGRAM (the guide's laid-datum.mjs) off the statement by which the dump's own 'gosem.cut.vars' lays the variable. In a bare row this is a premise. The card (YtmlnnepgigieaaaDoorCards.lean) ties it to the program's text. -/
def laid_math_bits_deBruijn32tab {H : Type} : DataW H := .agg [.lit (.int .u8 0), .lit (.int .u8 1), .lit (.int .u8 28), .lit (.int .u8 2), .lit (.int .u8 29), .lit (.int .u8 14), .lit (.int .u8 24), .lit (.int .u8 3), .lit (.int .u8 30), .lit (.int .u8 22), .lit (.int .u8 20), .lit (.int .u8 15), .lit (.int .u8 25), .lit (.int .u8 17), .lit (.int .u8 4), .lit (.int .u8 8), .lit (.int .u8 31), .lit (.int .u8 27), .lit (.int .u8 13), .lit (.int .u8 23), .lit (.int .u8 21), .lit (.int .u8 19), .lit (.int .u8 16), .lit (.int .u8 7), .lit (.int .u8 26), .lit (.int .u8 12), .lit (.int .u8 18), .lit (.int .u8 6), .lit (.int .u8 11), .lit (.int .u8 5), .lit (.int .u8 10), .lit (.int .u8 9)]
def laid_math_bits_deBruijn64tab {H : Type} : DataW H := .agg [.lit (.int .u8 0), .lit (.int .u8 1), .lit (.int .u8 56), .lit (.int .u8 2), .lit (.int .u8 57), .lit (.int .u8 49), .lit (.int .u8 28), .lit (.int .u8 3), .lit (.int .u8 61), .lit (.int .u8 58), .lit (.int .u8 42), .lit (.int .u8 50), .lit (.int .u8 38), .lit (.int .u8 29), .lit (.int .u8 17), .lit (.int .u8 4), .lit (.int .u8 62), .lit (.int .u8 47), .lit (.int .u8 59), .lit (.int .u8 36), .lit (.int .u8 45), .lit (.int .u8 43), .lit (.int .u8 51), .lit (.int .u8 22), .lit (.int .u8 53), .lit (.int .u8 39), .lit (.int .u8 33), .lit (.int .u8 30), .lit (.int .u8 24), .lit (.int .u8 18), .lit (.int .u8 12), .lit (.int .u8 5), .lit (.int .u8 63), .lit (.int .u8 55), .lit (.int .u8 48), .lit (.int .u8 27), .lit (.int .u8 60), .lit (.int .u8 41), .lit (.int .u8 37), .lit (.int .u8 16), .lit (.int .u8 46), .lit (.int .u8 35), .lit (.int .u8 44), .lit (.int .u8 21), .lit (.int .u8 52), .lit (.int .u8 32), .lit (.int .u8 23), .lit (.int .u8 11), .lit (.int .u8 54), .lit (.int .u8 26), .lit (.int .u8 40), .lit (.int .u8 15), .lit (.int .u8 34), .lit (.int .u8 20), .lit (.int .u8 31), .lit (.int .u8 10), .lit (.int .u8 25), .lit (.int .u8 14), .lit (.int .u8 19), .lit (.int .u8 9), .lit (.int .u8 13), .lit (.int .u8 8), .lit (.int .u8 7), .lit (.int .u8 6)]
def laid_internal_strconv_uint64pow10 {H : Type} : DataW H := .agg [.lit (.int .u64 1), .lit (.int .u64 10), .lit (.int .u64 100), .lit (.int .u64 1000), .lit (.int .u64 10000), .lit (.int .u64 100000), .lit (.int .u64 1000000), .lit (.int .u64 10000000), .lit (.int .u64 100000000), .lit (.int .u64 1000000000), .lit (.int .u64 10000000000), .lit (.int .u64 100000000000), .lit (.int .u64 1000000000000), .lit (.int .u64 10000000000000), .lit (.int .u64 100000000000000), .lit (.int .u64 1000000000000000), .lit (.int .u64 10000000000000000), .lit (.int .u64 100000000000000000), .lit (.int .u64 1000000000000000000), .lit (.int .u64 10000000000000000000)]

/-- 'collatorlaw06.DagOnce': WHATEVER THE INPUT: true; the input reads as it did. -/
def dagOnceSpec : ChangeSpec := { name := "dagOnce", fn := fun _ => fun
  | [d1, d2] => { results := [.lit (.bool true)], args := [d1, d2] }
  | _ => none }
def dagOnceRow : OpenClaim := { program := "ytmlnnepgigieaaadoor", sum := "cc98b6efe42322ed2e7bbcdc72daa45ed4f5818649149c8d3700646e95e45f12", func := "collator/collatorlaw06.DagOnce", spec := "dagOnce", unfollowed := true, recurses := true, named := ["internal/strconv.uint64pow10", "math/bits.deBruijn32tab", "math/bits.deBruijn64tab"], apart := false, laid := [("math/bits.deBruijn32tab", laid_math_bits_deBruijn32tab), ("math/bits.deBruijn64tab", laid_math_bits_deBruijn64tab), ("internal/strconv.uint64pow10", laid_internal_strconv_uint64pow10)] }
def DagOnceSaid : Prop := dagOnceRow.holds Tryd.pinned (OpenSpec.ofChange dagOnceSpec)

/-- ITS FALSE NEIGHBOUR: 'it returns false'. Refute it at one input. -/
def dagOnceWrong : ChangeSpec := { name := "dagOnce", fn := fun _ => fun
  | [d1, d2] => { results := [.lit (.bool false)], args := [d1, d2] }
  | _ => none }
def DagOnceWrongFalsely : Prop := dagOnceRow.holds Tryd.pinned (OpenSpec.ofChange dagOnceWrong)

/-- 'collatorlaw06.DagBuckets': WHATEVER THE INPUT: true; the input reads as it did. -/
def dagBucketsSpec : ChangeSpec := { name := "dagBuckets", fn := fun _ => fun
  | [d1, d2] => { results := [.lit (.bool true)], args := [d1, d2] }
  | _ => none }
def dagBucketsRow : OpenClaim := { program := "ytmlnnepgigieaaadoor", sum := "cc98b6efe42322ed2e7bbcdc72daa45ed4f5818649149c8d3700646e95e45f12", func := "collator/collatorlaw06.DagBuckets", spec := "dagBuckets", unfollowed := true, recurses := true, named := ["internal/strconv.uint64pow10", "math/bits.deBruijn32tab", "math/bits.deBruijn64tab"], apart := false, laid := [("math/bits.deBruijn32tab", laid_math_bits_deBruijn32tab), ("math/bits.deBruijn64tab", laid_math_bits_deBruijn64tab), ("internal/strconv.uint64pow10", laid_internal_strconv_uint64pow10)] }
def DagBucketsSaid : Prop := dagBucketsRow.holds Tryd.pinned (OpenSpec.ofChange dagBucketsSpec)

/-- ITS FALSE NEIGHBOUR: 'it returns false'. Refute it at one input. -/
def dagBucketsWrong : ChangeSpec := { name := "dagBuckets", fn := fun _ => fun
  | [d1, d2] => { results := [.lit (.bool false)], args := [d1, d2] }
  | _ => none }
def DagBucketsWrongFalsely : Prop := dagBucketsRow.holds Tryd.pinned (OpenSpec.ofChange dagBucketsWrong)

/-- 'collatorlaw06.DagSame': WHATEVER THE INPUT: true; the input reads as it did. -/
def dagSameSpec : ChangeSpec := { name := "dagSame", fn := fun _ => fun
  | [d] => { results := [.lit (.bool true)], args := [d] }
  | _ => none }
def dagSameRow : OpenClaim := { program := "ytmlnnepgigieaaadoor", sum := "cc98b6efe42322ed2e7bbcdc72daa45ed4f5818649149c8d3700646e95e45f12", func := "collator/collatorlaw06.DagSame", spec := "dagSame", unfollowed := true, recurses := true, named := ["internal/strconv.uint64pow10", "math/bits.deBruijn32tab", "math/bits.deBruijn64tab"], apart := false, laid := [("math/bits.deBruijn32tab", laid_math_bits_deBruijn32tab), ("math/bits.deBruijn64tab", laid_math_bits_deBruijn64tab), ("internal/strconv.uint64pow10", laid_internal_strconv_uint64pow10)] }
def DagSameSaid : Prop := dagSameRow.holds Tryd.pinned (OpenSpec.ofChange dagSameSpec)

/-- ITS FALSE NEIGHBOUR: 'it returns false'. Refute it at one input. -/
def dagSameWrong : ChangeSpec := { name := "dagSame", fn := fun _ => fun
  | [d] => { results := [.lit (.bool false)], args := [d] }
  | _ => none }
def DagSameWrongFalsely : Prop := dagSameRow.holds Tryd.pinned (OpenSpec.ofChange dagSameWrong)

/-- 'collatorlaw06.DagSorts': WHATEVER THE INPUT: true; the input reads as it did. -/
def dagSortsSpec : ChangeSpec := { name := "dagSorts", fn := fun _ => fun
  | [d] => { results := [.lit (.bool true)], args := [d] }
  | _ => none }
def dagSortsRow : OpenClaim := { program := "ytmlnnepgigieaaadoor", sum := "cc98b6efe42322ed2e7bbcdc72daa45ed4f5818649149c8d3700646e95e45f12", func := "collator/collatorlaw06.DagSorts", spec := "dagSorts", unfollowed := true, recurses := true, named := ["internal/strconv.uint64pow10", "math/bits.deBruijn32tab", "math/bits.deBruijn64tab"], apart := false, laid := [("math/bits.deBruijn32tab", laid_math_bits_deBruijn32tab), ("math/bits.deBruijn64tab", laid_math_bits_deBruijn64tab), ("internal/strconv.uint64pow10", laid_internal_strconv_uint64pow10)] }
def DagSortsSaid : Prop := dagSortsRow.holds Tryd.pinned (OpenSpec.ofChange dagSortsSpec)

/-- ITS FALSE NEIGHBOUR: 'it returns false'. Refute it at one input. -/
def dagSortsWrong : ChangeSpec := { name := "dagSorts", fn := fun _ => fun
  | [d] => { results := [.lit (.bool false)], args := [d] }
  | _ => none }
def DagSortsWrongFalsely : Prop := dagSortsRow.holds Tryd.pinned (OpenSpec.ofChange dagSortsWrong)

/-- 'collatorlaw06.DagActs': WHATEVER THE INPUT: true; the input reads as it did. -/
def dagActsSpec : ChangeSpec := { name := "dagActs", fn := fun _ => fun
  | [d1, d2] => { results := [.lit (.bool true)], args := [d1, d2] }
  | _ => none }
def dagActsRow : OpenClaim := { program := "ytmlnnepgigieaaadoor", sum := "cc98b6efe42322ed2e7bbcdc72daa45ed4f5818649149c8d3700646e95e45f12", func := "collator/collatorlaw06.DagActs", spec := "dagActs", unfollowed := true, recurses := true, named := ["internal/strconv.uint64pow10", "math/bits.deBruijn32tab", "math/bits.deBruijn64tab"], apart := false, laid := [("math/bits.deBruijn32tab", laid_math_bits_deBruijn32tab), ("math/bits.deBruijn64tab", laid_math_bits_deBruijn64tab), ("internal/strconv.uint64pow10", laid_internal_strconv_uint64pow10)] }
def DagActsSaid : Prop := dagActsRow.holds Tryd.pinned (OpenSpec.ofChange dagActsSpec)

/-- ITS FALSE NEIGHBOUR: 'it returns false'. Refute it at one input. -/
def dagActsWrong : ChangeSpec := { name := "dagActs", fn := fun _ => fun
  | [d1, d2] => { results := [.lit (.bool false)], args := [d1, d2] }
  | _ => none }
def DagActsWrongFalsely : Prop := dagActsRow.holds Tryd.pinned (OpenSpec.ofChange dagActsWrong)

/-- 'collatorlaw07.WalkBeneath': WHATEVER THE INPUT: true; the input reads as it did. -/
def walkBeneathSpec : ChangeSpec := { name := "walkBeneath", fn := fun _ => fun
  | [d] => { results := [.lit (.bool true)], args := [d] }
  | _ => none }
def walkBeneathRow : OpenClaim := { program := "ytmlnnepgigieaaadoor", sum := "cc98b6efe42322ed2e7bbcdc72daa45ed4f5818649149c8d3700646e95e45f12", func := "collator/collatorlaw07.WalkBeneath", spec := "walkBeneath", inPlace := ["internal/abi.NoEscape"], unfollowed := true, recurses := true, named := ["internal/strconv.uint64pow10", "math/bits.deBruijn32tab", "math/bits.deBruijn64tab"], apart := false, laid := [("math/bits.deBruijn32tab", laid_math_bits_deBruijn32tab), ("math/bits.deBruijn64tab", laid_math_bits_deBruijn64tab), ("internal/strconv.uint64pow10", laid_internal_strconv_uint64pow10)] }
def WalkBeneathSaid : Prop := walkBeneathRow.holds Tryd.pinned (OpenSpec.ofChange walkBeneathSpec)

/-- ITS FALSE NEIGHBOUR: 'it returns false'. Refute it at one input. -/
def walkBeneathWrong : ChangeSpec := { name := "walkBeneath", fn := fun _ => fun
  | [d] => { results := [.lit (.bool false)], args := [d] }
  | _ => none }
def WalkBeneathWrongFalsely : Prop := walkBeneathRow.holds Tryd.pinned (OpenSpec.ofChange walkBeneathWrong)

/-- 'collatorlaw07.WalkOrders': WHATEVER THE INPUT: true; the input reads as it did. -/
def walkOrdersSpec : ChangeSpec := { name := "walkOrders", fn := fun _ => fun
  | [d1, d2] => { results := [.lit (.bool true)], args := [d1, d2] }
  | _ => none }
def walkOrdersRow : OpenClaim := { program := "ytmlnnepgigieaaadoor", sum := "cc98b6efe42322ed2e7bbcdc72daa45ed4f5818649149c8d3700646e95e45f12", func := "collator/collatorlaw07.WalkOrders", spec := "walkOrders", inPlace := ["internal/abi.NoEscape"], unfollowed := true, recurses := true, named := ["internal/strconv.uint64pow10", "math/bits.deBruijn32tab", "math/bits.deBruijn64tab"], apart := false, laid := [("math/bits.deBruijn32tab", laid_math_bits_deBruijn32tab), ("math/bits.deBruijn64tab", laid_math_bits_deBruijn64tab), ("internal/strconv.uint64pow10", laid_internal_strconv_uint64pow10)] }
def WalkOrdersSaid : Prop := walkOrdersRow.holds Tryd.pinned (OpenSpec.ofChange walkOrdersSpec)

/-- ITS FALSE NEIGHBOUR: 'it returns false'. Refute it at one input. -/
def walkOrdersWrong : ChangeSpec := { name := "walkOrders", fn := fun _ => fun
  | [d1, d2] => { results := [.lit (.bool false)], args := [d1, d2] }
  | _ => none }
def WalkOrdersWrongFalsely : Prop := walkOrdersRow.holds Tryd.pinned (OpenSpec.ofChange walkOrdersWrong)

/-- 'collatorlaw07.WalkShares': WHATEVER THE INPUT: true; the input reads as it did. -/
def walkSharesSpec : ChangeSpec := { name := "walkShares", fn := fun _ => fun
  | [d1, d2] => { results := [.lit (.bool true)], args := [d1, d2] }
  | _ => none }
def walkSharesRow : OpenClaim := { program := "ytmlnnepgigieaaadoor", sum := "cc98b6efe42322ed2e7bbcdc72daa45ed4f5818649149c8d3700646e95e45f12", func := "collator/collatorlaw07.WalkShares", spec := "walkShares", inPlace := ["internal/abi.NoEscape"], unfollowed := true, recurses := true, named := ["internal/strconv.uint64pow10", "math/bits.deBruijn32tab", "math/bits.deBruijn64tab"], apart := false, laid := [("math/bits.deBruijn32tab", laid_math_bits_deBruijn32tab), ("math/bits.deBruijn64tab", laid_math_bits_deBruijn64tab), ("internal/strconv.uint64pow10", laid_internal_strconv_uint64pow10)] }
def WalkSharesSaid : Prop := walkSharesRow.holds Tryd.pinned (OpenSpec.ofChange walkSharesSpec)

/-- ITS FALSE NEIGHBOUR: 'it returns false'. Refute it at one input. -/
def walkSharesWrong : ChangeSpec := { name := "walkShares", fn := fun _ => fun
  | [d1, d2] => { results := [.lit (.bool false)], args := [d1, d2] }
  | _ => none }
def WalkSharesWrongFalsely : Prop := walkSharesRow.holds Tryd.pinned (OpenSpec.ofChange walkSharesWrong)

/-- 'collatorlaw07.WalkSizes': WHATEVER THE INPUT: true; the input reads as it did. -/
def walkSizesSpec : ChangeSpec := { name := "walkSizes", fn := fun _ => fun
  | [d1, d2] => { results := [.lit (.bool true)], args := [d1, d2] }
  | _ => none }
def walkSizesRow : OpenClaim := { program := "ytmlnnepgigieaaadoor", sum := "cc98b6efe42322ed2e7bbcdc72daa45ed4f5818649149c8d3700646e95e45f12", func := "collator/collatorlaw07.WalkSizes", spec := "walkSizes", inPlace := ["internal/abi.NoEscape"], unfollowed := true, recurses := true, named := ["internal/strconv.uint64pow10", "math/bits.deBruijn32tab", "math/bits.deBruijn64tab"], apart := false, laid := [("math/bits.deBruijn32tab", laid_math_bits_deBruijn32tab), ("math/bits.deBruijn64tab", laid_math_bits_deBruijn64tab), ("internal/strconv.uint64pow10", laid_internal_strconv_uint64pow10)] }
def WalkSizesSaid : Prop := walkSizesRow.holds Tryd.pinned (OpenSpec.ofChange walkSizesSpec)

/-- ITS FALSE NEIGHBOUR: 'it returns false'. Refute it at one input. -/
def walkSizesWrong : ChangeSpec := { name := "walkSizes", fn := fun _ => fun
  | [d1, d2] => { results := [.lit (.bool false)], args := [d1, d2] }
  | _ => none }
def WalkSizesWrongFalsely : Prop := walkSizesRow.holds Tryd.pinned (OpenSpec.ofChange walkSizesWrong)

/-- 'collatorlaw07.WalkTwice': WHATEVER THE INPUT: true; the input reads as it did. -/
def walkTwiceSpec : ChangeSpec := { name := "walkTwice", fn := fun _ => fun
  | [d1, d2] => { results := [.lit (.bool true)], args := [d1, d2] }
  | _ => none }
def walkTwiceRow : OpenClaim := { program := "ytmlnnepgigieaaadoor", sum := "cc98b6efe42322ed2e7bbcdc72daa45ed4f5818649149c8d3700646e95e45f12", func := "collator/collatorlaw07.WalkTwice", spec := "walkTwice", inPlace := ["internal/abi.NoEscape"], unfollowed := true, recurses := true, named := ["internal/strconv.uint64pow10", "math/bits.deBruijn32tab", "math/bits.deBruijn64tab"], apart := false, laid := [("math/bits.deBruijn32tab", laid_math_bits_deBruijn32tab), ("math/bits.deBruijn64tab", laid_math_bits_deBruijn64tab), ("internal/strconv.uint64pow10", laid_internal_strconv_uint64pow10)] }
def WalkTwiceSaid : Prop := walkTwiceRow.holds Tryd.pinned (OpenSpec.ofChange walkTwiceSpec)

/-- ITS FALSE NEIGHBOUR: 'it returns false'. Refute it at one input. -/
def walkTwiceWrong : ChangeSpec := { name := "walkTwice", fn := fun _ => fun
  | [d1, d2] => { results := [.lit (.bool false)], args := [d1, d2] }
  | _ => none }
def WalkTwiceWrongFalsely : Prop := walkTwiceRow.holds Tryd.pinned (OpenSpec.ofChange walkTwiceWrong)

/- THE SECOND FORM. 'bulk': how many values and letters a reading holds, each counted each time it is reached (what is shared counts as often as it is met; a slice's spare places count too). A statement '..UptoSaid' is the law's where the arguments, and the package variables that the reading takes, are together of bulk at most 1048576: NARROWER than '..Said'. Prove '..Said' where nothing that the law and all that it calls make is longer than what came in: it says more and counts as full. Else prove '..UptoSaid'. A law counts once. -/
mutual
def uptoBulk {H : Type} : DataW H → Nat
  | .lit (.string bytes) => bytes.length + 1
  | .lit _ => 1
  | .nil => 1
  | .ptr d => uptoBulk d + 1
  | .slice elems spare => uptoBulkAll elems + uptoBulkAll spare + 1
  | .agg parts => uptoBulkAll parts + 1
  | .iface _ d => uptoBulk d + 1
  | .map entries => uptoBulkEntries entries + 1
  | .held _ => 1
def uptoBulkAll {H : Type} : List (DataW H) → Nat
  | [] => 0
  | d :: r => uptoBulk d + uptoBulkAll r
def uptoBulkEntries {H : Type} : List (Lit × DataW H) → Nat
  | [] => 0
  | x :: r => uptoBulkEntry x + uptoBulkEntries r
def uptoBulkEntry {H : Type} : Lit × DataW H → Nat
  | (.string bytes, d) => bytes.length + uptoBulk d + 1
  | (_, d) => uptoBulk d + 1
 end
def uptoSmall : (H : Type) → List (DataW H) → Bool := fun _ ds => decide (uptoBulkAll ds ≤ 1048576)
def OpenSpec.upto (s : _root_.Go.ChangeSpec) : _root_.Go.OpenSpec := { _root_.Go.OpenSpec.ofChange s with cond := some uptoSmall }

/-- 'collatorlaw06.DagOnce', WHERE WHAT IT READS IS OF BULK AT MOST 1048576: true; the input reads as it did. -/
def dagOnceUptoRow : OpenClaim := { program := "ytmlnnepgigieaaadoor", sum := "cc98b6efe42322ed2e7bbcdc72daa45ed4f5818649149c8d3700646e95e45f12", func := "collator/collatorlaw06.DagOnce", spec := "dagOnce", unfollowed := true, recurses := true, named := ["internal/strconv.uint64pow10", "math/bits.deBruijn32tab", "math/bits.deBruijn64tab"], apart := false, laid := [("math/bits.deBruijn32tab", laid_math_bits_deBruijn32tab), ("math/bits.deBruijn64tab", laid_math_bits_deBruijn64tab), ("internal/strconv.uint64pow10", laid_internal_strconv_uint64pow10)], narrowed := true }
def DagOnceUptoSaid : Prop := dagOnceUptoRow.holds Tryd.pinned (OpenSpec.upto dagOnceSpec)

/-- 'collatorlaw06.DagBuckets', WHERE WHAT IT READS IS OF BULK AT MOST 1048576: true; the input reads as it did. -/
def dagBucketsUptoRow : OpenClaim := { program := "ytmlnnepgigieaaadoor", sum := "cc98b6efe42322ed2e7bbcdc72daa45ed4f5818649149c8d3700646e95e45f12", func := "collator/collatorlaw06.DagBuckets", spec := "dagBuckets", unfollowed := true, recurses := true, named := ["internal/strconv.uint64pow10", "math/bits.deBruijn32tab", "math/bits.deBruijn64tab"], apart := false, laid := [("math/bits.deBruijn32tab", laid_math_bits_deBruijn32tab), ("math/bits.deBruijn64tab", laid_math_bits_deBruijn64tab), ("internal/strconv.uint64pow10", laid_internal_strconv_uint64pow10)], narrowed := true }
def DagBucketsUptoSaid : Prop := dagBucketsUptoRow.holds Tryd.pinned (OpenSpec.upto dagBucketsSpec)

/-- 'collatorlaw06.DagSame', WHERE WHAT IT READS IS OF BULK AT MOST 1048576: true; the input reads as it did. -/
def dagSameUptoRow : OpenClaim := { program := "ytmlnnepgigieaaadoor", sum := "cc98b6efe42322ed2e7bbcdc72daa45ed4f5818649149c8d3700646e95e45f12", func := "collator/collatorlaw06.DagSame", spec := "dagSame", unfollowed := true, recurses := true, named := ["internal/strconv.uint64pow10", "math/bits.deBruijn32tab", "math/bits.deBruijn64tab"], apart := false, laid := [("math/bits.deBruijn32tab", laid_math_bits_deBruijn32tab), ("math/bits.deBruijn64tab", laid_math_bits_deBruijn64tab), ("internal/strconv.uint64pow10", laid_internal_strconv_uint64pow10)], narrowed := true }
def DagSameUptoSaid : Prop := dagSameUptoRow.holds Tryd.pinned (OpenSpec.upto dagSameSpec)

/-- 'collatorlaw06.DagSorts', WHERE WHAT IT READS IS OF BULK AT MOST 1048576: true; the input reads as it did. -/
def dagSortsUptoRow : OpenClaim := { program := "ytmlnnepgigieaaadoor", sum := "cc98b6efe42322ed2e7bbcdc72daa45ed4f5818649149c8d3700646e95e45f12", func := "collator/collatorlaw06.DagSorts", spec := "dagSorts", unfollowed := true, recurses := true, named := ["internal/strconv.uint64pow10", "math/bits.deBruijn32tab", "math/bits.deBruijn64tab"], apart := false, laid := [("math/bits.deBruijn32tab", laid_math_bits_deBruijn32tab), ("math/bits.deBruijn64tab", laid_math_bits_deBruijn64tab), ("internal/strconv.uint64pow10", laid_internal_strconv_uint64pow10)], narrowed := true }
def DagSortsUptoSaid : Prop := dagSortsUptoRow.holds Tryd.pinned (OpenSpec.upto dagSortsSpec)

/-- 'collatorlaw06.DagActs', WHERE WHAT IT READS IS OF BULK AT MOST 1048576: true; the input reads as it did. -/
def dagActsUptoRow : OpenClaim := { program := "ytmlnnepgigieaaadoor", sum := "cc98b6efe42322ed2e7bbcdc72daa45ed4f5818649149c8d3700646e95e45f12", func := "collator/collatorlaw06.DagActs", spec := "dagActs", unfollowed := true, recurses := true, named := ["internal/strconv.uint64pow10", "math/bits.deBruijn32tab", "math/bits.deBruijn64tab"], apart := false, laid := [("math/bits.deBruijn32tab", laid_math_bits_deBruijn32tab), ("math/bits.deBruijn64tab", laid_math_bits_deBruijn64tab), ("internal/strconv.uint64pow10", laid_internal_strconv_uint64pow10)], narrowed := true }
def DagActsUptoSaid : Prop := dagActsUptoRow.holds Tryd.pinned (OpenSpec.upto dagActsSpec)

/-- 'collatorlaw07.WalkBeneath', WHERE WHAT IT READS IS OF BULK AT MOST 1048576: true; the input reads as it did. -/
def walkBeneathUptoRow : OpenClaim := { program := "ytmlnnepgigieaaadoor", sum := "cc98b6efe42322ed2e7bbcdc72daa45ed4f5818649149c8d3700646e95e45f12", func := "collator/collatorlaw07.WalkBeneath", spec := "walkBeneath", inPlace := ["internal/abi.NoEscape"], unfollowed := true, recurses := true, named := ["internal/strconv.uint64pow10", "math/bits.deBruijn32tab", "math/bits.deBruijn64tab"], apart := false, laid := [("math/bits.deBruijn32tab", laid_math_bits_deBruijn32tab), ("math/bits.deBruijn64tab", laid_math_bits_deBruijn64tab), ("internal/strconv.uint64pow10", laid_internal_strconv_uint64pow10)], narrowed := true }
def WalkBeneathUptoSaid : Prop := walkBeneathUptoRow.holds Tryd.pinned (OpenSpec.upto walkBeneathSpec)

/-- 'collatorlaw07.WalkOrders', WHERE WHAT IT READS IS OF BULK AT MOST 1048576: true; the input reads as it did. -/
def walkOrdersUptoRow : OpenClaim := { program := "ytmlnnepgigieaaadoor", sum := "cc98b6efe42322ed2e7bbcdc72daa45ed4f5818649149c8d3700646e95e45f12", func := "collator/collatorlaw07.WalkOrders", spec := "walkOrders", inPlace := ["internal/abi.NoEscape"], unfollowed := true, recurses := true, named := ["internal/strconv.uint64pow10", "math/bits.deBruijn32tab", "math/bits.deBruijn64tab"], apart := false, laid := [("math/bits.deBruijn32tab", laid_math_bits_deBruijn32tab), ("math/bits.deBruijn64tab", laid_math_bits_deBruijn64tab), ("internal/strconv.uint64pow10", laid_internal_strconv_uint64pow10)], narrowed := true }
def WalkOrdersUptoSaid : Prop := walkOrdersUptoRow.holds Tryd.pinned (OpenSpec.upto walkOrdersSpec)

/-- 'collatorlaw07.WalkShares', WHERE WHAT IT READS IS OF BULK AT MOST 1048576: true; the input reads as it did. -/
def walkSharesUptoRow : OpenClaim := { program := "ytmlnnepgigieaaadoor", sum := "cc98b6efe42322ed2e7bbcdc72daa45ed4f5818649149c8d3700646e95e45f12", func := "collator/collatorlaw07.WalkShares", spec := "walkShares", inPlace := ["internal/abi.NoEscape"], unfollowed := true, recurses := true, named := ["internal/strconv.uint64pow10", "math/bits.deBruijn32tab", "math/bits.deBruijn64tab"], apart := false, laid := [("math/bits.deBruijn32tab", laid_math_bits_deBruijn32tab), ("math/bits.deBruijn64tab", laid_math_bits_deBruijn64tab), ("internal/strconv.uint64pow10", laid_internal_strconv_uint64pow10)], narrowed := true }
def WalkSharesUptoSaid : Prop := walkSharesUptoRow.holds Tryd.pinned (OpenSpec.upto walkSharesSpec)

/-- 'collatorlaw07.WalkSizes', WHERE WHAT IT READS IS OF BULK AT MOST 1048576: true; the input reads as it did. -/
def walkSizesUptoRow : OpenClaim := { program := "ytmlnnepgigieaaadoor", sum := "cc98b6efe42322ed2e7bbcdc72daa45ed4f5818649149c8d3700646e95e45f12", func := "collator/collatorlaw07.WalkSizes", spec := "walkSizes", inPlace := ["internal/abi.NoEscape"], unfollowed := true, recurses := true, named := ["internal/strconv.uint64pow10", "math/bits.deBruijn32tab", "math/bits.deBruijn64tab"], apart := false, laid := [("math/bits.deBruijn32tab", laid_math_bits_deBruijn32tab), ("math/bits.deBruijn64tab", laid_math_bits_deBruijn64tab), ("internal/strconv.uint64pow10", laid_internal_strconv_uint64pow10)], narrowed := true }
def WalkSizesUptoSaid : Prop := walkSizesUptoRow.holds Tryd.pinned (OpenSpec.upto walkSizesSpec)

/-- 'collatorlaw07.WalkTwice', WHERE WHAT IT READS IS OF BULK AT MOST 1048576: true; the input reads as it did. -/
def walkTwiceUptoRow : OpenClaim := { program := "ytmlnnepgigieaaadoor", sum := "cc98b6efe42322ed2e7bbcdc72daa45ed4f5818649149c8d3700646e95e45f12", func := "collator/collatorlaw07.WalkTwice", spec := "walkTwice", inPlace := ["internal/abi.NoEscape"], unfollowed := true, recurses := true, named := ["internal/strconv.uint64pow10", "math/bits.deBruijn32tab", "math/bits.deBruijn64tab"], apart := false, laid := [("math/bits.deBruijn32tab", laid_math_bits_deBruijn32tab), ("math/bits.deBruijn64tab", laid_math_bits_deBruijn64tab), ("internal/strconv.uint64pow10", laid_internal_strconv_uint64pow10)], narrowed := true }
def WalkTwiceUptoSaid : Prop := walkTwiceUptoRow.holds Tryd.pinned (OpenSpec.upto walkTwiceSpec)

end Rows
end Go.Proofs.YtmlnnepgigieaaaDoor
