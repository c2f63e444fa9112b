/-
  NARROWER THAN 'FOR EVERY INPUT', by the rows' own cells (each row's printed sentence says how): FootReaches: laid · FootAll: laid · FootTells: laid · FootLess: laid.
  DERIVED. THE GIVEN ROWS OF THIS SEAT. 4 by the template 'for every input the law returns true; each argument reads behind the call as it read before'; 0 by the template 'total and deterministic' (their statements: YtnielafbkgpgjaaGreatDoorTotals.lean).
  GIVEN WITH THE SEED: the statements are not yours to turn. If you find one false, say at which input.
  Laid BY PROGRAM, IN A SANDBOX (cutbox-rows.mjs): the forced cells as the released guide's own fill.sh prints them over the translation 1a9cbbacf3481147… (all of the seat's roots in one cut). By AI agents, Wed Nov 11 2026. No macro, syntax, notation, axiom, sorry.
-/
import Derived.Test.YtnielafbkgpgjaaGreatDoorChecked
import GoSem.Claim
import GoSem.ClaimJoined
import GoSem.ClaimMapViews
import Derived.JoinedTies
import Derived.KernelRfl
namespace Go.Proofs.YtnielafbkgpgjaaGreatDoor
/- THE CELL 'sum', in the pinned program and in every row, IS THE sha256 OF THE DUMP (.gsa) THAT YtnielafbkgpgjaaGreatDoorProg.lean LOADS. Nothing in Lean hashes anything: it is a label: what it is worth is what the hold of that sum in a sandbox is worth. -/
noncomputable def Tryz.pinned : Pinned := { name := "ytnielafbkgpgjaagreatdoor", sum := "1a9cbbacf34811479f9e8ebf23b78542a18b06922ff9b09dd44a40ed0c610b6a", checked := Tryz.checked }
namespace Rows
def none {H : Type} : Left H := { results := [], args := [] }

/- WHAT THE LISTED PACKAGE-LEVEL VARIABLES READ AS WHEN THE CALL BEGINS. Each datum BY PROGRAM (the guide's laid-datum.mjs) off the statement by which the dump's own 'gosem.cut.vars' lays the variable. In a bare row this is a premise. The card (YtnielafbkgpgjaaGreatDoorCards.lean) ties it to the program's text. -/
def laid_math_bits_deBruijn32tab {H : Type} : DataW H := .agg [.lit (.int .u8 0), .lit (.int .u8 1), .lit (.int .u8 28), .lit (.int .u8 2), .lit (.int .u8 29), .lit (.int .u8 14), .lit (.int .u8 24), .lit (.int .u8 3), .lit (.int .u8 30), .lit (.int .u8 22), .lit (.int .u8 20), .lit (.int .u8 15), .lit (.int .u8 25), .lit (.int .u8 17), .lit (.int .u8 4), .lit (.int .u8 8), .lit (.int .u8 31), .lit (.int .u8 27), .lit (.int .u8 13), .lit (.int .u8 23), .lit (.int .u8 21), .lit (.int .u8 19), .lit (.int .u8 16), .lit (.int .u8 7), .lit (.int .u8 26), .lit (.int .u8 12), .lit (.int .u8 18), .lit (.int .u8 6), .lit (.int .u8 11), .lit (.int .u8 5), .lit (.int .u8 10), .lit (.int .u8 9)]
def laid_math_bits_deBruijn64tab {H : Type} : DataW H := .agg [.lit (.int .u8 0), .lit (.int .u8 1), .lit (.int .u8 56), .lit (.int .u8 2), .lit (.int .u8 57), .lit (.int .u8 49), .lit (.int .u8 28), .lit (.int .u8 3), .lit (.int .u8 61), .lit (.int .u8 58), .lit (.int .u8 42), .lit (.int .u8 50), .lit (.int .u8 38), .lit (.int .u8 29), .lit (.int .u8 17), .lit (.int .u8 4), .lit (.int .u8 62), .lit (.int .u8 47), .lit (.int .u8 59), .lit (.int .u8 36), .lit (.int .u8 45), .lit (.int .u8 43), .lit (.int .u8 51), .lit (.int .u8 22), .lit (.int .u8 53), .lit (.int .u8 39), .lit (.int .u8 33), .lit (.int .u8 30), .lit (.int .u8 24), .lit (.int .u8 18), .lit (.int .u8 12), .lit (.int .u8 5), .lit (.int .u8 63), .lit (.int .u8 55), .lit (.int .u8 48), .lit (.int .u8 27), .lit (.int .u8 60), .lit (.int .u8 41), .lit (.int .u8 37), .lit (.int .u8 16), .lit (.int .u8 46), .lit (.int .u8 35), .lit (.int .u8 44), .lit (.int .u8 21), .lit (.int .u8 52), .lit (.int .u8 32), .lit (.int .u8 23), .lit (.int .u8 11), .lit (.int .u8 54), .lit (.int .u8 26), .lit (.int .u8 40), .lit (.int .u8 15), .lit (.int .u8 34), .lit (.int .u8 20), .lit (.int .u8 31), .lit (.int .u8 10), .lit (.int .u8 25), .lit (.int .u8 14), .lit (.int .u8 19), .lit (.int .u8 9), .lit (.int .u8 13), .lit (.int .u8 8), .lit (.int .u8 7), .lit (.int .u8 6)]
def laid_internal_strconv_uint64pow10 {H : Type} : DataW H := .agg [.lit (.int .u64 1), .lit (.int .u64 10), .lit (.int .u64 100), .lit (.int .u64 1000), .lit (.int .u64 10000), .lit (.int .u64 100000), .lit (.int .u64 1000000), .lit (.int .u64 10000000), .lit (.int .u64 100000000), .lit (.int .u64 1000000000), .lit (.int .u64 10000000000), .lit (.int .u64 100000000000), .lit (.int .u64 1000000000000), .lit (.int .u64 10000000000000), .lit (.int .u64 100000000000000), .lit (.int .u64 1000000000000000), .lit (.int .u64 10000000000000000), .lit (.int .u64 100000000000000000), .lit (.int .u64 1000000000000000000), .lit (.int .u64 10000000000000000000)]
def laid_strconv_ErrRange {H : Type} : DataW H := .iface "*errors.errorString" (.ptr (.agg [.lit (.string [118, 97, 108, 117, 101, 32, 111, 117, 116, 32, 111, 102, 32, 114, 97, 110, 103, 101])]))
def laid_strconv_ErrSyntax {H : Type} : DataW H := .iface "*errors.errorString" (.ptr (.agg [.lit (.string [105, 110, 118, 97, 108, 105, 100, 32, 115, 121, 110, 116, 97, 120])]))
def laid_braidwork_parse_signs {H : Type} : DataW H := .agg [.agg [.lit (.string [45]), .lit (.string [110, 101, 103])], .agg [.lit (.string [126]), .lit (.string [99, 111, 110, 106])], .agg [.lit (.string [33]), .lit (.string [110, 111, 116])], .agg [.lit (.string [35]), .lit (.string [110, 111, 114, 109])]]
def laid_braidwork_parse_levels {H : Type} : DataW H := .agg [.slice [.lit (.string [61, 61]), .lit (.string [33, 61]), .lit (.string [60])] [], .slice [.lit (.string [43]), .lit (.string [45])] [], .slice [.lit (.string [42])] []]
def laid_braidwork_braidworklaw05_words {H : Type} : DataW H := .agg [.lit (.string []), .lit (.string [108, 111, 97, 100]), .lit (.string [115, 116, 111, 114, 101]), .lit (.string [97, 100, 100]), .lit (.string [115, 119, 97, 112]), .lit (.string [99, 97, 115]), .lit (.string [108, 111, 99, 107]), .lit (.string [117, 110, 108, 111, 99, 107]), .lit (.string [116, 114, 121]), .lit (.string [119, 97, 105, 116]), .lit (.string [112, 111, 115, 116]), .lit (.string [115, 112, 97, 119, 110]), .lit (.string [106, 111, 105, 110]), .lit (.string [97, 115, 115, 101, 114, 116]), .lit (.string [97, 115, 115, 117, 109, 101]), .lit (.string [105, 102]), .lit (.string [119, 104, 105, 108, 101])]
def laid_braidwork_braidworklaw05_sorts {H : Type} : DataW H := .agg [.lit (.string [99, 101, 108, 108]), .lit (.string [97, 114, 114, 97, 121]), .lit (.string [109, 117, 116, 101, 120]), .lit (.string [115, 101, 109]), .lit (.string [98, 117, 100, 103, 101, 116]), .lit (.string [116, 104, 114, 101, 97, 100])]

/-- 'braidworklaw14.FootReaches': WHATEVER THE INPUT: true; the input reads as it did. -/
def footReachesSpec : ChangeSpec := { name := "footReaches", fn := fun _ => fun
  | [d1, d2] => { results := [.lit (.bool true)], args := [d1, d2] }
  | _ => none }
def footReachesRow : OpenClaim := { program := "ytnielafbkgpgjaagreatdoor", sum := "1a9cbbacf34811479f9e8ebf23b78542a18b06922ff9b09dd44a40ed0c610b6a", func := "braidwork/braidworklaw14.FootReaches", spec := "footReaches", inPlace := ["math.Float64bits", "math.Float64frombits", "math.archTrunc", "internal/abi.NoEscape", "internal/bytealg.MakeNoZero", "internal/bytealg.IndexByteString"], unfollowed := true, recurses := true, named := ["strconv.ErrSyntax", "strconv.ErrRange", "internal/strconv.uint64pow10", "math/bits.deBruijn32tab", "math/bits.deBruijn64tab", "braidwork/parse.levels", "braidwork/parse.signs", "braidwork/braidworklaw05.sorts", "braidwork/braidworklaw05.words"], apart := false, laid := [("math/bits.deBruijn32tab", laid_math_bits_deBruijn32tab), ("math/bits.deBruijn64tab", laid_math_bits_deBruijn64tab), ("internal/strconv.uint64pow10", laid_internal_strconv_uint64pow10), ("strconv.ErrRange", laid_strconv_ErrRange), ("strconv.ErrSyntax", laid_strconv_ErrSyntax), ("braidwork/parse.signs", laid_braidwork_parse_signs), ("braidwork/parse.levels", laid_braidwork_parse_levels), ("braidwork/braidworklaw05.words", laid_braidwork_braidworklaw05_words), ("braidwork/braidworklaw05.sorts", laid_braidwork_braidworklaw05_sorts)] }
def FootReachesSaid : Prop := footReachesRow.holds Tryz.pinned (OpenSpec.ofChange footReachesSpec)

/-- ITS FALSE NEIGHBOUR: 'it returns false'. Refute it at one input. -/
def footReachesWrong : ChangeSpec := { name := "footReaches", fn := fun _ => fun
  | [d1, d2] => { results := [.lit (.bool false)], args := [d1, d2] }
  | _ => none }
def FootReachesWrongFalsely : Prop := footReachesRow.holds Tryz.pinned (OpenSpec.ofChange footReachesWrong)

/-- 'braidworklaw14.FootAll': WHATEVER THE INPUT: true; the input reads as it did. -/
def footAllSpec : ChangeSpec := { name := "footAll", fn := fun _ => fun
  | [d] => { results := [.lit (.bool true)], args := [d] }
  | _ => none }
def footAllRow : OpenClaim := { program := "ytnielafbkgpgjaagreatdoor", sum := "1a9cbbacf34811479f9e8ebf23b78542a18b06922ff9b09dd44a40ed0c610b6a", func := "braidwork/braidworklaw14.FootAll", spec := "footAll", inPlace := ["math.Float64bits", "math.Float64frombits", "math.archTrunc", "internal/abi.NoEscape", "internal/bytealg.MakeNoZero", "internal/bytealg.IndexByteString"], unfollowed := true, recurses := true, named := ["strconv.ErrSyntax", "strconv.ErrRange", "internal/strconv.uint64pow10", "math/bits.deBruijn32tab", "math/bits.deBruijn64tab", "braidwork/parse.levels", "braidwork/parse.signs", "braidwork/braidworklaw05.sorts", "braidwork/braidworklaw05.words"], apart := false, laid := [("math/bits.deBruijn32tab", laid_math_bits_deBruijn32tab), ("math/bits.deBruijn64tab", laid_math_bits_deBruijn64tab), ("internal/strconv.uint64pow10", laid_internal_strconv_uint64pow10), ("strconv.ErrRange", laid_strconv_ErrRange), ("strconv.ErrSyntax", laid_strconv_ErrSyntax), ("braidwork/parse.signs", laid_braidwork_parse_signs), ("braidwork/parse.levels", laid_braidwork_parse_levels), ("braidwork/braidworklaw05.words", laid_braidwork_braidworklaw05_words), ("braidwork/braidworklaw05.sorts", laid_braidwork_braidworklaw05_sorts)] }
def FootAllSaid : Prop := footAllRow.holds Tryz.pinned (OpenSpec.ofChange footAllSpec)

/-- ITS FALSE NEIGHBOUR: 'it returns false'. Refute it at one input. -/
def footAllWrong : ChangeSpec := { name := "footAll", fn := fun _ => fun
  | [d] => { results := [.lit (.bool false)], args := [d] }
  | _ => none }
def FootAllWrongFalsely : Prop := footAllRow.holds Tryz.pinned (OpenSpec.ofChange footAllWrong)

/-- 'braidworklaw14.FootTells': WHATEVER THE INPUT: true; the input reads as it did. -/
def footTellsSpec : ChangeSpec := { name := "footTells", fn := fun _ => fun
  | [d1, d2, d3] => { results := [.lit (.bool true)], args := [d1, d2, d3] }
  | _ => none }
def footTellsRow : OpenClaim := { program := "ytnielafbkgpgjaagreatdoor", sum := "1a9cbbacf34811479f9e8ebf23b78542a18b06922ff9b09dd44a40ed0c610b6a", func := "braidwork/braidworklaw14.FootTells", spec := "footTells", inPlace := ["math.Float64bits", "math.Float64frombits", "math.archTrunc", "internal/abi.NoEscape", "internal/bytealg.MakeNoZero", "internal/bytealg.IndexByteString"], unfollowed := true, recurses := true, named := ["strconv.ErrSyntax", "strconv.ErrRange", "internal/strconv.uint64pow10", "math/bits.deBruijn32tab", "math/bits.deBruijn64tab", "braidwork/parse.levels", "braidwork/parse.signs", "braidwork/braidworklaw05.sorts", "braidwork/braidworklaw05.words"], apart := false, laid := [("math/bits.deBruijn32tab", laid_math_bits_deBruijn32tab), ("math/bits.deBruijn64tab", laid_math_bits_deBruijn64tab), ("internal/strconv.uint64pow10", laid_internal_strconv_uint64pow10), ("strconv.ErrRange", laid_strconv_ErrRange), ("strconv.ErrSyntax", laid_strconv_ErrSyntax), ("braidwork/parse.signs", laid_braidwork_parse_signs), ("braidwork/parse.levels", laid_braidwork_parse_levels), ("braidwork/braidworklaw05.words", laid_braidwork_braidworklaw05_words), ("braidwork/braidworklaw05.sorts", laid_braidwork_braidworklaw05_sorts)] }
def FootTellsSaid : Prop := footTellsRow.holds Tryz.pinned (OpenSpec.ofChange footTellsSpec)

/-- ITS FALSE NEIGHBOUR: 'it returns false'. Refute it at one input. -/
def footTellsWrong : ChangeSpec := { name := "footTells", fn := fun _ => fun
  | [d1, d2, d3] => { results := [.lit (.bool false)], args := [d1, d2, d3] }
  | _ => none }
def FootTellsWrongFalsely : Prop := footTellsRow.holds Tryz.pinned (OpenSpec.ofChange footTellsWrong)

/-- 'braidworklaw14.FootLess': WHATEVER THE INPUT: true; the input reads as it did. -/
def footLessSpec : ChangeSpec := { name := "footLess", fn := fun _ => fun
  | [d1, d2] => { results := [.lit (.bool true)], args := [d1, d2] }
  | _ => none }
def footLessRow : OpenClaim := { program := "ytnielafbkgpgjaagreatdoor", sum := "1a9cbbacf34811479f9e8ebf23b78542a18b06922ff9b09dd44a40ed0c610b6a", func := "braidwork/braidworklaw14.FootLess", spec := "footLess", inPlace := ["math.Float64bits", "math.Float64frombits", "math.archTrunc", "internal/abi.NoEscape", "internal/bytealg.MakeNoZero", "internal/bytealg.IndexByteString"], unfollowed := true, recurses := true, named := ["strconv.ErrSyntax", "strconv.ErrRange", "internal/strconv.uint64pow10", "math/bits.deBruijn32tab", "math/bits.deBruijn64tab", "braidwork/parse.levels", "braidwork/parse.signs", "braidwork/braidworklaw05.sorts", "braidwork/braidworklaw05.words"], apart := false, laid := [("math/bits.deBruijn32tab", laid_math_bits_deBruijn32tab), ("math/bits.deBruijn64tab", laid_math_bits_deBruijn64tab), ("internal/strconv.uint64pow10", laid_internal_strconv_uint64pow10), ("strconv.ErrRange", laid_strconv_ErrRange), ("strconv.ErrSyntax", laid_strconv_ErrSyntax), ("braidwork/parse.signs", laid_braidwork_parse_signs), ("braidwork/parse.levels", laid_braidwork_parse_levels), ("braidwork/braidworklaw05.words", laid_braidwork_braidworklaw05_words), ("braidwork/braidworklaw05.sorts", laid_braidwork_braidworklaw05_sorts)] }
def FootLessSaid : Prop := footLessRow.holds Tryz.pinned (OpenSpec.ofChange footLessSpec)

/-- ITS FALSE NEIGHBOUR: 'it returns false'. Refute it at one input. -/
def footLessWrong : ChangeSpec := { name := "footLess", fn := fun _ => fun
  | [d1, d2] => { results := [.lit (.bool false)], args := [d1, d2] }
  | _ => none }
def FootLessWrongFalsely : Prop := footLessRow.holds Tryz.pinned (OpenSpec.ofChange footLessWrong)

/- THE SECOND FORM. 'bulk': how many values and letters a reading holds, each counted each time it is reached (what is shared counts as often as it is met; a slice's spare places count too). A statement '..UptoSaid' is the law's where the arguments, and the package variables that the reading takes, are together of bulk at most 1048576: NARROWER than '..Said'. Prove '..Said' where nothing that the law and all that it calls make is longer than what came in: it says more and counts as full. Else prove '..UptoSaid'. A law counts once. -/
mutual
def uptoBulk {H : Type} : DataW H → Nat
  | .lit (.string bytes) => bytes.length + 1
  | .lit _ => 1
  | .nil => 1
  | .ptr d => uptoBulk d + 1
  | .slice elems spare => uptoBulkAll elems + uptoBulkAll spare + 1
  | .agg parts => uptoBulkAll parts + 1
  | .iface _ d => uptoBulk d + 1
  | .map entries => uptoBulkEntries entries + 1
  | .held _ => 1
def uptoBulkAll {H : Type} : List (DataW H) → Nat
  | [] => 0
  | d :: r => uptoBulk d + uptoBulkAll r
def uptoBulkEntries {H : Type} : List (Lit × DataW H) → Nat
  | [] => 0
  | x :: r => uptoBulkEntry x + uptoBulkEntries r
def uptoBulkEntry {H : Type} : Lit × DataW H → Nat
  | (.string bytes, d) => bytes.length + uptoBulk d + 1
  | (_, d) => uptoBulk d + 1
 end
def uptoSmall : (H : Type) → List (DataW H) → Bool := fun _ ds => decide (uptoBulkAll ds ≤ 1048576)
def OpenSpec.upto (s : _root_.Go.ChangeSpec) : _root_.Go.OpenSpec := { _root_.Go.OpenSpec.ofChange s with cond := some uptoSmall }

/-- 'braidworklaw14.FootReaches', WHERE WHAT IT READS IS OF BULK AT MOST 1048576: true; the input reads as it did. -/
def footReachesUptoRow : OpenClaim := { program := "ytnielafbkgpgjaagreatdoor", sum := "1a9cbbacf34811479f9e8ebf23b78542a18b06922ff9b09dd44a40ed0c610b6a", func := "braidwork/braidworklaw14.FootReaches", spec := "footReaches", inPlace := ["math.Float64bits", "math.Float64frombits", "math.archTrunc", "internal/abi.NoEscape", "internal/bytealg.MakeNoZero", "internal/bytealg.IndexByteString"], unfollowed := true, recurses := true, named := ["strconv.ErrSyntax", "strconv.ErrRange", "internal/strconv.uint64pow10", "math/bits.deBruijn32tab", "math/bits.deBruijn64tab", "braidwork/parse.levels", "braidwork/parse.signs", "braidwork/braidworklaw05.sorts", "braidwork/braidworklaw05.words"], apart := false, laid := [("math/bits.deBruijn32tab", laid_math_bits_deBruijn32tab), ("math/bits.deBruijn64tab", laid_math_bits_deBruijn64tab), ("internal/strconv.uint64pow10", laid_internal_strconv_uint64pow10), ("strconv.ErrRange", laid_strconv_ErrRange), ("strconv.ErrSyntax", laid_strconv_ErrSyntax), ("braidwork/parse.signs", laid_braidwork_parse_signs), ("braidwork/parse.levels", laid_braidwork_parse_levels), ("braidwork/braidworklaw05.words", laid_braidwork_braidworklaw05_words), ("braidwork/braidworklaw05.sorts", laid_braidwork_braidworklaw05_sorts)], narrowed := true }
def FootReachesUptoSaid : Prop := footReachesUptoRow.holds Tryz.pinned (OpenSpec.upto footReachesSpec)

/-- 'braidworklaw14.FootAll', WHERE WHAT IT READS IS OF BULK AT MOST 1048576: true; the input reads as it did. -/
def footAllUptoRow : OpenClaim := { program := "ytnielafbkgpgjaagreatdoor", sum := "1a9cbbacf34811479f9e8ebf23b78542a18b06922ff9b09dd44a40ed0c610b6a", func := "braidwork/braidworklaw14.FootAll", spec := "footAll", inPlace := ["math.Float64bits", "math.Float64frombits", "math.archTrunc", "internal/abi.NoEscape", "internal/bytealg.MakeNoZero", "internal/bytealg.IndexByteString"], unfollowed := true, recurses := true, named := ["strconv.ErrSyntax", "strconv.ErrRange", "internal/strconv.uint64pow10", "math/bits.deBruijn32tab", "math/bits.deBruijn64tab", "braidwork/parse.levels", "braidwork/parse.signs", "braidwork/braidworklaw05.sorts", "braidwork/braidworklaw05.words"], apart := false, laid := [("math/bits.deBruijn32tab", laid_math_bits_deBruijn32tab), ("math/bits.deBruijn64tab", laid_math_bits_deBruijn64tab), ("internal/strconv.uint64pow10", laid_internal_strconv_uint64pow10), ("strconv.ErrRange", laid_strconv_ErrRange), ("strconv.ErrSyntax", laid_strconv_ErrSyntax), ("braidwork/parse.signs", laid_braidwork_parse_signs), ("braidwork/parse.levels", laid_braidwork_parse_levels), ("braidwork/braidworklaw05.words", laid_braidwork_braidworklaw05_words), ("braidwork/braidworklaw05.sorts", laid_braidwork_braidworklaw05_sorts)], narrowed := true }
def FootAllUptoSaid : Prop := footAllUptoRow.holds Tryz.pinned (OpenSpec.upto footAllSpec)

/-- 'braidworklaw14.FootTells', WHERE WHAT IT READS IS OF BULK AT MOST 1048576: true; the input reads as it did. -/
def footTellsUptoRow : OpenClaim := { program := "ytnielafbkgpgjaagreatdoor", sum := "1a9cbbacf34811479f9e8ebf23b78542a18b06922ff9b09dd44a40ed0c610b6a", func := "braidwork/braidworklaw14.FootTells", spec := "footTells", inPlace := ["math.Float64bits", "math.Float64frombits", "math.archTrunc", "internal/abi.NoEscape", "internal/bytealg.MakeNoZero", "internal/bytealg.IndexByteString"], unfollowed := true, recurses := true, named := ["strconv.ErrSyntax", "strconv.ErrRange", "internal/strconv.uint64pow10", "math/bits.deBruijn32tab", "math/bits.deBruijn64tab", "braidwork/parse.levels", "braidwork/parse.signs", "braidwork/braidworklaw05.sorts", "braidwork/braidworklaw05.words"], apart := false, laid := [("math/bits.deBruijn32tab", laid_math_bits_deBruijn32tab), ("math/bits.deBruijn64tab", laid_math_bits_deBruijn64tab), ("internal/strconv.uint64pow10", laid_internal_strconv_uint64pow10), ("strconv.ErrRange", laid_strconv_ErrRange), ("strconv.ErrSyntax", laid_strconv_ErrSyntax), ("braidwork/parse.signs", laid_braidwork_parse_signs), ("braidwork/parse.levels", laid_braidwork_parse_levels), ("braidwork/braidworklaw05.words", laid_braidwork_braidworklaw05_words), ("braidwork/braidworklaw05.sorts", laid_braidwork_braidworklaw05_sorts)], narrowed := true }
def FootTellsUptoSaid : Prop := footTellsUptoRow.holds Tryz.pinned (OpenSpec.upto footTellsSpec)

/-- 'braidworklaw14.FootLess', WHERE WHAT IT READS IS OF BULK AT MOST 1048576: true; the input reads as it did. -/
def footLessUptoRow : OpenClaim := { program := "ytnielafbkgpgjaagreatdoor", sum := "1a9cbbacf34811479f9e8ebf23b78542a18b06922ff9b09dd44a40ed0c610b6a", func := "braidwork/braidworklaw14.FootLess", spec := "footLess", inPlace := ["math.Float64bits", "math.Float64frombits", "math.archTrunc", "internal/abi.NoEscape", "internal/bytealg.MakeNoZero", "internal/bytealg.IndexByteString"], unfollowed := true, recurses := true, named := ["strconv.ErrSyntax", "strconv.ErrRange", "internal/strconv.uint64pow10", "math/bits.deBruijn32tab", "math/bits.deBruijn64tab", "braidwork/parse.levels", "braidwork/parse.signs", "braidwork/braidworklaw05.sorts", "braidwork/braidworklaw05.words"], apart := false, laid := [("math/bits.deBruijn32tab", laid_math_bits_deBruijn32tab), ("math/bits.deBruijn64tab", laid_math_bits_deBruijn64tab), ("internal/strconv.uint64pow10", laid_internal_strconv_uint64pow10), ("strconv.ErrRange", laid_strconv_ErrRange), ("strconv.ErrSyntax", laid_strconv_ErrSyntax), ("braidwork/parse.signs", laid_braidwork_parse_signs), ("braidwork/parse.levels", laid_braidwork_parse_levels), ("braidwork/braidworklaw05.words", laid_braidwork_braidworklaw05_words), ("braidwork/braidworklaw05.sorts", laid_braidwork_braidworklaw05_sorts)], narrowed := true }
def FootLessUptoSaid : Prop := footLessUptoRow.holds Tryz.pinned (OpenSpec.upto footLessSpec)

end Rows
end Go.Proofs.YtnielafbkgpgjaaGreatDoor
