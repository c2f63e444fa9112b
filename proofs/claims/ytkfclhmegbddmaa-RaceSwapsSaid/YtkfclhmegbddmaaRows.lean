/-
  No cell of these rows narrows 'for every input' (looked for: loops, veiled, ifaces, maps, wideKeys, modest, calm, conditions, laid).
  DERIVED. THE GIVEN ROWS OF THIS SEAT. 10 by the template 'for every input the law returns true; each argument reads behind the call as it read before'; 0 by the template 'total and deterministic' (their statements: YtkfclhmegbddmaaTotals.lean).
  GIVEN WITH THE SEED: the statements are not yours to turn. If you find one false, say at which input.
  Laid BY PROGRAM, IN A SANDBOX (cutbox-rows.mjs): the forced cells as the released guide's own fill.sh prints them over the translation e94a7e588a73dbf0… (all of the seat's roots in one cut). By AI agents, Wed Nov 11 2026. No macro, syntax, notation, axiom, sorry.
-/
import Derived.Test.YtkfclhmegbddmaaChecked
import GoSem.Claim
import GoSem.ClaimJoined
import GoSem.ClaimMapViews
import Derived.JoinedTies
import Derived.KernelRfl
namespace Go.Proofs.Ytkfclhmegbddmaa
/- THE CELL 'sum', in the pinned program and in every row, IS THE sha256 OF THE DUMP (.gsa) THAT YtkfclhmegbddmaaProg.lean LOADS. Nothing in Lean hashes anything: it is a label: what it is worth is what the hold of that sum in a sandbox is worth. -/
noncomputable def Try.pinned : Pinned := { name := "ytkfclhmegbddmaa", sum := "e94a7e588a73dbf0392655694b6455c330387cd65c91f7d011d227eb9f2ee2b8", checked := Try.checked }
namespace Rows
def none {H : Type} : Left H := { results := [], args := [] }

/-- 'braidworklaw12.BraidNormals': WHATEVER THE INPUT: true; the input reads as it did. -/
def braidNormalsSpec : ChangeSpec := { name := "braidNormals", fn := fun _ => fun
  | [d] => { results := [.lit (.bool true)], args := [d] }
  | _ => none }
def braidNormalsRow : OpenClaim := { program := "ytkfclhmegbddmaa", sum := "e94a7e588a73dbf0392655694b6455c330387cd65c91f7d011d227eb9f2ee2b8", func := "braidwork/braidworklaw12.BraidNormals", spec := "braidNormals", unfollowed := true, recurses := true, apart := false }
def BraidNormalsSaid : Prop := braidNormalsRow.holds Try.pinned (OpenSpec.ofChange braidNormalsSpec)

/-- ITS FALSE NEIGHBOUR: 'it returns false'. Refute it at one input. -/
def braidNormalsWrong : ChangeSpec := { name := "braidNormals", fn := fun _ => fun
  | [d] => { results := [.lit (.bool false)], args := [d] }
  | _ => none }
def BraidNormalsWrongFalsely : Prop := braidNormalsRow.holds Try.pinned (OpenSpec.ofChange braidNormalsWrong)

/-- 'braidworklaw12.BraidTwice': WHATEVER THE INPUT: true; the input reads as it did. -/
def braidTwiceSpec : ChangeSpec := { name := "braidTwice", fn := fun _ => fun
  | [d] => { results := [.lit (.bool true)], args := [d] }
  | _ => none }
def braidTwiceRow : OpenClaim := { program := "ytkfclhmegbddmaa", sum := "e94a7e588a73dbf0392655694b6455c330387cd65c91f7d011d227eb9f2ee2b8", func := "braidwork/braidworklaw12.BraidTwice", spec := "braidTwice", unfollowed := true, recurses := true, apart := false }
def BraidTwiceSaid : Prop := braidTwiceRow.holds Try.pinned (OpenSpec.ofChange braidTwiceSpec)

/-- ITS FALSE NEIGHBOUR: 'it returns false'. Refute it at one input. -/
def braidTwiceWrong : ChangeSpec := { name := "braidTwice", fn := fun _ => fun
  | [d] => { results := [.lit (.bool false)], args := [d] }
  | _ => none }
def BraidTwiceWrongFalsely : Prop := braidTwiceRow.holds Try.pinned (OpenSpec.ofChange braidTwiceWrong)

/-- 'braidworklaw12.BraidInitials': WHATEVER THE INPUT: true; the input reads as it did. -/
def braidInitialsSpec : ChangeSpec := { name := "braidInitials", fn := fun _ => fun
  | [d1, d2] => { results := [.lit (.bool true)], args := [d1, d2] }
  | _ => none }
def braidInitialsRow : OpenClaim := { program := "ytkfclhmegbddmaa", sum := "e94a7e588a73dbf0392655694b6455c330387cd65c91f7d011d227eb9f2ee2b8", func := "braidwork/braidworklaw12.BraidInitials", spec := "braidInitials", unfollowed := true, recurses := true, apart := false }
def BraidInitialsSaid : Prop := braidInitialsRow.holds Try.pinned (OpenSpec.ofChange braidInitialsSpec)

/-- ITS FALSE NEIGHBOUR: 'it returns false'. Refute it at one input. -/
def braidInitialsWrong : ChangeSpec := { name := "braidInitials", fn := fun _ => fun
  | [d1, d2] => { results := [.lit (.bool false)], args := [d1, d2] }
  | _ => none }
def BraidInitialsWrongFalsely : Prop := braidInitialsRow.holds Try.pinned (OpenSpec.ofChange braidInitialsWrong)

/-- 'braidworklaw12.BraidSwaps': WHATEVER THE INPUT: true; the input reads as it did. -/
def braidSwapsSpec : ChangeSpec := { name := "braidSwaps", fn := fun _ => fun
  | [d1, d2, d3] => { results := [.lit (.bool true)], args := [d1, d2, d3] }
  | _ => none }
def braidSwapsRow : OpenClaim := { program := "ytkfclhmegbddmaa", sum := "e94a7e588a73dbf0392655694b6455c330387cd65c91f7d011d227eb9f2ee2b8", func := "braidwork/braidworklaw12.BraidSwaps", spec := "braidSwaps", unfollowed := true, recurses := true, apart := false }
def BraidSwapsSaid : Prop := braidSwapsRow.holds Try.pinned (OpenSpec.ofChange braidSwapsSpec)

/-- ITS FALSE NEIGHBOUR: 'it returns false'. Refute it at one input. -/
def braidSwapsWrong : ChangeSpec := { name := "braidSwaps", fn := fun _ => fun
  | [d1, d2, d3] => { results := [.lit (.bool false)], args := [d1, d2, d3] }
  | _ => none }
def BraidSwapsWrongFalsely : Prop := braidSwapsRow.holds Try.pinned (OpenSpec.ofChange braidSwapsWrong)

/-- 'braidworklaw12.BraidPairs': WHATEVER THE INPUT: true; the input reads as it did. -/
def braidPairsSpec : ChangeSpec := { name := "braidPairs", fn := fun _ => fun
  | [d1, d2] => { results := [.lit (.bool true)], args := [d1, d2] }
  | _ => none }
def braidPairsRow : OpenClaim := { program := "ytkfclhmegbddmaa", sum := "e94a7e588a73dbf0392655694b6455c330387cd65c91f7d011d227eb9f2ee2b8", func := "braidwork/braidworklaw12.BraidPairs", spec := "braidPairs", unfollowed := true, recurses := true, apart := false }
def BraidPairsSaid : Prop := braidPairsRow.holds Try.pinned (OpenSpec.ofChange braidPairsSpec)

/-- ITS FALSE NEIGHBOUR: 'it returns false'. Refute it at one input. -/
def braidPairsWrong : ChangeSpec := { name := "braidPairs", fn := fun _ => fun
  | [d1, d2] => { results := [.lit (.bool false)], args := [d1, d2] }
  | _ => none }
def BraidPairsWrongFalsely : Prop := braidPairsRow.holds Try.pinned (OpenSpec.ofChange braidPairsWrong)

/-- 'braidworklaw13.RaceAll': WHATEVER THE INPUT: true; the input reads as it did. -/
def raceAllSpec : ChangeSpec := { name := "raceAll", fn := fun _ => fun
  | [d] => { results := [.lit (.bool true)], args := [d] }
  | _ => none }
def raceAllRow : OpenClaim := { program := "ytkfclhmegbddmaa", sum := "e94a7e588a73dbf0392655694b6455c330387cd65c91f7d011d227eb9f2ee2b8", func := "braidwork/braidworklaw13.RaceAll", spec := "raceAll", unfollowed := true, recurses := true, apart := false }
def RaceAllSaid : Prop := raceAllRow.holds Try.pinned (OpenSpec.ofChange raceAllSpec)

/-- ITS FALSE NEIGHBOUR: 'it returns false'. Refute it at one input. -/
def raceAllWrong : ChangeSpec := { name := "raceAll", fn := fun _ => fun
  | [d] => { results := [.lit (.bool false)], args := [d] }
  | _ => none }
def RaceAllWrongFalsely : Prop := raceAllRow.holds Try.pinned (OpenSpec.ofChange raceAllWrong)

/-- 'braidworklaw13.RaceCovers': WHATEVER THE INPUT: true; the input reads as it did. -/
def raceCoversSpec : ChangeSpec := { name := "raceCovers", fn := fun _ => fun
  | [d] => { results := [.lit (.bool true)], args := [d] }
  | _ => none }
def raceCoversRow : OpenClaim := { program := "ytkfclhmegbddmaa", sum := "e94a7e588a73dbf0392655694b6455c330387cd65c91f7d011d227eb9f2ee2b8", func := "braidwork/braidworklaw13.RaceCovers", spec := "raceCovers", unfollowed := true, recurses := true, apart := false }
def RaceCoversSaid : Prop := raceCoversRow.holds Try.pinned (OpenSpec.ofChange raceCoversSpec)

/-- ITS FALSE NEIGHBOUR: 'it returns false'. Refute it at one input. -/
def raceCoversWrong : ChangeSpec := { name := "raceCovers", fn := fun _ => fun
  | [d] => { results := [.lit (.bool false)], args := [d] }
  | _ => none }
def RaceCoversWrongFalsely : Prop := raceCoversRow.holds Try.pinned (OpenSpec.ofChange raceCoversWrong)

/-- 'braidworklaw12.BraidWhole': WHATEVER THE INPUT: true; the input reads as it did. -/
def braidWholeSpec : ChangeSpec := { name := "braidWhole", fn := fun _ => fun
  | [d1, d2] => { results := [.lit (.bool true)], args := [d1, d2] }
  | _ => none }
def braidWholeRow : OpenClaim := { program := "ytkfclhmegbddmaa", sum := "e94a7e588a73dbf0392655694b6455c330387cd65c91f7d011d227eb9f2ee2b8", func := "braidwork/braidworklaw12.BraidWhole", spec := "braidWhole", unfollowed := true, recurses := true, apart := false }
def BraidWholeSaid : Prop := braidWholeRow.holds Try.pinned (OpenSpec.ofChange braidWholeSpec)

/-- ITS FALSE NEIGHBOUR: 'it returns false'. Refute it at one input. -/
def braidWholeWrong : ChangeSpec := { name := "braidWhole", fn := fun _ => fun
  | [d1, d2] => { results := [.lit (.bool false)], args := [d1, d2] }
  | _ => none }
def BraidWholeWrongFalsely : Prop := braidWholeRow.holds Try.pinned (OpenSpec.ofChange braidWholeWrong)

/-- 'braidworklaw13.RaceSwaps': WHATEVER THE INPUT: true; the input reads as it did. -/
def raceSwapsSpec : ChangeSpec := { name := "raceSwaps", fn := fun _ => fun
  | [d1, d2] => { results := [.lit (.bool true)], args := [d1, d2] }
  | _ => none }
def raceSwapsRow : OpenClaim := { program := "ytkfclhmegbddmaa", sum := "e94a7e588a73dbf0392655694b6455c330387cd65c91f7d011d227eb9f2ee2b8", func := "braidwork/braidworklaw13.RaceSwaps", spec := "raceSwaps", unfollowed := true, recurses := true, apart := false }
def RaceSwapsSaid : Prop := raceSwapsRow.holds Try.pinned (OpenSpec.ofChange raceSwapsSpec)

/-- ITS FALSE NEIGHBOUR: 'it returns false'. Refute it at one input. -/
def raceSwapsWrong : ChangeSpec := { name := "raceSwaps", fn := fun _ => fun
  | [d1, d2] => { results := [.lit (.bool false)], args := [d1, d2] }
  | _ => none }
def RaceSwapsWrongFalsely : Prop := raceSwapsRow.holds Try.pinned (OpenSpec.ofChange raceSwapsWrong)

/-- 'braidworklaw13.RaceTurns': WHATEVER THE INPUT: true; the input reads as it did. -/
def raceTurnsSpec : ChangeSpec := { name := "raceTurns", fn := fun _ => fun
  | [d1, d2] => { results := [.lit (.bool true)], args := [d1, d2] }
  | _ => none }
def raceTurnsRow : OpenClaim := { program := "ytkfclhmegbddmaa", sum := "e94a7e588a73dbf0392655694b6455c330387cd65c91f7d011d227eb9f2ee2b8", func := "braidwork/braidworklaw13.RaceTurns", spec := "raceTurns", unfollowed := true, recurses := true, apart := false }
def RaceTurnsSaid : Prop := raceTurnsRow.holds Try.pinned (OpenSpec.ofChange raceTurnsSpec)

/-- ITS FALSE NEIGHBOUR: 'it returns false'. Refute it at one input. -/
def raceTurnsWrong : ChangeSpec := { name := "raceTurns", fn := fun _ => fun
  | [d1, d2] => { results := [.lit (.bool false)], args := [d1, d2] }
  | _ => none }
def RaceTurnsWrongFalsely : Prop := raceTurnsRow.holds Try.pinned (OpenSpec.ofChange raceTurnsWrong)

/- THE SECOND FORM. 'bulk': how many values and letters a reading holds, each counted each time it is reached (what is shared counts as often as it is met; a slice's spare places count too). A statement '..UptoSaid' is the law's where the arguments, and the package variables that the reading takes, are together of bulk at most 1048576: NARROWER than '..Said'. Prove '..Said' where nothing that the law and all that it calls make is longer than what came in: it says more and counts as full. Else prove '..UptoSaid'. A law counts once. -/
mutual
def uptoBulk {H : Type} : DataW H → Nat
  | .lit (.string bytes) => bytes.length + 1
  | .lit _ => 1
  | .nil => 1
  | .ptr d => uptoBulk d + 1
  | .slice elems spare => uptoBulkAll elems + uptoBulkAll spare + 1
  | .agg parts => uptoBulkAll parts + 1
  | .iface _ d => uptoBulk d + 1
  | .map entries => uptoBulkEntries entries + 1
  | .held _ => 1
def uptoBulkAll {H : Type} : List (DataW H) → Nat
  | [] => 0
  | d :: r => uptoBulk d + uptoBulkAll r
def uptoBulkEntries {H : Type} : List (Lit × DataW H) → Nat
  | [] => 0
  | x :: r => uptoBulkEntry x + uptoBulkEntries r
def uptoBulkEntry {H : Type} : Lit × DataW H → Nat
  | (.string bytes, d) => bytes.length + uptoBulk d + 1
  | (_, d) => uptoBulk d + 1
 end
def uptoSmall : (H : Type) → List (DataW H) → Bool := fun _ ds => decide (uptoBulkAll ds ≤ 1048576)
def OpenSpec.upto (s : _root_.Go.ChangeSpec) : _root_.Go.OpenSpec := { _root_.Go.OpenSpec.ofChange s with cond := some uptoSmall }

/-- 'braidworklaw12.BraidNormals', WHERE WHAT IT READS IS OF BULK AT MOST 1048576: true; the input reads as it did. -/
def braidNormalsUptoRow : OpenClaim := { program := "ytkfclhmegbddmaa", sum := "e94a7e588a73dbf0392655694b6455c330387cd65c91f7d011d227eb9f2ee2b8", func := "braidwork/braidworklaw12.BraidNormals", spec := "braidNormals", unfollowed := true, recurses := true, apart := false, narrowed := true }
def BraidNormalsUptoSaid : Prop := braidNormalsUptoRow.holds Try.pinned (OpenSpec.upto braidNormalsSpec)

/-- 'braidworklaw12.BraidTwice', WHERE WHAT IT READS IS OF BULK AT MOST 1048576: true; the input reads as it did. -/
def braidTwiceUptoRow : OpenClaim := { program := "ytkfclhmegbddmaa", sum := "e94a7e588a73dbf0392655694b6455c330387cd65c91f7d011d227eb9f2ee2b8", func := "braidwork/braidworklaw12.BraidTwice", spec := "braidTwice", unfollowed := true, recurses := true, apart := false, narrowed := true }
def BraidTwiceUptoSaid : Prop := braidTwiceUptoRow.holds Try.pinned (OpenSpec.upto braidTwiceSpec)

/-- 'braidworklaw12.BraidInitials', WHERE WHAT IT READS IS OF BULK AT MOST 1048576: true; the input reads as it did. -/
def braidInitialsUptoRow : OpenClaim := { program := "ytkfclhmegbddmaa", sum := "e94a7e588a73dbf0392655694b6455c330387cd65c91f7d011d227eb9f2ee2b8", func := "braidwork/braidworklaw12.BraidInitials", spec := "braidInitials", unfollowed := true, recurses := true, apart := false, narrowed := true }
def BraidInitialsUptoSaid : Prop := braidInitialsUptoRow.holds Try.pinned (OpenSpec.upto braidInitialsSpec)

/-- 'braidworklaw12.BraidSwaps', WHERE WHAT IT READS IS OF BULK AT MOST 1048576: true; the input reads as it did. -/
def braidSwapsUptoRow : OpenClaim := { program := "ytkfclhmegbddmaa", sum := "e94a7e588a73dbf0392655694b6455c330387cd65c91f7d011d227eb9f2ee2b8", func := "braidwork/braidworklaw12.BraidSwaps", spec := "braidSwaps", unfollowed := true, recurses := true, apart := false, narrowed := true }
def BraidSwapsUptoSaid : Prop := braidSwapsUptoRow.holds Try.pinned (OpenSpec.upto braidSwapsSpec)

/-- 'braidworklaw12.BraidPairs', WHERE WHAT IT READS IS OF BULK AT MOST 1048576: true; the input reads as it did. -/
def braidPairsUptoRow : OpenClaim := { program := "ytkfclhmegbddmaa", sum := "e94a7e588a73dbf0392655694b6455c330387cd65c91f7d011d227eb9f2ee2b8", func := "braidwork/braidworklaw12.BraidPairs", spec := "braidPairs", unfollowed := true, recurses := true, apart := false, narrowed := true }
def BraidPairsUptoSaid : Prop := braidPairsUptoRow.holds Try.pinned (OpenSpec.upto braidPairsSpec)

/-- 'braidworklaw13.RaceAll', WHERE WHAT IT READS IS OF BULK AT MOST 1048576: true; the input reads as it did. -/
def raceAllUptoRow : OpenClaim := { program := "ytkfclhmegbddmaa", sum := "e94a7e588a73dbf0392655694b6455c330387cd65c91f7d011d227eb9f2ee2b8", func := "braidwork/braidworklaw13.RaceAll", spec := "raceAll", unfollowed := true, recurses := true, apart := false, narrowed := true }
def RaceAllUptoSaid : Prop := raceAllUptoRow.holds Try.pinned (OpenSpec.upto raceAllSpec)

/-- 'braidworklaw13.RaceCovers', WHERE WHAT IT READS IS OF BULK AT MOST 1048576: true; the input reads as it did. -/
def raceCoversUptoRow : OpenClaim := { program := "ytkfclhmegbddmaa", sum := "e94a7e588a73dbf0392655694b6455c330387cd65c91f7d011d227eb9f2ee2b8", func := "braidwork/braidworklaw13.RaceCovers", spec := "raceCovers", unfollowed := true, recurses := true, apart := false, narrowed := true }
def RaceCoversUptoSaid : Prop := raceCoversUptoRow.holds Try.pinned (OpenSpec.upto raceCoversSpec)

/-- 'braidworklaw12.BraidWhole', WHERE WHAT IT READS IS OF BULK AT MOST 1048576: true; the input reads as it did. -/
def braidWholeUptoRow : OpenClaim := { program := "ytkfclhmegbddmaa", sum := "e94a7e588a73dbf0392655694b6455c330387cd65c91f7d011d227eb9f2ee2b8", func := "braidwork/braidworklaw12.BraidWhole", spec := "braidWhole", unfollowed := true, recurses := true, apart := false, narrowed := true }
def BraidWholeUptoSaid : Prop := braidWholeUptoRow.holds Try.pinned (OpenSpec.upto braidWholeSpec)

/-- 'braidworklaw13.RaceSwaps', WHERE WHAT IT READS IS OF BULK AT MOST 1048576: true; the input reads as it did. -/
def raceSwapsUptoRow : OpenClaim := { program := "ytkfclhmegbddmaa", sum := "e94a7e588a73dbf0392655694b6455c330387cd65c91f7d011d227eb9f2ee2b8", func := "braidwork/braidworklaw13.RaceSwaps", spec := "raceSwaps", unfollowed := true, recurses := true, apart := false, narrowed := true }
def RaceSwapsUptoSaid : Prop := raceSwapsUptoRow.holds Try.pinned (OpenSpec.upto raceSwapsSpec)

/-- 'braidworklaw13.RaceTurns', WHERE WHAT IT READS IS OF BULK AT MOST 1048576: true; the input reads as it did. -/
def raceTurnsUptoRow : OpenClaim := { program := "ytkfclhmegbddmaa", sum := "e94a7e588a73dbf0392655694b6455c330387cd65c91f7d011d227eb9f2ee2b8", func := "braidwork/braidworklaw13.RaceTurns", spec := "raceTurns", unfollowed := true, recurses := true, apart := false, narrowed := true }
def RaceTurnsUptoSaid : Prop := raceTurnsUptoRow.holds Try.pinned (OpenSpec.upto raceTurnsSpec)

end Rows
end Go.Proofs.Ytkfclhmegbddmaa
