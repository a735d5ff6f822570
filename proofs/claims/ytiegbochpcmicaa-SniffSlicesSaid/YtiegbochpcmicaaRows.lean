/-
  No cell of these rows narrows 'for every input' (looked for: loops, veiled, ifaces, maps, wideKeys, modest, calm, conditions, laid).
  DERIVED. THE GIVEN ROWS OF THIS SEAT. 17 by the template 'for every input the law returns true; each argument reads behind the call as it read before'; 0 by the template 'total and deterministic' (their statements: YtiegbochpcmicaaTotals.lean).
  GIVEN WITH THE SEED: the statements are not yours to turn. If you find one false, say at which input.
  Laid BY PROGRAM, IN A SANDBOX (cutbox-rows.mjs): the forced cells as the released guide's own fill.sh prints them over the translation 1ab02e6a8d4bd541… (all of the seat's roots in one cut). By AI agents, Wed Nov 11 2026. No macro, syntax, notation, axiom, sorry.
-/
import Derived.Test.YtiegbochpcmicaaChecked
import GoSem.Claim
import GoSem.ClaimJoined
import GoSem.ClaimMapViews
import Derived.JoinedTies
import Derived.KernelRfl
namespace Go.Proofs.Ytiegbochpcmicaa
/- THE CELL 'sum', in the pinned program and in every row, IS THE sha256 OF THE DUMP (.gsa) THAT YtiegbochpcmicaaProg.lean LOADS. Nothing in Lean hashes anything: it is a label: what it is worth is what the hold of that sum in a sandbox is worth. -/
noncomputable def Try.pinned : Pinned := { name := "ytiegbochpcmicaa", sum := "1ab02e6a8d4bd541675833e6b60a05d34a966d51aa28fa6e5b121a57249b6090", checked := Try.checked }
namespace Rows
def none {H : Type} : Left H := { results := [], args := [] }

/-- 'rubriclaw02.WideItems': WHATEVER THE INPUT: true; the input reads as it did. -/
def wideItemsSpec : ChangeSpec := { name := "wideItems", fn := fun _ => fun
  | [d1, d2] => { results := [.lit (.bool true)], args := [d1, d2] }
  | _ => none }
def wideItemsRow : OpenClaim := { program := "ytiegbochpcmicaa", sum := "1ab02e6a8d4bd541675833e6b60a05d34a966d51aa28fa6e5b121a57249b6090", func := "rubric/rubriclaw02.WideItems", spec := "wideItems", unfollowed := true, recurses := true, apart := false }
def WideItemsSaid : Prop := wideItemsRow.holds Try.pinned (OpenSpec.ofChange wideItemsSpec)

/-- ITS FALSE NEIGHBOUR: 'it returns false'. Refute it at one input. -/
def wideItemsWrong : ChangeSpec := { name := "wideItems", fn := fun _ => fun
  | [d1, d2] => { results := [.lit (.bool false)], args := [d1, d2] }
  | _ => none }
def WideItemsWrongFalsely : Prop := wideItemsRow.holds Try.pinned (OpenSpec.ofChange wideItemsWrong)

/-- 'rubriclaw02.WideTurned': WHATEVER THE INPUT: true; the input reads as it did. -/
def wideTurnedSpec : ChangeSpec := { name := "wideTurned", fn := fun _ => fun
  | [d1, d2] => { results := [.lit (.bool true)], args := [d1, d2] }
  | _ => none }
def wideTurnedRow : OpenClaim := { program := "ytiegbochpcmicaa", sum := "1ab02e6a8d4bd541675833e6b60a05d34a966d51aa28fa6e5b121a57249b6090", func := "rubric/rubriclaw02.WideTurned", spec := "wideTurned", unfollowed := true, recurses := true, apart := false }
def WideTurnedSaid : Prop := wideTurnedRow.holds Try.pinned (OpenSpec.ofChange wideTurnedSpec)

/-- ITS FALSE NEIGHBOUR: 'it returns false'. Refute it at one input. -/
def wideTurnedWrong : ChangeSpec := { name := "wideTurned", fn := fun _ => fun
  | [d1, d2] => { results := [.lit (.bool false)], args := [d1, d2] }
  | _ => none }
def WideTurnedWrongFalsely : Prop := wideTurnedRow.holds Try.pinned (OpenSpec.ofChange wideTurnedWrong)

/-- 'rubriclaw01.ScanWhole': WHATEVER THE INPUT: true; the input reads as it did. -/
def scanWholeSpec : ChangeSpec := { name := "scanWhole", fn := fun _ => fun
  | [d] => { results := [.lit (.bool true)], args := [d] }
  | _ => none }
def scanWholeRow : OpenClaim := { program := "ytiegbochpcmicaa", sum := "1ab02e6a8d4bd541675833e6b60a05d34a966d51aa28fa6e5b121a57249b6090", func := "rubric/rubriclaw01.ScanWhole", spec := "scanWhole", apart := false }
def ScanWholeSaid : Prop := scanWholeRow.holds Try.pinned (OpenSpec.ofChange scanWholeSpec)

/-- ITS FALSE NEIGHBOUR: 'it returns false'. Refute it at one input. -/
def scanWholeWrong : ChangeSpec := { name := "scanWhole", fn := fun _ => fun
  | [d] => { results := [.lit (.bool false)], args := [d] }
  | _ => none }
def ScanWholeWrongFalsely : Prop := scanWholeRow.holds Try.pinned (OpenSpec.ofChange scanWholeWrong)

/-- 'rubriclaw01.ScanItems': WHATEVER THE INPUT: true; the input reads as it did. -/
def scanItemsSpec : ChangeSpec := { name := "scanItems", fn := fun _ => fun
  | [d] => { results := [.lit (.bool true)], args := [d] }
  | _ => none }
def scanItemsRow : OpenClaim := { program := "ytiegbochpcmicaa", sum := "1ab02e6a8d4bd541675833e6b60a05d34a966d51aa28fa6e5b121a57249b6090", func := "rubric/rubriclaw01.ScanItems", spec := "scanItems", apart := false }
def ScanItemsSaid : Prop := scanItemsRow.holds Try.pinned (OpenSpec.ofChange scanItemsSpec)

/-- ITS FALSE NEIGHBOUR: 'it returns false'. Refute it at one input. -/
def scanItemsWrong : ChangeSpec := { name := "scanItems", fn := fun _ => fun
  | [d] => { results := [.lit (.bool false)], args := [d] }
  | _ => none }
def ScanItemsWrongFalsely : Prop := scanItemsRow.holds Try.pinned (OpenSpec.ofChange scanItemsWrong)

/-- 'rubriclaw01.ScanBytes': WHATEVER THE INPUT: true; the input reads as it did. -/
def scanBytesSpec : ChangeSpec := { name := "scanBytes", fn := fun _ => fun
  | [d] => { results := [.lit (.bool true)], args := [d] }
  | _ => none }
def scanBytesRow : OpenClaim := { program := "ytiegbochpcmicaa", sum := "1ab02e6a8d4bd541675833e6b60a05d34a966d51aa28fa6e5b121a57249b6090", func := "rubric/rubriclaw01.ScanBytes", spec := "scanBytes", apart := false }
def ScanBytesSaid : Prop := scanBytesRow.holds Try.pinned (OpenSpec.ofChange scanBytesSpec)

/-- ITS FALSE NEIGHBOUR: 'it returns false'. Refute it at one input. -/
def scanBytesWrong : ChangeSpec := { name := "scanBytes", fn := fun _ => fun
  | [d] => { results := [.lit (.bool false)], args := [d] }
  | _ => none }
def ScanBytesWrongFalsely : Prop := scanBytesRow.holds Try.pinned (OpenSpec.ofChange scanBytesWrong)

/-- 'rubriclaw01.ScanFirst': WHATEVER THE INPUT: true; the input reads as it did. -/
def scanFirstSpec : ChangeSpec := { name := "scanFirst", fn := fun _ => fun
  | [d] => { results := [.lit (.bool true)], args := [d] }
  | _ => none }
def scanFirstRow : OpenClaim := { program := "ytiegbochpcmicaa", sum := "1ab02e6a8d4bd541675833e6b60a05d34a966d51aa28fa6e5b121a57249b6090", func := "rubric/rubriclaw01.ScanFirst", spec := "scanFirst", apart := false }
def ScanFirstSaid : Prop := scanFirstRow.holds Try.pinned (OpenSpec.ofChange scanFirstSpec)

/-- ITS FALSE NEIGHBOUR: 'it returns false'. Refute it at one input. -/
def scanFirstWrong : ChangeSpec := { name := "scanFirst", fn := fun _ => fun
  | [d] => { results := [.lit (.bool false)], args := [d] }
  | _ => none }
def ScanFirstWrongFalsely : Prop := scanFirstRow.holds Try.pinned (OpenSpec.ofChange scanFirstWrong)

/-- 'rubriclaw01.ScanBack': WHATEVER THE INPUT: true; the input reads as it did. -/
def scanBackSpec : ChangeSpec := { name := "scanBack", fn := fun _ => fun
  | [d1, d2] => { results := [.lit (.bool true)], args := [d1, d2] }
  | _ => none }
def scanBackRow : OpenClaim := { program := "ytiegbochpcmicaa", sum := "1ab02e6a8d4bd541675833e6b60a05d34a966d51aa28fa6e5b121a57249b6090", func := "rubric/rubriclaw01.ScanBack", spec := "scanBack", apart := false }
def ScanBackSaid : Prop := scanBackRow.holds Try.pinned (OpenSpec.ofChange scanBackSpec)

/-- ITS FALSE NEIGHBOUR: 'it returns false'. Refute it at one input. -/
def scanBackWrong : ChangeSpec := { name := "scanBack", fn := fun _ => fun
  | [d1, d2] => { results := [.lit (.bool false)], args := [d1, d2] }
  | _ => none }
def ScanBackWrongFalsely : Prop := scanBackRow.holds Try.pinned (OpenSpec.ofChange scanBackWrong)

/-- 'rubriclaw02.WideBytes': WHATEVER THE INPUT: true; the input reads as it did. -/
def wideBytesSpec : ChangeSpec := { name := "wideBytes", fn := fun _ => fun
  | [d1, d2] => { results := [.lit (.bool true)], args := [d1, d2] }
  | _ => none }
def wideBytesRow : OpenClaim := { program := "ytiegbochpcmicaa", sum := "1ab02e6a8d4bd541675833e6b60a05d34a966d51aa28fa6e5b121a57249b6090", func := "rubric/rubriclaw02.WideBytes", spec := "wideBytes", unfollowed := true, recurses := true, apart := false }
def WideBytesSaid : Prop := wideBytesRow.holds Try.pinned (OpenSpec.ofChange wideBytesSpec)

/-- ITS FALSE NEIGHBOUR: 'it returns false'. Refute it at one input. -/
def wideBytesWrong : ChangeSpec := { name := "wideBytes", fn := fun _ => fun
  | [d1, d2] => { results := [.lit (.bool false)], args := [d1, d2] }
  | _ => none }
def WideBytesWrongFalsely : Prop := wideBytesRow.holds Try.pinned (OpenSpec.ofChange wideBytesWrong)

/-- 'rubriclaw02.WideBack': WHATEVER THE INPUT: true; the input reads as it did. -/
def wideBackSpec : ChangeSpec := { name := "wideBack", fn := fun _ => fun
  | [d1, d2] => { results := [.lit (.bool true)], args := [d1, d2] }
  | _ => none }
def wideBackRow : OpenClaim := { program := "ytiegbochpcmicaa", sum := "1ab02e6a8d4bd541675833e6b60a05d34a966d51aa28fa6e5b121a57249b6090", func := "rubric/rubriclaw02.WideBack", spec := "wideBack", unfollowed := true, recurses := true, apart := false }
def WideBackSaid : Prop := wideBackRow.holds Try.pinned (OpenSpec.ofChange wideBackSpec)

/-- ITS FALSE NEIGHBOUR: 'it returns false'. Refute it at one input. -/
def wideBackWrong : ChangeSpec := { name := "wideBack", fn := fun _ => fun
  | [d1, d2] => { results := [.lit (.bool false)], args := [d1, d2] }
  | _ => none }
def WideBackWrongFalsely : Prop := wideBackRow.holds Try.pinned (OpenSpec.ofChange wideBackWrong)

/-- 'rubriclaw03.SniffDecodes': WHATEVER THE INPUT: true; the input reads as it did. -/
def sniffDecodesSpec : ChangeSpec := { name := "sniffDecodes", fn := fun _ => fun
  | [d] => { results := [.lit (.bool true)], args := [d] }
  | _ => none }
def sniffDecodesRow : OpenClaim := { program := "ytiegbochpcmicaa", sum := "1ab02e6a8d4bd541675833e6b60a05d34a966d51aa28fa6e5b121a57249b6090", func := "rubric/rubriclaw03.SniffDecodes", spec := "sniffDecodes", unfollowed := true, recurses := true, apart := false }
def SniffDecodesSaid : Prop := sniffDecodesRow.holds Try.pinned (OpenSpec.ofChange sniffDecodesSpec)

/-- ITS FALSE NEIGHBOUR: 'it returns false'. Refute it at one input. -/
def sniffDecodesWrong : ChangeSpec := { name := "sniffDecodes", fn := fun _ => fun
  | [d] => { results := [.lit (.bool false)], args := [d] }
  | _ => none }
def SniffDecodesWrongFalsely : Prop := sniffDecodesRow.holds Try.pinned (OpenSpec.ofChange sniffDecodesWrong)

/-- 'rubriclaw03.SniffPieces': WHATEVER THE INPUT: true; the input reads as it did. -/
def sniffPiecesSpec : ChangeSpec := { name := "sniffPieces", fn := fun _ => fun
  | [d1, d2] => { results := [.lit (.bool true)], args := [d1, d2] }
  | _ => none }
def sniffPiecesRow : OpenClaim := { program := "ytiegbochpcmicaa", sum := "1ab02e6a8d4bd541675833e6b60a05d34a966d51aa28fa6e5b121a57249b6090", func := "rubric/rubriclaw03.SniffPieces", spec := "sniffPieces", unfollowed := true, recurses := true, apart := false }
def SniffPiecesSaid : Prop := sniffPiecesRow.holds Try.pinned (OpenSpec.ofChange sniffPiecesSpec)

/-- ITS FALSE NEIGHBOUR: 'it returns false'. Refute it at one input. -/
def sniffPiecesWrong : ChangeSpec := { name := "sniffPieces", fn := fun _ => fun
  | [d1, d2] => { results := [.lit (.bool false)], args := [d1, d2] }
  | _ => none }
def SniffPiecesWrongFalsely : Prop := sniffPiecesRow.holds Try.pinned (OpenSpec.ofChange sniffPiecesWrong)

/-- 'rubriclaw03.SniffFits': WHATEVER THE INPUT: true; the input reads as it did. -/
def sniffFitsSpec : ChangeSpec := { name := "sniffFits", fn := fun _ => fun
  | [d1, d2] => { results := [.lit (.bool true)], args := [d1, d2] }
  | _ => none }
def sniffFitsRow : OpenClaim := { program := "ytiegbochpcmicaa", sum := "1ab02e6a8d4bd541675833e6b60a05d34a966d51aa28fa6e5b121a57249b6090", func := "rubric/rubriclaw03.SniffFits", spec := "sniffFits", unfollowed := true, recurses := true, apart := false }
def SniffFitsSaid : Prop := sniffFitsRow.holds Try.pinned (OpenSpec.ofChange sniffFitsSpec)

/-- ITS FALSE NEIGHBOUR: 'it returns false'. Refute it at one input. -/
def sniffFitsWrong : ChangeSpec := { name := "sniffFits", fn := fun _ => fun
  | [d1, d2] => { results := [.lit (.bool false)], args := [d1, d2] }
  | _ => none }
def SniffFitsWrongFalsely : Prop := sniffFitsRow.holds Try.pinned (OpenSpec.ofChange sniffFitsWrong)

/-- 'rubriclaw03.SniffWhole': WHATEVER THE INPUT: true; the input reads as it did. -/
def sniffWholeSpec : ChangeSpec := { name := "sniffWhole", fn := fun _ => fun
  | [d] => { results := [.lit (.bool true)], args := [d] }
  | _ => none }
def sniffWholeRow : OpenClaim := { program := "ytiegbochpcmicaa", sum := "1ab02e6a8d4bd541675833e6b60a05d34a966d51aa28fa6e5b121a57249b6090", func := "rubric/rubriclaw03.SniffWhole", spec := "sniffWhole", unfollowed := true, recurses := true, apart := false }
def SniffWholeSaid : Prop := sniffWholeRow.holds Try.pinned (OpenSpec.ofChange sniffWholeSpec)

/-- ITS FALSE NEIGHBOUR: 'it returns false'. Refute it at one input. -/
def sniffWholeWrong : ChangeSpec := { name := "sniffWhole", fn := fun _ => fun
  | [d] => { results := [.lit (.bool false)], args := [d] }
  | _ => none }
def SniffWholeWrongFalsely : Prop := sniffWholeRow.holds Try.pinned (OpenSpec.ofChange sniffWholeWrong)

/-- 'rubriclaw03.SniffEncodes': WHATEVER THE INPUT: true; the input reads as it did. -/
def sniffEncodesSpec : ChangeSpec := { name := "sniffEncodes", fn := fun _ => fun
  | [d1, d2] => { results := [.lit (.bool true)], args := [d1, d2] }
  | _ => none }
def sniffEncodesRow : OpenClaim := { program := "ytiegbochpcmicaa", sum := "1ab02e6a8d4bd541675833e6b60a05d34a966d51aa28fa6e5b121a57249b6090", func := "rubric/rubriclaw03.SniffEncodes", spec := "sniffEncodes", unfollowed := true, recurses := true, apart := false }
def SniffEncodesSaid : Prop := sniffEncodesRow.holds Try.pinned (OpenSpec.ofChange sniffEncodesSpec)

/-- ITS FALSE NEIGHBOUR: 'it returns false'. Refute it at one input. -/
def sniffEncodesWrong : ChangeSpec := { name := "sniffEncodes", fn := fun _ => fun
  | [d1, d2] => { results := [.lit (.bool false)], args := [d1, d2] }
  | _ => none }
def SniffEncodesWrongFalsely : Prop := sniffEncodesRow.holds Try.pinned (OpenSpec.ofChange sniffEncodesWrong)

/-- 'rubriclaw03.SniffBack': WHATEVER THE INPUT: true; the input reads as it did. -/
def sniffBackSpec : ChangeSpec := { name := "sniffBack", fn := fun _ => fun
  | [d1, d2] => { results := [.lit (.bool true)], args := [d1, d2] }
  | _ => none }
def sniffBackRow : OpenClaim := { program := "ytiegbochpcmicaa", sum := "1ab02e6a8d4bd541675833e6b60a05d34a966d51aa28fa6e5b121a57249b6090", func := "rubric/rubriclaw03.SniffBack", spec := "sniffBack", unfollowed := true, recurses := true, apart := false }
def SniffBackSaid : Prop := sniffBackRow.holds Try.pinned (OpenSpec.ofChange sniffBackSpec)

/-- ITS FALSE NEIGHBOUR: 'it returns false'. Refute it at one input. -/
def sniffBackWrong : ChangeSpec := { name := "sniffBack", fn := fun _ => fun
  | [d1, d2] => { results := [.lit (.bool false)], args := [d1, d2] }
  | _ => none }
def SniffBackWrongFalsely : Prop := sniffBackRow.holds Try.pinned (OpenSpec.ofChange sniffBackWrong)

/-- 'rubriclaw03.SniffOffsets': WHATEVER THE INPUT: true; the input reads as it did. -/
def sniffOffsetsSpec : ChangeSpec := { name := "sniffOffsets", fn := fun _ => fun
  | [d1, d2] => { results := [.lit (.bool true)], args := [d1, d2] }
  | _ => none }
def sniffOffsetsRow : OpenClaim := { program := "ytiegbochpcmicaa", sum := "1ab02e6a8d4bd541675833e6b60a05d34a966d51aa28fa6e5b121a57249b6090", func := "rubric/rubriclaw03.SniffOffsets", spec := "sniffOffsets", unfollowed := true, recurses := true, apart := false }
def SniffOffsetsSaid : Prop := sniffOffsetsRow.holds Try.pinned (OpenSpec.ofChange sniffOffsetsSpec)

/-- ITS FALSE NEIGHBOUR: 'it returns false'. Refute it at one input. -/
def sniffOffsetsWrong : ChangeSpec := { name := "sniffOffsets", fn := fun _ => fun
  | [d1, d2] => { results := [.lit (.bool false)], args := [d1, d2] }
  | _ => none }
def SniffOffsetsWrongFalsely : Prop := sniffOffsetsRow.holds Try.pinned (OpenSpec.ofChange sniffOffsetsWrong)

/-- 'rubriclaw03.SniffSlices': WHATEVER THE INPUT: true; the input reads as it did. -/
def sniffSlicesSpec : ChangeSpec := { name := "sniffSlices", fn := fun _ => fun
  | [d1, d2, d3, d4] => { results := [.lit (.bool true)], args := [d1, d2, d3, d4] }
  | _ => none }
def sniffSlicesRow : OpenClaim := { program := "ytiegbochpcmicaa", sum := "1ab02e6a8d4bd541675833e6b60a05d34a966d51aa28fa6e5b121a57249b6090", func := "rubric/rubriclaw03.SniffSlices", spec := "sniffSlices", inPlace := ["internal/abi.NoEscape"], unfollowed := true, recurses := true, apart := false }
def SniffSlicesSaid : Prop := sniffSlicesRow.holds Try.pinned (OpenSpec.ofChange sniffSlicesSpec)

/-- ITS FALSE NEIGHBOUR: 'it returns false'. Refute it at one input. -/
def sniffSlicesWrong : ChangeSpec := { name := "sniffSlices", fn := fun _ => fun
  | [d1, d2, d3, d4] => { results := [.lit (.bool false)], args := [d1, d2, d3, d4] }
  | _ => none }
def SniffSlicesWrongFalsely : Prop := sniffSlicesRow.holds Try.pinned (OpenSpec.ofChange sniffSlicesWrong)

/- THE SECOND FORM. 'bulk': how many values and letters a reading holds, each counted each time it is reached (what is shared counts as often as it is met; a slice's spare places count too). A statement '..UptoSaid' is the law's where the arguments, and the package variables that the reading takes, are together of bulk at most 1048576: NARROWER than '..Said'. Prove '..Said' where nothing that the law and all that it calls make is longer than what came in: it says more and counts as full. Else prove '..UptoSaid'. A law counts once. -/
mutual
def uptoBulk {H : Type} : DataW H → Nat
  | .lit (.string bytes) => bytes.length + 1
  | .lit _ => 1
  | .nil => 1
  | .ptr d => uptoBulk d + 1
  | .slice elems spare => uptoBulkAll elems + uptoBulkAll spare + 1
  | .agg parts => uptoBulkAll parts + 1
  | .iface _ d => uptoBulk d + 1
  | .map entries => uptoBulkEntries entries + 1
  | .held _ => 1
def uptoBulkAll {H : Type} : List (DataW H) → Nat
  | [] => 0
  | d :: r => uptoBulk d + uptoBulkAll r
def uptoBulkEntries {H : Type} : List (Lit × DataW H) → Nat
  | [] => 0
  | x :: r => uptoBulkEntry x + uptoBulkEntries r
def uptoBulkEntry {H : Type} : Lit × DataW H → Nat
  | (.string bytes, d) => bytes.length + uptoBulk d + 1
  | (_, d) => uptoBulk d + 1
 end
def uptoSmall : (H : Type) → List (DataW H) → Bool := fun _ ds => decide (uptoBulkAll ds ≤ 1048576)
def OpenSpec.upto (s : _root_.Go.ChangeSpec) : _root_.Go.OpenSpec := { _root_.Go.OpenSpec.ofChange s with cond := some uptoSmall }

/-- 'rubriclaw02.WideItems', WHERE WHAT IT READS IS OF BULK AT MOST 1048576: true; the input reads as it did. -/
def wideItemsUptoRow : OpenClaim := { program := "ytiegbochpcmicaa", sum := "1ab02e6a8d4bd541675833e6b60a05d34a966d51aa28fa6e5b121a57249b6090", func := "rubric/rubriclaw02.WideItems", spec := "wideItems", unfollowed := true, recurses := true, apart := false, narrowed := true }
def WideItemsUptoSaid : Prop := wideItemsUptoRow.holds Try.pinned (OpenSpec.upto wideItemsSpec)

/-- 'rubriclaw02.WideTurned', WHERE WHAT IT READS IS OF BULK AT MOST 1048576: true; the input reads as it did. -/
def wideTurnedUptoRow : OpenClaim := { program := "ytiegbochpcmicaa", sum := "1ab02e6a8d4bd541675833e6b60a05d34a966d51aa28fa6e5b121a57249b6090", func := "rubric/rubriclaw02.WideTurned", spec := "wideTurned", unfollowed := true, recurses := true, apart := false, narrowed := true }
def WideTurnedUptoSaid : Prop := wideTurnedUptoRow.holds Try.pinned (OpenSpec.upto wideTurnedSpec)

/-- 'rubriclaw01.ScanWhole', WHERE WHAT IT READS IS OF BULK AT MOST 1048576: true; the input reads as it did. -/
def scanWholeUptoRow : OpenClaim := { program := "ytiegbochpcmicaa", sum := "1ab02e6a8d4bd541675833e6b60a05d34a966d51aa28fa6e5b121a57249b6090", func := "rubric/rubriclaw01.ScanWhole", spec := "scanWhole", apart := false, narrowed := true }
def ScanWholeUptoSaid : Prop := scanWholeUptoRow.holds Try.pinned (OpenSpec.upto scanWholeSpec)

/-- 'rubriclaw01.ScanItems', WHERE WHAT IT READS IS OF BULK AT MOST 1048576: true; the input reads as it did. -/
def scanItemsUptoRow : OpenClaim := { program := "ytiegbochpcmicaa", sum := "1ab02e6a8d4bd541675833e6b60a05d34a966d51aa28fa6e5b121a57249b6090", func := "rubric/rubriclaw01.ScanItems", spec := "scanItems", apart := false, narrowed := true }
def ScanItemsUptoSaid : Prop := scanItemsUptoRow.holds Try.pinned (OpenSpec.upto scanItemsSpec)

/-- 'rubriclaw01.ScanBytes', WHERE WHAT IT READS IS OF BULK AT MOST 1048576: true; the input reads as it did. -/
def scanBytesUptoRow : OpenClaim := { program := "ytiegbochpcmicaa", sum := "1ab02e6a8d4bd541675833e6b60a05d34a966d51aa28fa6e5b121a57249b6090", func := "rubric/rubriclaw01.ScanBytes", spec := "scanBytes", apart := false, narrowed := true }
def ScanBytesUptoSaid : Prop := scanBytesUptoRow.holds Try.pinned (OpenSpec.upto scanBytesSpec)

/-- 'rubriclaw01.ScanFirst', WHERE WHAT IT READS IS OF BULK AT MOST 1048576: true; the input reads as it did. -/
def scanFirstUptoRow : OpenClaim := { program := "ytiegbochpcmicaa", sum := "1ab02e6a8d4bd541675833e6b60a05d34a966d51aa28fa6e5b121a57249b6090", func := "rubric/rubriclaw01.ScanFirst", spec := "scanFirst", apart := false, narrowed := true }
def ScanFirstUptoSaid : Prop := scanFirstUptoRow.holds Try.pinned (OpenSpec.upto scanFirstSpec)

/-- 'rubriclaw01.ScanBack', WHERE WHAT IT READS IS OF BULK AT MOST 1048576: true; the input reads as it did. -/
def scanBackUptoRow : OpenClaim := { program := "ytiegbochpcmicaa", sum := "1ab02e6a8d4bd541675833e6b60a05d34a966d51aa28fa6e5b121a57249b6090", func := "rubric/rubriclaw01.ScanBack", spec := "scanBack", apart := false, narrowed := true }
def ScanBackUptoSaid : Prop := scanBackUptoRow.holds Try.pinned (OpenSpec.upto scanBackSpec)

/-- 'rubriclaw02.WideBytes', WHERE WHAT IT READS IS OF BULK AT MOST 1048576: true; the input reads as it did. -/
def wideBytesUptoRow : OpenClaim := { program := "ytiegbochpcmicaa", sum := "1ab02e6a8d4bd541675833e6b60a05d34a966d51aa28fa6e5b121a57249b6090", func := "rubric/rubriclaw02.WideBytes", spec := "wideBytes", unfollowed := true, recurses := true, apart := false, narrowed := true }
def WideBytesUptoSaid : Prop := wideBytesUptoRow.holds Try.pinned (OpenSpec.upto wideBytesSpec)

/-- 'rubriclaw02.WideBack', WHERE WHAT IT READS IS OF BULK AT MOST 1048576: true; the input reads as it did. -/
def wideBackUptoRow : OpenClaim := { program := "ytiegbochpcmicaa", sum := "1ab02e6a8d4bd541675833e6b60a05d34a966d51aa28fa6e5b121a57249b6090", func := "rubric/rubriclaw02.WideBack", spec := "wideBack", unfollowed := true, recurses := true, apart := false, narrowed := true }
def WideBackUptoSaid : Prop := wideBackUptoRow.holds Try.pinned (OpenSpec.upto wideBackSpec)

/-- 'rubriclaw03.SniffDecodes', WHERE WHAT IT READS IS OF BULK AT MOST 1048576: true; the input reads as it did. -/
def sniffDecodesUptoRow : OpenClaim := { program := "ytiegbochpcmicaa", sum := "1ab02e6a8d4bd541675833e6b60a05d34a966d51aa28fa6e5b121a57249b6090", func := "rubric/rubriclaw03.SniffDecodes", spec := "sniffDecodes", unfollowed := true, recurses := true, apart := false, narrowed := true }
def SniffDecodesUptoSaid : Prop := sniffDecodesUptoRow.holds Try.pinned (OpenSpec.upto sniffDecodesSpec)

/-- 'rubriclaw03.SniffPieces', WHERE WHAT IT READS IS OF BULK AT MOST 1048576: true; the input reads as it did. -/
def sniffPiecesUptoRow : OpenClaim := { program := "ytiegbochpcmicaa", sum := "1ab02e6a8d4bd541675833e6b60a05d34a966d51aa28fa6e5b121a57249b6090", func := "rubric/rubriclaw03.SniffPieces", spec := "sniffPieces", unfollowed := true, recurses := true, apart := false, narrowed := true }
def SniffPiecesUptoSaid : Prop := sniffPiecesUptoRow.holds Try.pinned (OpenSpec.upto sniffPiecesSpec)

/-- 'rubriclaw03.SniffFits', WHERE WHAT IT READS IS OF BULK AT MOST 1048576: true; the input reads as it did. -/
def sniffFitsUptoRow : OpenClaim := { program := "ytiegbochpcmicaa", sum := "1ab02e6a8d4bd541675833e6b60a05d34a966d51aa28fa6e5b121a57249b6090", func := "rubric/rubriclaw03.SniffFits", spec := "sniffFits", unfollowed := true, recurses := true, apart := false, narrowed := true }
def SniffFitsUptoSaid : Prop := sniffFitsUptoRow.holds Try.pinned (OpenSpec.upto sniffFitsSpec)

/-- 'rubriclaw03.SniffWhole', WHERE WHAT IT READS IS OF BULK AT MOST 1048576: true; the input reads as it did. -/
def sniffWholeUptoRow : OpenClaim := { program := "ytiegbochpcmicaa", sum := "1ab02e6a8d4bd541675833e6b60a05d34a966d51aa28fa6e5b121a57249b6090", func := "rubric/rubriclaw03.SniffWhole", spec := "sniffWhole", unfollowed := true, recurses := true, apart := false, narrowed := true }
def SniffWholeUptoSaid : Prop := sniffWholeUptoRow.holds Try.pinned (OpenSpec.upto sniffWholeSpec)

/-- 'rubriclaw03.SniffEncodes', WHERE WHAT IT READS IS OF BULK AT MOST 1048576: true; the input reads as it did. -/
def sniffEncodesUptoRow : OpenClaim := { program := "ytiegbochpcmicaa", sum := "1ab02e6a8d4bd541675833e6b60a05d34a966d51aa28fa6e5b121a57249b6090", func := "rubric/rubriclaw03.SniffEncodes", spec := "sniffEncodes", unfollowed := true, recurses := true, apart := false, narrowed := true }
def SniffEncodesUptoSaid : Prop := sniffEncodesUptoRow.holds Try.pinned (OpenSpec.upto sniffEncodesSpec)

/-- 'rubriclaw03.SniffBack', WHERE WHAT IT READS IS OF BULK AT MOST 1048576: true; the input reads as it did. -/
def sniffBackUptoRow : OpenClaim := { program := "ytiegbochpcmicaa", sum := "1ab02e6a8d4bd541675833e6b60a05d34a966d51aa28fa6e5b121a57249b6090", func := "rubric/rubriclaw03.SniffBack", spec := "sniffBack", unfollowed := true, recurses := true, apart := false, narrowed := true }
def SniffBackUptoSaid : Prop := sniffBackUptoRow.holds Try.pinned (OpenSpec.upto sniffBackSpec)

/-- 'rubriclaw03.SniffOffsets', WHERE WHAT IT READS IS OF BULK AT MOST 1048576: true; the input reads as it did. -/
def sniffOffsetsUptoRow : OpenClaim := { program := "ytiegbochpcmicaa", sum := "1ab02e6a8d4bd541675833e6b60a05d34a966d51aa28fa6e5b121a57249b6090", func := "rubric/rubriclaw03.SniffOffsets", spec := "sniffOffsets", unfollowed := true, recurses := true, apart := false, narrowed := true }
def SniffOffsetsUptoSaid : Prop := sniffOffsetsUptoRow.holds Try.pinned (OpenSpec.upto sniffOffsetsSpec)

/-- 'rubriclaw03.SniffSlices', WHERE WHAT IT READS IS OF BULK AT MOST 1048576: true; the input reads as it did. -/
def sniffSlicesUptoRow : OpenClaim := { program := "ytiegbochpcmicaa", sum := "1ab02e6a8d4bd541675833e6b60a05d34a966d51aa28fa6e5b121a57249b6090", func := "rubric/rubriclaw03.SniffSlices", spec := "sniffSlices", inPlace := ["internal/abi.NoEscape"], unfollowed := true, recurses := true, apart := false, narrowed := true }
def SniffSlicesUptoSaid : Prop := sniffSlicesUptoRow.holds Try.pinned (OpenSpec.upto sniffSlicesSpec)

end Rows
end Go.Proofs.Ytiegbochpcmicaa
