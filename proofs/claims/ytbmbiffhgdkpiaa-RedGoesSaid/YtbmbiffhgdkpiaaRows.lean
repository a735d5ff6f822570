/-
  No cell of these rows narrows 'for every input' (looked for: loops, veiled, ifaces, maps, wideKeys, modest, calm, conditions, laid).
  DERIVED. THE GIVEN ROWS OF THIS SEAT. 9 by the template 'for every input the law returns true; each argument reads behind the call as it read before'; 0 by the template 'total and deterministic' (their statements: YtbmbiffhgdkpiaaTotals.lean).
  GIVEN WITH THE SEED: the statements are not yours to turn. If you find one false, say at which input.
  Laid BY PROGRAM, IN A SANDBOX (cutbox-rows.mjs): the forced cells as the released guide's own fill.sh prints them over the translation 1d74b5dfb2479f09… (all of the seat's roots in one cut). By AI agents, Wed Nov 11 2026. No macro, syntax, notation, axiom, sorry.
-/
import Derived.Test.YtbmbiffhgdkpiaaChecked
import GoSem.Claim
import GoSem.ClaimJoined
import GoSem.ClaimMapViews
import Derived.JoinedTies
import Derived.KernelRfl
namespace Go.Proofs.Ytbmbiffhgdkpiaa
/- THE CELL 'sum', in the pinned program and in every row, IS THE sha256 OF THE DUMP (.gsa) THAT YtbmbiffhgdkpiaaProg.lean LOADS. Nothing in Lean hashes anything: it is a label: what it is worth is what the hold of that sum in a sandbox is worth. -/
noncomputable def Try.pinned : Pinned := { name := "ytbmbiffhgdkpiaa", sum := "1d74b5dfb2479f09b876c61d92543c5cb6d2fd123712f983c636715562fa645e", checked := Try.checked }
namespace Rows
def none {H : Type} : Left H := { results := [], args := [] }

/-- 'rubriclaw10.GreenPlays': WHATEVER THE INPUT: true; the input reads as it did. -/
def greenPlaysSpec : ChangeSpec := { name := "greenPlays", fn := fun _ => fun
  | [d] => { results := [.lit (.bool true)], args := [d] }
  | _ => none }
def greenPlaysRow : OpenClaim := { program := "ytbmbiffhgdkpiaa", sum := "1d74b5dfb2479f09b876c61d92543c5cb6d2fd123712f983c636715562fa645e", func := "rubric/rubriclaw10.GreenPlays", spec := "greenPlays", recurses := true, apart := false }
def GreenPlaysSaid : Prop := greenPlaysRow.holds Try.pinned (OpenSpec.ofChange greenPlaysSpec)

/-- ITS FALSE NEIGHBOUR: 'it returns false'. Refute it at one input. -/
def greenPlaysWrong : ChangeSpec := { name := "greenPlays", fn := fun _ => fun
  | [d] => { results := [.lit (.bool false)], args := [d] }
  | _ => none }
def GreenPlaysWrongFalsely : Prop := greenPlaysRow.holds Try.pinned (OpenSpec.ofChange greenPlaysWrong)

/-- 'rubriclaw10.GreenWidth': WHATEVER THE INPUT: true; the input reads as it did. -/
def greenWidthSpec : ChangeSpec := { name := "greenWidth", fn := fun _ => fun
  | [d1, d2, d3] => { results := [.lit (.bool true)], args := [d1, d2, d3] }
  | _ => none }
def greenWidthRow : OpenClaim := { program := "ytbmbiffhgdkpiaa", sum := "1d74b5dfb2479f09b876c61d92543c5cb6d2fd123712f983c636715562fa645e", func := "rubric/rubriclaw10.GreenWidth", spec := "greenWidth", recurses := true, apart := false }
def GreenWidthSaid : Prop := greenWidthRow.holds Try.pinned (OpenSpec.ofChange greenWidthSpec)

/-- ITS FALSE NEIGHBOUR: 'it returns false'. Refute it at one input. -/
def greenWidthWrong : ChangeSpec := { name := "greenWidth", fn := fun _ => fun
  | [d1, d2, d3] => { results := [.lit (.bool false)], args := [d1, d2, d3] }
  | _ => none }
def GreenWidthWrongFalsely : Prop := greenWidthRow.holds Try.pinned (OpenSpec.ofChange greenWidthWrong)

/-- 'rubriclaw10.GreenKeeps': WHATEVER THE INPUT: true; the input reads as it did. -/
def greenKeepsSpec : ChangeSpec := { name := "greenKeeps", fn := fun _ => fun
  | [d1, d2, d3, d4] => { results := [.lit (.bool true)], args := [d1, d2, d3, d4] }
  | _ => none }
def greenKeepsRow : OpenClaim := { program := "ytbmbiffhgdkpiaa", sum := "1d74b5dfb2479f09b876c61d92543c5cb6d2fd123712f983c636715562fa645e", func := "rubric/rubriclaw10.GreenKeeps", spec := "greenKeeps", recurses := true, apart := false }
def GreenKeepsSaid : Prop := greenKeepsRow.holds Try.pinned (OpenSpec.ofChange greenKeepsSpec)

/-- ITS FALSE NEIGHBOUR: 'it returns false'. Refute it at one input. -/
def greenKeepsWrong : ChangeSpec := { name := "greenKeeps", fn := fun _ => fun
  | [d1, d2, d3, d4] => { results := [.lit (.bool false)], args := [d1, d2, d3, d4] }
  | _ => none }
def GreenKeepsWrongFalsely : Prop := greenKeepsRow.holds Try.pinned (OpenSpec.ofChange greenKeepsWrong)

/-- 'rubriclaw10.GreenNil': WHATEVER THE INPUT: true; the input reads as it did. -/
def greenNilSpec : ChangeSpec := { name := "greenNil", fn := fun _ => fun
  | [d1, d2] => { results := [.lit (.bool true)], args := [d1, d2] }
  | _ => none }
def greenNilRow : OpenClaim := { program := "ytbmbiffhgdkpiaa", sum := "1d74b5dfb2479f09b876c61d92543c5cb6d2fd123712f983c636715562fa645e", func := "rubric/rubriclaw10.GreenNil", spec := "greenNil", apart := false }
def GreenNilSaid : Prop := greenNilRow.holds Try.pinned (OpenSpec.ofChange greenNilSpec)

/-- ITS FALSE NEIGHBOUR: 'it returns false'. Refute it at one input. -/
def greenNilWrong : ChangeSpec := { name := "greenNil", fn := fun _ => fun
  | [d1, d2] => { results := [.lit (.bool false)], args := [d1, d2] }
  | _ => none }
def GreenNilWrongFalsely : Prop := greenNilRow.holds Try.pinned (OpenSpec.ofChange greenNilWrong)

/-- 'rubriclaw11.RedSeeks': WHATEVER THE INPUT: true; the input reads as it did. -/
def redSeeksSpec : ChangeSpec := { name := "redSeeks", fn := fun _ => fun
  | [d1, d2, d3] => { results := [.lit (.bool true)], args := [d1, d2, d3] }
  | _ => none }
def redSeeksRow : OpenClaim := { program := "ytbmbiffhgdkpiaa", sum := "1d74b5dfb2479f09b876c61d92543c5cb6d2fd123712f983c636715562fa645e", func := "rubric/rubriclaw11.RedSeeks", spec := "redSeeks", recurses := true, apart := false }
def RedSeeksSaid : Prop := redSeeksRow.holds Try.pinned (OpenSpec.ofChange redSeeksSpec)

/-- ITS FALSE NEIGHBOUR: 'it returns false'. Refute it at one input. -/
def redSeeksWrong : ChangeSpec := { name := "redSeeks", fn := fun _ => fun
  | [d1, d2, d3] => { results := [.lit (.bool false)], args := [d1, d2, d3] }
  | _ => none }
def RedSeeksWrongFalsely : Prop := redSeeksRow.holds Try.pinned (OpenSpec.ofChange redSeeksWrong)

/-- 'rubriclaw11.RedNil': WHATEVER THE INPUT: true; the input reads as it did. -/
def redNilSpec : ChangeSpec := { name := "redNil", fn := fun _ => fun
  | [d] => { results := [.lit (.bool true)], args := [d] }
  | _ => none }
def redNilRow : OpenClaim := { program := "ytbmbiffhgdkpiaa", sum := "1d74b5dfb2479f09b876c61d92543c5cb6d2fd123712f983c636715562fa645e", func := "rubric/rubriclaw11.RedNil", spec := "redNil", apart := false }
def RedNilSaid : Prop := redNilRow.holds Try.pinned (OpenSpec.ofChange redNilSpec)

/-- ITS FALSE NEIGHBOUR: 'it returns false'. Refute it at one input. -/
def redNilWrong : ChangeSpec := { name := "redNil", fn := fun _ => fun
  | [d] => { results := [.lit (.bool false)], args := [d] }
  | _ => none }
def RedNilWrongFalsely : Prop := redNilRow.holds Try.pinned (OpenSpec.ofChange redNilWrong)

/-- 'rubriclaw11.RedTexts': WHATEVER THE INPUT: true; the input reads as it did. -/
def redTextsSpec : ChangeSpec := { name := "redTexts", fn := fun _ => fun
  | [d1, d2] => { results := [.lit (.bool true)], args := [d1, d2] }
  | _ => none }
def redTextsRow : OpenClaim := { program := "ytbmbiffhgdkpiaa", sum := "1d74b5dfb2479f09b876c61d92543c5cb6d2fd123712f983c636715562fa645e", func := "rubric/rubriclaw11.RedTexts", spec := "redTexts", recurses := true, apart := false }
def RedTextsSaid : Prop := redTextsRow.holds Try.pinned (OpenSpec.ofChange redTextsSpec)

/-- ITS FALSE NEIGHBOUR: 'it returns false'. Refute it at one input. -/
def redTextsWrong : ChangeSpec := { name := "redTexts", fn := fun _ => fun
  | [d1, d2] => { results := [.lit (.bool false)], args := [d1, d2] }
  | _ => none }
def RedTextsWrongFalsely : Prop := redTextsRow.holds Try.pinned (OpenSpec.ofChange redTextsWrong)

/-- 'rubriclaw11.RedWalks': WHATEVER THE INPUT: true; the input reads as it did. -/
def redWalksSpec : ChangeSpec := { name := "redWalks", fn := fun _ => fun
  | [d1, d2, d3] => { results := [.lit (.bool true)], args := [d1, d2, d3] }
  | _ => none }
def redWalksRow : OpenClaim := { program := "ytbmbiffhgdkpiaa", sum := "1d74b5dfb2479f09b876c61d92543c5cb6d2fd123712f983c636715562fa645e", func := "rubric/rubriclaw11.RedWalks", spec := "redWalks", recurses := true, apart := false }
def RedWalksSaid : Prop := redWalksRow.holds Try.pinned (OpenSpec.ofChange redWalksSpec)

/-- ITS FALSE NEIGHBOUR: 'it returns false'. Refute it at one input. -/
def redWalksWrong : ChangeSpec := { name := "redWalks", fn := fun _ => fun
  | [d1, d2, d3] => { results := [.lit (.bool false)], args := [d1, d2, d3] }
  | _ => none }
def RedWalksWrongFalsely : Prop := redWalksRow.holds Try.pinned (OpenSpec.ofChange redWalksWrong)

/-- 'rubriclaw11.RedGoes': WHATEVER THE INPUT: true; the input reads as it did. -/
def redGoesSpec : ChangeSpec := { name := "redGoes", fn := fun _ => fun
  | [d1, d2, d3, d4] => { results := [.lit (.bool true)], args := [d1, d2, d3, d4] }
  | _ => none }
def redGoesRow : OpenClaim := { program := "ytbmbiffhgdkpiaa", sum := "1d74b5dfb2479f09b876c61d92543c5cb6d2fd123712f983c636715562fa645e", func := "rubric/rubriclaw11.RedGoes", spec := "redGoes", recurses := true, apart := false }
def RedGoesSaid : Prop := redGoesRow.holds Try.pinned (OpenSpec.ofChange redGoesSpec)

/-- ITS FALSE NEIGHBOUR: 'it returns false'. Refute it at one input. -/
def redGoesWrong : ChangeSpec := { name := "redGoes", fn := fun _ => fun
  | [d1, d2, d3, d4] => { results := [.lit (.bool false)], args := [d1, d2, d3, d4] }
  | _ => none }
def RedGoesWrongFalsely : Prop := redGoesRow.holds Try.pinned (OpenSpec.ofChange redGoesWrong)

/- THE SECOND FORM. 'bulk': how many values and letters a reading holds, each counted each time it is reached (what is shared counts as often as it is met; a slice's spare places count too). A statement '..UptoSaid' is the law's where the arguments, and the package variables that the reading takes, are together of bulk at most 1048576: NARROWER than '..Said'. Prove '..Said' where nothing that the law and all that it calls make is longer than what came in: it says more and counts as full. Else prove '..UptoSaid'. A law counts once. -/
mutual
def uptoBulk {H : Type} : DataW H → Nat
  | .lit (.string bytes) => bytes.length + 1
  | .lit _ => 1
  | .nil => 1
  | .ptr d => uptoBulk d + 1
  | .slice elems spare => uptoBulkAll elems + uptoBulkAll spare + 1
  | .agg parts => uptoBulkAll parts + 1
  | .iface _ d => uptoBulk d + 1
  | .map entries => uptoBulkEntries entries + 1
  | .held _ => 1
def uptoBulkAll {H : Type} : List (DataW H) → Nat
  | [] => 0
  | d :: r => uptoBulk d + uptoBulkAll r
def uptoBulkEntries {H : Type} : List (Lit × DataW H) → Nat
  | [] => 0
  | x :: r => uptoBulkEntry x + uptoBulkEntries r
def uptoBulkEntry {H : Type} : Lit × DataW H → Nat
  | (.string bytes, d) => bytes.length + uptoBulk d + 1
  | (_, d) => uptoBulk d + 1
 end
def uptoSmall : (H : Type) → List (DataW H) → Bool := fun _ ds => decide (uptoBulkAll ds ≤ 1048576)
def OpenSpec.upto (s : _root_.Go.ChangeSpec) : _root_.Go.OpenSpec := { _root_.Go.OpenSpec.ofChange s with cond := some uptoSmall }

/-- 'rubriclaw10.GreenPlays', WHERE WHAT IT READS IS OF BULK AT MOST 1048576: true; the input reads as it did. -/
def greenPlaysUptoRow : OpenClaim := { program := "ytbmbiffhgdkpiaa", sum := "1d74b5dfb2479f09b876c61d92543c5cb6d2fd123712f983c636715562fa645e", func := "rubric/rubriclaw10.GreenPlays", spec := "greenPlays", recurses := true, apart := false, narrowed := true }
def GreenPlaysUptoSaid : Prop := greenPlaysUptoRow.holds Try.pinned (OpenSpec.upto greenPlaysSpec)

/-- 'rubriclaw10.GreenWidth', WHERE WHAT IT READS IS OF BULK AT MOST 1048576: true; the input reads as it did. -/
def greenWidthUptoRow : OpenClaim := { program := "ytbmbiffhgdkpiaa", sum := "1d74b5dfb2479f09b876c61d92543c5cb6d2fd123712f983c636715562fa645e", func := "rubric/rubriclaw10.GreenWidth", spec := "greenWidth", recurses := true, apart := false, narrowed := true }
def GreenWidthUptoSaid : Prop := greenWidthUptoRow.holds Try.pinned (OpenSpec.upto greenWidthSpec)

/-- 'rubriclaw10.GreenKeeps', WHERE WHAT IT READS IS OF BULK AT MOST 1048576: true; the input reads as it did. -/
def greenKeepsUptoRow : OpenClaim := { program := "ytbmbiffhgdkpiaa", sum := "1d74b5dfb2479f09b876c61d92543c5cb6d2fd123712f983c636715562fa645e", func := "rubric/rubriclaw10.GreenKeeps", spec := "greenKeeps", recurses := true, apart := false, narrowed := true }
def GreenKeepsUptoSaid : Prop := greenKeepsUptoRow.holds Try.pinned (OpenSpec.upto greenKeepsSpec)

/-- 'rubriclaw10.GreenNil', WHERE WHAT IT READS IS OF BULK AT MOST 1048576: true; the input reads as it did. -/
def greenNilUptoRow : OpenClaim := { program := "ytbmbiffhgdkpiaa", sum := "1d74b5dfb2479f09b876c61d92543c5cb6d2fd123712f983c636715562fa645e", func := "rubric/rubriclaw10.GreenNil", spec := "greenNil", apart := false, narrowed := true }
def GreenNilUptoSaid : Prop := greenNilUptoRow.holds Try.pinned (OpenSpec.upto greenNilSpec)

/-- 'rubriclaw11.RedSeeks', WHERE WHAT IT READS IS OF BULK AT MOST 1048576: true; the input reads as it did. -/
def redSeeksUptoRow : OpenClaim := { program := "ytbmbiffhgdkpiaa", sum := "1d74b5dfb2479f09b876c61d92543c5cb6d2fd123712f983c636715562fa645e", func := "rubric/rubriclaw11.RedSeeks", spec := "redSeeks", recurses := true, apart := false, narrowed := true }
def RedSeeksUptoSaid : Prop := redSeeksUptoRow.holds Try.pinned (OpenSpec.upto redSeeksSpec)

/-- 'rubriclaw11.RedNil', WHERE WHAT IT READS IS OF BULK AT MOST 1048576: true; the input reads as it did. -/
def redNilUptoRow : OpenClaim := { program := "ytbmbiffhgdkpiaa", sum := "1d74b5dfb2479f09b876c61d92543c5cb6d2fd123712f983c636715562fa645e", func := "rubric/rubriclaw11.RedNil", spec := "redNil", apart := false, narrowed := true }
def RedNilUptoSaid : Prop := redNilUptoRow.holds Try.pinned (OpenSpec.upto redNilSpec)

/-- 'rubriclaw11.RedTexts', WHERE WHAT IT READS IS OF BULK AT MOST 1048576: true; the input reads as it did. -/
def redTextsUptoRow : OpenClaim := { program := "ytbmbiffhgdkpiaa", sum := "1d74b5dfb2479f09b876c61d92543c5cb6d2fd123712f983c636715562fa645e", func := "rubric/rubriclaw11.RedTexts", spec := "redTexts", recurses := true, apart := false, narrowed := true }
def RedTextsUptoSaid : Prop := redTextsUptoRow.holds Try.pinned (OpenSpec.upto redTextsSpec)

/-- 'rubriclaw11.RedWalks', WHERE WHAT IT READS IS OF BULK AT MOST 1048576: true; the input reads as it did. -/
def redWalksUptoRow : OpenClaim := { program := "ytbmbiffhgdkpiaa", sum := "1d74b5dfb2479f09b876c61d92543c5cb6d2fd123712f983c636715562fa645e", func := "rubric/rubriclaw11.RedWalks", spec := "redWalks", recurses := true, apart := false, narrowed := true }
def RedWalksUptoSaid : Prop := redWalksUptoRow.holds Try.pinned (OpenSpec.upto redWalksSpec)

/-- 'rubriclaw11.RedGoes', WHERE WHAT IT READS IS OF BULK AT MOST 1048576: true; the input reads as it did. -/
def redGoesUptoRow : OpenClaim := { program := "ytbmbiffhgdkpiaa", sum := "1d74b5dfb2479f09b876c61d92543c5cb6d2fd123712f983c636715562fa645e", func := "rubric/rubriclaw11.RedGoes", spec := "redGoes", recurses := true, apart := false, narrowed := true }
def RedGoesUptoSaid : Prop := redGoesUptoRow.holds Try.pinned (OpenSpec.upto redGoesSpec)

end Rows
end Go.Proofs.Ytbmbiffhgdkpiaa
