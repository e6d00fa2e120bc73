/-
  No cell of these rows narrows 'for every input' (looked for: loops, veiled, ifaces, maps, wideKeys, modest, calm, conditions, laid).
  DERIVED. THE GIVEN ROWS OF THIS SEAT. 11 by the template 'for every input the law returns true; each argument reads behind the call as it read before'; 0 by the template 'total and deterministic' (their statements: YtboajmnckldmiaaTotals.lean).
  GIVEN WITH THE SEED: the statements are not yours to turn. If you find one false, say at which input.
  Laid BY PROGRAM, IN A SANDBOX (cutbox-rows.mjs): the forced cells as the released guide's own fill.sh prints them over the translation 9b0f87a832f6d611… (all of the seat's roots in one cut). By AI agents, Wed Nov 11 2026. No macro, syntax, notation, axiom, sorry.
-/
import Derived.Test.YtboajmnckldmiaaChecked
import GoSem.Claim
import GoSem.ClaimJoined
import GoSem.ClaimMapViews
import Derived.JoinedTies
import Derived.KernelRfl
namespace Go.Proofs.Ytboajmnckldmiaa
/- THE CELL 'sum', in the pinned program and in every row, IS THE sha256 OF THE DUMP (.gsa) THAT YtboajmnckldmiaaProg.lean LOADS. Nothing in Lean hashes anything: it is a label: what it is worth is what the hold of that sum in a sandbox is worth. -/
noncomputable def Try.pinned : Pinned := { name := "ytboajmnckldmiaa", sum := "9b0f87a832f6d611636eafa0a085b9b50f6d73f7ed236557d8cc53e569c80768", checked := Try.checked }
namespace Rows
def none {H : Type} : Left H := { results := [], args := [] }

/-- 'cheesepresslaw04.CursorParts': WHATEVER THE INPUT: true; the input reads as it did. -/
def cursorPartsSpec : ChangeSpec := { name := "cursorParts", fn := fun _ => fun
  | [d1, d2, d3, d4] => { results := [.lit (.bool true)], args := [d1, d2, d3, d4] }
  | _ => none }
def cursorPartsRow : OpenClaim := { program := "ytboajmnckldmiaa", sum := "9b0f87a832f6d611636eafa0a085b9b50f6d73f7ed236557d8cc53e569c80768", func := "cheesepress/cheesepresslaw04.CursorParts", spec := "cursorParts", unfollowed := true, recurses := true, apart := false }
def CursorPartsSaid : Prop := cursorPartsRow.holds Try.pinned (OpenSpec.ofChange cursorPartsSpec)

/-- ITS FALSE NEIGHBOUR: 'it returns false'. Refute it at one input. -/
def cursorPartsWrong : ChangeSpec := { name := "cursorParts", fn := fun _ => fun
  | [d1, d2, d3, d4] => { results := [.lit (.bool false)], args := [d1, d2, d3, d4] }
  | _ => none }
def CursorPartsWrongFalsely : Prop := cursorPartsRow.holds Try.pinned (OpenSpec.ofChange cursorPartsWrong)

/-- 'cheesepresslaw04.CursorInner': WHATEVER THE INPUT: true; the input reads as it did. -/
def cursorInnerSpec : ChangeSpec := { name := "cursorInner", fn := fun _ => fun
  | [d1, d2, d3, d4] => { results := [.lit (.bool true)], args := [d1, d2, d3, d4] }
  | _ => none }
def cursorInnerRow : OpenClaim := { program := "ytboajmnckldmiaa", sum := "9b0f87a832f6d611636eafa0a085b9b50f6d73f7ed236557d8cc53e569c80768", func := "cheesepress/cheesepresslaw04.CursorInner", spec := "cursorInner", unfollowed := true, recurses := true, apart := false }
def CursorInnerSaid : Prop := cursorInnerRow.holds Try.pinned (OpenSpec.ofChange cursorInnerSpec)

/-- ITS FALSE NEIGHBOUR: 'it returns false'. Refute it at one input. -/
def cursorInnerWrong : ChangeSpec := { name := "cursorInner", fn := fun _ => fun
  | [d1, d2, d3, d4] => { results := [.lit (.bool false)], args := [d1, d2, d3, d4] }
  | _ => none }
def CursorInnerWrongFalsely : Prop := cursorInnerRow.holds Try.pinned (OpenSpec.ofChange cursorInnerWrong)

/-- 'cheesepresslaw04.CursorFails': WHATEVER THE INPUT: true; the input reads as it did. -/
def cursorFailsSpec : ChangeSpec := { name := "cursorFails", fn := fun _ => fun
  | [d1, d2, d3] => { results := [.lit (.bool true)], args := [d1, d2, d3] }
  | _ => none }
def cursorFailsRow : OpenClaim := { program := "ytboajmnckldmiaa", sum := "9b0f87a832f6d611636eafa0a085b9b50f6d73f7ed236557d8cc53e569c80768", func := "cheesepress/cheesepresslaw04.CursorFails", spec := "cursorFails", unfollowed := true, recurses := true, apart := false }
def CursorFailsSaid : Prop := cursorFailsRow.holds Try.pinned (OpenSpec.ofChange cursorFailsSpec)

/-- ITS FALSE NEIGHBOUR: 'it returns false'. Refute it at one input. -/
def cursorFailsWrong : ChangeSpec := { name := "cursorFails", fn := fun _ => fun
  | [d1, d2, d3] => { results := [.lit (.bool false)], args := [d1, d2, d3] }
  | _ => none }
def CursorFailsWrongFalsely : Prop := cursorFailsRow.holds Try.pinned (OpenSpec.ofChange cursorFailsWrong)

/-- 'cheesepresslaw04.CursorReads': WHATEVER THE INPUT: true; the input reads as it did. -/
def cursorReadsSpec : ChangeSpec := { name := "cursorReads", fn := fun _ => fun
  | [d1, d2] => { results := [.lit (.bool true)], args := [d1, d2] }
  | _ => none }
def cursorReadsRow : OpenClaim := { program := "ytboajmnckldmiaa", sum := "9b0f87a832f6d611636eafa0a085b9b50f6d73f7ed236557d8cc53e569c80768", func := "cheesepress/cheesepresslaw04.CursorReads", spec := "cursorReads", unfollowed := true, recurses := true, apart := false }
def CursorReadsSaid : Prop := cursorReadsRow.holds Try.pinned (OpenSpec.ofChange cursorReadsSpec)

/-- ITS FALSE NEIGHBOUR: 'it returns false'. Refute it at one input. -/
def cursorReadsWrong : ChangeSpec := { name := "cursorReads", fn := fun _ => fun
  | [d1, d2] => { results := [.lit (.bool false)], args := [d1, d2] }
  | _ => none }
def CursorReadsWrongFalsely : Prop := cursorReadsRow.holds Try.pinned (OpenSpec.ofChange cursorReadsWrong)

/-- 'cheesepresslaw05.XxhStates': WHATEVER THE INPUT: true; the input reads as it did. -/
def xxhStatesSpec : ChangeSpec := { name := "xxhStates", fn := fun _ => fun
  | [d1, d2] => { results := [.lit (.bool true)], args := [d1, d2] }
  | _ => none }
def xxhStatesRow : OpenClaim := { program := "ytboajmnckldmiaa", sum := "9b0f87a832f6d611636eafa0a085b9b50f6d73f7ed236557d8cc53e569c80768", func := "cheesepress/cheesepresslaw05.XxhStates", spec := "xxhStates", apart := false }
def XxhStatesSaid : Prop := xxhStatesRow.holds Try.pinned (OpenSpec.ofChange xxhStatesSpec)

/-- ITS FALSE NEIGHBOUR: 'it returns false'. Refute it at one input. -/
def xxhStatesWrong : ChangeSpec := { name := "xxhStates", fn := fun _ => fun
  | [d1, d2] => { results := [.lit (.bool false)], args := [d1, d2] }
  | _ => none }
def XxhStatesWrongFalsely : Prop := xxhStatesRow.holds Try.pinned (OpenSpec.ofChange xxhStatesWrong)

/-- 'cheesepresslaw05.XxhSums': WHATEVER THE INPUT: true; the input reads as it did. -/
def xxhSumsSpec : ChangeSpec := { name := "xxhSums", fn := fun _ => fun
  | [d1, d2, d3] => { results := [.lit (.bool true)], args := [d1, d2, d3] }
  | _ => none }
def xxhSumsRow : OpenClaim := { program := "ytboajmnckldmiaa", sum := "9b0f87a832f6d611636eafa0a085b9b50f6d73f7ed236557d8cc53e569c80768", func := "cheesepress/cheesepresslaw05.XxhSums", spec := "xxhSums", apart := false }
def XxhSumsSaid : Prop := xxhSumsRow.holds Try.pinned (OpenSpec.ofChange xxhSumsSpec)

/-- ITS FALSE NEIGHBOUR: 'it returns false'. Refute it at one input. -/
def xxhSumsWrong : ChangeSpec := { name := "xxhSums", fn := fun _ => fun
  | [d1, d2, d3] => { results := [.lit (.bool false)], args := [d1, d2, d3] }
  | _ => none }
def XxhSumsWrongFalsely : Prop := xxhSumsRow.holds Try.pinned (OpenSpec.ofChange xxhSumsWrong)

/-- 'cheesepresslaw05.XxhKnown': WHATEVER THE INPUT: true; the input reads as it did. -/
def xxhKnownSpec : ChangeSpec := { name := "xxhKnown", fn := fun _ => fun
  | [] => { results := [.lit (.bool true)], args := [] }
  | _ => none }
def xxhKnownRow : OpenClaim := { program := "ytboajmnckldmiaa", sum := "9b0f87a832f6d611636eafa0a085b9b50f6d73f7ed236557d8cc53e569c80768", func := "cheesepress/cheesepresslaw05.XxhKnown", spec := "xxhKnown", apart := false }
def XxhKnownSaid : Prop := xxhKnownRow.holds Try.pinned (OpenSpec.ofChange xxhKnownSpec)

/-- ITS FALSE NEIGHBOUR: 'it returns false'. Refute it at one input. -/
def xxhKnownWrong : ChangeSpec := { name := "xxhKnown", fn := fun _ => fun
  | [] => { results := [.lit (.bool false)], args := [] }
  | _ => none }
def XxhKnownWrongFalsely : Prop := xxhKnownRow.holds Try.pinned (OpenSpec.ofChange xxhKnownWrong)

/-- 'cheesepresslaw05.XxhParts': WHATEVER THE INPUT: true; the input reads as it did. -/
def xxhPartsSpec : ChangeSpec := { name := "xxhParts", fn := fun _ => fun
  | [d1, d2, d3, d4, d5] => { results := [.lit (.bool true)], args := [d1, d2, d3, d4, d5] }
  | _ => none }
def xxhPartsRow : OpenClaim := { program := "ytboajmnckldmiaa", sum := "9b0f87a832f6d611636eafa0a085b9b50f6d73f7ed236557d8cc53e569c80768", func := "cheesepress/cheesepresslaw05.XxhParts", spec := "xxhParts", apart := false }
def XxhPartsSaid : Prop := xxhPartsRow.holds Try.pinned (OpenSpec.ofChange xxhPartsSpec)

/-- ITS FALSE NEIGHBOUR: 'it returns false'. Refute it at one input. -/
def xxhPartsWrong : ChangeSpec := { name := "xxhParts", fn := fun _ => fun
  | [d1, d2, d3, d4, d5] => { results := [.lit (.bool false)], args := [d1, d2, d3, d4, d5] }
  | _ => none }
def XxhPartsWrongFalsely : Prop := xxhPartsRow.holds Try.pinned (OpenSpec.ofChange xxhPartsWrong)

/-- 'cheesepresslaw05.XxhApart': WHATEVER THE INPUT: true; the input reads as it did. -/
def xxhApartSpec : ChangeSpec := { name := "xxhApart", fn := fun _ => fun
  | [d1, d2, d3, d4] => { results := [.lit (.bool true)], args := [d1, d2, d3, d4] }
  | _ => none }
def xxhApartRow : OpenClaim := { program := "ytboajmnckldmiaa", sum := "9b0f87a832f6d611636eafa0a085b9b50f6d73f7ed236557d8cc53e569c80768", func := "cheesepress/cheesepresslaw05.XxhApart", spec := "xxhApart", apart := false }
def XxhApartSaid : Prop := xxhApartRow.holds Try.pinned (OpenSpec.ofChange xxhApartSpec)

/-- ITS FALSE NEIGHBOUR: 'it returns false'. Refute it at one input. -/
def xxhApartWrong : ChangeSpec := { name := "xxhApart", fn := fun _ => fun
  | [d1, d2, d3, d4] => { results := [.lit (.bool false)], args := [d1, d2, d3, d4] }
  | _ => none }
def XxhApartWrongFalsely : Prop := xxhApartRow.holds Try.pinned (OpenSpec.ofChange xxhApartWrong)

/-- 'cheesepresslaw04.CursorKnown': WHATEVER THE INPUT: true; the input reads as it did. -/
def cursorKnownSpec : ChangeSpec := { name := "cursorKnown", fn := fun _ => fun
  | [] => { results := [.lit (.bool true)], args := [] }
  | _ => none }
def cursorKnownRow : OpenClaim := { program := "ytboajmnckldmiaa", sum := "9b0f87a832f6d611636eafa0a085b9b50f6d73f7ed236557d8cc53e569c80768", func := "cheesepress/cheesepresslaw04.CursorKnown", spec := "cursorKnown", unfollowed := true, recurses := true, apart := false }
def CursorKnownSaid : Prop := cursorKnownRow.holds Try.pinned (OpenSpec.ofChange cursorKnownSpec)

/-- ITS FALSE NEIGHBOUR: 'it returns false'. Refute it at one input. -/
def cursorKnownWrong : ChangeSpec := { name := "cursorKnown", fn := fun _ => fun
  | [] => { results := [.lit (.bool false)], args := [] }
  | _ => none }
def CursorKnownWrongFalsely : Prop := cursorKnownRow.holds Try.pinned (OpenSpec.ofChange cursorKnownWrong)

/-- 'cheesepresslaw04.CursorStays': WHATEVER THE INPUT: true; the input reads as it did. -/
def cursorStaysSpec : ChangeSpec := { name := "cursorStays", fn := fun _ => fun
  | [d1, d2, d3] => { results := [.lit (.bool true)], args := [d1, d2, d3] }
  | _ => none }
def cursorStaysRow : OpenClaim := { program := "ytboajmnckldmiaa", sum := "9b0f87a832f6d611636eafa0a085b9b50f6d73f7ed236557d8cc53e569c80768", func := "cheesepress/cheesepresslaw04.CursorStays", spec := "cursorStays", unfollowed := true, recurses := true, apart := false }
def CursorStaysSaid : Prop := cursorStaysRow.holds Try.pinned (OpenSpec.ofChange cursorStaysSpec)

/-- ITS FALSE NEIGHBOUR: 'it returns false'. Refute it at one input. -/
def cursorStaysWrong : ChangeSpec := { name := "cursorStays", fn := fun _ => fun
  | [d1, d2, d3] => { results := [.lit (.bool false)], args := [d1, d2, d3] }
  | _ => none }
def CursorStaysWrongFalsely : Prop := cursorStaysRow.holds Try.pinned (OpenSpec.ofChange cursorStaysWrong)

/- THE SECOND FORM. 'bulk': how many values and letters a reading holds, each counted each time it is reached (what is shared counts as often as it is met; a slice's spare places count too). A statement '..UptoSaid' is the law's where the arguments, and the package variables that the reading takes, are together of bulk at most 1048576: NARROWER than '..Said'. Prove '..Said' where nothing that the law and all that it calls make is longer than what came in: it says more and counts as full. Else prove '..UptoSaid'. A law counts once. -/
mutual
def uptoBulk {H : Type} : DataW H → Nat
  | .lit (.string bytes) => bytes.length + 1
  | .lit _ => 1
  | .nil => 1
  | .ptr d => uptoBulk d + 1
  | .slice elems spare => uptoBulkAll elems + uptoBulkAll spare + 1
  | .agg parts => uptoBulkAll parts + 1
  | .iface _ d => uptoBulk d + 1
  | .map entries => uptoBulkEntries entries + 1
  | .held _ => 1
def uptoBulkAll {H : Type} : List (DataW H) → Nat
  | [] => 0
  | d :: r => uptoBulk d + uptoBulkAll r
def uptoBulkEntries {H : Type} : List (Lit × DataW H) → Nat
  | [] => 0
  | x :: r => uptoBulkEntry x + uptoBulkEntries r
def uptoBulkEntry {H : Type} : Lit × DataW H → Nat
  | (.string bytes, d) => bytes.length + uptoBulk d + 1
  | (_, d) => uptoBulk d + 1
 end
def uptoSmall : (H : Type) → List (DataW H) → Bool := fun _ ds => decide (uptoBulkAll ds ≤ 1048576)
def OpenSpec.upto (s : _root_.Go.ChangeSpec) : _root_.Go.OpenSpec := { _root_.Go.OpenSpec.ofChange s with cond := some uptoSmall }

/-- 'cheesepresslaw04.CursorParts', WHERE WHAT IT READS IS OF BULK AT MOST 1048576: true; the input reads as it did. -/
def cursorPartsUptoRow : OpenClaim := { program := "ytboajmnckldmiaa", sum := "9b0f87a832f6d611636eafa0a085b9b50f6d73f7ed236557d8cc53e569c80768", func := "cheesepress/cheesepresslaw04.CursorParts", spec := "cursorParts", unfollowed := true, recurses := true, apart := false, narrowed := true }
def CursorPartsUptoSaid : Prop := cursorPartsUptoRow.holds Try.pinned (OpenSpec.upto cursorPartsSpec)

/-- 'cheesepresslaw04.CursorInner', WHERE WHAT IT READS IS OF BULK AT MOST 1048576: true; the input reads as it did. -/
def cursorInnerUptoRow : OpenClaim := { program := "ytboajmnckldmiaa", sum := "9b0f87a832f6d611636eafa0a085b9b50f6d73f7ed236557d8cc53e569c80768", func := "cheesepress/cheesepresslaw04.CursorInner", spec := "cursorInner", unfollowed := true, recurses := true, apart := false, narrowed := true }
def CursorInnerUptoSaid : Prop := cursorInnerUptoRow.holds Try.pinned (OpenSpec.upto cursorInnerSpec)

/-- 'cheesepresslaw04.CursorFails', WHERE WHAT IT READS IS OF BULK AT MOST 1048576: true; the input reads as it did. -/
def cursorFailsUptoRow : OpenClaim := { program := "ytboajmnckldmiaa", sum := "9b0f87a832f6d611636eafa0a085b9b50f6d73f7ed236557d8cc53e569c80768", func := "cheesepress/cheesepresslaw04.CursorFails", spec := "cursorFails", unfollowed := true, recurses := true, apart := false, narrowed := true }
def CursorFailsUptoSaid : Prop := cursorFailsUptoRow.holds Try.pinned (OpenSpec.upto cursorFailsSpec)

/-- 'cheesepresslaw04.CursorReads', WHERE WHAT IT READS IS OF BULK AT MOST 1048576: true; the input reads as it did. -/
def cursorReadsUptoRow : OpenClaim := { program := "ytboajmnckldmiaa", sum := "9b0f87a832f6d611636eafa0a085b9b50f6d73f7ed236557d8cc53e569c80768", func := "cheesepress/cheesepresslaw04.CursorReads", spec := "cursorReads", unfollowed := true, recurses := true, apart := false, narrowed := true }
def CursorReadsUptoSaid : Prop := cursorReadsUptoRow.holds Try.pinned (OpenSpec.upto cursorReadsSpec)

/-- 'cheesepresslaw05.XxhStates', WHERE WHAT IT READS IS OF BULK AT MOST 1048576: true; the input reads as it did. -/
def xxhStatesUptoRow : OpenClaim := { program := "ytboajmnckldmiaa", sum := "9b0f87a832f6d611636eafa0a085b9b50f6d73f7ed236557d8cc53e569c80768", func := "cheesepress/cheesepresslaw05.XxhStates", spec := "xxhStates", apart := false, narrowed := true }
def XxhStatesUptoSaid : Prop := xxhStatesUptoRow.holds Try.pinned (OpenSpec.upto xxhStatesSpec)

/-- 'cheesepresslaw05.XxhSums', WHERE WHAT IT READS IS OF BULK AT MOST 1048576: true; the input reads as it did. -/
def xxhSumsUptoRow : OpenClaim := { program := "ytboajmnckldmiaa", sum := "9b0f87a832f6d611636eafa0a085b9b50f6d73f7ed236557d8cc53e569c80768", func := "cheesepress/cheesepresslaw05.XxhSums", spec := "xxhSums", apart := false, narrowed := true }
def XxhSumsUptoSaid : Prop := xxhSumsUptoRow.holds Try.pinned (OpenSpec.upto xxhSumsSpec)

/-- 'cheesepresslaw05.XxhKnown', WHERE WHAT IT READS IS OF BULK AT MOST 1048576: true; the input reads as it did. -/
def xxhKnownUptoRow : OpenClaim := { program := "ytboajmnckldmiaa", sum := "9b0f87a832f6d611636eafa0a085b9b50f6d73f7ed236557d8cc53e569c80768", func := "cheesepress/cheesepresslaw05.XxhKnown", spec := "xxhKnown", apart := false, narrowed := true }
def XxhKnownUptoSaid : Prop := xxhKnownUptoRow.holds Try.pinned (OpenSpec.upto xxhKnownSpec)

/-- 'cheesepresslaw05.XxhParts', WHERE WHAT IT READS IS OF BULK AT MOST 1048576: true; the input reads as it did. -/
def xxhPartsUptoRow : OpenClaim := { program := "ytboajmnckldmiaa", sum := "9b0f87a832f6d611636eafa0a085b9b50f6d73f7ed236557d8cc53e569c80768", func := "cheesepress/cheesepresslaw05.XxhParts", spec := "xxhParts", apart := false, narrowed := true }
def XxhPartsUptoSaid : Prop := xxhPartsUptoRow.holds Try.pinned (OpenSpec.upto xxhPartsSpec)

/-- 'cheesepresslaw05.XxhApart', WHERE WHAT IT READS IS OF BULK AT MOST 1048576: true; the input reads as it did. -/
def xxhApartUptoRow : OpenClaim := { program := "ytboajmnckldmiaa", sum := "9b0f87a832f6d611636eafa0a085b9b50f6d73f7ed236557d8cc53e569c80768", func := "cheesepress/cheesepresslaw05.XxhApart", spec := "xxhApart", apart := false, narrowed := true }
def XxhApartUptoSaid : Prop := xxhApartUptoRow.holds Try.pinned (OpenSpec.upto xxhApartSpec)

/-- 'cheesepresslaw04.CursorKnown', WHERE WHAT IT READS IS OF BULK AT MOST 1048576: true; the input reads as it did. -/
def cursorKnownUptoRow : OpenClaim := { program := "ytboajmnckldmiaa", sum := "9b0f87a832f6d611636eafa0a085b9b50f6d73f7ed236557d8cc53e569c80768", func := "cheesepress/cheesepresslaw04.CursorKnown", spec := "cursorKnown", unfollowed := true, recurses := true, apart := false, narrowed := true }
def CursorKnownUptoSaid : Prop := cursorKnownUptoRow.holds Try.pinned (OpenSpec.upto cursorKnownSpec)

/-- 'cheesepresslaw04.CursorStays', WHERE WHAT IT READS IS OF BULK AT MOST 1048576: true; the input reads as it did. -/
def cursorStaysUptoRow : OpenClaim := { program := "ytboajmnckldmiaa", sum := "9b0f87a832f6d611636eafa0a085b9b50f6d73f7ed236557d8cc53e569c80768", func := "cheesepress/cheesepresslaw04.CursorStays", spec := "cursorStays", unfollowed := true, recurses := true, apart := false, narrowed := true }
def CursorStaysUptoSaid : Prop := cursorStaysUptoRow.holds Try.pinned (OpenSpec.upto cursorStaysSpec)

end Rows
end Go.Proofs.Ytboajmnckldmiaa
