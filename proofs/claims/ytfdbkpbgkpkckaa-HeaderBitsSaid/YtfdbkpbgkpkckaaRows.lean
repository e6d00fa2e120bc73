/-
  No cell of these rows narrows 'for every input' (looked for: loops, veiled, ifaces, maps, wideKeys, modest, calm, conditions, laid).
  DERIVED. THE GIVEN ROWS OF THIS SEAT. 11 by the template 'for every input the law returns true; each argument reads behind the call as it read before'; 0 by the template 'total and deterministic' (their statements: YtfdbkpbgkpkckaaTotals.lean).
  GIVEN WITH THE SEED: the statements are not yours to turn. If you find one false, say at which input.
  Laid BY PROGRAM, IN A SANDBOX (cutbox-rows.mjs): the forced cells as the released guide's own fill.sh prints them over the translation 463871ba04ff0b31… (all of the seat's roots in one cut). By AI agents, Wed Nov 11 2026. No macro, syntax, notation, axiom, sorry.
-/
import Derived.Test.YtfdbkpbgkpkckaaChecked
import GoSem.Claim
import GoSem.ClaimJoined
import GoSem.ClaimMapViews
import Derived.JoinedTies
import Derived.KernelRfl
namespace Go.Proofs.Ytfdbkpbgkpkckaa
/- THE CELL 'sum', in the pinned program and in every row, IS THE sha256 OF THE DUMP (.gsa) THAT YtfdbkpbgkpkckaaProg.lean LOADS. Nothing in Lean hashes anything: it is a label: what it is worth is what the hold of that sum in a sandbox is worth. -/
noncomputable def Try.pinned : Pinned := { name := "ytfdbkpbgkpkckaa", sum := "463871ba04ff0b31eab2dca746637ceb619f7f62c50fdebcad087d2bec8b454e", checked := Try.checked }
namespace Rows
def none {H : Type} : Left H := { results := [], args := [] }

/-- 'cheesepresslaw43.BoundSums': WHATEVER THE INPUT: true; the input reads as it did. -/
def boundSumsSpec : ChangeSpec := { name := "boundSums", fn := fun _ => fun
  | [d1, d2, d3, d4] => { results := [.lit (.bool true)], args := [d1, d2, d3, d4] }
  | _ => none }
def boundSumsRow : OpenClaim := { program := "ytfdbkpbgkpkckaa", sum := "463871ba04ff0b31eab2dca746637ceb619f7f62c50fdebcad087d2bec8b454e", func := "cheesepress/cheesepresslaw43.BoundSums", spec := "boundSums", unfollowed := true, recurses := true, apart := false }
def BoundSumsSaid : Prop := boundSumsRow.holds Try.pinned (OpenSpec.ofChange boundSumsSpec)

/-- ITS FALSE NEIGHBOUR: 'it returns false'. Refute it at one input. -/
def boundSumsWrong : ChangeSpec := { name := "boundSums", fn := fun _ => fun
  | [d1, d2, d3, d4] => { results := [.lit (.bool false)], args := [d1, d2, d3, d4] }
  | _ => none }
def BoundSumsWrongFalsely : Prop := boundSumsRow.holds Try.pinned (OpenSpec.ofChange boundSumsWrong)

/-- 'cheesepresslaw43.BoundGrows': WHATEVER THE INPUT: true; the input reads as it did. -/
def boundGrowsSpec : ChangeSpec := { name := "boundGrows", fn := fun _ => fun
  | [d1, d2, d3, d4, d5, d6] => { results := [.lit (.bool true)], args := [d1, d2, d3, d4, d5, d6] }
  | _ => none }
def boundGrowsRow : OpenClaim := { program := "ytfdbkpbgkpkckaa", sum := "463871ba04ff0b31eab2dca746637ceb619f7f62c50fdebcad087d2bec8b454e", func := "cheesepress/cheesepresslaw43.BoundGrows", spec := "boundGrows", unfollowed := true, recurses := true, apart := false }
def BoundGrowsSaid : Prop := boundGrowsRow.holds Try.pinned (OpenSpec.ofChange boundGrowsSpec)

/-- ITS FALSE NEIGHBOUR: 'it returns false'. Refute it at one input. -/
def boundGrowsWrong : ChangeSpec := { name := "boundGrows", fn := fun _ => fun
  | [d1, d2, d3, d4, d5, d6] => { results := [.lit (.bool false)], args := [d1, d2, d3, d4, d5, d6] }
  | _ => none }
def BoundGrowsWrongFalsely : Prop := boundGrowsRow.holds Try.pinned (OpenSpec.ofChange boundGrowsWrong)

/-- 'cheesepresslaw43.BoundNumbers': WHATEVER THE INPUT: true; the input reads as it did. -/
def boundNumbersSpec : ChangeSpec := { name := "boundNumbers", fn := fun _ => fun
  | [d1, d2, d3, d4, d5, d6, d7, d8, d9] => { results := [.lit (.bool true)], args := [d1, d2, d3, d4, d5, d6, d7, d8, d9] }
  | _ => none }
def boundNumbersRow : OpenClaim := { program := "ytfdbkpbgkpkckaa", sum := "463871ba04ff0b31eab2dca746637ceb619f7f62c50fdebcad087d2bec8b454e", func := "cheesepress/cheesepresslaw43.BoundNumbers", spec := "boundNumbers", unfollowed := true, recurses := true, apart := false }
def BoundNumbersSaid : Prop := boundNumbersRow.holds Try.pinned (OpenSpec.ofChange boundNumbersSpec)

/-- ITS FALSE NEIGHBOUR: 'it returns false'. Refute it at one input. -/
def boundNumbersWrong : ChangeSpec := { name := "boundNumbers", fn := fun _ => fun
  | [d1, d2, d3, d4, d5, d6, d7, d8, d9] => { results := [.lit (.bool false)], args := [d1, d2, d3, d4, d5, d6, d7, d8, d9] }
  | _ => none }
def BoundNumbersWrongFalsely : Prop := boundNumbersRow.holds Try.pinned (OpenSpec.ofChange boundNumbersWrong)

/-- 'cheesepresslaw43.BoundWholes': WHATEVER THE INPUT: true; the input reads as it did. -/
def boundWholesSpec : ChangeSpec := { name := "boundWholes", fn := fun _ => fun
  | [d1, d2, d3] => { results := [.lit (.bool true)], args := [d1, d2, d3] }
  | _ => none }
def boundWholesRow : OpenClaim := { program := "ytfdbkpbgkpkckaa", sum := "463871ba04ff0b31eab2dca746637ceb619f7f62c50fdebcad087d2bec8b454e", func := "cheesepress/cheesepresslaw43.BoundWholes", spec := "boundWholes", unfollowed := true, recurses := true, apart := false }
def BoundWholesSaid : Prop := boundWholesRow.holds Try.pinned (OpenSpec.ofChange boundWholesSpec)

/-- ITS FALSE NEIGHBOUR: 'it returns false'. Refute it at one input. -/
def boundWholesWrong : ChangeSpec := { name := "boundWholes", fn := fun _ => fun
  | [d1, d2, d3] => { results := [.lit (.bool false)], args := [d1, d2, d3] }
  | _ => none }
def BoundWholesWrongFalsely : Prop := boundWholesRow.holds Try.pinned (OpenSpec.ofChange boundWholesWrong)

/-- 'cheesepresslaw43.BoundJobs': WHATEVER THE INPUT: true; the input reads as it did. -/
def boundJobsSpec : ChangeSpec := { name := "boundJobs", fn := fun _ => fun
  | [d1, d2, d3] => { results := [.lit (.bool true)], args := [d1, d2, d3] }
  | _ => none }
def boundJobsRow : OpenClaim := { program := "ytfdbkpbgkpkckaa", sum := "463871ba04ff0b31eab2dca746637ceb619f7f62c50fdebcad087d2bec8b454e", func := "cheesepress/cheesepresslaw43.BoundJobs", spec := "boundJobs", unfollowed := true, recurses := true, apart := false }
def BoundJobsSaid : Prop := boundJobsRow.holds Try.pinned (OpenSpec.ofChange boundJobsSpec)

/-- ITS FALSE NEIGHBOUR: 'it returns false'. Refute it at one input. -/
def boundJobsWrong : ChangeSpec := { name := "boundJobs", fn := fun _ => fun
  | [d1, d2, d3] => { results := [.lit (.bool false)], args := [d1, d2, d3] }
  | _ => none }
def BoundJobsWrongFalsely : Prop := boundJobsRow.holds Try.pinned (OpenSpec.ofChange boundJobsWrong)

/-- 'cheesepresslaw43.BoundKnown': WHATEVER THE INPUT: true; the input reads as it did. -/
def boundKnownSpec : ChangeSpec := { name := "boundKnown", fn := fun _ => fun
  | [] => { results := [.lit (.bool true)], args := [] }
  | _ => none }
def boundKnownRow : OpenClaim := { program := "ytfdbkpbgkpkckaa", sum := "463871ba04ff0b31eab2dca746637ceb619f7f62c50fdebcad087d2bec8b454e", func := "cheesepress/cheesepresslaw43.BoundKnown", spec := "boundKnown", unfollowed := true, recurses := true, apart := false }
def BoundKnownSaid : Prop := boundKnownRow.holds Try.pinned (OpenSpec.ofChange boundKnownSpec)

/-- ITS FALSE NEIGHBOUR: 'it returns false'. Refute it at one input. -/
def boundKnownWrong : ChangeSpec := { name := "boundKnown", fn := fun _ => fun
  | [] => { results := [.lit (.bool false)], args := [] }
  | _ => none }
def BoundKnownWrongFalsely : Prop := boundKnownRow.holds Try.pinned (OpenSpec.ofChange boundKnownWrong)

/-- 'cheesepresslaw29.HeaderReads': WHATEVER THE INPUT: true; the input reads as it did. -/
def headerReadsSpec : ChangeSpec := { name := "headerReads", fn := fun _ => fun
  | [d1, d2] => { results := [.lit (.bool true)], args := [d1, d2] }
  | _ => none }
def headerReadsRow : OpenClaim := { program := "ytfdbkpbgkpkckaa", sum := "463871ba04ff0b31eab2dca746637ceb619f7f62c50fdebcad087d2bec8b454e", func := "cheesepress/cheesepresslaw29.HeaderReads", spec := "headerReads", unfollowed := true, recurses := true, apart := false }
def HeaderReadsSaid : Prop := headerReadsRow.holds Try.pinned (OpenSpec.ofChange headerReadsSpec)

/-- ITS FALSE NEIGHBOUR: 'it returns false'. Refute it at one input. -/
def headerReadsWrong : ChangeSpec := { name := "headerReads", fn := fun _ => fun
  | [d1, d2] => { results := [.lit (.bool false)], args := [d1, d2] }
  | _ => none }
def HeaderReadsWrongFalsely : Prop := headerReadsRow.holds Try.pinned (OpenSpec.ofChange headerReadsWrong)

/-- 'cheesepresslaw29.HeaderWrites': WHATEVER THE INPUT: true; the input reads as it did. -/
def headerWritesSpec : ChangeSpec := { name := "headerWrites", fn := fun _ => fun
  | [d1, d2] => { results := [.lit (.bool true)], args := [d1, d2] }
  | _ => none }
def headerWritesRow : OpenClaim := { program := "ytfdbkpbgkpkckaa", sum := "463871ba04ff0b31eab2dca746637ceb619f7f62c50fdebcad087d2bec8b454e", func := "cheesepress/cheesepresslaw29.HeaderWrites", spec := "headerWrites", unfollowed := true, recurses := true, apart := false }
def HeaderWritesSaid : Prop := headerWritesRow.holds Try.pinned (OpenSpec.ofChange headerWritesSpec)

/-- ITS FALSE NEIGHBOUR: 'it returns false'. Refute it at one input. -/
def headerWritesWrong : ChangeSpec := { name := "headerWrites", fn := fun _ => fun
  | [d1, d2] => { results := [.lit (.bool false)], args := [d1, d2] }
  | _ => none }
def HeaderWritesWrongFalsely : Prop := headerWritesRow.holds Try.pinned (OpenSpec.ofChange headerWritesWrong)

/-- 'cheesepresslaw29.HeaderKnown': WHATEVER THE INPUT: true; the input reads as it did. -/
def headerKnownSpec : ChangeSpec := { name := "headerKnown", fn := fun _ => fun
  | [] => { results := [.lit (.bool true)], args := [] }
  | _ => none }
def headerKnownRow : OpenClaim := { program := "ytfdbkpbgkpkckaa", sum := "463871ba04ff0b31eab2dca746637ceb619f7f62c50fdebcad087d2bec8b454e", func := "cheesepress/cheesepresslaw29.HeaderKnown", spec := "headerKnown", unfollowed := true, recurses := true, apart := false }
def HeaderKnownSaid : Prop := headerKnownRow.holds Try.pinned (OpenSpec.ofChange headerKnownSpec)

/-- ITS FALSE NEIGHBOUR: 'it returns false'. Refute it at one input. -/
def headerKnownWrong : ChangeSpec := { name := "headerKnown", fn := fun _ => fun
  | [] => { results := [.lit (.bool false)], args := [] }
  | _ => none }
def HeaderKnownWrongFalsely : Prop := headerKnownRow.holds Try.pinned (OpenSpec.ofChange headerKnownWrong)

/-- 'cheesepresslaw29.HeaderBack': WHATEVER THE INPUT: true; the input reads as it did. -/
def headerBackSpec : ChangeSpec := { name := "headerBack", fn := fun _ => fun
  | [d1, d2, d3, d4, d5] => { results := [.lit (.bool true)], args := [d1, d2, d3, d4, d5] }
  | _ => none }
def headerBackRow : OpenClaim := { program := "ytfdbkpbgkpkckaa", sum := "463871ba04ff0b31eab2dca746637ceb619f7f62c50fdebcad087d2bec8b454e", func := "cheesepress/cheesepresslaw29.HeaderBack", spec := "headerBack", unfollowed := true, recurses := true, apart := false }
def HeaderBackSaid : Prop := headerBackRow.holds Try.pinned (OpenSpec.ofChange headerBackSpec)

/-- ITS FALSE NEIGHBOUR: 'it returns false'. Refute it at one input. -/
def headerBackWrong : ChangeSpec := { name := "headerBack", fn := fun _ => fun
  | [d1, d2, d3, d4, d5] => { results := [.lit (.bool false)], args := [d1, d2, d3, d4, d5] }
  | _ => none }
def HeaderBackWrongFalsely : Prop := headerBackRow.holds Try.pinned (OpenSpec.ofChange headerBackWrong)

/-- 'cheesepresslaw29.HeaderBits': WHATEVER THE INPUT: true; the input reads as it did. -/
def headerBitsSpec : ChangeSpec := { name := "headerBits", fn := fun _ => fun
  | [d1, d2, d3, d4, d5] => { results := [.lit (.bool true)], args := [d1, d2, d3, d4, d5] }
  | _ => none }
def headerBitsRow : OpenClaim := { program := "ytfdbkpbgkpkckaa", sum := "463871ba04ff0b31eab2dca746637ceb619f7f62c50fdebcad087d2bec8b454e", func := "cheesepress/cheesepresslaw29.HeaderBits", spec := "headerBits", unfollowed := true, recurses := true, apart := false }
def HeaderBitsSaid : Prop := headerBitsRow.holds Try.pinned (OpenSpec.ofChange headerBitsSpec)

/-- ITS FALSE NEIGHBOUR: 'it returns false'. Refute it at one input. -/
def headerBitsWrong : ChangeSpec := { name := "headerBits", fn := fun _ => fun
  | [d1, d2, d3, d4, d5] => { results := [.lit (.bool false)], args := [d1, d2, d3, d4, d5] }
  | _ => none }
def HeaderBitsWrongFalsely : Prop := headerBitsRow.holds Try.pinned (OpenSpec.ofChange headerBitsWrong)

/- THE SECOND FORM. 'bulk': how many values and letters a reading holds, each counted each time it is reached (what is shared counts as often as it is met; a slice's spare places count too). A statement '..UptoSaid' is the law's where the arguments, and the package variables that the reading takes, are together of bulk at most 1048576: NARROWER than '..Said'. Prove '..Said' where nothing that the law and all that it calls make is longer than what came in: it says more and counts as full. Else prove '..UptoSaid'. A law counts once. -/
mutual
def uptoBulk {H : Type} : DataW H → Nat
  | .lit (.string bytes) => bytes.length + 1
  | .lit _ => 1
  | .nil => 1
  | .ptr d => uptoBulk d + 1
  | .slice elems spare => uptoBulkAll elems + uptoBulkAll spare + 1
  | .agg parts => uptoBulkAll parts + 1
  | .iface _ d => uptoBulk d + 1
  | .map entries => uptoBulkEntries entries + 1
  | .held _ => 1
def uptoBulkAll {H : Type} : List (DataW H) → Nat
  | [] => 0
  | d :: r => uptoBulk d + uptoBulkAll r
def uptoBulkEntries {H : Type} : List (Lit × DataW H) → Nat
  | [] => 0
  | x :: r => uptoBulkEntry x + uptoBulkEntries r
def uptoBulkEntry {H : Type} : Lit × DataW H → Nat
  | (.string bytes, d) => bytes.length + uptoBulk d + 1
  | (_, d) => uptoBulk d + 1
 end
def uptoSmall : (H : Type) → List (DataW H) → Bool := fun _ ds => decide (uptoBulkAll ds ≤ 1048576)
def OpenSpec.upto (s : _root_.Go.ChangeSpec) : _root_.Go.OpenSpec := { _root_.Go.OpenSpec.ofChange s with cond := some uptoSmall }

/-- 'cheesepresslaw43.BoundSums', WHERE WHAT IT READS IS OF BULK AT MOST 1048576: true; the input reads as it did. -/
def boundSumsUptoRow : OpenClaim := { program := "ytfdbkpbgkpkckaa", sum := "463871ba04ff0b31eab2dca746637ceb619f7f62c50fdebcad087d2bec8b454e", func := "cheesepress/cheesepresslaw43.BoundSums", spec := "boundSums", unfollowed := true, recurses := true, apart := false, narrowed := true }
def BoundSumsUptoSaid : Prop := boundSumsUptoRow.holds Try.pinned (OpenSpec.upto boundSumsSpec)

/-- 'cheesepresslaw43.BoundGrows', WHERE WHAT IT READS IS OF BULK AT MOST 1048576: true; the input reads as it did. -/
def boundGrowsUptoRow : OpenClaim := { program := "ytfdbkpbgkpkckaa", sum := "463871ba04ff0b31eab2dca746637ceb619f7f62c50fdebcad087d2bec8b454e", func := "cheesepress/cheesepresslaw43.BoundGrows", spec := "boundGrows", unfollowed := true, recurses := true, apart := false, narrowed := true }
def BoundGrowsUptoSaid : Prop := boundGrowsUptoRow.holds Try.pinned (OpenSpec.upto boundGrowsSpec)

/-- 'cheesepresslaw43.BoundNumbers', WHERE WHAT IT READS IS OF BULK AT MOST 1048576: true; the input reads as it did. -/
def boundNumbersUptoRow : OpenClaim := { program := "ytfdbkpbgkpkckaa", sum := "463871ba04ff0b31eab2dca746637ceb619f7f62c50fdebcad087d2bec8b454e", func := "cheesepress/cheesepresslaw43.BoundNumbers", spec := "boundNumbers", unfollowed := true, recurses := true, apart := false, narrowed := true }
def BoundNumbersUptoSaid : Prop := boundNumbersUptoRow.holds Try.pinned (OpenSpec.upto boundNumbersSpec)

/-- 'cheesepresslaw43.BoundWholes', WHERE WHAT IT READS IS OF BULK AT MOST 1048576: true; the input reads as it did. -/
def boundWholesUptoRow : OpenClaim := { program := "ytfdbkpbgkpkckaa", sum := "463871ba04ff0b31eab2dca746637ceb619f7f62c50fdebcad087d2bec8b454e", func := "cheesepress/cheesepresslaw43.BoundWholes", spec := "boundWholes", unfollowed := true, recurses := true, apart := false, narrowed := true }
def BoundWholesUptoSaid : Prop := boundWholesUptoRow.holds Try.pinned (OpenSpec.upto boundWholesSpec)

/-- 'cheesepresslaw43.BoundJobs', WHERE WHAT IT READS IS OF BULK AT MOST 1048576: true; the input reads as it did. -/
def boundJobsUptoRow : OpenClaim := { program := "ytfdbkpbgkpkckaa", sum := "463871ba04ff0b31eab2dca746637ceb619f7f62c50fdebcad087d2bec8b454e", func := "cheesepress/cheesepresslaw43.BoundJobs", spec := "boundJobs", unfollowed := true, recurses := true, apart := false, narrowed := true }
def BoundJobsUptoSaid : Prop := boundJobsUptoRow.holds Try.pinned (OpenSpec.upto boundJobsSpec)

/-- 'cheesepresslaw43.BoundKnown', WHERE WHAT IT READS IS OF BULK AT MOST 1048576: true; the input reads as it did. -/
def boundKnownUptoRow : OpenClaim := { program := "ytfdbkpbgkpkckaa", sum := "463871ba04ff0b31eab2dca746637ceb619f7f62c50fdebcad087d2bec8b454e", func := "cheesepress/cheesepresslaw43.BoundKnown", spec := "boundKnown", unfollowed := true, recurses := true, apart := false, narrowed := true }
def BoundKnownUptoSaid : Prop := boundKnownUptoRow.holds Try.pinned (OpenSpec.upto boundKnownSpec)

/-- 'cheesepresslaw29.HeaderReads', WHERE WHAT IT READS IS OF BULK AT MOST 1048576: true; the input reads as it did. -/
def headerReadsUptoRow : OpenClaim := { program := "ytfdbkpbgkpkckaa", sum := "463871ba04ff0b31eab2dca746637ceb619f7f62c50fdebcad087d2bec8b454e", func := "cheesepress/cheesepresslaw29.HeaderReads", spec := "headerReads", unfollowed := true, recurses := true, apart := false, narrowed := true }
def HeaderReadsUptoSaid : Prop := headerReadsUptoRow.holds Try.pinned (OpenSpec.upto headerReadsSpec)

/-- 'cheesepresslaw29.HeaderWrites', WHERE WHAT IT READS IS OF BULK AT MOST 1048576: true; the input reads as it did. -/
def headerWritesUptoRow : OpenClaim := { program := "ytfdbkpbgkpkckaa", sum := "463871ba04ff0b31eab2dca746637ceb619f7f62c50fdebcad087d2bec8b454e", func := "cheesepress/cheesepresslaw29.HeaderWrites", spec := "headerWrites", unfollowed := true, recurses := true, apart := false, narrowed := true }
def HeaderWritesUptoSaid : Prop := headerWritesUptoRow.holds Try.pinned (OpenSpec.upto headerWritesSpec)

/-- 'cheesepresslaw29.HeaderKnown', WHERE WHAT IT READS IS OF BULK AT MOST 1048576: true; the input reads as it did. -/
def headerKnownUptoRow : OpenClaim := { program := "ytfdbkpbgkpkckaa", sum := "463871ba04ff0b31eab2dca746637ceb619f7f62c50fdebcad087d2bec8b454e", func := "cheesepress/cheesepresslaw29.HeaderKnown", spec := "headerKnown", unfollowed := true, recurses := true, apart := false, narrowed := true }
def HeaderKnownUptoSaid : Prop := headerKnownUptoRow.holds Try.pinned (OpenSpec.upto headerKnownSpec)

/-- 'cheesepresslaw29.HeaderBack', WHERE WHAT IT READS IS OF BULK AT MOST 1048576: true; the input reads as it did. -/
def headerBackUptoRow : OpenClaim := { program := "ytfdbkpbgkpkckaa", sum := "463871ba04ff0b31eab2dca746637ceb619f7f62c50fdebcad087d2bec8b454e", func := "cheesepress/cheesepresslaw29.HeaderBack", spec := "headerBack", unfollowed := true, recurses := true, apart := false, narrowed := true }
def HeaderBackUptoSaid : Prop := headerBackUptoRow.holds Try.pinned (OpenSpec.upto headerBackSpec)

/-- 'cheesepresslaw29.HeaderBits', WHERE WHAT IT READS IS OF BULK AT MOST 1048576: true; the input reads as it did. -/
def headerBitsUptoRow : OpenClaim := { program := "ytfdbkpbgkpkckaa", sum := "463871ba04ff0b31eab2dca746637ceb619f7f62c50fdebcad087d2bec8b454e", func := "cheesepress/cheesepresslaw29.HeaderBits", spec := "headerBits", unfollowed := true, recurses := true, apart := false, narrowed := true }
def HeaderBitsUptoSaid : Prop := headerBitsUptoRow.holds Try.pinned (OpenSpec.upto headerBitsSpec)

end Rows
end Go.Proofs.Ytfdbkpbgkpkckaa
