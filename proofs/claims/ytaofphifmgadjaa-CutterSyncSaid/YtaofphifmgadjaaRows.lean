/-
  No cell of these rows narrows 'for every input' (looked for: loops, veiled, ifaces, maps, wideKeys, modest, calm, conditions, laid).
  DERIVED. THE GIVEN ROWS OF THIS SEAT. 12 by the template 'for every input the law returns true; each argument reads behind the call as it read before'; 0 by the template 'total and deterministic' (their statements: YtaofphifmgadjaaTotals.lean).
  GIVEN WITH THE SEED: the statements are not yours to turn. If you find one false, say at which input.
  Laid BY PROGRAM, IN A SANDBOX (cutbox-rows.mjs): the forced cells as the released guide's own fill.sh prints them over the translation e53da5db099d2652… (all of the seat's roots in one cut). By AI agents, Wed Nov 11 2026. No macro, syntax, notation, axiom, sorry.
-/
import Derived.Test.YtaofphifmgadjaaChecked
import GoSem.Claim
import GoSem.ClaimJoined
import GoSem.ClaimMapViews
import Derived.JoinedTies
import Derived.KernelRfl
namespace Go.Proofs.Ytaofphifmgadjaa
/- THE CELL 'sum', in the pinned program and in every row, IS THE sha256 OF THE DUMP (.gsa) THAT YtaofphifmgadjaaProg.lean LOADS. Nothing in Lean hashes anything: it is a label: what it is worth is what the hold of that sum in a sandbox is worth. -/
noncomputable def Try.pinned : Pinned := { name := "ytaofphifmgadjaa", sum := "e53da5db099d26528fec957fa76e5cc55d5a7487d4f2618b37d50e036581e7e8", checked := Try.checked }
namespace Rows
def none {H : Type} : Left H := { results := [], args := [] }

/-- 'cheesepresslaw34.RollOne': WHATEVER THE INPUT: true; the input reads as it did. -/
def rollOneSpec : ChangeSpec := { name := "rollOne", fn := fun _ => fun
  | [d1, d2, d3, d4, d5] => { results := [.lit (.bool true)], args := [d1, d2, d3, d4, d5] }
  | _ => none }
def rollOneRow : OpenClaim := { program := "ytaofphifmgadjaa", sum := "e53da5db099d26528fec957fa76e5cc55d5a7487d4f2618b37d50e036581e7e8", func := "cheesepress/cheesepresslaw34.RollOne", spec := "rollOne", apart := false }
def RollOneSaid : Prop := rollOneRow.holds Try.pinned (OpenSpec.ofChange rollOneSpec)

/-- ITS FALSE NEIGHBOUR: 'it returns false'. Refute it at one input. -/
def rollOneWrong : ChangeSpec := { name := "rollOne", fn := fun _ => fun
  | [d1, d2, d3, d4, d5] => { results := [.lit (.bool false)], args := [d1, d2, d3, d4, d5] }
  | _ => none }
def RollOneWrongFalsely : Prop := rollOneRow.holds Try.pinned (OpenSpec.ofChange rollOneWrong)

/-- 'cheesepresslaw34.RollKnown': WHATEVER THE INPUT: true; the input reads as it did. -/
def rollKnownSpec : ChangeSpec := { name := "rollKnown", fn := fun _ => fun
  | [] => { results := [.lit (.bool true)], args := [] }
  | _ => none }
def rollKnownRow : OpenClaim := { program := "ytaofphifmgadjaa", sum := "e53da5db099d26528fec957fa76e5cc55d5a7487d4f2618b37d50e036581e7e8", func := "cheesepress/cheesepresslaw34.RollKnown", spec := "rollKnown", unfollowed := true, recurses := true, apart := false }
def RollKnownSaid : Prop := rollKnownRow.holds Try.pinned (OpenSpec.ofChange rollKnownSpec)

/-- ITS FALSE NEIGHBOUR: 'it returns false'. Refute it at one input. -/
def rollKnownWrong : ChangeSpec := { name := "rollKnown", fn := fun _ => fun
  | [] => { results := [.lit (.bool false)], args := [] }
  | _ => none }
def RollKnownWrongFalsely : Prop := rollKnownRow.holds Try.pinned (OpenSpec.ofChange rollKnownWrong)

/-- 'cheesepresslaw34.RollRolls': WHATEVER THE INPUT: true; the input reads as it did. -/
def rollRollsSpec : ChangeSpec := { name := "rollRolls", fn := fun _ => fun
  | [d1, d2, d3] => { results := [.lit (.bool true)], args := [d1, d2, d3] }
  | _ => none }
def rollRollsRow : OpenClaim := { program := "ytaofphifmgadjaa", sum := "e53da5db099d26528fec957fa76e5cc55d5a7487d4f2618b37d50e036581e7e8", func := "cheesepress/cheesepresslaw34.RollRolls", spec := "rollRolls", unfollowed := true, recurses := true, apart := false }
def RollRollsSaid : Prop := rollRollsRow.holds Try.pinned (OpenSpec.ofChange rollRollsSpec)

/-- ITS FALSE NEIGHBOUR: 'it returns false'. Refute it at one input. -/
def rollRollsWrong : ChangeSpec := { name := "rollRolls", fn := fun _ => fun
  | [d1, d2, d3] => { results := [.lit (.bool false)], args := [d1, d2, d3] }
  | _ => none }
def RollRollsWrongFalsely : Prop := rollRollsRow.holds Try.pinned (OpenSpec.ofChange rollRollsWrong)

/-- 'cheesepresslaw34.RollApart': WHATEVER THE INPUT: true; the input reads as it did. -/
def rollApartSpec : ChangeSpec := { name := "rollApart", fn := fun _ => fun
  | [d1, d2, d3] => { results := [.lit (.bool true)], args := [d1, d2, d3] }
  | _ => none }
def rollApartRow : OpenClaim := { program := "ytaofphifmgadjaa", sum := "e53da5db099d26528fec957fa76e5cc55d5a7487d4f2618b37d50e036581e7e8", func := "cheesepress/cheesepresslaw34.RollApart", spec := "rollApart", unfollowed := true, recurses := true, apart := false }
def RollApartSaid : Prop := rollApartRow.holds Try.pinned (OpenSpec.ofChange rollApartSpec)

/-- ITS FALSE NEIGHBOUR: 'it returns false'. Refute it at one input. -/
def rollApartWrong : ChangeSpec := { name := "rollApart", fn := fun _ => fun
  | [d1, d2, d3] => { results := [.lit (.bool false)], args := [d1, d2, d3] }
  | _ => none }
def RollApartWrongFalsely : Prop := rollApartRow.holds Try.pinned (OpenSpec.ofChange rollApartWrong)

/-- 'cheesepresslaw34.RollAll': WHATEVER THE INPUT: true; the input reads as it did. -/
def rollAllSpec : ChangeSpec := { name := "rollAll", fn := fun _ => fun
  | [d1, d2, d3] => { results := [.lit (.bool true)], args := [d1, d2, d3] }
  | _ => none }
def rollAllRow : OpenClaim := { program := "ytaofphifmgadjaa", sum := "e53da5db099d26528fec957fa76e5cc55d5a7487d4f2618b37d50e036581e7e8", func := "cheesepress/cheesepresslaw34.RollAll", spec := "rollAll", unfollowed := true, recurses := true, apart := false }
def RollAllSaid : Prop := rollAllRow.holds Try.pinned (OpenSpec.ofChange rollAllSpec)

/-- ITS FALSE NEIGHBOUR: 'it returns false'. Refute it at one input. -/
def rollAllWrong : ChangeSpec := { name := "rollAll", fn := fun _ => fun
  | [d1, d2, d3] => { results := [.lit (.bool false)], args := [d1, d2, d3] }
  | _ => none }
def RollAllWrongFalsely : Prop := rollAllRow.holds Try.pinned (OpenSpec.ofChange rollAllWrong)

/-- 'cheesepresslaw34.RollPlaces': WHATEVER THE INPUT: true; the input reads as it did. -/
def rollPlacesSpec : ChangeSpec := { name := "rollPlaces", fn := fun _ => fun
  | [d1, d2, d3] => { results := [.lit (.bool true)], args := [d1, d2, d3] }
  | _ => none }
def rollPlacesRow : OpenClaim := { program := "ytaofphifmgadjaa", sum := "e53da5db099d26528fec957fa76e5cc55d5a7487d4f2618b37d50e036581e7e8", func := "cheesepress/cheesepresslaw34.RollPlaces", spec := "rollPlaces", unfollowed := true, recurses := true, apart := false }
def RollPlacesSaid : Prop := rollPlacesRow.holds Try.pinned (OpenSpec.ofChange rollPlacesSpec)

/-- ITS FALSE NEIGHBOUR: 'it returns false'. Refute it at one input. -/
def rollPlacesWrong : ChangeSpec := { name := "rollPlaces", fn := fun _ => fun
  | [d1, d2, d3] => { results := [.lit (.bool false)], args := [d1, d2, d3] }
  | _ => none }
def RollPlacesWrongFalsely : Prop := rollPlacesRow.holds Try.pinned (OpenSpec.ofChange rollPlacesWrong)

/-- 'cheesepresslaw35.CutterSync': WHATEVER THE INPUT: true; the input reads as it did. -/
def cutterSyncSpec : ChangeSpec := { name := "cutterSync", fn := fun _ => fun
  | [d1, d2, d3] => { results := [.lit (.bool true)], args := [d1, d2, d3] }
  | _ => none }
def cutterSyncRow : OpenClaim := { program := "ytaofphifmgadjaa", sum := "e53da5db099d26528fec957fa76e5cc55d5a7487d4f2618b37d50e036581e7e8", func := "cheesepress/cheesepresslaw35.CutterSync", spec := "cutterSync", unfollowed := true, recurses := true, apart := false }
def CutterSyncSaid : Prop := cutterSyncRow.holds Try.pinned (OpenSpec.ofChange cutterSyncSpec)

/-- ITS FALSE NEIGHBOUR: 'it returns false'. Refute it at one input. -/
def cutterSyncWrong : ChangeSpec := { name := "cutterSync", fn := fun _ => fun
  | [d1, d2, d3] => { results := [.lit (.bool false)], args := [d1, d2, d3] }
  | _ => none }
def CutterSyncWrongFalsely : Prop := cutterSyncRow.holds Try.pinned (OpenSpec.ofChange cutterSyncWrong)

/-- 'cheesepresslaw35.CutterMore': WHATEVER THE INPUT: true; the input reads as it did. -/
def cutterMoreSpec : ChangeSpec := { name := "cutterMore", fn := fun _ => fun
  | [d1, d2, d3] => { results := [.lit (.bool true)], args := [d1, d2, d3] }
  | _ => none }
def cutterMoreRow : OpenClaim := { program := "ytaofphifmgadjaa", sum := "e53da5db099d26528fec957fa76e5cc55d5a7487d4f2618b37d50e036581e7e8", func := "cheesepress/cheesepresslaw35.CutterMore", spec := "cutterMore", unfollowed := true, recurses := true, apart := false }
def CutterMoreSaid : Prop := cutterMoreRow.holds Try.pinned (OpenSpec.ofChange cutterMoreSpec)

/-- ITS FALSE NEIGHBOUR: 'it returns false'. Refute it at one input. -/
def cutterMoreWrong : ChangeSpec := { name := "cutterMore", fn := fun _ => fun
  | [d1, d2, d3] => { results := [.lit (.bool false)], args := [d1, d2, d3] }
  | _ => none }
def CutterMoreWrongFalsely : Prop := cutterMoreRow.holds Try.pinned (OpenSpec.ofChange cutterMoreWrong)

/-- 'cheesepresslaw35.CutterFull': WHATEVER THE INPUT: true; the input reads as it did. -/
def cutterFullSpec : ChangeSpec := { name := "cutterFull", fn := fun _ => fun
  | [d1, d2] => { results := [.lit (.bool true)], args := [d1, d2] }
  | _ => none }
def cutterFullRow : OpenClaim := { program := "ytaofphifmgadjaa", sum := "e53da5db099d26528fec957fa76e5cc55d5a7487d4f2618b37d50e036581e7e8", func := "cheesepress/cheesepresslaw35.CutterFull", spec := "cutterFull", unfollowed := true, recurses := true, apart := false }
def CutterFullSaid : Prop := cutterFullRow.holds Try.pinned (OpenSpec.ofChange cutterFullSpec)

/-- ITS FALSE NEIGHBOUR: 'it returns false'. Refute it at one input. -/
def cutterFullWrong : ChangeSpec := { name := "cutterFull", fn := fun _ => fun
  | [d1, d2] => { results := [.lit (.bool false)], args := [d1, d2] }
  | _ => none }
def CutterFullWrongFalsely : Prop := cutterFullRow.holds Try.pinned (OpenSpec.ofChange cutterFullWrong)

/-- 'cheesepresslaw35.CutterJobs': WHATEVER THE INPUT: true; the input reads as it did. -/
def cutterJobsSpec : ChangeSpec := { name := "cutterJobs", fn := fun _ => fun
  | [d1, d2] => { results := [.lit (.bool true)], args := [d1, d2] }
  | _ => none }
def cutterJobsRow : OpenClaim := { program := "ytaofphifmgadjaa", sum := "e53da5db099d26528fec957fa76e5cc55d5a7487d4f2618b37d50e036581e7e8", func := "cheesepress/cheesepresslaw35.CutterJobs", spec := "cutterJobs", unfollowed := true, recurses := true, apart := false }
def CutterJobsSaid : Prop := cutterJobsRow.holds Try.pinned (OpenSpec.ofChange cutterJobsSpec)

/-- ITS FALSE NEIGHBOUR: 'it returns false'. Refute it at one input. -/
def cutterJobsWrong : ChangeSpec := { name := "cutterJobs", fn := fun _ => fun
  | [d1, d2] => { results := [.lit (.bool false)], args := [d1, d2] }
  | _ => none }
def CutterJobsWrongFalsely : Prop := cutterJobsRow.holds Try.pinned (OpenSpec.ofChange cutterJobsWrong)

/-- 'cheesepresslaw35.CutterEnds': WHATEVER THE INPUT: true; the input reads as it did. -/
def cutterEndsSpec : ChangeSpec := { name := "cutterEnds", fn := fun _ => fun
  | [d1, d2, d3] => { results := [.lit (.bool true)], args := [d1, d2, d3] }
  | _ => none }
def cutterEndsRow : OpenClaim := { program := "ytaofphifmgadjaa", sum := "e53da5db099d26528fec957fa76e5cc55d5a7487d4f2618b37d50e036581e7e8", func := "cheesepress/cheesepresslaw35.CutterEnds", spec := "cutterEnds", unfollowed := true, recurses := true, apart := false }
def CutterEndsSaid : Prop := cutterEndsRow.holds Try.pinned (OpenSpec.ofChange cutterEndsSpec)

/-- ITS FALSE NEIGHBOUR: 'it returns false'. Refute it at one input. -/
def cutterEndsWrong : ChangeSpec := { name := "cutterEnds", fn := fun _ => fun
  | [d1, d2, d3] => { results := [.lit (.bool false)], args := [d1, d2, d3] }
  | _ => none }
def CutterEndsWrongFalsely : Prop := cutterEndsRow.holds Try.pinned (OpenSpec.ofChange cutterEndsWrong)

/-- 'cheesepresslaw35.CutterKnown': WHATEVER THE INPUT: true; the input reads as it did. -/
def cutterKnownSpec : ChangeSpec := { name := "cutterKnown", fn := fun _ => fun
  | [] => { results := [.lit (.bool true)], args := [] }
  | _ => none }
def cutterKnownRow : OpenClaim := { program := "ytaofphifmgadjaa", sum := "e53da5db099d26528fec957fa76e5cc55d5a7487d4f2618b37d50e036581e7e8", func := "cheesepress/cheesepresslaw35.CutterKnown", spec := "cutterKnown", unfollowed := true, recurses := true, apart := false }
def CutterKnownSaid : Prop := cutterKnownRow.holds Try.pinned (OpenSpec.ofChange cutterKnownSpec)

/-- ITS FALSE NEIGHBOUR: 'it returns false'. Refute it at one input. -/
def cutterKnownWrong : ChangeSpec := { name := "cutterKnown", fn := fun _ => fun
  | [] => { results := [.lit (.bool false)], args := [] }
  | _ => none }
def CutterKnownWrongFalsely : Prop := cutterKnownRow.holds Try.pinned (OpenSpec.ofChange cutterKnownWrong)

/- THE SECOND FORM. 'bulk': how many values and letters a reading holds, each counted each time it is reached (what is shared counts as often as it is met; a slice's spare places count too). A statement '..UptoSaid' is the law's where the arguments, and the package variables that the reading takes, are together of bulk at most 1048576: NARROWER than '..Said'. Prove '..Said' where nothing that the law and all that it calls make is longer than what came in: it says more and counts as full. Else prove '..UptoSaid'. A law counts once. -/
mutual
def uptoBulk {H : Type} : DataW H → Nat
  | .lit (.string bytes) => bytes.length + 1
  | .lit _ => 1
  | .nil => 1
  | .ptr d => uptoBulk d + 1
  | .slice elems spare => uptoBulkAll elems + uptoBulkAll spare + 1
  | .agg parts => uptoBulkAll parts + 1
  | .iface _ d => uptoBulk d + 1
  | .map entries => uptoBulkEntries entries + 1
  | .held _ => 1
def uptoBulkAll {H : Type} : List (DataW H) → Nat
  | [] => 0
  | d :: r => uptoBulk d + uptoBulkAll r
def uptoBulkEntries {H : Type} : List (Lit × DataW H) → Nat
  | [] => 0
  | x :: r => uptoBulkEntry x + uptoBulkEntries r
def uptoBulkEntry {H : Type} : Lit × DataW H → Nat
  | (.string bytes, d) => bytes.length + uptoBulk d + 1
  | (_, d) => uptoBulk d + 1
 end
def uptoSmall : (H : Type) → List (DataW H) → Bool := fun _ ds => decide (uptoBulkAll ds ≤ 1048576)
def OpenSpec.upto (s : _root_.Go.ChangeSpec) : _root_.Go.OpenSpec := { _root_.Go.OpenSpec.ofChange s with cond := some uptoSmall }

/-- 'cheesepresslaw34.RollOne', WHERE WHAT IT READS IS OF BULK AT MOST 1048576: true; the input reads as it did. -/
def rollOneUptoRow : OpenClaim := { program := "ytaofphifmgadjaa", sum := "e53da5db099d26528fec957fa76e5cc55d5a7487d4f2618b37d50e036581e7e8", func := "cheesepress/cheesepresslaw34.RollOne", spec := "rollOne", apart := false, narrowed := true }
def RollOneUptoSaid : Prop := rollOneUptoRow.holds Try.pinned (OpenSpec.upto rollOneSpec)

/-- 'cheesepresslaw34.RollKnown', WHERE WHAT IT READS IS OF BULK AT MOST 1048576: true; the input reads as it did. -/
def rollKnownUptoRow : OpenClaim := { program := "ytaofphifmgadjaa", sum := "e53da5db099d26528fec957fa76e5cc55d5a7487d4f2618b37d50e036581e7e8", func := "cheesepress/cheesepresslaw34.RollKnown", spec := "rollKnown", unfollowed := true, recurses := true, apart := false, narrowed := true }
def RollKnownUptoSaid : Prop := rollKnownUptoRow.holds Try.pinned (OpenSpec.upto rollKnownSpec)

/-- 'cheesepresslaw34.RollRolls', WHERE WHAT IT READS IS OF BULK AT MOST 1048576: true; the input reads as it did. -/
def rollRollsUptoRow : OpenClaim := { program := "ytaofphifmgadjaa", sum := "e53da5db099d26528fec957fa76e5cc55d5a7487d4f2618b37d50e036581e7e8", func := "cheesepress/cheesepresslaw34.RollRolls", spec := "rollRolls", unfollowed := true, recurses := true, apart := false, narrowed := true }
def RollRollsUptoSaid : Prop := rollRollsUptoRow.holds Try.pinned (OpenSpec.upto rollRollsSpec)

/-- 'cheesepresslaw34.RollApart', WHERE WHAT IT READS IS OF BULK AT MOST 1048576: true; the input reads as it did. -/
def rollApartUptoRow : OpenClaim := { program := "ytaofphifmgadjaa", sum := "e53da5db099d26528fec957fa76e5cc55d5a7487d4f2618b37d50e036581e7e8", func := "cheesepress/cheesepresslaw34.RollApart", spec := "rollApart", unfollowed := true, recurses := true, apart := false, narrowed := true }
def RollApartUptoSaid : Prop := rollApartUptoRow.holds Try.pinned (OpenSpec.upto rollApartSpec)

/-- 'cheesepresslaw34.RollAll', WHERE WHAT IT READS IS OF BULK AT MOST 1048576: true; the input reads as it did. -/
def rollAllUptoRow : OpenClaim := { program := "ytaofphifmgadjaa", sum := "e53da5db099d26528fec957fa76e5cc55d5a7487d4f2618b37d50e036581e7e8", func := "cheesepress/cheesepresslaw34.RollAll", spec := "rollAll", unfollowed := true, recurses := true, apart := false, narrowed := true }
def RollAllUptoSaid : Prop := rollAllUptoRow.holds Try.pinned (OpenSpec.upto rollAllSpec)

/-- 'cheesepresslaw34.RollPlaces', WHERE WHAT IT READS IS OF BULK AT MOST 1048576: true; the input reads as it did. -/
def rollPlacesUptoRow : OpenClaim := { program := "ytaofphifmgadjaa", sum := "e53da5db099d26528fec957fa76e5cc55d5a7487d4f2618b37d50e036581e7e8", func := "cheesepress/cheesepresslaw34.RollPlaces", spec := "rollPlaces", unfollowed := true, recurses := true, apart := false, narrowed := true }
def RollPlacesUptoSaid : Prop := rollPlacesUptoRow.holds Try.pinned (OpenSpec.upto rollPlacesSpec)

/-- 'cheesepresslaw35.CutterSync', WHERE WHAT IT READS IS OF BULK AT MOST 1048576: true; the input reads as it did. -/
def cutterSyncUptoRow : OpenClaim := { program := "ytaofphifmgadjaa", sum := "e53da5db099d26528fec957fa76e5cc55d5a7487d4f2618b37d50e036581e7e8", func := "cheesepress/cheesepresslaw35.CutterSync", spec := "cutterSync", unfollowed := true, recurses := true, apart := false, narrowed := true }
def CutterSyncUptoSaid : Prop := cutterSyncUptoRow.holds Try.pinned (OpenSpec.upto cutterSyncSpec)

/-- 'cheesepresslaw35.CutterMore', WHERE WHAT IT READS IS OF BULK AT MOST 1048576: true; the input reads as it did. -/
def cutterMoreUptoRow : OpenClaim := { program := "ytaofphifmgadjaa", sum := "e53da5db099d26528fec957fa76e5cc55d5a7487d4f2618b37d50e036581e7e8", func := "cheesepress/cheesepresslaw35.CutterMore", spec := "cutterMore", unfollowed := true, recurses := true, apart := false, narrowed := true }
def CutterMoreUptoSaid : Prop := cutterMoreUptoRow.holds Try.pinned (OpenSpec.upto cutterMoreSpec)

/-- 'cheesepresslaw35.CutterFull', WHERE WHAT IT READS IS OF BULK AT MOST 1048576: true; the input reads as it did. -/
def cutterFullUptoRow : OpenClaim := { program := "ytaofphifmgadjaa", sum := "e53da5db099d26528fec957fa76e5cc55d5a7487d4f2618b37d50e036581e7e8", func := "cheesepress/cheesepresslaw35.CutterFull", spec := "cutterFull", unfollowed := true, recurses := true, apart := false, narrowed := true }
def CutterFullUptoSaid : Prop := cutterFullUptoRow.holds Try.pinned (OpenSpec.upto cutterFullSpec)

/-- 'cheesepresslaw35.CutterJobs', WHERE WHAT IT READS IS OF BULK AT MOST 1048576: true; the input reads as it did. -/
def cutterJobsUptoRow : OpenClaim := { program := "ytaofphifmgadjaa", sum := "e53da5db099d26528fec957fa76e5cc55d5a7487d4f2618b37d50e036581e7e8", func := "cheesepress/cheesepresslaw35.CutterJobs", spec := "cutterJobs", unfollowed := true, recurses := true, apart := false, narrowed := true }
def CutterJobsUptoSaid : Prop := cutterJobsUptoRow.holds Try.pinned (OpenSpec.upto cutterJobsSpec)

/-- 'cheesepresslaw35.CutterEnds', WHERE WHAT IT READS IS OF BULK AT MOST 1048576: true; the input reads as it did. -/
def cutterEndsUptoRow : OpenClaim := { program := "ytaofphifmgadjaa", sum := "e53da5db099d26528fec957fa76e5cc55d5a7487d4f2618b37d50e036581e7e8", func := "cheesepress/cheesepresslaw35.CutterEnds", spec := "cutterEnds", unfollowed := true, recurses := true, apart := false, narrowed := true }
def CutterEndsUptoSaid : Prop := cutterEndsUptoRow.holds Try.pinned (OpenSpec.upto cutterEndsSpec)

/-- 'cheesepresslaw35.CutterKnown', WHERE WHAT IT READS IS OF BULK AT MOST 1048576: true; the input reads as it did. -/
def cutterKnownUptoRow : OpenClaim := { program := "ytaofphifmgadjaa", sum := "e53da5db099d26528fec957fa76e5cc55d5a7487d4f2618b37d50e036581e7e8", func := "cheesepress/cheesepresslaw35.CutterKnown", spec := "cutterKnown", unfollowed := true, recurses := true, apart := false, narrowed := true }
def CutterKnownUptoSaid : Prop := cutterKnownUptoRow.holds Try.pinned (OpenSpec.upto cutterKnownSpec)

end Rows
end Go.Proofs.Ytaofphifmgadjaa
