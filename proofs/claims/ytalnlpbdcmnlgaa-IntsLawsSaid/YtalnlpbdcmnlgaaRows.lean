/-
  No cell of these rows narrows 'for every input' (looked for: loops, veiled, ifaces, maps, wideKeys, modest, calm, conditions, laid).
  DERIVED. THE GIVEN ROWS OF THIS SEAT. 7 by the template 'for every input the law returns true; each argument reads behind the call as it read before'; 0 by the template 'total and deterministic' (their statements: YtalnlpbdcmnlgaaTotals.lean).
  GIVEN WITH THE SEED: the statements are not yours to turn. If you find one false, say at which input.
  Laid BY PROGRAM, IN A SANDBOX (cutbox-rows.mjs): the forced cells as the released guide's own fill.sh prints them over the translation 06220d626787c192… (all of the seat's roots in one cut). By AI agents, Wed Nov 11 2026. No macro, syntax, notation, axiom, sorry.
-/
import Derived.Test.YtalnlpbdcmnlgaaChecked
import GoSem.Claim
import GoSem.ClaimJoined
import GoSem.ClaimMapViews
import Derived.JoinedTies
import Derived.KernelRfl
namespace Go.Proofs.Ytalnlpbdcmnlgaa
/- THE CELL 'sum', in the pinned program and in every row, IS THE sha256 OF THE DUMP (.gsa) THAT YtalnlpbdcmnlgaaProg.lean LOADS. Nothing in Lean hashes anything: it is a label: what it is worth is what the hold of that sum in a sandbox is worth. -/
noncomputable def Try.pinned : Pinned := { name := "ytalnlpbdcmnlgaa", sum := "06220d626787c19236abbcc756356f2949434836d372425be558c88813e1a05c", checked := Try.checked }
namespace Rows
def none {H : Type} : Left H := { results := [], args := [] }

/-- 'cheesepresslaw01.IntsFields': WHATEVER THE INPUT: true; the input reads as it did. -/
def intsFieldsSpec : ChangeSpec := { name := "intsFields", fn := fun _ => fun
  | [d1, d2, d3, d4] => { results := [.lit (.bool true)], args := [d1, d2, d3, d4] }
  | _ => none }
def intsFieldsRow : OpenClaim := { program := "ytalnlpbdcmnlgaa", sum := "06220d626787c19236abbcc756356f2949434836d372425be558c88813e1a05c", func := "cheesepress/cheesepresslaw01.IntsFields", spec := "intsFields", apart := false }
def IntsFieldsSaid : Prop := intsFieldsRow.holds Try.pinned (OpenSpec.ofChange intsFieldsSpec)

/-- ITS FALSE NEIGHBOUR: 'it returns false'. Refute it at one input. -/
def intsFieldsWrong : ChangeSpec := { name := "intsFields", fn := fun _ => fun
  | [d1, d2, d3, d4] => { results := [.lit (.bool false)], args := [d1, d2, d3, d4] }
  | _ => none }
def IntsFieldsWrongFalsely : Prop := intsFieldsRow.holds Try.pinned (OpenSpec.ofChange intsFieldsWrong)

/-- 'cheesepresslaw01.IntsSums': WHATEVER THE INPUT: true; the input reads as it did. -/
def intsSumsSpec : ChangeSpec := { name := "intsSums", fn := fun _ => fun
  | [d1, d2, d3] => { results := [.lit (.bool true)], args := [d1, d2, d3] }
  | _ => none }
def intsSumsRow : OpenClaim := { program := "ytalnlpbdcmnlgaa", sum := "06220d626787c19236abbcc756356f2949434836d372425be558c88813e1a05c", func := "cheesepress/cheesepresslaw01.IntsSums", spec := "intsSums", apart := false }
def IntsSumsSaid : Prop := intsSumsRow.holds Try.pinned (OpenSpec.ofChange intsSumsSpec)

/-- ITS FALSE NEIGHBOUR: 'it returns false'. Refute it at one input. -/
def intsSumsWrong : ChangeSpec := { name := "intsSums", fn := fun _ => fun
  | [d1, d2, d3] => { results := [.lit (.bool false)], args := [d1, d2, d3] }
  | _ => none }
def IntsSumsWrongFalsely : Prop := intsSumsRow.holds Try.pinned (OpenSpec.ofChange intsSumsWrong)

/-- 'cheesepresslaw01.IntsBits': WHATEVER THE INPUT: true; the input reads as it did. -/
def intsBitsSpec : ChangeSpec := { name := "intsBits", fn := fun _ => fun
  | [d1, d2, d3] => { results := [.lit (.bool true)], args := [d1, d2, d3] }
  | _ => none }
def intsBitsRow : OpenClaim := { program := "ytalnlpbdcmnlgaa", sum := "06220d626787c19236abbcc756356f2949434836d372425be558c88813e1a05c", func := "cheesepress/cheesepresslaw01.IntsBits", spec := "intsBits", apart := false }
def IntsBitsSaid : Prop := intsBitsRow.holds Try.pinned (OpenSpec.ofChange intsBitsSpec)

/-- ITS FALSE NEIGHBOUR: 'it returns false'. Refute it at one input. -/
def intsBitsWrong : ChangeSpec := { name := "intsBits", fn := fun _ => fun
  | [d1, d2, d3] => { results := [.lit (.bool false)], args := [d1, d2, d3] }
  | _ => none }
def IntsBitsWrongFalsely : Prop := intsBitsRow.holds Try.pinned (OpenSpec.ofChange intsBitsWrong)

/-- 'cheesepresslaw01.IntsKnown': WHATEVER THE INPUT: true; the input reads as it did. -/
def intsKnownSpec : ChangeSpec := { name := "intsKnown", fn := fun _ => fun
  | [] => { results := [.lit (.bool true)], args := [] }
  | _ => none }
def intsKnownRow : OpenClaim := { program := "ytalnlpbdcmnlgaa", sum := "06220d626787c19236abbcc756356f2949434836d372425be558c88813e1a05c", func := "cheesepress/cheesepresslaw01.IntsKnown", spec := "intsKnown", apart := false }
def IntsKnownSaid : Prop := intsKnownRow.holds Try.pinned (OpenSpec.ofChange intsKnownSpec)

/-- ITS FALSE NEIGHBOUR: 'it returns false'. Refute it at one input. -/
def intsKnownWrong : ChangeSpec := { name := "intsKnown", fn := fun _ => fun
  | [] => { results := [.lit (.bool false)], args := [] }
  | _ => none }
def IntsKnownWrongFalsely : Prop := intsKnownRow.holds Try.pinned (OpenSpec.ofChange intsKnownWrong)

/-- 'cheesepresslaw01.IntsPowers': WHATEVER THE INPUT: true; the input reads as it did. -/
def intsPowersSpec : ChangeSpec := { name := "intsPowers", fn := fun _ => fun
  | [d] => { results := [.lit (.bool true)], args := [d] }
  | _ => none }
def intsPowersRow : OpenClaim := { program := "ytalnlpbdcmnlgaa", sum := "06220d626787c19236abbcc756356f2949434836d372425be558c88813e1a05c", func := "cheesepress/cheesepresslaw01.IntsPowers", spec := "intsPowers", apart := false }
def IntsPowersSaid : Prop := intsPowersRow.holds Try.pinned (OpenSpec.ofChange intsPowersSpec)

/-- ITS FALSE NEIGHBOUR: 'it returns false'. Refute it at one input. -/
def intsPowersWrong : ChangeSpec := { name := "intsPowers", fn := fun _ => fun
  | [d] => { results := [.lit (.bool false)], args := [d] }
  | _ => none }
def IntsPowersWrongFalsely : Prop := intsPowersRow.holds Try.pinned (OpenSpec.ofChange intsPowersWrong)

/-- 'cheesepresslaw01.IntsBack': WHATEVER THE INPUT: true; the input reads as it did. -/
def intsBackSpec : ChangeSpec := { name := "intsBack", fn := fun _ => fun
  | [d1, d2, d3, d4] => { results := [.lit (.bool true)], args := [d1, d2, d3, d4] }
  | _ => none }
def intsBackRow : OpenClaim := { program := "ytalnlpbdcmnlgaa", sum := "06220d626787c19236abbcc756356f2949434836d372425be558c88813e1a05c", func := "cheesepress/cheesepresslaw01.IntsBack", spec := "intsBack", apart := false }
def IntsBackSaid : Prop := intsBackRow.holds Try.pinned (OpenSpec.ofChange intsBackSpec)

/-- ITS FALSE NEIGHBOUR: 'it returns false'. Refute it at one input. -/
def intsBackWrong : ChangeSpec := { name := "intsBack", fn := fun _ => fun
  | [d1, d2, d3, d4] => { results := [.lit (.bool false)], args := [d1, d2, d3, d4] }
  | _ => none }
def IntsBackWrongFalsely : Prop := intsBackRow.holds Try.pinned (OpenSpec.ofChange intsBackWrong)

/-- 'cheesepresslaw01.IntsLaws': WHATEVER THE INPUT: true; the input reads as it did. -/
def intsLawsSpec : ChangeSpec := { name := "intsLaws", fn := fun _ => fun
  | [d1, d2, d3, d4, d5] => { results := [.lit (.bool true)], args := [d1, d2, d3, d4, d5] }
  | _ => none }
def intsLawsRow : OpenClaim := { program := "ytalnlpbdcmnlgaa", sum := "06220d626787c19236abbcc756356f2949434836d372425be558c88813e1a05c", func := "cheesepress/cheesepresslaw01.IntsLaws", spec := "intsLaws", apart := false }
def IntsLawsSaid : Prop := intsLawsRow.holds Try.pinned (OpenSpec.ofChange intsLawsSpec)

/-- ITS FALSE NEIGHBOUR: 'it returns false'. Refute it at one input. -/
def intsLawsWrong : ChangeSpec := { name := "intsLaws", fn := fun _ => fun
  | [d1, d2, d3, d4, d5] => { results := [.lit (.bool false)], args := [d1, d2, d3, d4, d5] }
  | _ => none }
def IntsLawsWrongFalsely : Prop := intsLawsRow.holds Try.pinned (OpenSpec.ofChange intsLawsWrong)

/- THE SECOND FORM. 'bulk': how many values and letters a reading holds, each counted each time it is reached (what is shared counts as often as it is met; a slice's spare places count too). A statement '..UptoSaid' is the law's where the arguments, and the package variables that the reading takes, are together of bulk at most 1048576: NARROWER than '..Said'. Prove '..Said' where nothing that the law and all that it calls make is longer than what came in: it says more and counts as full. Else prove '..UptoSaid'. A law counts once. -/
mutual
def uptoBulk {H : Type} : DataW H → Nat
  | .lit (.string bytes) => bytes.length + 1
  | .lit _ => 1
  | .nil => 1
  | .ptr d => uptoBulk d + 1
  | .slice elems spare => uptoBulkAll elems + uptoBulkAll spare + 1
  | .agg parts => uptoBulkAll parts + 1
  | .iface _ d => uptoBulk d + 1
  | .map entries => uptoBulkEntries entries + 1
  | .held _ => 1
def uptoBulkAll {H : Type} : List (DataW H) → Nat
  | [] => 0
  | d :: r => uptoBulk d + uptoBulkAll r
def uptoBulkEntries {H : Type} : List (Lit × DataW H) → Nat
  | [] => 0
  | x :: r => uptoBulkEntry x + uptoBulkEntries r
def uptoBulkEntry {H : Type} : Lit × DataW H → Nat
  | (.string bytes, d) => bytes.length + uptoBulk d + 1
  | (_, d) => uptoBulk d + 1
 end
def uptoSmall : (H : Type) → List (DataW H) → Bool := fun _ ds => decide (uptoBulkAll ds ≤ 1048576)
def OpenSpec.upto (s : _root_.Go.ChangeSpec) : _root_.Go.OpenSpec := { _root_.Go.OpenSpec.ofChange s with cond := some uptoSmall }

/-- 'cheesepresslaw01.IntsFields', WHERE WHAT IT READS IS OF BULK AT MOST 1048576: true; the input reads as it did. -/
def intsFieldsUptoRow : OpenClaim := { program := "ytalnlpbdcmnlgaa", sum := "06220d626787c19236abbcc756356f2949434836d372425be558c88813e1a05c", func := "cheesepress/cheesepresslaw01.IntsFields", spec := "intsFields", apart := false, narrowed := true }
def IntsFieldsUptoSaid : Prop := intsFieldsUptoRow.holds Try.pinned (OpenSpec.upto intsFieldsSpec)

/-- 'cheesepresslaw01.IntsSums', WHERE WHAT IT READS IS OF BULK AT MOST 1048576: true; the input reads as it did. -/
def intsSumsUptoRow : OpenClaim := { program := "ytalnlpbdcmnlgaa", sum := "06220d626787c19236abbcc756356f2949434836d372425be558c88813e1a05c", func := "cheesepress/cheesepresslaw01.IntsSums", spec := "intsSums", apart := false, narrowed := true }
def IntsSumsUptoSaid : Prop := intsSumsUptoRow.holds Try.pinned (OpenSpec.upto intsSumsSpec)

/-- 'cheesepresslaw01.IntsBits', WHERE WHAT IT READS IS OF BULK AT MOST 1048576: true; the input reads as it did. -/
def intsBitsUptoRow : OpenClaim := { program := "ytalnlpbdcmnlgaa", sum := "06220d626787c19236abbcc756356f2949434836d372425be558c88813e1a05c", func := "cheesepress/cheesepresslaw01.IntsBits", spec := "intsBits", apart := false, narrowed := true }
def IntsBitsUptoSaid : Prop := intsBitsUptoRow.holds Try.pinned (OpenSpec.upto intsBitsSpec)

/-- 'cheesepresslaw01.IntsKnown', WHERE WHAT IT READS IS OF BULK AT MOST 1048576: true; the input reads as it did. -/
def intsKnownUptoRow : OpenClaim := { program := "ytalnlpbdcmnlgaa", sum := "06220d626787c19236abbcc756356f2949434836d372425be558c88813e1a05c", func := "cheesepress/cheesepresslaw01.IntsKnown", spec := "intsKnown", apart := false, narrowed := true }
def IntsKnownUptoSaid : Prop := intsKnownUptoRow.holds Try.pinned (OpenSpec.upto intsKnownSpec)

/-- 'cheesepresslaw01.IntsPowers', WHERE WHAT IT READS IS OF BULK AT MOST 1048576: true; the input reads as it did. -/
def intsPowersUptoRow : OpenClaim := { program := "ytalnlpbdcmnlgaa", sum := "06220d626787c19236abbcc756356f2949434836d372425be558c88813e1a05c", func := "cheesepress/cheesepresslaw01.IntsPowers", spec := "intsPowers", apart := false, narrowed := true }
def IntsPowersUptoSaid : Prop := intsPowersUptoRow.holds Try.pinned (OpenSpec.upto intsPowersSpec)

/-- 'cheesepresslaw01.IntsBack', WHERE WHAT IT READS IS OF BULK AT MOST 1048576: true; the input reads as it did. -/
def intsBackUptoRow : OpenClaim := { program := "ytalnlpbdcmnlgaa", sum := "06220d626787c19236abbcc756356f2949434836d372425be558c88813e1a05c", func := "cheesepress/cheesepresslaw01.IntsBack", spec := "intsBack", apart := false, narrowed := true }
def IntsBackUptoSaid : Prop := intsBackUptoRow.holds Try.pinned (OpenSpec.upto intsBackSpec)

/-- 'cheesepresslaw01.IntsLaws', WHERE WHAT IT READS IS OF BULK AT MOST 1048576: true; the input reads as it did. -/
def intsLawsUptoRow : OpenClaim := { program := "ytalnlpbdcmnlgaa", sum := "06220d626787c19236abbcc756356f2949434836d372425be558c88813e1a05c", func := "cheesepress/cheesepresslaw01.IntsLaws", spec := "intsLaws", apart := false, narrowed := true }
def IntsLawsUptoSaid : Prop := intsLawsUptoRow.holds Try.pinned (OpenSpec.upto intsLawsSpec)

end Rows
end Go.Proofs.Ytalnlpbdcmnlgaa
