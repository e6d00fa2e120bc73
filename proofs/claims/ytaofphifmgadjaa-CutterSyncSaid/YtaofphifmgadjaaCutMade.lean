/-
  The walk of cheesepresslaw35's made: parameters and an input made of numbers.
-/
import Derived.Test.YtaofphifmgadjaaCutAwake
import Derived.Test.YtaofphifmgadjaaKitInput
import Derived.Test.YtaofphifmgadjaaBlk
namespace Go.Proofs.Ytaofphifmgadjaa
open Go.RowKit
set_option linter.unusedVariables false
set_option maxRecDepth 100000

def MadeOut (w : World) (e : Ending) (w' : World) : Prop := ∃ (jb : Int) (sy : Bool) (s : ByteArray), e = .returned (.tuple #[.agg #[.int .i64 1, .int .i64 10, .int .i64 jb, .int .i64 0, .bool sy, .bool false], .string s]) ∧ 16 ≤ jb ∧ jb ≤ 79 ∧ s.size ≤ 400 ∧ Below w.heap.size w w'

set_option maxHeartbeats 4000000 in
theorem made35_any (A : Option Addr) (xs : List Int) (c B : Nat) (job : Int) (w : World) (h : SliceAt .i64 w B A xs) (hB : B ≤ w.heap.size) (hwf : ∀ x ∈ xs, (Lit.int .i64 x).wf = true) (hl : xs.length ≤ 9223372036854775807) (hj : -9223372036854775808 ≤ job ∧ job ≤ 9223372036854775807) :
    Calls Try.prog 33 #[.slice A xs.length c, .int .i64 job] w (MadeOut w) := by
  have M1 := Lib.hid (fun W => Mod_any job 1048576 W hj.1 hj.2 (by omega))
  have b1 := modI_lo (n := job) (m := 1048576) (by omega)
  generalize modI job 1048576 = k at *
  have HI := Lib.hid (fun W (hW : Below w.heap.size w W) => Input_any A xs c B 400 W (h.below (hW.mono hB)) (Nat.le_trans hB hW.size) hwf hl (by omega))
  clear h hj hwf
  obtain ⟨jb, hjb⟩ : ∃ jb, 16 + k / 2 % 64 = jb := ⟨_, rfl⟩
  have j11 : 16 ≤ jb := by omega
  have j12 : jb ≤ 79 := by omega
  obtain ⟨sy, hsy⟩ : ∃ sy, (k % 2 == 0) = sy := ⟨_, rfl⟩
  have HJ := Lib.hid hjb
  have HS := Lib.hid hsy
  clear hjb hsy
  go_enter Try.func33, Try.ntmps33
  go_wp2_with fail
  refine (M1.out _).mono ?_
  rintro e w1 ⟨rfl, rfl⟩
  go_wp2_with fail
  rw [HJ.out, HS.out]
  have hz := Blk.new w #[.int .i64 0, .int .i64 0, .int .i64 0, .int .i64 0, .bool false, .bool false] 49
  have hBa := below_new (w := w) (.cells #[.int .i64 0, .int .i64 0, .int .i64 0, .int .i64 0, .bool false, .bool false] 49)
  refine (params35_any jb sy _).mono ?_
  rintro e w2 ⟨rfl, hB2⟩
  have hz2 := hz.keep' hB2
  have hBb := below_then hBa hB2
  clear hz
  go_wp2_with fail
  refine (HI.out _ hBb).mono ?_
  rintro e w3 ⟨s, rfl, hsz, hB3⟩
  have hz3 := hz2.keep' hB3
  have hBc := below_then hBb hB3
  clear hz2
  have hlt := hz3.lt
  have z0 := hz3.fz 0
  have z1 := hz3.fz 1
  have z2 := hz3.fz 2
  have z3 := hz3.fz 3
  have z4 := hz3.fz 4
  have z5 := hz3.fz 5
  have p0 := hz3.cell 0 rfl
  have p1 := hz3.cell 1 rfl
  have p2 := hz3.cell 2 rfl
  have p3 := hz3.cell 3 rfl
  have p4 := hz3.cell 4 rfl
  have p5 := hz3.cell 5 rfl
  have hst := (((((hz3.set 0 (.int .i64 1)).set 1 (.int .i64 10)).set 2 (.int .i64 jb)).set 3 (.int .i64 0)).set 4 (.bool sy)).set 5 (.bool false)
  have j0 := hst.cell 0 rfl
  have j1 := hst.cell 1 rfl
  have j2 := hst.cell 2 rfl
  have j3 := hst.cell 3 rfl
  have j4 := hst.cell 4 rfl
  have j5 := hst.cell 5 rfl
  clear hst hz3
  go_wp2
  refine bodyPost_ret (v := .tuple #[.agg #[.int .i64 1, .int .i64 10, .int .i64 jb, .int .i64 0, .bool sy, .bool false], .string s]) (by simp [results, Try.results33, go_sem, j0, j1, j2, j3, j4, j5]) rfl ⟨jb, sy, s, rfl, j11, j12, hsz, ?_⟩
  exact (((((hBc.setCell (p := ⟨w.heap.size, 0, none⟩) (Nat.le_refl _) _).setCell (p := ⟨w.heap.size, 1, none⟩) (Nat.le_refl _) _).setCell (p := ⟨w.heap.size, 2, none⟩) (Nat.le_refl _) _).setCell (p := ⟨w.heap.size, 3, none⟩) (Nat.le_refl _) _).setCell (p := ⟨w.heap.size, 4, none⟩) (Nat.le_refl _) _).setCell (p := ⟨w.heap.size, 5, none⟩) (Nat.le_refl _) _

end Go.Proofs.Ytaofphifmgadjaa
