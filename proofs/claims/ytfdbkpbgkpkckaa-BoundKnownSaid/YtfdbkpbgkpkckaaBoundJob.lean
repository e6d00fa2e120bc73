/-
  The walks of bound.Job and of its reference.
-/
import Derived.Test.YtfdbkpbgkpkckaaBoundBlocksRef
import Derived.Test.YtfdbkpbgkpkckaaLongest
namespace Go.Proofs.Ytfdbkpbgkpkckaa
open Go.RowKit
set_option linter.unusedVariables false
set_option maxRecDepth 100000

theorem longV_bd {l wd jb ov : Int} (sy : Bool) (h : ¬ parBad l wd jb ov) : 16 ≤ longV jb sy ∧ longV jb sy ≤ 8388608 := by
  have := (par_in h).2.2.1
  cases sy
  · rw [long_no]; omega
  · rw [long_yes]; omega

/-- How great a job is at most: bytes, blocks, and the error. -/
def jobN (l wd jb ov : Int) (sy : Bool) : Int := if parBad l wd jb ov then 0 else longV jb sy
def jobM (l wd jb ov : Int) (sy : Bool) : Int := if parBad l wd jb ov then 0 else manyV (blkV wd) (longV jb sy)
theorem job_bad {l wd jb ov : Int} (sy : Bool) (h : parBad l wd jb ov) : jobN l wd jb ov sy = 0 ∧ jobM l wd jb ov sy = 0 ∧ parE l wd jb ov = 2 := ⟨if_pos h, if_pos h, parE_bad h⟩
theorem job_ok {l wd jb ov : Int} (sy : Bool) (h : ¬ parBad l wd jb ov) : jobN l wd jb ov sy = longV jb sy ∧ jobM l wd jb ov sy = manyV (blkV wd) (longV jb sy) ∧ parE l wd jb ov = 0 := ⟨if_neg h, if_neg h, parE_ok h⟩

set_option maxHeartbeats 1600000 in
theorem Job_any (l wd jb ov : Int) (sy ck : Bool) (w : World) :
    Calls Try.prog 23 #[parV l wd jb ov sy ck] w fun e w' => e = .returned (.tuple #[.int .i64 (jobN l wd jb ov sy), .int .i64 (jobM l wd jb ov sy), .int .i64 (parE l wd jb ov)]) ∧ Below w.heap.size w w' := by
  by_cases h : parBad l wd jb ov
  · have HR := Lib.hid (job_bad sy h)
    have HO := Lib.hid (fun W => opened_bad l wd jb ov sy ck W h)
    clear h
    unfold parV at *
    go_enter Try.func23, Try.ntmps23
    go_wp2_with fail
    refine (HO.out _).mono ?_
    rintro e w1 ⟨rfl, hB1⟩
    go_wp2
    go_ret3
    exact ⟨ret_three (val_int HR.out.1.symm) (val_int HR.out.2.1.symm) (val_int HR.out.2.2.symm), below_alloc (below_then ((Below.refl _ _).alloc (Nat.le_refl _) _) hB1) _⟩
  · have HR := Lib.hid (job_ok sy h)
    have HO := Lib.hid (fun W => opened_ok l wd jb ov sy ck W h)
    have HL := Lib.hid (fun W => Longest_ok l wd jb ov sy ck W h)
    have hZ := blkV_lo wd (par_in h).2.1
    have hn := longV_bd sy h
    clear h
    generalize blkV wd = Z at *
    generalize longV jb sy = n at *
    unfold parV at *
    go_enter Try.func23, Try.ntmps23
    go_wp2_with fail
    refine (HO.out _).mono ?_
    rintro e w1 ⟨rfl, hB1⟩
    have hsz : w.heap.size + 1 ≤ w1.heap.size := by have := hB1.size; simp at this; omega
    have bx := Boxed.new w1 73 (.int .i64 Z)
    obtain ⟨p0, p1, p2, p3, p4, p5⟩ := ((ParBox.new w l wd jb ov sy ck 24).keep hB1 (by simp)).keep (below_new (.cells #[.int .i64 Z] 73)) (by omega)
    go_wp2_with fail
    refine (HL.out _).mono ?_
    rintro e w2 ⟨rfl, hB2⟩
    have bx2 : Boxed w2 w1.heap.size 73 (.int .i64 Z) := (hB2.block w1.heap.size (by simp)).trans bx
    have hcz := bx2.cell
    clear bx bx2
    go_wp2_with fail
    refine (many_any Z n _ hZ (by omega)).mono ?_
    rintro e w3 ⟨rfl, hB3⟩
    go_wp2
    go_ret3
    exact ⟨ret_three (val_int HR.out.1.symm) (val_int HR.out.2.1.symm) (val_int HR.out.2.2.symm), below_then (below_then (below_alloc (below_then ((Below.refl _ _).alloc (Nat.le_refl _) _) hB1) _) hB2) hB3⟩

set_option maxHeartbeats 1600000 in
theorem rJob_any (l wd jb ov : Int) (sy ck : Bool) (w : World) :
    Calls Try.prog 24 #[parV l wd jb ov sy ck] w fun e w' => e = .returned (.tuple #[.int .i64 (jobN l wd jb ov sy), .int .i64 (jobM l wd jb ov sy), .int .i64 (parE l wd jb ov)]) ∧ Below w.heap.size w w' := by
  by_cases h : parBad l wd jb ov
  · have HR := Lib.hid (job_bad sy h)
    have HL := Lib.hid (fun W => rLongest_bad l wd jb ov sy ck W h)
    clear h
    unfold parV at *
    go_enter Try.func24, Try.ntmps24
    go_wp2_with fail
    refine (HL.out _).mono ?_
    rintro e w1 ⟨rfl, hB1⟩
    go_wp2
    go_ret3
    exact ⟨ret_three (val_int HR.out.1.symm) (val_int HR.out.2.1.symm) (val_int HR.out.2.2.symm), below_then ((Below.refl _ _).alloc (Nat.le_refl _) _) hB1⟩
  · have HR := Lib.hid (job_ok sy h)
    have HL := Lib.hid (fun W => rLongest_ok l wd jb ov sy ck W h)
    have hn := longV_bd sy h
    have HM := Lib.hid (fun n W hn => rblocks_any l wd jb ov sy ck n W h hn)
    clear h
    generalize blkV wd = Z at *
    generalize longV jb sy = n at *
    unfold parV at *
    go_enter Try.func24, Try.ntmps24
    go_wp2_with fail
    refine (HL.out _).mono ?_
    rintro e w1 ⟨rfl, hB1⟩
    obtain ⟨p0, p1, p2, p3, p4, p5⟩ := (ParBox.new w l wd jb ov sy ck 24).keep hB1 (by simp)
    go_wp2_with fail
    refine (HM.out n _ (by omega)).mono ?_
    rintro e w2 ⟨rfl, hB2⟩
    go_wp2
    go_ret3
    exact ⟨ret_three (val_int HR.out.1.symm) (val_int HR.out.2.1.symm) (val_int HR.out.2.2.symm), below_then (below_then ((Below.refl _ _).alloc (Nat.le_refl _) _) hB1) hB2⟩

end Go.Proofs.Ytfdbkpbgkpkckaa
