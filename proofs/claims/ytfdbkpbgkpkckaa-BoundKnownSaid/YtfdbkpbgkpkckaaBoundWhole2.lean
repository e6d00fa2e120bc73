/-
  The contracts of bound.whole, Whole and Holds, and of the references of Whole and Holds.
-/
import Derived.Test.YtfdbkpbgkpkckaaBoundWhole
import Derived.Test.YtfdbkpbgkpkckaaBoundRefs
import Derived.Test.YtfdbkpbgkpkckaaBoundBlocksRef
namespace Go.Proofs.Ytfdbkpbgkpkckaa
open Go.RowKit Go.Shelf
set_option linter.unusedVariables false
set_option maxRecDepth 100000

def wholeJ (l wd jb ov : Int) (sy : Bool) (s : ByteArray) : Int := if askE l wd jb ov s = 0 then (jobsN jb sy s : Int) else 0
def wholeB (l wd jb ov : Int) (sy : Bool) (s : ByteArray) : Int := if askE l wd jb ov s = 0 then blkSum (blkV wd) (lensE jb sy s (List.range (jobsN jb sy s))) else 0
def wholeO (l wd jb ov : Int) (sy : Bool) (s : ByteArray) : Int := if askE l wd jb ov s = 0 then (s.size : Int) + 3 * wholeB l wd jb ov sy s + 10 else 0
theorem whole_ok {l wd jb ov : Int} (sy : Bool) {s : ByteArray} (h : askE l wd jb ov s = 0) : wholeJ l wd jb ov sy s = (jobsN jb sy s : Int) ∧ wholeB l wd jb ov sy s = blkSum (blkV wd) (lensE jb sy s (List.range (jobsN jb sy s))) ∧ wholeO l wd jb ov sy s = (s.size : Int) + 3 * wholeB l wd jb ov sy s + 10 := ⟨if_pos h, if_pos h, if_pos h⟩
theorem whole_no {l wd jb ov : Int} (sy : Bool) {s : ByteArray} (h : askE l wd jb ov s ≠ 0) : wholeJ l wd jb ov sy s = 0 ∧ wholeB l wd jb ov sy s = 0 ∧ wholeO l wd jb ov sy s = 0 := ⟨if_neg h, if_neg h, if_neg h⟩
theorem many_small (Z n : Int) (hZ : 1024 ≤ Z) (hn : 0 ≤ n ∧ n ≤ 1048576) : manyV Z n ≤ 1025 := by
  have h1 : (n + Z - 1) / Z < 1025 := Int.ediv_lt_of_lt_mul (by omega) (by omega)
  unfold manyV
  omega
theorem blkSum_small (Z : Int) (hZ : 1024 ≤ Z ∧ Z ≤ 131072) (xs : List Int) (h : xs.all lenOk = true) : blkSum Z xs ≤ 1025 * (xs.length : Int) := by
  induction xs with
  | nil => simp [blkSum]
  | cons x xs ih =>
    rw [List.all_cons, Bool.and_eq_true] at h
    have h1 := many_small Z x hZ.1 (lenOk_iff.1 h.1)
    have h2 := ih h.2
    have e : blkSum Z (x :: xs) = manyV Z x + blkSum Z xs := by simp [blkSum]
    rw [e, List.length_cons]
    omega
theorem whole_bd {l wd jb ov : Int} (sy : Bool) {s : ByteArray} (h : askE l wd jb ov s = 0) : 1 ≤ wholeJ l wd jb ov sy s ∧ wholeJ l wd jb ov sy s ≤ wholeB l wd jb ov sy s ∧ wholeB l wd jb ov sy s ≤ 2000000000 := by
  obtain ⟨e1, e2, _⟩ := whole_ok sy h
  obtain ⟨hpb, hs⟩ := ask_zero h
  rw [e1, e2]
  obtain ⟨f1, f2, f3, f4⟩ := jobs_facts jb sy s
  have hsum := blkSum_bd (blkV wd) (blkV_lo wd (par_in hpb).2.1) (lensE jb sy s (List.range (jobsN jb sy s))) (lens_ok jb sy s hs _)
  have hsum2 := blkSum_small (blkV wd) (blkV_lo wd (par_in hpb).2.1) (lensE jb sy s (List.range (jobsN jb sy s))) (lens_ok jb sy s hs _)
  rw [show (lensE jb sy s (List.range (jobsN jb sy s))).length = jobsN jb sy s by unfold lensE; rw [List.length_map, List.length_range]] at hsum hsum2
  omega

set_option maxHeartbeats 4000000 in
theorem whole_bad (l wd jb ov : Int) (sy ck : Bool) (s : ByteArray) (w : World) (hs' : s.size ≤ 9223372036854775807) (h : askE l wd jb ov s ≠ 0) :
    Calls Try.prog 59 #[.agg #[.int .i64 l, .int .i64 wd, .int .i64 jb, .int .i64 ov, .bool sy, .bool ck], .string s] w fun e w' => e = .returned (.tuple #[.int .i64 0, .int .i64 0, .int .i64 (askE l wd jb ov s)]) ∧ Below w.heap.size w w' := by
  have hb0 := (((Blk.new w #[.int .i64 l, .int .i64 wd, .int .i64 jb, .int .i64 ov, .bool sy, .bool ck] 24).alloc (.cells #[.int .i64 0] 3)).alloc (.cells #[.int .i64 0] 3))
  have hb1 := (Blk.new (w.alloc (.cells #[.int .i64 l, .int .i64 wd, .int .i64 jb, .int .i64 ov, .bool sy, .bool ck] 24)) #[.int .i64 0] 3).alloc (.cells #[.int .i64 0] 3)
  have hb2 := Blk.new ((w.alloc (.cells #[.int .i64 l, .int .i64 wd, .int .i64 jb, .int .i64 ov, .bool sy, .bool ck] 24)).alloc (.cells #[.int .i64 0] 3)) #[.int .i64 0] 3
  have hBa := below_alloc (below_alloc (below_new (w := w) (.cells #[.int .i64 l, .int .i64 wd, .int .i64 jb, .int .i64 ov, .bool sy, .bool ck] 24)) (.cells #[.int .i64 0] 3)) (.cells #[.int .i64 0] 3)
  simp only [World.size_alloc] at hb1 hb2
  obtain ⟨z, hO, hz⟩ : ∃ z E : Int, (∀ W, Calls Try.prog 51 #[.agg #[.int .i64 l, .int .i64 wd, .int .i64 jb, .int .i64 ov, .bool sy, .bool ck]] W fun e w' => e = .returned (.tuple #[.agg #[.int .i64 z], .int .i64 E]) ∧ Below W.heap.size W w') ∧ ((E = 2 ∧ askE l wd jb ov s = 2) ∨ (E = 0 ∧ 1048576 < s.size ∧ askE l wd jb ov s = 4)) := by
    by_cases hp : parBad l wd jb ov
    · exact ⟨0, 2, fun W => opened_bad l wd jb ov sy ck W hp, .inl ⟨rfl, ask_bad hp⟩⟩
    · have hl : 1048576 < s.size := by
        rcases Nat.lt_or_ge 1048576 s.size with h2 | h2
        · exact h2
        · exact absurd (ask_ok hp (by omega)) h
      exact ⟨blkV wd, 0, fun W => opened_ok l wd jb ov sy ck W hp, .inr ⟨rfl, hl, ask_long hp hl⟩⟩
  have HO := Lib.hid hz.1
  rcases hz.2 with ⟨rfl, h2⟩ | ⟨rfl, hl, h2⟩
  all_goals (
    rw [h2]
    clear hz h h2
    try (have hsg : (1048576 : Int) < (s.size : Int) := by omega)
    go_enter Try.func59, Try.ntmps59
    go_wp2_with fail
    refine (HO.out _).mono ?_
    rintro e w1 ⟨rfl, hB1⟩
    have hB2 := below_new (w := w1) (.cells #[.int .i64 z] 73)
    have hc1 := (hb1.keep' hB1).keep' hB2
    have hc2 := (hb2.keep' hB1).keep' hB2
    have hBw := below_then (below_then hBa hB1) hB2
    have hzw := hc2.lt
    clear hb0 hb1 hb2 hBa
    have a1 := hc1.cell 0 rfl
    have f1 := hc1.fz 0
    have a2 := hc2.cell 0 rfl
    have f2 := hc2.fz 0
    have g1 := ((hc1.set 0 (.int .i64 0)).other ⟨w.heap.size + 1 + 1, 0, none⟩ (by simp) (.int .i64 0)).cell 0 rfl
    have g2 := ((hc2.other ⟨w.heap.size + 1, 0, none⟩ (by simp) (.int .i64 0)).set 0 (.int .i64 0)).cell 0 rfl
    clear hc1 hc2
    go_wp2
    refine bodyPost_ret (v := .tuple #[.int .i64 0, .int .i64 0, .int .i64 _]) (by simp [results, Try.results59, go_sem, g1, g2]; first | rfl | skip) rfl ⟨rfl, ?_⟩
    exact (hBw.setCell (p := ⟨w.heap.size + 1, 0, none⟩) (by simp only; omega) _).setCell (p := ⟨w.heap.size + 1 + 1, 0, none⟩) (by simp only; omega) _)

theorem whole_any (l wd jb ov : Int) (sy ck : Bool) (s : ByteArray) (w : World) (hs' : s.size ≤ 9223372036854775807) :
    Calls Try.prog 59 #[.agg #[.int .i64 l, .int .i64 wd, .int .i64 jb, .int .i64 ov, .bool sy, .bool ck], .string s] w fun e w' => e = .returned (.tuple #[.int .i64 (wholeJ l wd jb ov sy s), .int .i64 (wholeB l wd jb ov sy s), .int .i64 (askE l wd jb ov s)]) ∧ Below w.heap.size w w' := by
  by_cases h : askE l wd jb ov s = 0
  · obtain ⟨e1, e2, _⟩ := whole_ok sy h
    obtain ⟨hpb, hz⟩ := ask_zero h
    rw [e1, e2, h]
    exact callsIn_wide.1 (whole_in 6 (Nat.le_refl _) l wd jb ov sy ck s hpb hz w)
  · obtain ⟨e1, e2, _⟩ := whole_no sy h
    rw [e1, e2]
    exact whole_bad l wd jb ov sy ck s w hs' h

end Go.Proofs.Ytfdbkpbgkpkckaa
