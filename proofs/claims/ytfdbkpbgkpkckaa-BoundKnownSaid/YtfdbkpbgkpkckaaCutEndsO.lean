/-
  The contract of cutter.Ends for all arguments.
-/
import Derived.Test.YtfdbkpbgkpkckaaCutEnds
import Derived.Test.YtfdbkpbgkpkckaaKit
namespace Go.Proofs.Ytfdbkpbgkpkckaa
open Go.RowKit Go.Shelf
set_option linter.unusedVariables false
set_option maxRecDepth 100000

def endsO (l wd jb ov : Int) (sy : Bool) (s : ByteArray) : List Int := if askE l wd jb ov s ≠ 0 then [] else if jobsN jb sy s ≤ 4096 then endsL jb sy s 0 else []
def endsOE (l wd jb ov : Int) (sy : Bool) (s : ByteArray) : Int := if askE l wd jb ov s ≠ 0 then askE l wd jb ov s else if jobsN jb sy s ≤ 4096 then 0 else 6
theorem endsO_bad {l wd jb ov : Int} {sy : Bool} {s : ByteArray} (h : askE l wd jb ov s ≠ 0) : endsO l wd jb ov sy s = [] ∧ endsOE l wd jb ov sy s = askE l wd jb ov s := ⟨if_pos h, if_pos h⟩
theorem endsO_ok {l wd jb ov : Int} {sy : Bool} {s : ByteArray} (h : askE l wd jb ov s = 0) (h2 : jobsN jb sy s ≤ 4096) : endsO l wd jb ov sy s = endsL jb sy s 0 ∧ endsOE l wd jb ov sy s = 0 := by
  unfold endsO endsOE; rw [if_neg (by omega), if_pos h2, if_neg (by omega), if_pos h2]; exact ⟨rfl, rfl⟩
theorem endsO_full {l wd jb ov : Int} {sy : Bool} {s : ByteArray} (h : askE l wd jb ov s = 0) (h2 : 4096 < jobsN jb sy s) : endsO l wd jb ov sy s = [] ∧ endsOE l wd jb ov sy s = 6 := by
  unfold endsO endsOE; rw [if_neg (by omega), if_neg (by omega), if_neg (by omega), if_neg (by omega)]; exact ⟨rfl, rfl⟩
def EndsOut (xs : List Int) (E : Int) (w : World) (e : Ending) (w' : World) : Prop := ∃ A c, e = .returned (.tuple #[.slice A xs.length c, .int .i64 E]) ∧ SliceAt .i64 w' w'.heap.size A xs ∧ Below w.heap.size w w'

set_option maxHeartbeats 1600000 in
theorem Ends35_bad (l wd jb ov : Int) (sy ck : Bool) (s : ByteArray) (w : World) (hs : s.size ≤ 9223372036854775807) (h : askE l wd jb ov s ≠ 0) :
    Calls Try.prog 33 #[.agg #[.int .i64 l, .int .i64 wd, .int .i64 jb, .int .i64 ov, .bool sy, .bool ck], .string s] w (EndsOut [] (askE l wd jb ov s) w) := by
  have HA := Lib.hid (fun W => checked_any l wd jb ov sy ck s W hs)
  generalize askE l wd jb ov s = a at *
  have g1 : (a != 0) = true := by simpa using h
  have g2 : (a == 0) = false := by simpa using h
  clear h
  go_enter Try.func33, Try.ntmps33
  go_wp2_with fail
  refine (HA.out _).mono ?_
  rintro e w1 ⟨rfl, hB1⟩
  have b4 : Boxed w1 (w.heap.size + 1) 22 (.slice none 0 0) := (hB1.block (w.heap.size + 1) (by simp)).trans (((boxed_at2 (W := w.alloc (.cells #[.int .i64 l, .int .i64 wd, .int .i64 jb, .int .i64 ov, .bool sy, .bool ck] 24)) (by simp) 22 (.slice none 0 0)).alloc (.cells #[.int .i64 0] 28)))
  have b5 : Boxed w1 (w.heap.size + 1 + 1) 28 (.int .i64 0) := (hB1.block (w.heap.size + 1 + 1) (by simp)).trans (boxed_at2 (W := (w.alloc (.cells #[.int .i64 l, .int .i64 wd, .int .i64 jb, .int .i64 ov, .bool sy, .bool ck] 24)).alloc (.cells #[.slice none 0 0] 22)) (by simp) 28 (.int .i64 0))
  have k4 := b4.cell
  have k5 := b5.cell
  have z4 := b4.frozen
  have z5 := b5.frozen
  have f4 := ((b4.set (.slice none 0 0)).other (B' := w.heap.size + 1 + 1) (by omega) (.int .i64 a)).cell
  have f5 := ((b5.other (B' := w.heap.size + 1) (by omega) (.slice none 0 0)).set (.int .i64 a)).cell
  have hBw := below_then (below_alloc (below_alloc (below_fresh (w := w) (.cells #[.int .i64 l, .int .i64 wd, .int .i64 jb, .int .i64 ov, .bool sy, .bool ck] 24)) (.cells #[.slice none 0 0] 22)) (.cells #[.int .i64 0] 28)) hB1
  go_wp2
  refine bodyPost_ret (v := .tuple #[.slice none 0 0, .int .i64 a]) (by simp [results, Try.results33, go_sem, f4, f5]) rfl ⟨none, 0, rfl, .inl rfl, ?_⟩
  exact (hBw.setCell (p := ⟨w.heap.size + 1, 0, none⟩) (by simp only; omega) _).setCell (p := ⟨w.heap.size + 1 + 1, 0, none⟩) (by simp only; omega) _

theorem Ends35_any (l wd jb ov : Int) (sy ck : Bool) (s : ByteArray) (w : World) (hs : s.size ≤ 9223372036854775807) :
    Calls Try.prog 33 #[.agg #[.int .i64 l, .int .i64 wd, .int .i64 jb, .int .i64 ov, .bool sy, .bool ck], .string s] w (EndsOut (endsO l wd jb ov sy s) (endsOE l wd jb ov sy s) w) := by
  by_cases h : askE l wd jb ov s = 0
  · obtain ⟨hpb, hz⟩ := ask_zero h
    refine (callsIn_wide.1 (Ends_in 6 (Nat.le_refl _) l wd jb ov sy ck s hpb hz w)).mono ?_
    rintro e w' ⟨⟨base, hb, hP⟩, hB⟩
    rcases hP with ⟨h2, v, rfl, hown⟩ | ⟨h2, rfl⟩
    · obtain ⟨e1, e2⟩ := endsO_ok (sy := sy) h h2
      rw [e1, e2]
      obtain ⟨A, c, rfl⟩ := owns_slice hown
      have hl : (endsL jb sy s 0).length = jobsN jb sy s := rfl
      rw [← hl] at hown ⊢
      exact ⟨A, c, rfl, SliceAt.of_own hown, hB⟩
    · obtain ⟨e1, e2⟩ := endsO_full (sy := sy) h h2
      rw [e1, e2]
      exact ⟨none, 0, rfl, .inl rfl, hB⟩
  · obtain ⟨e1, e2⟩ := endsO_bad (sy := sy) h
    rw [e1, e2]
    exact Ends35_bad l wd jb ov sy ck s w hs h

end Go.Proofs.Ytfdbkpbgkpkckaa
