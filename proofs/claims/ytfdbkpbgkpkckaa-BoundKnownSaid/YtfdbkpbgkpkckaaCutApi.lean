/-
  The walks of checked, Next, Full, Bits and of their references, and of the references' ends, Ends, Count.
-/
import Derived.Test.YtfdbkpbgkpkckaaCutNext
import Derived.Test.YtfdbkpbgkpkckaaCutRef
import Derived.Test.YtfdbkpbgkpkckaaSlices
import Derived.Maps.AppendAt
import Derived.Test.YtfdbkpbgkpkckaaKit
import Derived.RegionTactic
import Derived.BigRegion
import Derived.Deep.RegionHeld3
import Derived.Deep.DrawnRows
import Derived.Test.YtfdbkpbgkpkckaaRegions
import Derived.Laws.EntriesVeiled
import Derived.Test.YtfdbkpbgkpkckaaStr
import Derived.WalkMore
import Derived.Deep.QuietTactic
import Derived.BigQuiet
namespace Go.Proofs.Ytfdbkpbgkpkckaa
open Go.RowKit
set_option linter.unusedVariables false
set_option maxRecDepth 100000

def askE (l wd jb ov : Int) (s : ByteArray) : Int := if parBad l wd jb ov then 2 else if 1048576 < s.size then 4 else 0
theorem ask_bad {l wd jb ov : Int} {s : ByteArray} (h : parBad l wd jb ov) : askE l wd jb ov s = 2 := if_pos h
theorem ask_long {l wd jb ov : Int} {s : ByteArray} (h : ¬ parBad l wd jb ov) (h2 : 1048576 < s.size) : askE l wd jb ov s = 4 := by unfold askE; rw [if_neg h, if_pos h2]
theorem ask_ok {l wd jb ov : Int} {s : ByteArray} (h : ¬ parBad l wd jb ov) (h2 : ¬ 1048576 < s.size) : askE l wd jb ov s = 0 := by unfold askE; rw [if_neg h, if_neg h2]
theorem ask_zero {l wd jb ov : Int} {s : ByteArray} (h : askE l wd jb ov s = 0) : ¬ parBad l wd jb ov ∧ s.size ≤ 1048576 := by
  unfold askE at h
  split at h
  · omega
  · split at h
    · omega
    · exact ⟨by assumption, by omega⟩
theorem ask_in {l wd jb ov : Int} {s : ByteArray} : askE l wd jb ov s = 0 ∨ (askE l wd jb ov s = 2 ∨ askE l wd jb ov s = 4) := by unfold askE; split <;> (try split) <;> omega

set_option maxHeartbeats 1600000 in
theorem checked_any (l wd jb ov : Int) (sy ck : Bool) (s : ByteArray) (w : World) (hs : s.size ≤ 9223372036854775807) :
    Calls Try.prog 62 #[.agg #[.int .i64 l, .int .i64 wd, .int .i64 jb, .int .i64 ov, .bool sy, .bool ck], .string s] w fun e w' => e = .returned (.int .i64 (askE l wd jb ov s)) ∧ Below w.heap.size w w' := by
  have HC := Lib.hid (fun W => Check_any l wd jb ov sy ck W)
  unfold parV at HC
  by_cases h : parBad l wd jb ov
  · have HE := Lib.hid (ask_bad (s := s) h)
    rw [parE_bad h] at HC
    clear h
    go_enter Try.func62, Try.ntmps62
    go_wp2_with fail
    refine (HC.out _).mono ?_
    rintro e w1 ⟨rfl, hB1⟩
    go_wp2
    go_ret
    exact ⟨ret_int HE.out.symm, below_then (below_fresh _) hB1⟩
  · rw [parE_ok h] at HC
    by_cases h2 : 1048576 < s.size
    · have HE := Lib.hid (ask_long h h2)
      have g : (1048576 : Int) < (s.size : Int) := by omega
      clear h
      go_enter Try.func62, Try.ntmps62
      go_wp2_with fail
      refine (HC.out _).mono ?_
      rintro e w1 ⟨rfl, hB1⟩
      go_wp2
      go_ret
      exact ⟨ret_int HE.out.symm, below_then (below_fresh _) hB1⟩
    · have HE := Lib.hid (ask_ok h h2)
      have g : ¬ (1048576 : Int) < (s.size : Int) := by omega
      clear h
      go_enter Try.func62, Try.ntmps62
      go_wp2_with fail
      refine (HC.out _).mono ?_
      rintro e w1 ⟨rfl, hB1⟩
      go_wp2
      go_ret
      exact ⟨ret_int HE.out.symm, below_then (below_fresh _) hB1⟩

set_option maxHeartbeats 1600000 in
theorem asked35_any (l wd jb ov : Int) (sy ck : Bool) (s : ByteArray) (w : World) (hs : s.size ≤ 9223372036854775807) :
    Calls Try.prog 87 #[.agg #[.int .i64 l, .int .i64 wd, .int .i64 jb, .int .i64 ov, .bool sy, .bool ck], .string s] w fun e w' => e = .returned (.int .i64 (askE l wd jb ov s)) ∧ Below w.heap.size w w' := by
  have HC := Lib.hid (fun W => rCheck_any l wd jb ov sy ck W)
  unfold parV at HC
  by_cases h : parBad l wd jb ov
  · have HE := Lib.hid (ask_bad (s := s) h)
    rw [parE_bad h] at HC
    clear h
    go_enter Try.func87, Try.ntmps87
    go_wp2_with fail
    refine (HC.out _).mono ?_
    rintro e w1 ⟨rfl, hB1⟩
    go_wp2
    go_ret
    exact ⟨ret_int HE.out.symm, below_then (below_fresh _) hB1⟩
  · rw [parE_ok h] at HC
    by_cases h2 : 1048576 < s.size
    · have HE := Lib.hid (ask_long h h2)
      have g : (1048576 : Int) < (s.size : Int) := by omega
      clear h
      go_enter Try.func87, Try.ntmps87
      go_wp2_with fail
      refine (HC.out _).mono ?_
      rintro e w1 ⟨rfl, hB1⟩
      go_wp2
      go_ret
      exact ⟨ret_int HE.out.symm, below_then (below_fresh _) hB1⟩
    · have HE := Lib.hid (ask_ok h h2)
      have g : ¬ (1048576 : Int) < (s.size : Int) := by omega
      clear h
      go_enter Try.func87, Try.ntmps87
      go_wp2_with fail
      refine (HC.out _).mono ?_
      rintro e w1 ⟨rfl, hB1⟩
      go_wp2
      go_ret
      exact ⟨ret_int HE.out.symm, below_then (below_fresh _) hB1⟩

def fullV (l wd jb ov : Int) (sy : Bool) (s : ByteArray) : Bool := if askE l wd jb ov s = 0 then nextB jb sy s 0 && decide (nextE jb sy s 0 = s.size) else false
theorem full_ok {l wd jb ov : Int} {sy : Bool} {s : ByteArray} (h : askE l wd jb ov s = 0) : fullV l wd jb ov sy s = (nextB jb sy s 0 && decide (nextE jb sy s 0 = s.size)) := if_pos h
theorem full_bad {l wd jb ov : Int} {sy : Bool} {s : ByteArray} (h : askE l wd jb ov s ≠ 0) : fullV l wd jb ov sy s = false := if_neg h

set_option maxHeartbeats 1600000 in
theorem Next35_bad (l wd jb ov : Int) (sy ck : Bool) (s : ByteArray) (f : Int) (w : World) (hs : s.size ≤ 9223372036854775807) (h : askE l wd jb ov s ≠ 0) :
    Calls Try.prog 102 #[.agg #[.int .i64 l, .int .i64 wd, .int .i64 jb, .int .i64 ov, .bool sy, .bool ck], .string s, .int .i64 f] w fun e w' => e = .returned (.tuple #[.int .i64 0, .bool false, .int .i64 (askE l wd jb ov s)]) ∧ Below w.heap.size w w' := by
  have HA := Lib.hid (fun W => checked_any l wd jb ov sy ck s W hs)
  generalize askE l wd jb ov s = a at *
  have g1 : (a != 0) = true := by simpa using h
  have g2 : (a == 0) = false := by simpa using h
  clear h
  go_enter Try.func102, Try.ntmps102
  go_wp2_with fail
  refine (HA.out _).mono ?_
  rintro e w1 ⟨rfl, hB1⟩
  go_wp2
  go_ret3
  exact ⟨rfl, below_then (below_fresh _) hB1⟩

set_option maxHeartbeats 1600000 in
theorem Next35_range (l wd jb ov : Int) (sy ck : Bool) (s : ByteArray) (f : Int) (w : World) (hs : s.size ≤ 9223372036854775807) (h : askE l wd jb ov s = 0) (hf : f < 0 ∨ (s.size : Int) < f) :
    Calls Try.prog 102 #[.agg #[.int .i64 l, .int .i64 wd, .int .i64 jb, .int .i64 ov, .bool sy, .bool ck], .string s, .int .i64 f] w fun e w' => e = .returned (.tuple #[.int .i64 0, .bool false, .int .i64 2]) ∧ Below w.heap.size w w' := by
  have HA := Lib.hid (fun W => checked_any l wd jb ov sy ck s W hs)
  rw [h] at HA
  clear h
  by_cases f0 : f < 0
  · have d0 : decide (f < 0) = true := by simpa using f0
    clear hf
    go_enter Try.func102, Try.ntmps102
    go_wp2_with fail
    refine (HA.out _).mono ?_
    rintro e w1 ⟨rfl, hB1⟩
    go_wp2
    go_ret3
    exact ⟨rfl, below_then (below_fresh _) hB1⟩
  · have d0 : decide (f < 0) = false := by simpa using f0
    have f1 : (s.size : Int) < f := by omega
    clear hf
    go_enter Try.func102, Try.ntmps102
    go_wp2_with fail
    refine (HA.out _).mono ?_
    rintro e w1 ⟨rfl, hB1⟩
    go_wp2
    go_ret3
    exact ⟨rfl, below_then (below_fresh _) hB1⟩

set_option maxHeartbeats 1600000 in
theorem Next35_ok (l wd jb ov : Int) (sy ck : Bool) (s : ByteArray) (p : Nat) (w : World) (h : askE l wd jb ov s = 0) (hp : p ≤ s.size) :
    Calls Try.prog 102 #[.agg #[.int .i64 l, .int .i64 wd, .int .i64 jb, .int .i64 ov, .bool sy, .bool ck], .string s, .int .i64 p] w fun e w' => e = .returned (.tuple #[.int .i64 (nextE jb sy s p), .bool (nextB jb sy s p), .int .i64 0]) ∧ Below w.heap.size w w' := by
  obtain ⟨hpb, hz⟩ := ask_zero h
  have HA := Lib.hid (fun W => checked_any l wd jb ov sy ck s W (by omega))
  rw [h] at HA
  have hj := (par_in hpb).2.2.1
  have HN := Lib.hid (fun W => next_any l wd jb ov sy ck s p W hj hz (by omega))
  clear h hpb
  have f0 : ¬ (p : Int) < 0 := by omega
  have f1 : ¬ (s.size : Int) < (p : Int) := by omega
  have d0 : decide ((p : Int) < 0) = false := decide_eq_false f0
  generalize nextE jb sy s p = n at *
  generalize nextB jb sy s p = b at *
  go_enter Try.func102, Try.ntmps102
  go_wp2_with fail
  refine (HA.out _).mono ?_
  rintro e w1 ⟨rfl, hB1⟩
  obtain ⟨q0, q1, q2, q3, q4, q5⟩ := (ParBox.new w l wd jb ov sy ck 24).keep hB1 (by simp)
  go_wp2_with fail
  refine (HN.out _).mono ?_
  rintro e w2 ⟨rfl, hB2⟩
  go_wp2
  go_ret3
  exact ⟨rfl, below_then (below_then (below_fresh _) hB1) hB2⟩


set_option maxHeartbeats 1600000 in
theorem rNext35_bad (l wd jb ov : Int) (sy ck : Bool) (s : ByteArray) (f : Int) (w : World) (hs : s.size ≤ 9223372036854775807) (h : askE l wd jb ov s ≠ 0) :
    Calls Try.prog 60 #[.agg #[.int .i64 l, .int .i64 wd, .int .i64 jb, .int .i64 ov, .bool sy, .bool ck], .string s, .int .i64 f] w fun e w' => e = .returned (.tuple #[.int .i64 0, .bool false, .int .i64 (askE l wd jb ov s)]) ∧ Below w.heap.size w w' := by
  have HA := Lib.hid (fun W => asked35_any l wd jb ov sy ck s W hs)
  generalize askE l wd jb ov s = a at *
  have g1 : (a != 0) = true := by simpa using h
  have g2 : (a == 0) = false := by simpa using h
  clear h
  go_enter Try.func60, Try.ntmps60
  go_wp2_with fail
  refine (HA.out _).mono ?_
  rintro e w1 ⟨rfl, hB1⟩
  go_wp2
  go_ret3
  exact ⟨rfl, below_then (below_fresh _) hB1⟩

set_option maxHeartbeats 1600000 in
theorem rNext35_range (l wd jb ov : Int) (sy ck : Bool) (s : ByteArray) (f : Int) (w : World) (hs : s.size ≤ 9223372036854775807) (h : askE l wd jb ov s = 0) (hf : f < 0 ∨ (s.size : Int) < f) :
    Calls Try.prog 60 #[.agg #[.int .i64 l, .int .i64 wd, .int .i64 jb, .int .i64 ov, .bool sy, .bool ck], .string s, .int .i64 f] w fun e w' => e = .returned (.tuple #[.int .i64 0, .bool false, .int .i64 2]) ∧ Below w.heap.size w w' := by
  have HA := Lib.hid (fun W => asked35_any l wd jb ov sy ck s W hs)
  rw [h] at HA
  clear h
  by_cases f0 : f < 0
  · have d0 : decide (f < 0) = true := by simpa using f0
    clear hf
    go_enter Try.func60, Try.ntmps60
    go_wp2_with fail
    refine (HA.out _).mono ?_
    rintro e w1 ⟨rfl, hB1⟩
    go_wp2
    go_ret3
    exact ⟨rfl, below_then (below_fresh _) hB1⟩
  · have d0 : decide (f < 0) = false := by simpa using f0
    have f1 : (s.size : Int) < f := by omega
    clear hf
    go_enter Try.func60, Try.ntmps60
    go_wp2_with fail
    refine (HA.out _).mono ?_
    rintro e w1 ⟨rfl, hB1⟩
    go_wp2
    go_ret3
    exact ⟨rfl, below_then (below_fresh _) hB1⟩

set_option maxHeartbeats 1600000 in
theorem rNext35_ok (l wd jb ov : Int) (sy ck : Bool) (s : ByteArray) (p : Nat) (w : World) (h : askE l wd jb ov s = 0) (hp : p ≤ s.size) :
    Calls Try.prog 60 #[.agg #[.int .i64 l, .int .i64 wd, .int .i64 jb, .int .i64 ov, .bool sy, .bool ck], .string s, .int .i64 p] w fun e w' => e = .returned (.tuple #[.int .i64 (nextE jb sy s p), .bool (nextB jb sy s p), .int .i64 0]) ∧ Below w.heap.size w w' := by
  obtain ⟨hpb, hz⟩ := ask_zero h
  have HA := Lib.hid (fun W => asked35_any l wd jb ov sy ck s W (by omega))
  rw [h] at HA
  have hj := (par_in hpb).2.2.1
  have HN := Lib.hid (fun W => rnext_any l wd jb ov sy ck s p W hpb hz (by omega))
  clear h hpb
  have f0 : ¬ (p : Int) < 0 := by omega
  have f1 : ¬ (s.size : Int) < (p : Int) := by omega
  have d0 : decide ((p : Int) < 0) = false := decide_eq_false f0
  generalize nextE jb sy s p = n at *
  generalize nextB jb sy s p = b at *
  go_enter Try.func60, Try.ntmps60
  go_wp2_with fail
  refine (HA.out _).mono ?_
  rintro e w1 ⟨rfl, hB1⟩
  obtain ⟨q0, q1, q2, q3, q4, q5⟩ := (ParBox.new w l wd jb ov sy ck 24).keep hB1 (by simp)
  go_wp2_with fail
  refine (HN.out _).mono ?_
  rintro e w2 ⟨rfl, hB2⟩
  go_wp2
  go_ret3
  exact ⟨rfl, below_then (below_then (below_fresh _) hB1) hB2⟩




end Go.Proofs.Ytfdbkpbgkpkckaa
