/-
  The walks of checked, Next, Full, Bits and of their references, and of the references' ends, Ends, Count.
-/
import Derived.Test.YtaofphifmgadjaaCutNext
import Derived.Test.YtaofphifmgadjaaCutRef
import Derived.Test.YtaofphifmgadjaaSlices
import Derived.Maps.AppendAt
import Derived.Test.YtaofphifmgadjaaKit
import Derived.RegionTactic
import Derived.BigRegion
import Derived.Deep.RegionHeld3
import Derived.Deep.DrawnRows
import Derived.Test.YtaofphifmgadjaaRegions
import Derived.Laws.EntriesVeiled
import Derived.Test.YtaofphifmgadjaaStr
import Derived.WalkMore
import Derived.Deep.QuietTactic
import Derived.BigQuiet
namespace Go.Proofs.Ytaofphifmgadjaa
open Go.RowKit
set_option linter.unusedVariables false
set_option maxRecDepth 100000

def askE (l wd jb ov : Int) (s : ByteArray) : Int := if parBad l wd jb ov then 2 else if 1048576 < s.size then 4 else 0
theorem ask_bad {l wd jb ov : Int} {s : ByteArray} (h : parBad l wd jb ov) : askE l wd jb ov s = 2 := if_pos h
theorem ask_long {l wd jb ov : Int} {s : ByteArray} (h : ¬ parBad l wd jb ov) (h2 : 1048576 < s.size) : askE l wd jb ov s = 4 := by unfold askE; rw [if_neg h, if_pos h2]
theorem ask_ok {l wd jb ov : Int} {s : ByteArray} (h : ¬ parBad l wd jb ov) (h2 : ¬ 1048576 < s.size) : askE l wd jb ov s = 0 := by unfold askE; rw [if_neg h, if_neg h2]
theorem ask_zero {l wd jb ov : Int} {s : ByteArray} (h : askE l wd jb ov s = 0) : ¬ parBad l wd jb ov ∧ s.size ≤ 1048576 := by
  unfold askE at h
  split at h
  · omega
  · split at h
    · omega
    · exact ⟨by assumption, by omega⟩
theorem ask_in {l wd jb ov : Int} {s : ByteArray} : askE l wd jb ov s = 0 ∨ (askE l wd jb ov s = 2 ∨ askE l wd jb ov s = 4) := by unfold askE; split <;> (try split) <;> omega

set_option maxHeartbeats 1600000 in
theorem checked_any (l wd jb ov : Int) (sy ck : Bool) (s : ByteArray) (w : World) (hs : s.size ≤ 9223372036854775807) :
    Calls Try.prog 59 #[.agg #[.int .i64 l, .int .i64 wd, .int .i64 jb, .int .i64 ov, .bool sy, .bool ck], .string s] w fun e w' => e = .returned (.int .i64 (askE l wd jb ov s)) ∧ Below w.heap.size w w' := by
  have HC := Lib.hid (fun W => Check_any l wd jb ov sy ck W)
  unfold parV at HC
  by_cases h : parBad l wd jb ov
  · have HE := Lib.hid (ask_bad (s := s) h)
    rw [parE_bad h] at HC
    clear h
    go_enter Try.func59, Try.ntmps59
    go_wp2_with fail
    refine (HC.out _).mono ?_
    rintro e w1 ⟨rfl, hB1⟩
    go_wp2
    go_ret
    exact ⟨ret_int HE.out.symm, below_then (below_fresh _) hB1⟩
  · rw [parE_ok h] at HC
    by_cases h2 : 1048576 < s.size
    · have HE := Lib.hid (ask_long h h2)
      have g : (1048576 : Int) < (s.size : Int) := by omega
      clear h
      go_enter Try.func59, Try.ntmps59
      go_wp2_with fail
      refine (HC.out _).mono ?_
      rintro e w1 ⟨rfl, hB1⟩
      go_wp2
      go_ret
      exact ⟨ret_int HE.out.symm, below_then (below_fresh _) hB1⟩
    · have HE := Lib.hid (ask_ok h h2)
      have g : ¬ (1048576 : Int) < (s.size : Int) := by omega
      clear h
      go_enter Try.func59, Try.ntmps59
      go_wp2_with fail
      refine (HC.out _).mono ?_
      rintro e w1 ⟨rfl, hB1⟩
      go_wp2
      go_ret
      exact ⟨ret_int HE.out.symm, below_then (below_fresh _) hB1⟩

set_option maxHeartbeats 1600000 in
theorem asked35_any (l wd jb ov : Int) (sy ck : Bool) (s : ByteArray) (w : World) (hs : s.size ≤ 9223372036854775807) :
    Calls Try.prog 62 #[.agg #[.int .i64 l, .int .i64 wd, .int .i64 jb, .int .i64 ov, .bool sy, .bool ck], .string s] w fun e w' => e = .returned (.int .i64 (askE l wd jb ov s)) ∧ Below w.heap.size w w' := by
  have HC := Lib.hid (fun W => rCheck_any l wd jb ov sy ck W)
  unfold parV at HC
  by_cases h : parBad l wd jb ov
  · have HE := Lib.hid (ask_bad (s := s) h)
    rw [parE_bad h] at HC
    clear h
    go_enter Try.func62, Try.ntmps62
    go_wp2_with fail
    refine (HC.out _).mono ?_
    rintro e w1 ⟨rfl, hB1⟩
    go_wp2
    go_ret
    exact ⟨ret_int HE.out.symm, below_then (below_fresh _) hB1⟩
  · rw [parE_ok h] at HC
    by_cases h2 : 1048576 < s.size
    · have HE := Lib.hid (ask_long h h2)
      have g : (1048576 : Int) < (s.size : Int) := by omega
      clear h
      go_enter Try.func62, Try.ntmps62
      go_wp2_with fail
      refine (HC.out _).mono ?_
      rintro e w1 ⟨rfl, hB1⟩
      go_wp2
      go_ret
      exact ⟨ret_int HE.out.symm, below_then (below_fresh _) hB1⟩
    · have HE := Lib.hid (ask_ok h h2)
      have g : ¬ (1048576 : Int) < (s.size : Int) := by omega
      clear h
      go_enter Try.func62, Try.ntmps62
      go_wp2_with fail
      refine (HC.out _).mono ?_
      rintro e w1 ⟨rfl, hB1⟩
      go_wp2
      go_ret
      exact ⟨ret_int HE.out.symm, below_then (below_fresh _) hB1⟩

def fullV (l wd jb ov : Int) (sy : Bool) (s : ByteArray) : Bool := if askE l wd jb ov s = 0 then nextB jb sy s 0 && decide (nextE jb sy s 0 = s.size) else false
theorem full_ok {l wd jb ov : Int} {sy : Bool} {s : ByteArray} (h : askE l wd jb ov s = 0) : fullV l wd jb ov sy s = (nextB jb sy s 0 && decide (nextE jb sy s 0 = s.size)) := if_pos h
theorem full_bad {l wd jb ov : Int} {sy : Bool} {s : ByteArray} (h : askE l wd jb ov s ≠ 0) : fullV l wd jb ov sy s = false := if_neg h

set_option maxHeartbeats 1600000 in
theorem Next35_bad (l wd jb ov : Int) (sy ck : Bool) (s : ByteArray) (f : Int) (w : World) (hs : s.size ≤ 9223372036854775807) (h : askE l wd jb ov s ≠ 0) :
    Calls Try.prog 46 #[.agg #[.int .i64 l, .int .i64 wd, .int .i64 jb, .int .i64 ov, .bool sy, .bool ck], .string s, .int .i64 f] w fun e w' => e = .returned (.tuple #[.int .i64 0, .bool false, .int .i64 (askE l wd jb ov s)]) ∧ Below w.heap.size w w' := by
  have HA := Lib.hid (fun W => checked_any l wd jb ov sy ck s W hs)
  generalize askE l wd jb ov s = a at *
  have g1 : (a != 0) = true := by simpa using h
  have g2 : (a == 0) = false := by simpa using h
  clear h
  go_enter Try.func46, Try.ntmps46
  go_wp2_with fail
  refine (HA.out _).mono ?_
  rintro e w1 ⟨rfl, hB1⟩
  go_wp2
  go_ret3
  exact ⟨rfl, below_then (below_fresh _) hB1⟩

set_option maxHeartbeats 1600000 in
theorem Next35_range (l wd jb ov : Int) (sy ck : Bool) (s : ByteArray) (f : Int) (w : World) (hs : s.size ≤ 9223372036854775807) (h : askE l wd jb ov s = 0) (hf : f < 0 ∨ (s.size : Int) < f) :
    Calls Try.prog 46 #[.agg #[.int .i64 l, .int .i64 wd, .int .i64 jb, .int .i64 ov, .bool sy, .bool ck], .string s, .int .i64 f] w fun e w' => e = .returned (.tuple #[.int .i64 0, .bool false, .int .i64 2]) ∧ Below w.heap.size w w' := by
  have HA := Lib.hid (fun W => checked_any l wd jb ov sy ck s W hs)
  rw [h] at HA
  clear h
  by_cases f0 : f < 0
  · have d0 : decide (f < 0) = true := by simpa using f0
    clear hf
    go_enter Try.func46, Try.ntmps46
    go_wp2_with fail
    refine (HA.out _).mono ?_
    rintro e w1 ⟨rfl, hB1⟩
    go_wp2
    go_ret3
    exact ⟨rfl, below_then (below_fresh _) hB1⟩
  · have d0 : decide (f < 0) = false := by simpa using f0
    have f1 : (s.size : Int) < f := by omega
    clear hf
    go_enter Try.func46, Try.ntmps46
    go_wp2_with fail
    refine (HA.out _).mono ?_
    rintro e w1 ⟨rfl, hB1⟩
    go_wp2
    go_ret3
    exact ⟨rfl, below_then (below_fresh _) hB1⟩

set_option maxHeartbeats 1600000 in
theorem Next35_ok (l wd jb ov : Int) (sy ck : Bool) (s : ByteArray) (p : Nat) (w : World) (h : askE l wd jb ov s = 0) (hp : p ≤ s.size) :
    Calls Try.prog 46 #[.agg #[.int .i64 l, .int .i64 wd, .int .i64 jb, .int .i64 ov, .bool sy, .bool ck], .string s, .int .i64 p] w fun e w' => e = .returned (.tuple #[.int .i64 (nextE jb sy s p), .bool (nextB jb sy s p), .int .i64 0]) ∧ Below w.heap.size w w' := by
  obtain ⟨hpb, hz⟩ := ask_zero h
  have HA := Lib.hid (fun W => checked_any l wd jb ov sy ck s W (by omega))
  rw [h] at HA
  have hj := (par_in hpb).2.2.1
  have HN := Lib.hid (fun W => next_any l wd jb ov sy ck s p W hj hz (by omega))
  clear h hpb
  have f0 : ¬ (p : Int) < 0 := by omega
  have f1 : ¬ (s.size : Int) < (p : Int) := by omega
  have d0 : decide ((p : Int) < 0) = false := decide_eq_false f0
  generalize nextE jb sy s p = n at *
  generalize nextB jb sy s p = b at *
  go_enter Try.func46, Try.ntmps46
  go_wp2_with fail
  refine (HA.out _).mono ?_
  rintro e w1 ⟨rfl, hB1⟩
  obtain ⟨q0, q1, q2, q3, q4, q5⟩ := (ParBox.new w l wd jb ov sy ck 49).keep hB1 (by simp)
  go_wp2_with fail
  refine (HN.out _).mono ?_
  rintro e w2 ⟨rfl, hB2⟩
  go_wp2
  go_ret3
  exact ⟨rfl, below_then (below_then (below_fresh _) hB1) hB2⟩

set_option maxHeartbeats 1600000 in
theorem Full35_any (l wd jb ov : Int) (sy ck : Bool) (s : ByteArray) (w : World) (hs : s.size ≤ 9223372036854775807) :
    Calls Try.prog 37 #[.agg #[.int .i64 l, .int .i64 wd, .int .i64 jb, .int .i64 ov, .bool sy, .bool ck], .string s] w fun e w' => e = .returned (.tuple #[.bool (fullV l wd jb ov sy s), .int .i64 (askE l wd jb ov s)]) ∧ Below w.heap.size w w' := by
  have HA := Lib.hid (fun W => checked_any l wd jb ov sy ck s W hs)
  by_cases h : askE l wd jb ov s = 0
  · have HV := Lib.hid (full_ok (sy := sy) h)
    obtain ⟨hpb, hz⟩ := ask_zero h
    rw [h] at HA ⊢
    have hj := (par_in hpb).2.2.1
    have HN := Lib.hid (fun W => next_any l wd jb ov sy ck s 0 W hj hz (by omega))
    have hn := nextE_le jb sy s 0 (by omega)
    clear h hpb
    generalize nextE jb sy s 0 = n at *
    generalize nextB jb sy s 0 = b at *
    cases b
    · go_enter Try.func37, Try.ntmps37
      go_wp2_with fail
      refine (HA.out _).mono ?_
      rintro e w1 ⟨rfl, hB1⟩
      obtain ⟨q0, q1, q2, q3, q4, q5⟩ := (ParBox.new w l wd jb ov sy ck 49).keep hB1 (by simp)
      go_wp2_with fail
      refine (HN.out _).mono ?_
      rintro e w2 ⟨rfl, hB2⟩
      go_wp2
      go_ret2
      exact ⟨ret_two (val_bool (by rw [HV.out]; rfl)) rfl, below_then (below_then (below_fresh _) hB1) hB2⟩
    · by_cases hq : n = s.size
      · have e1 : ((n : Int) == (s.size : Int)) = true := by simp; omega
        have e2 : (n == s.size) = true := by simp; omega
        have HQ : Hid (decide (n = s.size) = true) := decide_eq_true hq
        clear hq
        go_enter Try.func37, Try.ntmps37
        go_wp2_with fail
        refine (HA.out _).mono ?_
        rintro e w1 ⟨rfl, hB1⟩
        obtain ⟨q0, q1, q2, q3, q4, q5⟩ := (ParBox.new w l wd jb ov sy ck 49).keep hB1 (by simp)
        go_wp2_with fail
        refine (HN.out _).mono ?_
        rintro e w2 ⟨rfl, hB2⟩
        go_wp2
        go_ret2
        exact ⟨ret_two (val_bool (by rw [HV.out, HQ.out]; rfl)) rfl, below_then (below_then (below_fresh _) hB1) hB2⟩
      · have e1 : ((n : Int) == (s.size : Int)) = false := by simp; omega
        have e2 : (n == s.size) = false := by simp; omega
        have HQ : Hid (decide (n = s.size) = false) := decide_eq_false hq
        clear hq
        go_enter Try.func37, Try.ntmps37
        go_wp2_with fail
        refine (HA.out _).mono ?_
        rintro e w1 ⟨rfl, hB1⟩
        obtain ⟨q0, q1, q2, q3, q4, q5⟩ := (ParBox.new w l wd jb ov sy ck 49).keep hB1 (by simp)
        go_wp2_with fail
        refine (HN.out _).mono ?_
        rintro e w2 ⟨rfl, hB2⟩
        go_wp2
        go_ret2
        exact ⟨ret_two (val_bool (by rw [HV.out, HQ.out]; rfl)) rfl, below_then (below_then (below_fresh _) hB1) hB2⟩
  · have HV := Lib.hid (full_bad (sy := sy) h)
    generalize askE l wd jb ov s = a at *
    have g1 : (a != 0) = true := by simpa using h
    have g2 : (a == 0) = false := by simpa using h
    clear h
    go_enter Try.func37, Try.ntmps37
    go_wp2_with fail
    refine (HA.out _).mono ?_
    rintro e w1 ⟨rfl, hB1⟩
    go_wp2
    go_ret2
    exact ⟨ret_two (val_bool HV.out.symm) rfl, below_then (below_fresh _) hB1⟩

set_option maxHeartbeats 1600000 in
theorem rNext35_bad (l wd jb ov : Int) (sy ck : Bool) (s : ByteArray) (f : Int) (w : World) (hs : s.size ≤ 9223372036854775807) (h : askE l wd jb ov s ≠ 0) :
    Calls Try.prog 47 #[.agg #[.int .i64 l, .int .i64 wd, .int .i64 jb, .int .i64 ov, .bool sy, .bool ck], .string s, .int .i64 f] w fun e w' => e = .returned (.tuple #[.int .i64 0, .bool false, .int .i64 (askE l wd jb ov s)]) ∧ Below w.heap.size w w' := by
  have HA := Lib.hid (fun W => asked35_any l wd jb ov sy ck s W hs)
  generalize askE l wd jb ov s = a at *
  have g1 : (a != 0) = true := by simpa using h
  have g2 : (a == 0) = false := by simpa using h
  clear h
  go_enter Try.func47, Try.ntmps47
  go_wp2_with fail
  refine (HA.out _).mono ?_
  rintro e w1 ⟨rfl, hB1⟩
  go_wp2
  go_ret3
  exact ⟨rfl, below_then (below_fresh _) hB1⟩

set_option maxHeartbeats 1600000 in
theorem rNext35_range (l wd jb ov : Int) (sy ck : Bool) (s : ByteArray) (f : Int) (w : World) (hs : s.size ≤ 9223372036854775807) (h : askE l wd jb ov s = 0) (hf : f < 0 ∨ (s.size : Int) < f) :
    Calls Try.prog 47 #[.agg #[.int .i64 l, .int .i64 wd, .int .i64 jb, .int .i64 ov, .bool sy, .bool ck], .string s, .int .i64 f] w fun e w' => e = .returned (.tuple #[.int .i64 0, .bool false, .int .i64 2]) ∧ Below w.heap.size w w' := by
  have HA := Lib.hid (fun W => asked35_any l wd jb ov sy ck s W hs)
  rw [h] at HA
  clear h
  by_cases f0 : f < 0
  · have d0 : decide (f < 0) = true := by simpa using f0
    clear hf
    go_enter Try.func47, Try.ntmps47
    go_wp2_with fail
    refine (HA.out _).mono ?_
    rintro e w1 ⟨rfl, hB1⟩
    go_wp2
    go_ret3
    exact ⟨rfl, below_then (below_fresh _) hB1⟩
  · have d0 : decide (f < 0) = false := by simpa using f0
    have f1 : (s.size : Int) < f := by omega
    clear hf
    go_enter Try.func47, Try.ntmps47
    go_wp2_with fail
    refine (HA.out _).mono ?_
    rintro e w1 ⟨rfl, hB1⟩
    go_wp2
    go_ret3
    exact ⟨rfl, below_then (below_fresh _) hB1⟩

set_option maxHeartbeats 1600000 in
theorem rNext35_ok (l wd jb ov : Int) (sy ck : Bool) (s : ByteArray) (p : Nat) (w : World) (h : askE l wd jb ov s = 0) (hp : p ≤ s.size) :
    Calls Try.prog 47 #[.agg #[.int .i64 l, .int .i64 wd, .int .i64 jb, .int .i64 ov, .bool sy, .bool ck], .string s, .int .i64 p] w fun e w' => e = .returned (.tuple #[.int .i64 (nextE jb sy s p), .bool (nextB jb sy s p), .int .i64 0]) ∧ Below w.heap.size w w' := by
  obtain ⟨hpb, hz⟩ := ask_zero h
  have HA := Lib.hid (fun W => asked35_any l wd jb ov sy ck s W (by omega))
  rw [h] at HA
  have hj := (par_in hpb).2.2.1
  have HN := Lib.hid (fun W => rnext_any l wd jb ov sy ck s p W hpb hz (by omega))
  clear h hpb
  have f0 : ¬ (p : Int) < 0 := by omega
  have f1 : ¬ (s.size : Int) < (p : Int) := by omega
  have d0 : decide ((p : Int) < 0) = false := decide_eq_false f0
  generalize nextE jb sy s p = n at *
  generalize nextB jb sy s p = b at *
  go_enter Try.func47, Try.ntmps47
  go_wp2_with fail
  refine (HA.out _).mono ?_
  rintro e w1 ⟨rfl, hB1⟩
  obtain ⟨q0, q1, q2, q3, q4, q5⟩ := (ParBox.new w l wd jb ov sy ck 49).keep hB1 (by simp)
  go_wp2_with fail
  refine (HN.out _).mono ?_
  rintro e w2 ⟨rfl, hB2⟩
  go_wp2
  go_ret3
  exact ⟨rfl, below_then (below_then (below_fresh _) hB1) hB2⟩

set_option maxHeartbeats 1600000 in
theorem rFull35_any (l wd jb ov : Int) (sy ck : Bool) (s : ByteArray) (w : World) (hs : s.size ≤ 9223372036854775807) :
    Calls Try.prog 38 #[.agg #[.int .i64 l, .int .i64 wd, .int .i64 jb, .int .i64 ov, .bool sy, .bool ck], .string s] w fun e w' => e = .returned (.tuple #[.bool (fullV l wd jb ov sy s), .int .i64 (askE l wd jb ov s)]) ∧ Below w.heap.size w w' := by
  have HA := Lib.hid (fun W => asked35_any l wd jb ov sy ck s W hs)
  by_cases h : askE l wd jb ov s = 0
  · have HV := Lib.hid (full_ok (sy := sy) h)
    obtain ⟨hpb, hz⟩ := ask_zero h
    rw [h] at HA ⊢
    have hj := (par_in hpb).2.2.1
    have HN := Lib.hid (fun W => rnext_any l wd jb ov sy ck s 0 W hpb hz (by omega))
    have hn := nextE_le jb sy s 0 (by omega)
    clear h hpb
    generalize nextE jb sy s 0 = n at *
    generalize nextB jb sy s 0 = b at *
    cases b
    · go_enter Try.func38, Try.ntmps38
      go_wp2_with fail
      refine (HA.out _).mono ?_
      rintro e w1 ⟨rfl, hB1⟩
      obtain ⟨q0, q1, q2, q3, q4, q5⟩ := (ParBox.new w l wd jb ov sy ck 49).keep hB1 (by simp)
      go_wp2_with fail
      refine (HN.out _).mono ?_
      rintro e w2 ⟨rfl, hB2⟩
      go_wp2
      go_ret2
      exact ⟨ret_two (val_bool (by rw [HV.out]; rfl)) rfl, below_then (below_then (below_fresh _) hB1) hB2⟩
    · by_cases hq : n = s.size
      · have e1 : ((n : Int) == (s.size : Int)) = true := by simp; omega
        have e2 : (n == s.size) = true := by simp; omega
        have HQ : Hid (decide (n = s.size) = true) := decide_eq_true hq
        clear hq
        go_enter Try.func38, Try.ntmps38
        go_wp2_with fail
        refine (HA.out _).mono ?_
        rintro e w1 ⟨rfl, hB1⟩
        obtain ⟨q0, q1, q2, q3, q4, q5⟩ := (ParBox.new w l wd jb ov sy ck 49).keep hB1 (by simp)
        go_wp2_with fail
        refine (HN.out _).mono ?_
        rintro e w2 ⟨rfl, hB2⟩
        go_wp2
        go_ret2
        exact ⟨ret_two (val_bool (by rw [HV.out, HQ.out]; rfl)) rfl, below_then (below_then (below_fresh _) hB1) hB2⟩
      · have e1 : ((n : Int) == (s.size : Int)) = false := by simp; omega
        have e2 : (n == s.size) = false := by simp; omega
        have HQ : Hid (decide (n = s.size) = false) := decide_eq_false hq
        clear hq
        go_enter Try.func38, Try.ntmps38
        go_wp2_with fail
        refine (HA.out _).mono ?_
        rintro e w1 ⟨rfl, hB1⟩
        obtain ⟨q0, q1, q2, q3, q4, q5⟩ := (ParBox.new w l wd jb ov sy ck 49).keep hB1 (by simp)
        go_wp2_with fail
        refine (HN.out _).mono ?_
        rintro e w2 ⟨rfl, hB2⟩
        go_wp2
        go_ret2
        exact ⟨ret_two (val_bool (by rw [HV.out, HQ.out]; rfl)) rfl, below_then (below_then (below_fresh _) hB1) hB2⟩
  · have HV := Lib.hid (full_bad (sy := sy) h)
    generalize askE l wd jb ov s = a at *
    have g1 : (a != 0) = true := by simpa using h
    have g2 : (a == 0) = false := by simpa using h
    clear h
    go_enter Try.func38, Try.ntmps38
    go_wp2_with fail
    refine (HA.out _).mono ?_
    rintro e w1 ⟨rfl, hB1⟩
    go_wp2
    go_ret2
    exact ⟨ret_two (val_bool HV.out.symm) rfl, below_then (below_fresh _) hB1⟩

def bitsO (l wd jb ov : Int) : Int := if parBad l wd jb ov then 0 else Hi.bitsC jb
set_option maxHeartbeats 1600000 in
theorem Bits35_any (l wd jb ov : Int) (sy ck : Bool) (w : World) :
    Calls Try.prog 39 #[.agg #[.int .i64 l, .int .i64 wd, .int .i64 jb, .int .i64 ov, .bool sy, .bool ck]] w fun e w' => e = .returned (.tuple #[.int .i64 (bitsO l wd jb ov), .int .i64 (parE l wd jb ov)]) ∧ Below w.heap.size w w' := by
  have HC := Lib.hid (fun W => Check_any l wd jb ov sy ck W)
  unfold parV at HC
  by_cases h : parBad l wd jb ov
  · rw [show bitsO l wd jb ov = 0 from if_pos h, parE_bad h]
    rw [parE_bad h] at HC
    clear h
    go_enter Try.func39, Try.ntmps39
    go_wp2_with fail
    refine (HC.out _).mono ?_
    rintro e w1 ⟨rfl, hB1⟩
    go_wp2
    go_ret2
    exact ⟨rfl, below_then (below_fresh _) hB1⟩
  · rw [show bitsO l wd jb ov = Hi.bitsC jb from if_neg h, parE_ok h]
    rw [parE_ok h] at HC
    have hj := (par_in h).2.2.1
    clear h
    cases sy
    · have HF := Lib.hid (fun W => found_no l wd jb ov ck W hj)
      generalize Hi.bitsC jb = bt at *
      go_enter Try.func39, Try.ntmps39
      go_wp2_with fail
      refine (HC.out _).mono ?_
      rintro e w1 ⟨rfl, hB1⟩
      obtain ⟨q0, q1, q2, q3, q4, q5⟩ := (ParBox.new w l wd jb ov _ ck 49).keep hB1 (by simp)
      go_wp2_with fail
      refine (HF.out _).mono ?_
      rintro e w2 ⟨rfl, hB2⟩
      go_wp2
      go_ret2
      exact ⟨rfl, below_alloc (below_then (below_then (below_fresh _) hB1) hB2) _⟩
    · have HF := Lib.hid (fun W => found_yes l wd jb ov ck W hj)
      generalize Hi.bitsC jb = bt at *
      generalize leastC jb = le at *
      go_enter Try.func39, Try.ntmps39
      go_wp2_with fail
      refine (HC.out _).mono ?_
      rintro e w1 ⟨rfl, hB1⟩
      obtain ⟨q0, q1, q2, q3, q4, q5⟩ := (ParBox.new w l wd jb ov _ ck 49).keep hB1 (by simp)
      go_wp2_with fail
      refine (HF.out _).mono ?_
      rintro e w2 ⟨rfl, hB2⟩
      go_wp2
      go_ret2
      exact ⟨rfl, below_alloc (below_then (below_then (below_fresh _) hB1) hB2) _⟩

set_option maxHeartbeats 1600000 in
theorem rBits35_any (l wd jb ov : Int) (sy ck : Bool) (w : World) :
    Calls Try.prog 40 #[.agg #[.int .i64 l, .int .i64 wd, .int .i64 jb, .int .i64 ov, .bool sy, .bool ck]] w fun e w' => e = .returned (.tuple #[.int .i64 (bitsO l wd jb ov), .int .i64 (parE l wd jb ov)]) ∧ Below w.heap.size w w' := by
  have HC := Lib.hid (fun W => rCheck_any l wd jb ov sy ck W)
  unfold parV at HC
  by_cases h : parBad l wd jb ov
  · rw [show bitsO l wd jb ov = 0 from if_pos h, parE_bad h]
    rw [parE_bad h] at HC
    clear h
    go_enter Try.func40, Try.ntmps40
    go_wp2_with fail
    refine (HC.out _).mono ?_
    rintro e w1 ⟨rfl, hB1⟩
    go_wp2
    go_ret2
    exact ⟨rfl, below_then (below_fresh _) hB1⟩
  · rw [show bitsO l wd jb ov = Hi.bitsC jb from if_neg h, parE_ok h]
    rw [parE_ok h] at HC
    have hj := (par_in h).2.2.1
    have HF := Lib.hid (fun W => rbits35_any l wd jb ov sy ck W hj)
    clear h
    generalize Hi.bitsC jb = bt at *
    go_enter Try.func40, Try.ntmps40
    go_wp2_with fail
    refine (HC.out _).mono ?_
    rintro e w1 ⟨rfl, hB1⟩
    obtain ⟨q0, q1, q2, q3, q4, q5⟩ := (ParBox.new w l wd jb ov sy ck 49).keep hB1 (by simp)
    go_wp2_with fail
    refine (HF.out _).mono ?_
    rintro e w2 ⟨rfl, hB2⟩
    go_wp2
    go_ret2
    exact ⟨rfl, below_then (below_then (below_fresh _) hB1) hB2⟩

end Go.Proofs.Ytaofphifmgadjaa
