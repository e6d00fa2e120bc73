/-
  The walks of cutter.found and next.
-/
import Derived.Test.YtfdbkpbgkpkckaaCutContent
import Derived.RegionTactic
import Derived.BigRegion
import Derived.Deep.RegionHeld3
import Derived.Deep.DrawnRows
import Derived.Test.YtfdbkpbgkpkckaaRegions
import Derived.Laws.EntriesVeiled
import Derived.Test.YtfdbkpbgkpkckaaStr
import Derived.WalkMore
import Derived.Deep.QuietTactic
import Derived.BigQuiet
namespace Go.Proofs.Ytfdbkpbgkpkckaa
open Go.RowKit
set_option linter.unusedVariables false
set_option maxRecDepth 100000

attribute [local go_sem ↓] Go.wp_at_zero Go.wp_at_succ

set_option maxHeartbeats 4000000 in
theorem found_yes (l wd jb ov : Int) (ck : Bool) (w : World) (hj : 16 ≤ jb ∧ jb ≤ 2097152) :
    Calls Try.prog 104 #[.agg #[.int .i64 l, .int .i64 wd, .int .i64 jb, .int .i64 ov, .bool true, .bool ck]] w fun e w' => e = .returned (.tuple #[.agg #[.int .i64 (leastC jb), .int .i64 (4 * jb), .int .i64 (Hi.bitsC jb)], .func (.func 116) #[] #[]]) ∧ Below w.heap.size w w' := by
  have HH := Lib.hid (fun W => Hi.High_any jb W)
  have HB : Hid (Hi.bitsC jb = max 1 (Hi.hi jb - 2)) := rfl
  have hb := Hi.hi_lo jb
  generalize Hi.bitsC jb = bt at *
  generalize Hi.hi jb = h at *
  by_cases d1 : h - 2 ≤ 1
  · by_cases d2 : jb / 4 ≤ 16
    · have c1 : h - 2 ≤ 1 := by omega
      have c1b : ¬ 1 < h - 2 := by omega
      have HBT : Hid (bt = 1) := by show _ = _; rw [HB.out]; omega
      have c2 : jb / 4 ≤ 16 := by omega
      have c2b : ¬ 16 < jb / 4 := by omega
      have HL : Hid (leastC jb = 16) := by show _ = _; unfold leastC; omega
      go_enter Try.func104, Try.ntmps104
      go_wp2_with fail
      refine (HH.out _).mono ?_
      rintro e w1 ⟨rfl, rfl⟩
      go_wp2_with fail
      go_region
      all_goals (
        go_wp2
        refine bodyPost_ret (v := .tuple #[.agg #[.int .i64 16, .int .i64 (4 * jb), .int .i64 1], .func (.func 116) #[] #[]]) (by simp [results, Try.results104, go_sem]; try omega) rfl ⟨by rw [HBT.out, HL.out], ?_⟩
        exact below_drew (below_alloc (below_alloc (below_fresh _) _) _))
    · have c1 : h - 2 ≤ 1 := by omega
      have c1b : ¬ 1 < h - 2 := by omega
      have HBT : Hid (bt = 1) := by show _ = _; rw [HB.out]; omega
      have c2 : 16 < jb / 4 := by omega
      have c2b : ¬ jb / 4 ≤ 16 := by omega
      have HL : Hid (leastC jb = jb / 4) := by show _ = _; unfold leastC; omega
      go_enter Try.func104, Try.ntmps104
      go_wp2_with fail
      refine (HH.out _).mono ?_
      rintro e w1 ⟨rfl, rfl⟩
      go_wp2_with fail
      go_region
      all_goals (
        go_wp2
        refine bodyPost_ret (v := .tuple #[.agg #[.int .i64 (jb / 4), .int .i64 (4 * jb), .int .i64 1], .func (.func 116) #[] #[]]) (by simp [results, Try.results104, go_sem]; try omega) rfl ⟨by rw [HBT.out, HL.out], ?_⟩
        exact below_drew (below_alloc (below_alloc (below_fresh _) _) _))
  · by_cases d2 : jb / 4 ≤ 16
    · have c1 : 1 < h - 2 := by omega
      have c1b : ¬ h - 2 ≤ 1 := by omega
      have HBT : Hid (bt = h - 2) := by show _ = _; rw [HB.out]; omega
      have c2 : jb / 4 ≤ 16 := by omega
      have c2b : ¬ 16 < jb / 4 := by omega
      have HL : Hid (leastC jb = 16) := by show _ = _; unfold leastC; omega
      go_enter Try.func104, Try.ntmps104
      go_wp2_with fail
      refine (HH.out _).mono ?_
      rintro e w1 ⟨rfl, rfl⟩
      go_wp2_with fail
      go_region
      all_goals (
        go_wp2
        refine bodyPost_ret (v := .tuple #[.agg #[.int .i64 16, .int .i64 (4 * jb), .int .i64 (h - 2)], .func (.func 116) #[] #[]]) (by simp [results, Try.results104, go_sem]; try omega) rfl ⟨by rw [HBT.out, HL.out], ?_⟩
        exact below_drew (below_alloc (below_alloc (below_fresh _) _) _))
    · have c1 : 1 < h - 2 := by omega
      have c1b : ¬ h - 2 ≤ 1 := by omega
      have HBT : Hid (bt = h - 2) := by show _ = _; rw [HB.out]; omega
      have c2 : 16 < jb / 4 := by omega
      have c2b : ¬ jb / 4 ≤ 16 := by omega
      have HL : Hid (leastC jb = jb / 4) := by show _ = _; unfold leastC; omega
      go_enter Try.func104, Try.ntmps104
      go_wp2_with fail
      refine (HH.out _).mono ?_
      rintro e w1 ⟨rfl, rfl⟩
      go_wp2_with fail
      go_region
      all_goals (
        go_wp2
        refine bodyPost_ret (v := .tuple #[.agg #[.int .i64 (jb / 4), .int .i64 (4 * jb), .int .i64 (h - 2)], .func (.func 116) #[] #[]]) (by simp [results, Try.results104, go_sem]; try omega) rfl ⟨by rw [HBT.out, HL.out], ?_⟩
        exact below_drew (below_alloc (below_alloc (below_fresh _) _) _))

set_option maxHeartbeats 4000000 in
theorem found_no (l wd jb ov : Int) (ck : Bool) (w : World) (hj : 16 ≤ jb ∧ jb ≤ 2097152) :
    Calls Try.prog 104 #[.agg #[.int .i64 l, .int .i64 wd, .int .i64 jb, .int .i64 ov, .bool false, .bool ck]] w fun e w' => e = .returned (.tuple #[.agg #[.int .i64 (jb), .int .i64 (jb), .int .i64 (Hi.bitsC jb)], .func (.func 115) #[] #[]]) ∧ Below w.heap.size w w' := by
  have HH := Lib.hid (fun W => Hi.High_any jb W)
  have HB : Hid (Hi.bitsC jb = max 1 (Hi.hi jb - 2)) := rfl
  have hb := Hi.hi_lo jb
  generalize Hi.bitsC jb = bt at *
  generalize Hi.hi jb = h at *
  by_cases d1 : h - 2 ≤ 1
  · have c1 : h - 2 ≤ 1 := by omega
    have c1b : ¬ 1 < h - 2 := by omega
    have HBT : Hid (bt = 1) := by show _ = _; rw [HB.out]; omega
    go_enter Try.func104, Try.ntmps104
    go_wp2_with fail
    refine (HH.out _).mono ?_
    rintro e w1 ⟨rfl, rfl⟩
    go_wp2_with fail
    go_region
    all_goals (
      go_wp2
      refine bodyPost_ret (v := .tuple #[.agg #[.int .i64 jb, .int .i64 jb, .int .i64 1], .func (.func 115) #[] #[]]) (by simp [results, Try.results104, go_sem]; try omega) rfl ⟨by rw [HBT.out], ?_⟩
      exact below_drew (below_alloc (below_alloc (below_fresh _) _) _))
  · have c1 : 1 < h - 2 := by omega
    have c1b : ¬ h - 2 ≤ 1 := by omega
    have HBT : Hid (bt = h - 2) := by show _ = _; rw [HB.out]; omega
    go_enter Try.func104, Try.ntmps104
    go_wp2_with fail
    refine (HH.out _).mono ?_
    rintro e w1 ⟨rfl, rfl⟩
    go_wp2_with fail
    go_region
    all_goals (
      go_wp2
      refine bodyPost_ret (v := .tuple #[.agg #[.int .i64 jb, .int .i64 jb, .int .i64 (h - 2)], .func (.func 115) #[] #[]]) (by simp [results, Try.results104, go_sem]; try omega) rfl ⟨by rw [HBT.out], ?_⟩
      exact below_drew (below_alloc (below_alloc (below_fresh _) _) _))

end Go.Proofs.Ytfdbkpbgkpkckaa
