/-
  The walk of the law package's IntsKnown, which the other laws call.
-/
import Derived.Test.YtalnlpbdcmnlgaaIntsAwake
import Derived.Test.YtalnlpbdcmnlgaaIntsLow
import Derived.Test.YtalnlpbdcmnlgaaSlices
namespace Go.Proofs.Ytalnlpbdcmnlgaa
open Go.RowKit
set_option linter.unusedVariables false

/-- A slice literal that was just laid reads as its list. -/
theorem lit_slice (w : World) (xs : List Int) (t : TypeId) (B : Nat) (hB : w.heap.size < B) :
    SliceAt .i64 (w.alloc (.cells (xs.map (Value.int .i64)).toArray t)) B (some ⟨w.heap.size, 0, none⟩) xs := by
  refine .inr ⟨_, _, rfl, hB, fun i x hx => ?_⟩
  rw [World.cell?_alloc_at _ _ _ _ rfl]
  simp [hx]

set_option maxRecDepth 100000 in
set_option maxHeartbeats 1600000 in
theorem known_any (w : World) :
    Calls Try.prog 6 #[] w fun e w' => e = .returned (.bool true) ∧ Below w.heap.size w w' := by
  go_enter Try.func6, Try.ntmps6
  go_wp2_with fail
  refine (Low_any 300 8 _ (by omega) (by omega)).mono ?_
  rintro e w1 ⟨rfl, rfl⟩
  rw [show low 300 8 = 44 by decide +kernel, show lowE 8 = 0 by decide +kernel]
  go_wp2_with fail
  refine (Low_any 300 0 _ (by omega) (by omega)).mono ?_
  rintro e w1 ⟨rfl, rfl⟩
  rw [show low 300 0 = 0 by decide +kernel, show lowE 0 = 0 by decide +kernel]
  go_wp2_with fail
  refine (Low_any 300 65 _ (by omega) (by omega)).mono ?_
  rintro e w1 ⟨rfl, rfl⟩
  rw [show low 300 65 = 0 by decide +kernel, show lowE 65 = 2 by decide +kernel]
  go_wp2_with fail
  refine (Little_any 256 1 _ (by omega) (by omega)).mono ?_
  rintro e w1 ⟨rfl, hB1⟩
  rw [show little 256 1 = ⟨#[]⟩ by decide +kernel, show littleE 256 1 = 2 by decide +kernel]
  go_wp2_with fail
  refine (Little_any 0 0 _ (by omega) (by omega)).mono ?_
  rintro e w2 ⟨rfl, hB2⟩
  rw [show little 0 0 = ⟨#[]⟩ by decide +kernel, show littleE 0 0 = 2 by decide +kernel]
  go_wp2_with fail
  refine (Read_any ⟨#[2, 1, 5]⟩ 2 1 _ (by decide)).mono ?_
  rintro e w3 ⟨rfl, hB3⟩
  rw [show readV ⟨#[2, 1, 5]⟩ 2 1 = 5 by decide +kernel, show readN ⟨#[2, 1, 5]⟩ 2 1 = 3 by decide +kernel, show readE ⟨#[2, 1, 5]⟩ 2 1 = 0 by decide +kernel, show readA ⟨#[2, 1, 5]⟩ 2 1 = 0 by decide +kernel]
  go_wp2_with fail
  refine (Plus_any (-1) 1 _).mono ?_
  rintro e w4 ⟨rfl, hB4⟩
  rw [show sumV [-1, 1] = 0 by decide +kernel, show sumE [-1, 1] = 2 by decide +kernel]
  have hc0 : w4.cell? ⟨w3.heap.size, 0, none⟩ = some (.int .i64 0) := by
    rw [hB4.cell (by simp), World.cell?_alloc_at _ _ _ _ rfl]; rfl
  have hc1 : w4.cell? ⟨w3.heap.size, 1, none⟩ = some (.int .i64 0) := by
    rw [hB4.cell (by simp), World.cell?_alloc_at _ _ _ _ rfl]; rfl
  have hz4 : w3.heap.size < w4.heap.size := by have := hB4.size; simp at this; omega
  go_wp2_with fail
  refine (Times_any 1048576 1048576 _ (by omega) (by omega)).mono ?_
  rintro e w5 ⟨rfl, rfl⟩
  rw [show timesV 1048576 1048576 = 1099511627776 by decide +kernel, show timesE 1048576 1048576 = 0 by decide +kernel]
  go_wp2_with fail
  refine (Times_any 1048576 1048577 _ (by omega) (by omega)).mono ?_
  rintro e w5 ⟨rfl, rfl⟩
  rw [show timesV 1048576 1048577 = 0 by decide +kernel, show timesE 1048576 1048577 = 2 by decide +kernel]
  go_wp2_with fail
  refine (Sum_any (some ⟨w4.heap.size, 0, none⟩) [1, 2, 3] 3 (w4.heap.size + 1) _ (lit_slice w4 [1, 2, 3] _ _ (by omega)) (by simp)).mono ?_
  rintro e w5 ⟨rfl, rfl⟩
  rw [show sumV [1, 2, 3] = 6 by decide +kernel, show sumE [1, 2, 3] = 0 by decide +kernel]
  go_wp2_with fail
  refine (Sum_any none [] 0 0 _ SliceAt.nil_ (by simp)).mono ?_
  rintro e w5 ⟨rfl, rfl⟩
  rw [show sumV [] = 0 by decide +kernel, show sumE [] = 0 by decide +kernel]
  go_wp2_with fail
  refine (Sum_any (some ⟨w4.heap.size + 1, 0, none⟩) [1099511627776, 1] 2 (w4.heap.size + 2) _ (by have := lit_slice (w4.alloc (.cells #[.int .i64 1, .int .i64 2, .int .i64 3] 3)) [1099511627776, 1] 3 (w4.heap.size + 2) (by simp); simpa using this) (by simp)).mono ?_
  rintro e w5 ⟨rfl, rfl⟩
  rw [show sumV [1099511627776, 1] = 0 by decide +kernel, show sumE [1099511627776, 1] = 2 by decide +kernel]
  go_wp2_with fail
  refine (Bits_any (-5) _).mono ?_
  rintro e w5 ⟨rfl, rfl⟩
  rw [show hi (-5) + 1 = 0 by decide +kernel]
  go_wp2_with fail
  refine (Up_any 1 _ (by omega) (by omega)).mono ?_
  rintro e w5 ⟨rfl, rfl⟩
  rw [show up 1 = 0 by decide +kernel]
  go_wp2_with fail
  refine (Up_any 8 _ (by omega) (by omega)).mono ?_
  rintro e w5 ⟨rfl, rfl⟩
  rw [show up 8 = 3 by decide +kernel]
  go_wp2_with fail
  refine (field_yes 18446744073709551615 8 ⟨#[255, 255, 255, 255, 255, 255, 255, 255]⟩ ⟨#[120, 255, 255, 255, 255, 255, 255, 255, 255]⟩ _ (by omega) (by omega) (by decide) (by omega) (by omega) (by decide +kernel) (by decide +kernel) (by decide +kernel) (by decide +kernel) (by decide +kernel) (by decide +kernel) (by decide +kernel)).mono ?_
  rintro e w6 ⟨rfl, hB6⟩
  have hs6 := hB6.size
  simp at hs6
  have hd0 : w6.cell? ⟨w3.heap.size, 0, none⟩ = some (.int .i64 0) := by
    rw [hB6.cell (by simp; omega), World.cell?_alloc_lt _ _ _ (by simp; omega), World.cell?_alloc_lt _ _ _ (by simp; omega)]; exact hc0
  have hd1 : w6.cell? ⟨w3.heap.size, 1, none⟩ = some (.int .i64 0) := by
    rw [hB6.cell (by simp; omega), World.cell?_alloc_lt _ _ _ (by simp; omega), World.cell?_alloc_lt _ _ _ (by simp; omega)]; exact hc1
  go_wp2_with fail
  refine (fault_yes ⟨#[2, 1, 5]⟩ 2 2 5 3 _ (by decide) (by decide +kernel) (by decide +kernel) (by decide +kernel) (by decide +kernel)).mono ?_
  rintro e w7 ⟨rfl, hB7⟩
  go_wp2_with fail
  refine (fault_yes ⟨#[2, 1, 5]⟩ 4 1 2 0 _ (by decide) (by decide +kernel) (by decide +kernel) (by decide +kernel) (by decide +kernel)).mono ?_
  rintro e w8 ⟨rfl, hB8⟩
  go_wp2_with fail
  refine (fault_yes ⟨#[2, 1, 5]⟩ 0 9 2 0 _ (by decide) (by decide +kernel) (by decide +kernel) (by decide +kernel) (by decide +kernel)).mono ?_
  rintro e w9 ⟨rfl, hB9⟩
  go_wp2_with fail
  refine (awake_any _).mono ?_
  rintro e w10 ⟨rfl, hB10⟩
  go_wp2_with fail
  go_ret
  refine ⟨rfl, below_then (below_then (below_then (below_then (below_then (below_alloc (below_alloc (below_then (below_alloc (below_then (below_then hB1 hB2) hB3) _) hB4) _) _) hB6) hB7) hB8) hB9) hB10⟩

end Go.Proofs.Ytalnlpbdcmnlgaa
