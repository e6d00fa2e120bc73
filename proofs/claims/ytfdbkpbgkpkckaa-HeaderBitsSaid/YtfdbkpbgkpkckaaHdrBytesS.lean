/-
  The walk of the reference's Bytes (printed by wip/bin/genhdbytesr.py).
-/
import Derived.Test.YtfdbkpbgkpkckaaHdrBytesP
import Derived.Deep.RegionHeld3
import Derived.Deep.DrawnRows
namespace Go.Proofs.Ytfdbkpbgkpkckaa
open Go.RowKit
set_option linter.unusedVariables false
set_option maxRecDepth 100000
attribute [local go_sem ↓] Go.wp_at_zero Go.wp_at_succ

set_option maxHeartbeats 4000000 in
theorem rhBytes_tf0 (w z : Int) (W : World) (hc : chkV w z true = 0) (hz : 0 ≤ z ∧ z < 256) :
    Calls Try.prog 39 #[hdrVal w z true false] W fun r W' => r = .returned (.tuple #[.string (bytB w z true false), .int .i64 0]) ∧ Below W.heap.size W W' := by
  have hck := chk_ok hc
  have HK0 : kindV z true = 0 := by unfold kindV; rw [if_pos (.inr ⟨rfl, hz.2⟩)]
  have HL : Hid (bytB w z true false = strOfNums ([40, 181, 47, 253] ++ [32] ++ IL.leI (z) 1)) := by
    show _ = _
    unfold bytB bytesL
    rw [if_neg (by simp [hc]), HK0]
    rfl
  have HC := Lib.hid (fun W => rhCheck_any w z true false W (by omega) (by omega))
  rw [hc] at HC
  clear HK0 hc
  generalize bytB w z true false = S at *
  have hcat : ∀ W, (Op.stringOp .add ⟨#[40, 181, 47, 253]⟩ (strOfNums [32])).run Try.prog W = .ok (.string (strOfNums ([40, 181, 47, 253] ++ [32]))) W := fun W => by
    have := IL.run_add_nums (P := Try.prog) [40, 181, 47, 253] [32] (by simp) W
    exact this
  obtain ⟨L, hL⟩ : ∃ L : List Int, Hid (L = [40, 181, 47, 253] ++ [32]) := ⟨_, Lib.hid rfl⟩
  have HLT1 : Hid (S = strOfNums (L ++ IL.leI (z) 1)) := by show _ = _; rw [hL.out]; exact HL.out
  rw [← hL.out] at hcat
  clear HL
  have hcv := fun w : World => (readsB_new w #[.int .u8 32] 5 (0, 0) [32] rfl).conv (P := Try.prog) (src := 50) (dst := 9) Try.underlying50 Try.underlying5 Try.underlying9 1 1 rfl
  generalize strOfNums [32] = ST at *
  have hlit := little_ok (n := z) (k := 1) (by decide) (by decide) (by omega) (by omega)
  have HLT : Hid (∀ W, Calls Try.prog 77 #[.int .u64 (z), .int .i64 1] W fun e w' => e = .returned (.tuple #[.string (strOfNums (IL.leI (z) 1)), .int .i64 0]) ∧ Below W.heap.size W w') := fun W => by
    have := IL.rLittle_any (z) ((1 : Nat) : Int) W (by omega) (by omega)
    rw [hlit.1, hlit.2] at this
    exact this
  have gwn : IntKind.u64.wrap (z) = z := by rw [IntKind.wrap_u64]; omega
  have hlen : L.length = 5 := by rw [hL.out]; rfl
  have hadd := fun W => IL.run_add_nums (P := Try.prog) L (IL.leI (z) 1) (by rw [hlen, IL.leI_length]; decide) W
  generalize IL.leI (z) 1 = LE at *
  generalize strOfNums LE = SL at *
  clear hlit hlen
  have t_0f : decide (z < 0) = false := decide_eq_false (by omega)
  have t_256t : decide (z < 256) = true := decide_eq_true (by omega)
  have HB0 := Blk.new W #[.int .i64 w, .int .i64 z, .bool true, .bool false] 52
  have hB0 := below_new (w := W) (.cells #[.int .i64 w, .int .i64 z, .bool true, .bool false] 52)
  unfold hdrVal at *
  clear hck hz
  go_enter Try.func39, Try.ntmps39
  go_wp2_with fail
  refine (HC.out _).mono ?_
  rintro r W1 ⟨rfl, hY⟩
  have HB1 := HB0.keep' hY
  have hB1 := below_then hB0 hY
  clear HB0 hB0 hY HC
  have q0 : W1.cell? ⟨W.heap.size, 0, none⟩ = some (.int .i64 w) := HB1.cell 0 rfl
  have q1 : W1.cell? ⟨W.heap.size, 1, none⟩ = some (.int .i64 z) := HB1.cell 1 rfl
  have q2 : W1.cell? ⟨W.heap.size, 2, none⟩ = some (.bool true) := HB1.cell 2 rfl
  have q3 : W1.cell? ⟨W.heap.size, 3, none⟩ = some (.bool false) := HB1.cell 3 rfl
  go_wp2_with fail
  refine (HLT.out _).mono ?_
  rintro r W2 ⟨rfl, hY⟩
  have HB2 := HB1.keep' hY
  have hB2 := below_then hB1 hY
  clear HB1 hB1 hY HLT q0 q1 q2 q3
  have q0 : W2.cell? ⟨W.heap.size, 0, none⟩ = some (.int .i64 w) := HB2.cell 0 rfl
  have q1 : W2.cell? ⟨W.heap.size, 1, none⟩ = some (.int .i64 z) := HB2.cell 1 rfl
  have q2 : W2.cell? ⟨W.heap.size, 2, none⟩ = some (.bool true) := HB2.cell 2 rfl
  have q3 : W2.cell? ⟨W.heap.size, 3, none⟩ = some (.bool false) := HB2.cell 3 rfl
  go_wp2_with fail
  go_ret2
  exact ⟨ret_two (by rw [HLT1.out]; rfl) rfl, below_alloc hB2 _⟩

set_option maxHeartbeats 4000000 in
theorem rhBytes_tf1 (w z : Int) (W : World) (hc : chkV w z true = 0) (hz : 256 ≤ z ∧ z < 65792) :
    Calls Try.prog 39 #[hdrVal w z true false] W fun r W' => r = .returned (.tuple #[.string (bytB w z true false), .int .i64 0]) ∧ Below W.heap.size W W' := by
  have hck := chk_ok hc
  have HK0 : kindV z true = 1 := by unfold kindV; rw [if_neg (by simp; omega), if_pos hz]
  have HL : Hid (bytB w z true false = strOfNums ([40, 181, 47, 253] ++ [96] ++ IL.leI (z - 256) 2)) := by
    show _ = _
    unfold bytB bytesL
    rw [if_neg (by simp [hc]), HK0]
    rfl
  have HC := Lib.hid (fun W => rhCheck_any w z true false W (by omega) (by omega))
  rw [hc] at HC
  clear HK0 hc
  generalize bytB w z true false = S at *
  have hcat : ∀ W, (Op.stringOp .add ⟨#[40, 181, 47, 253]⟩ (strOfNums [96])).run Try.prog W = .ok (.string (strOfNums ([40, 181, 47, 253] ++ [96]))) W := fun W => by
    have := IL.run_add_nums (P := Try.prog) [40, 181, 47, 253] [96] (by simp) W
    exact this
  obtain ⟨L, hL⟩ : ∃ L : List Int, Hid (L = [40, 181, 47, 253] ++ [96]) := ⟨_, Lib.hid rfl⟩
  have HLT1 : Hid (S = strOfNums (L ++ IL.leI (z - 256) 2)) := by show _ = _; rw [hL.out]; exact HL.out
  rw [← hL.out] at hcat
  clear HL
  have hcv := fun w : World => (readsB_new w #[.int .u8 96] 5 (0, 0) [96] rfl).conv (P := Try.prog) (src := 50) (dst := 9) Try.underlying50 Try.underlying5 Try.underlying9 1 1 rfl
  generalize strOfNums [96] = ST at *
  have hlit := little_ok (n := z - 256) (k := 2) (by decide) (by decide) (by omega) (by omega)
  have HLT : Hid (∀ W, Calls Try.prog 77 #[.int .u64 (z - 256), .int .i64 2] W fun e w' => e = .returned (.tuple #[.string (strOfNums (IL.leI (z - 256) 2)), .int .i64 0]) ∧ Below W.heap.size W w') := fun W => by
    have := IL.rLittle_any (z - 256) ((2 : Nat) : Int) W (by omega) (by omega)
    rw [hlit.1, hlit.2] at this
    exact this
  have gwn : IntKind.u64.wrap (z - 256) = z - 256 := by rw [IntKind.wrap_u64]; omega
  have hlen : L.length = 5 := by rw [hL.out]; rfl
  have hadd := fun W => IL.run_add_nums (P := Try.prog) L (IL.leI (z - 256) 2) (by rw [hlen, IL.leI_length]; decide) W
  generalize IL.leI (z - 256) 2 = LE at *
  generalize strOfNums LE = SL at *
  clear hlit hlen
  have gw1 : IntKind.i64.wrap (z - 256) = z - 256 := by rw [IntKind.wrap_i64]; omega
  have t_0f : decide (z < 0) = false := decide_eq_false (by omega)
  have t_256f : decide (z < 256) = false := decide_eq_false (by omega)
  have t_ge : decide (256 ≤ z) = true := decide_eq_true (by omega)
  have t_65792t : decide (z < 65792) = true := decide_eq_true (by omega)
  have HB0 := Blk.new W #[.int .i64 w, .int .i64 z, .bool true, .bool false] 52
  have hB0 := below_new (w := W) (.cells #[.int .i64 w, .int .i64 z, .bool true, .bool false] 52)
  unfold hdrVal at *
  clear hck hz
  go_enter Try.func39, Try.ntmps39
  go_wp2_with fail
  refine (HC.out _).mono ?_
  rintro r W1 ⟨rfl, hY⟩
  have HB1 := HB0.keep' hY
  have hB1 := below_then hB0 hY
  clear HB0 hB0 hY HC
  have q0 : W1.cell? ⟨W.heap.size, 0, none⟩ = some (.int .i64 w) := HB1.cell 0 rfl
  have q1 : W1.cell? ⟨W.heap.size, 1, none⟩ = some (.int .i64 z) := HB1.cell 1 rfl
  have q2 : W1.cell? ⟨W.heap.size, 2, none⟩ = some (.bool true) := HB1.cell 2 rfl
  have q3 : W1.cell? ⟨W.heap.size, 3, none⟩ = some (.bool false) := HB1.cell 3 rfl
  go_wp2_with fail
  refine (HLT.out _).mono ?_
  rintro r W2 ⟨rfl, hY⟩
  have HB2 := HB1.keep' hY
  have hB2 := below_then hB1 hY
  clear HB1 hB1 hY HLT q0 q1 q2 q3
  have q0 : W2.cell? ⟨W.heap.size, 0, none⟩ = some (.int .i64 w) := HB2.cell 0 rfl
  have q1 : W2.cell? ⟨W.heap.size, 1, none⟩ = some (.int .i64 z) := HB2.cell 1 rfl
  have q2 : W2.cell? ⟨W.heap.size, 2, none⟩ = some (.bool true) := HB2.cell 2 rfl
  have q3 : W2.cell? ⟨W.heap.size, 3, none⟩ = some (.bool false) := HB2.cell 3 rfl
  go_wp2_with fail
  go_ret2
  exact ⟨ret_two (by rw [HLT1.out]; rfl) rfl, below_alloc hB2 _⟩

set_option maxHeartbeats 4000000 in
theorem rhBytes_tf2 (w z : Int) (W : World) (hc : chkV w z true = 0) (hz : 256 ≤ z ∧ z < 4294967296 ∧ ¬ (256 ≤ z ∧ z < 65792)) :
    Calls Try.prog 39 #[hdrVal w z true false] W fun r W' => r = .returned (.tuple #[.string (bytB w z true false), .int .i64 0]) ∧ Below W.heap.size W W' := by
  have hck := chk_ok hc
  have HK0 : kindV z true = 2 := by unfold kindV; rw [if_neg (by simp; omega), if_neg (by omega), if_pos (by omega)]
  have HL : Hid (bytB w z true false = strOfNums ([40, 181, 47, 253] ++ [160] ++ IL.leI (z) 4)) := by
    show _ = _
    unfold bytB bytesL
    rw [if_neg (by simp [hc]), HK0]
    rfl
  have HC := Lib.hid (fun W => rhCheck_any w z true false W (by omega) (by omega))
  rw [hc] at HC
  clear HK0 hc
  generalize bytB w z true false = S at *
  have hcat : ∀ W, (Op.stringOp .add ⟨#[40, 181, 47, 253]⟩ (strOfNums [160])).run Try.prog W = .ok (.string (strOfNums ([40, 181, 47, 253] ++ [160]))) W := fun W => by
    have := IL.run_add_nums (P := Try.prog) [40, 181, 47, 253] [160] (by simp) W
    exact this
  obtain ⟨L, hL⟩ : ∃ L : List Int, Hid (L = [40, 181, 47, 253] ++ [160]) := ⟨_, Lib.hid rfl⟩
  have HLT1 : Hid (S = strOfNums (L ++ IL.leI (z) 4)) := by show _ = _; rw [hL.out]; exact HL.out
  rw [← hL.out] at hcat
  clear HL
  have hcv := fun w : World => (readsB_new w #[.int .u8 160] 5 (0, 0) [160] rfl).conv (P := Try.prog) (src := 50) (dst := 9) Try.underlying50 Try.underlying5 Try.underlying9 1 1 rfl
  generalize strOfNums [160] = ST at *
  have hlit := little_ok (n := z) (k := 4) (by decide) (by decide) (by omega) (by omega)
  have HLT : Hid (∀ W, Calls Try.prog 77 #[.int .u64 (z), .int .i64 4] W fun e w' => e = .returned (.tuple #[.string (strOfNums (IL.leI (z) 4)), .int .i64 0]) ∧ Below W.heap.size W w') := fun W => by
    have := IL.rLittle_any (z) ((4 : Nat) : Int) W (by omega) (by omega)
    rw [hlit.1, hlit.2] at this
    exact this
  have gwn : IntKind.u64.wrap (z) = z := by rw [IntKind.wrap_u64]; omega
  have hlen : L.length = 5 := by rw [hL.out]; rfl
  have hadd := fun W => IL.run_add_nums (P := Try.prog) L (IL.leI (z) 4) (by rw [hlen, IL.leI_length]; decide) W
  generalize IL.leI (z) 4 = LE at *
  generalize strOfNums LE = SL at *
  clear hlit hlen
  have t_0f : decide (z < 0) = false := decide_eq_false (by omega)
  have t_256f : decide (z < 256) = false := decide_eq_false (by omega)
  have t_ge : decide (256 ≤ z) = true := decide_eq_true (by omega)
  have t_65792f : decide (z < 65792) = false := decide_eq_false (by omega)
  have t_4294967296t : decide (z < 4294967296) = true := decide_eq_true (by omega)
  have HB0 := Blk.new W #[.int .i64 w, .int .i64 z, .bool true, .bool false] 52
  have hB0 := below_new (w := W) (.cells #[.int .i64 w, .int .i64 z, .bool true, .bool false] 52)
  unfold hdrVal at *
  clear hck hz
  go_enter Try.func39, Try.ntmps39
  go_wp2_with fail
  refine (HC.out _).mono ?_
  rintro r W1 ⟨rfl, hY⟩
  have HB1 := HB0.keep' hY
  have hB1 := below_then hB0 hY
  clear HB0 hB0 hY HC
  have q0 : W1.cell? ⟨W.heap.size, 0, none⟩ = some (.int .i64 w) := HB1.cell 0 rfl
  have q1 : W1.cell? ⟨W.heap.size, 1, none⟩ = some (.int .i64 z) := HB1.cell 1 rfl
  have q2 : W1.cell? ⟨W.heap.size, 2, none⟩ = some (.bool true) := HB1.cell 2 rfl
  have q3 : W1.cell? ⟨W.heap.size, 3, none⟩ = some (.bool false) := HB1.cell 3 rfl
  go_wp2_with fail
  refine (HLT.out _).mono ?_
  rintro r W2 ⟨rfl, hY⟩
  have HB2 := HB1.keep' hY
  have hB2 := below_then hB1 hY
  clear HB1 hB1 hY HLT q0 q1 q2 q3
  have q0 : W2.cell? ⟨W.heap.size, 0, none⟩ = some (.int .i64 w) := HB2.cell 0 rfl
  have q1 : W2.cell? ⟨W.heap.size, 1, none⟩ = some (.int .i64 z) := HB2.cell 1 rfl
  have q2 : W2.cell? ⟨W.heap.size, 2, none⟩ = some (.bool true) := HB2.cell 2 rfl
  have q3 : W2.cell? ⟨W.heap.size, 3, none⟩ = some (.bool false) := HB2.cell 3 rfl
  go_wp2_with fail
  go_ret2
  exact ⟨ret_two (by rw [HLT1.out]; rfl) rfl, below_alloc hB2 _⟩

set_option maxHeartbeats 4000000 in
theorem rhBytes_tf3 (w z : Int) (W : World) (hc : chkV w z true = 0) (hz : 4294967296 ≤ z) :
    Calls Try.prog 39 #[hdrVal w z true false] W fun r W' => r = .returned (.tuple #[.string (bytB w z true false), .int .i64 0]) ∧ Below W.heap.size W W' := by
  have hck := chk_ok hc
  have HK0 : kindV z true = 3 := by unfold kindV; rw [if_neg (by simp; omega), if_neg (by omega), if_neg (by omega)]
  have HL : Hid (bytB w z true false = strOfNums ([40, 181, 47, 253] ++ [224] ++ IL.leI (z) 8)) := by
    show _ = _
    unfold bytB bytesL
    rw [if_neg (by simp [hc]), HK0]
    rfl
  have HC := Lib.hid (fun W => rhCheck_any w z true false W (by omega) (by omega))
  rw [hc] at HC
  clear HK0 hc
  generalize bytB w z true false = S at *
  have hcat : ∀ W, (Op.stringOp .add ⟨#[40, 181, 47, 253]⟩ (strOfNums [224])).run Try.prog W = .ok (.string (strOfNums ([40, 181, 47, 253] ++ [224]))) W := fun W => by
    have := IL.run_add_nums (P := Try.prog) [40, 181, 47, 253] [224] (by simp) W
    exact this
  obtain ⟨L, hL⟩ : ∃ L : List Int, Hid (L = [40, 181, 47, 253] ++ [224]) := ⟨_, Lib.hid rfl⟩
  have HLT1 : Hid (S = strOfNums (L ++ IL.leI (z) 8)) := by show _ = _; rw [hL.out]; exact HL.out
  rw [← hL.out] at hcat
  clear HL
  have hcv := fun w : World => (readsB_new w #[.int .u8 224] 5 (0, 0) [224] rfl).conv (P := Try.prog) (src := 50) (dst := 9) Try.underlying50 Try.underlying5 Try.underlying9 1 1 rfl
  generalize strOfNums [224] = ST at *
  have hlit := little_ok (n := z) (k := 8) (by decide) (by decide) (by omega) (by omega)
  have HLT : Hid (∀ W, Calls Try.prog 77 #[.int .u64 (z), .int .i64 8] W fun e w' => e = .returned (.tuple #[.string (strOfNums (IL.leI (z) 8)), .int .i64 0]) ∧ Below W.heap.size W w') := fun W => by
    have := IL.rLittle_any (z) ((8 : Nat) : Int) W (by omega) (by omega)
    rw [hlit.1, hlit.2] at this
    exact this
  have gwn : IntKind.u64.wrap (z) = z := by rw [IntKind.wrap_u64]; omega
  have hlen : L.length = 5 := by rw [hL.out]; rfl
  have hadd := fun W => IL.run_add_nums (P := Try.prog) L (IL.leI (z) 8) (by rw [hlen, IL.leI_length]; decide) W
  generalize IL.leI (z) 8 = LE at *
  generalize strOfNums LE = SL at *
  clear hlit hlen
  have t_0f : decide (z < 0) = false := decide_eq_false (by omega)
  have t_256f : decide (z < 256) = false := decide_eq_false (by omega)
  have t_ge : decide (256 ≤ z) = true := decide_eq_true (by omega)
  have t_65792f : decide (z < 65792) = false := decide_eq_false (by omega)
  have t_4294967296f : decide (z < 4294967296) = false := decide_eq_false (by omega)
  have HB0 := Blk.new W #[.int .i64 w, .int .i64 z, .bool true, .bool false] 52
  have hB0 := below_new (w := W) (.cells #[.int .i64 w, .int .i64 z, .bool true, .bool false] 52)
  unfold hdrVal at *
  clear hck hz
  go_enter Try.func39, Try.ntmps39
  go_wp2_with fail
  refine (HC.out _).mono ?_
  rintro r W1 ⟨rfl, hY⟩
  have HB1 := HB0.keep' hY
  have hB1 := below_then hB0 hY
  clear HB0 hB0 hY HC
  have q0 : W1.cell? ⟨W.heap.size, 0, none⟩ = some (.int .i64 w) := HB1.cell 0 rfl
  have q1 : W1.cell? ⟨W.heap.size, 1, none⟩ = some (.int .i64 z) := HB1.cell 1 rfl
  have q2 : W1.cell? ⟨W.heap.size, 2, none⟩ = some (.bool true) := HB1.cell 2 rfl
  have q3 : W1.cell? ⟨W.heap.size, 3, none⟩ = some (.bool false) := HB1.cell 3 rfl
  go_wp2_with fail
  refine (HLT.out _).mono ?_
  rintro r W2 ⟨rfl, hY⟩
  have HB2 := HB1.keep' hY
  have hB2 := below_then hB1 hY
  clear HB1 hB1 hY HLT q0 q1 q2 q3
  have q0 : W2.cell? ⟨W.heap.size, 0, none⟩ = some (.int .i64 w) := HB2.cell 0 rfl
  have q1 : W2.cell? ⟨W.heap.size, 1, none⟩ = some (.int .i64 z) := HB2.cell 1 rfl
  have q2 : W2.cell? ⟨W.heap.size, 2, none⟩ = some (.bool true) := HB2.cell 2 rfl
  have q3 : W2.cell? ⟨W.heap.size, 3, none⟩ = some (.bool false) := HB2.cell 3 rfl
  go_wp2_with fail
  go_ret2
  exact ⟨ret_two (by rw [HLT1.out]; rfl) rfl, below_alloc hB2 _⟩

set_option maxHeartbeats 4000000 in
theorem rhBytes_tt0 (w z : Int) (W : World) (hc : chkV w z true = 0) (hz : 0 ≤ z ∧ z < 256) :
    Calls Try.prog 39 #[hdrVal w z true true] W fun r W' => r = .returned (.tuple #[.string (bytB w z true true), .int .i64 0]) ∧ Below W.heap.size W W' := by
  have hck := chk_ok hc
  have HK0 : kindV z true = 0 := by unfold kindV; rw [if_pos (.inr ⟨rfl, hz.2⟩)]
  have HL : Hid (bytB w z true true = strOfNums ([40, 181, 47, 253] ++ [36] ++ IL.leI (z) 1)) := by
    show _ = _
    unfold bytB bytesL
    rw [if_neg (by simp [hc]), HK0]
    rfl
  have HC := Lib.hid (fun W => rhCheck_any w z true true W (by omega) (by omega))
  rw [hc] at HC
  clear HK0 hc
  generalize bytB w z true true = S at *
  have hcat : ∀ W, (Op.stringOp .add ⟨#[40, 181, 47, 253]⟩ (strOfNums [36])).run Try.prog W = .ok (.string (strOfNums ([40, 181, 47, 253] ++ [36]))) W := fun W => by
    have := IL.run_add_nums (P := Try.prog) [40, 181, 47, 253] [36] (by simp) W
    exact this
  obtain ⟨L, hL⟩ : ∃ L : List Int, Hid (L = [40, 181, 47, 253] ++ [36]) := ⟨_, Lib.hid rfl⟩
  have HLT1 : Hid (S = strOfNums (L ++ IL.leI (z) 1)) := by show _ = _; rw [hL.out]; exact HL.out
  rw [← hL.out] at hcat
  clear HL
  have hcv := fun w : World => (readsB_new w #[.int .u8 36] 5 (0, 0) [36] rfl).conv (P := Try.prog) (src := 50) (dst := 9) Try.underlying50 Try.underlying5 Try.underlying9 1 1 rfl
  generalize strOfNums [36] = ST at *
  have hlit := little_ok (n := z) (k := 1) (by decide) (by decide) (by omega) (by omega)
  have HLT : Hid (∀ W, Calls Try.prog 77 #[.int .u64 (z), .int .i64 1] W fun e w' => e = .returned (.tuple #[.string (strOfNums (IL.leI (z) 1)), .int .i64 0]) ∧ Below W.heap.size W w') := fun W => by
    have := IL.rLittle_any (z) ((1 : Nat) : Int) W (by omega) (by omega)
    rw [hlit.1, hlit.2] at this
    exact this
  have gwn : IntKind.u64.wrap (z) = z := by rw [IntKind.wrap_u64]; omega
  have hlen : L.length = 5 := by rw [hL.out]; rfl
  have hadd := fun W => IL.run_add_nums (P := Try.prog) L (IL.leI (z) 1) (by rw [hlen, IL.leI_length]; decide) W
  generalize IL.leI (z) 1 = LE at *
  generalize strOfNums LE = SL at *
  clear hlit hlen
  have t_0f : decide (z < 0) = false := decide_eq_false (by omega)
  have t_256t : decide (z < 256) = true := decide_eq_true (by omega)
  have HB0 := Blk.new W #[.int .i64 w, .int .i64 z, .bool true, .bool true] 52
  have hB0 := below_new (w := W) (.cells #[.int .i64 w, .int .i64 z, .bool true, .bool true] 52)
  unfold hdrVal at *
  clear hck hz
  go_enter Try.func39, Try.ntmps39
  go_wp2_with fail
  refine (HC.out _).mono ?_
  rintro r W1 ⟨rfl, hY⟩
  have HB1 := HB0.keep' hY
  have hB1 := below_then hB0 hY
  clear HB0 hB0 hY HC
  have q0 : W1.cell? ⟨W.heap.size, 0, none⟩ = some (.int .i64 w) := HB1.cell 0 rfl
  have q1 : W1.cell? ⟨W.heap.size, 1, none⟩ = some (.int .i64 z) := HB1.cell 1 rfl
  have q2 : W1.cell? ⟨W.heap.size, 2, none⟩ = some (.bool true) := HB1.cell 2 rfl
  have q3 : W1.cell? ⟨W.heap.size, 3, none⟩ = some (.bool true) := HB1.cell 3 rfl
  go_wp2_with fail
  refine (HLT.out _).mono ?_
  rintro r W2 ⟨rfl, hY⟩
  have HB2 := HB1.keep' hY
  have hB2 := below_then hB1 hY
  clear HB1 hB1 hY HLT q0 q1 q2 q3
  have q0 : W2.cell? ⟨W.heap.size, 0, none⟩ = some (.int .i64 w) := HB2.cell 0 rfl
  have q1 : W2.cell? ⟨W.heap.size, 1, none⟩ = some (.int .i64 z) := HB2.cell 1 rfl
  have q2 : W2.cell? ⟨W.heap.size, 2, none⟩ = some (.bool true) := HB2.cell 2 rfl
  have q3 : W2.cell? ⟨W.heap.size, 3, none⟩ = some (.bool true) := HB2.cell 3 rfl
  go_wp2_with fail
  go_ret2
  exact ⟨ret_two (by rw [HLT1.out]; rfl) rfl, below_alloc hB2 _⟩

set_option maxHeartbeats 4000000 in
theorem rhBytes_tt1 (w z : Int) (W : World) (hc : chkV w z true = 0) (hz : 256 ≤ z ∧ z < 65792) :
    Calls Try.prog 39 #[hdrVal w z true true] W fun r W' => r = .returned (.tuple #[.string (bytB w z true true), .int .i64 0]) ∧ Below W.heap.size W W' := by
  have hck := chk_ok hc
  have HK0 : kindV z true = 1 := by unfold kindV; rw [if_neg (by simp; omega), if_pos hz]
  have HL : Hid (bytB w z true true = strOfNums ([40, 181, 47, 253] ++ [100] ++ IL.leI (z - 256) 2)) := by
    show _ = _
    unfold bytB bytesL
    rw [if_neg (by simp [hc]), HK0]
    rfl
  have HC := Lib.hid (fun W => rhCheck_any w z true true W (by omega) (by omega))
  rw [hc] at HC
  clear HK0 hc
  generalize bytB w z true true = S at *
  have hcat : ∀ W, (Op.stringOp .add ⟨#[40, 181, 47, 253]⟩ (strOfNums [100])).run Try.prog W = .ok (.string (strOfNums ([40, 181, 47, 253] ++ [100]))) W := fun W => by
    have := IL.run_add_nums (P := Try.prog) [40, 181, 47, 253] [100] (by simp) W
    exact this
  obtain ⟨L, hL⟩ : ∃ L : List Int, Hid (L = [40, 181, 47, 253] ++ [100]) := ⟨_, Lib.hid rfl⟩
  have HLT1 : Hid (S = strOfNums (L ++ IL.leI (z - 256) 2)) := by show _ = _; rw [hL.out]; exact HL.out
  rw [← hL.out] at hcat
  clear HL
  have hcv := fun w : World => (readsB_new w #[.int .u8 100] 5 (0, 0) [100] rfl).conv (P := Try.prog) (src := 50) (dst := 9) Try.underlying50 Try.underlying5 Try.underlying9 1 1 rfl
  generalize strOfNums [100] = ST at *
  have hlit := little_ok (n := z - 256) (k := 2) (by decide) (by decide) (by omega) (by omega)
  have HLT : Hid (∀ W, Calls Try.prog 77 #[.int .u64 (z - 256), .int .i64 2] W fun e w' => e = .returned (.tuple #[.string (strOfNums (IL.leI (z - 256) 2)), .int .i64 0]) ∧ Below W.heap.size W w') := fun W => by
    have := IL.rLittle_any (z - 256) ((2 : Nat) : Int) W (by omega) (by omega)
    rw [hlit.1, hlit.2] at this
    exact this
  have gwn : IntKind.u64.wrap (z - 256) = z - 256 := by rw [IntKind.wrap_u64]; omega
  have hlen : L.length = 5 := by rw [hL.out]; rfl
  have hadd := fun W => IL.run_add_nums (P := Try.prog) L (IL.leI (z - 256) 2) (by rw [hlen, IL.leI_length]; decide) W
  generalize IL.leI (z - 256) 2 = LE at *
  generalize strOfNums LE = SL at *
  clear hlit hlen
  have gw1 : IntKind.i64.wrap (z - 256) = z - 256 := by rw [IntKind.wrap_i64]; omega
  have t_0f : decide (z < 0) = false := decide_eq_false (by omega)
  have t_256f : decide (z < 256) = false := decide_eq_false (by omega)
  have t_ge : decide (256 ≤ z) = true := decide_eq_true (by omega)
  have t_65792t : decide (z < 65792) = true := decide_eq_true (by omega)
  have HB0 := Blk.new W #[.int .i64 w, .int .i64 z, .bool true, .bool true] 52
  have hB0 := below_new (w := W) (.cells #[.int .i64 w, .int .i64 z, .bool true, .bool true] 52)
  unfold hdrVal at *
  clear hck hz
  go_enter Try.func39, Try.ntmps39
  go_wp2_with fail
  refine (HC.out _).mono ?_
  rintro r W1 ⟨rfl, hY⟩
  have HB1 := HB0.keep' hY
  have hB1 := below_then hB0 hY
  clear HB0 hB0 hY HC
  have q0 : W1.cell? ⟨W.heap.size, 0, none⟩ = some (.int .i64 w) := HB1.cell 0 rfl
  have q1 : W1.cell? ⟨W.heap.size, 1, none⟩ = some (.int .i64 z) := HB1.cell 1 rfl
  have q2 : W1.cell? ⟨W.heap.size, 2, none⟩ = some (.bool true) := HB1.cell 2 rfl
  have q3 : W1.cell? ⟨W.heap.size, 3, none⟩ = some (.bool true) := HB1.cell 3 rfl
  go_wp2_with fail
  refine (HLT.out _).mono ?_
  rintro r W2 ⟨rfl, hY⟩
  have HB2 := HB1.keep' hY
  have hB2 := below_then hB1 hY
  clear HB1 hB1 hY HLT q0 q1 q2 q3
  have q0 : W2.cell? ⟨W.heap.size, 0, none⟩ = some (.int .i64 w) := HB2.cell 0 rfl
  have q1 : W2.cell? ⟨W.heap.size, 1, none⟩ = some (.int .i64 z) := HB2.cell 1 rfl
  have q2 : W2.cell? ⟨W.heap.size, 2, none⟩ = some (.bool true) := HB2.cell 2 rfl
  have q3 : W2.cell? ⟨W.heap.size, 3, none⟩ = some (.bool true) := HB2.cell 3 rfl
  go_wp2_with fail
  go_ret2
  exact ⟨ret_two (by rw [HLT1.out]; rfl) rfl, below_alloc hB2 _⟩

set_option maxHeartbeats 4000000 in
theorem rhBytes_tt2 (w z : Int) (W : World) (hc : chkV w z true = 0) (hz : 256 ≤ z ∧ z < 4294967296 ∧ ¬ (256 ≤ z ∧ z < 65792)) :
    Calls Try.prog 39 #[hdrVal w z true true] W fun r W' => r = .returned (.tuple #[.string (bytB w z true true), .int .i64 0]) ∧ Below W.heap.size W W' := by
  have hck := chk_ok hc
  have HK0 : kindV z true = 2 := by unfold kindV; rw [if_neg (by simp; omega), if_neg (by omega), if_pos (by omega)]
  have HL : Hid (bytB w z true true = strOfNums ([40, 181, 47, 253] ++ [164] ++ IL.leI (z) 4)) := by
    show _ = _
    unfold bytB bytesL
    rw [if_neg (by simp [hc]), HK0]
    rfl
  have HC := Lib.hid (fun W => rhCheck_any w z true true W (by omega) (by omega))
  rw [hc] at HC
  clear HK0 hc
  generalize bytB w z true true = S at *
  have hcat : ∀ W, (Op.stringOp .add ⟨#[40, 181, 47, 253]⟩ (strOfNums [164])).run Try.prog W = .ok (.string (strOfNums ([40, 181, 47, 253] ++ [164]))) W := fun W => by
    have := IL.run_add_nums (P := Try.prog) [40, 181, 47, 253] [164] (by simp) W
    exact this
  obtain ⟨L, hL⟩ : ∃ L : List Int, Hid (L = [40, 181, 47, 253] ++ [164]) := ⟨_, Lib.hid rfl⟩
  have HLT1 : Hid (S = strOfNums (L ++ IL.leI (z) 4)) := by show _ = _; rw [hL.out]; exact HL.out
  rw [← hL.out] at hcat
  clear HL
  have hcv := fun w : World => (readsB_new w #[.int .u8 164] 5 (0, 0) [164] rfl).conv (P := Try.prog) (src := 50) (dst := 9) Try.underlying50 Try.underlying5 Try.underlying9 1 1 rfl
  generalize strOfNums [164] = ST at *
  have hlit := little_ok (n := z) (k := 4) (by decide) (by decide) (by omega) (by omega)
  have HLT : Hid (∀ W, Calls Try.prog 77 #[.int .u64 (z), .int .i64 4] W fun e w' => e = .returned (.tuple #[.string (strOfNums (IL.leI (z) 4)), .int .i64 0]) ∧ Below W.heap.size W w') := fun W => by
    have := IL.rLittle_any (z) ((4 : Nat) : Int) W (by omega) (by omega)
    rw [hlit.1, hlit.2] at this
    exact this
  have gwn : IntKind.u64.wrap (z) = z := by rw [IntKind.wrap_u64]; omega
  have hlen : L.length = 5 := by rw [hL.out]; rfl
  have hadd := fun W => IL.run_add_nums (P := Try.prog) L (IL.leI (z) 4) (by rw [hlen, IL.leI_length]; decide) W
  generalize IL.leI (z) 4 = LE at *
  generalize strOfNums LE = SL at *
  clear hlit hlen
  have t_0f : decide (z < 0) = false := decide_eq_false (by omega)
  have t_256f : decide (z < 256) = false := decide_eq_false (by omega)
  have t_ge : decide (256 ≤ z) = true := decide_eq_true (by omega)
  have t_65792f : decide (z < 65792) = false := decide_eq_false (by omega)
  have t_4294967296t : decide (z < 4294967296) = true := decide_eq_true (by omega)
  have HB0 := Blk.new W #[.int .i64 w, .int .i64 z, .bool true, .bool true] 52
  have hB0 := below_new (w := W) (.cells #[.int .i64 w, .int .i64 z, .bool true, .bool true] 52)
  unfold hdrVal at *
  clear hck hz
  go_enter Try.func39, Try.ntmps39
  go_wp2_with fail
  refine (HC.out _).mono ?_
  rintro r W1 ⟨rfl, hY⟩
  have HB1 := HB0.keep' hY
  have hB1 := below_then hB0 hY
  clear HB0 hB0 hY HC
  have q0 : W1.cell? ⟨W.heap.size, 0, none⟩ = some (.int .i64 w) := HB1.cell 0 rfl
  have q1 : W1.cell? ⟨W.heap.size, 1, none⟩ = some (.int .i64 z) := HB1.cell 1 rfl
  have q2 : W1.cell? ⟨W.heap.size, 2, none⟩ = some (.bool true) := HB1.cell 2 rfl
  have q3 : W1.cell? ⟨W.heap.size, 3, none⟩ = some (.bool true) := HB1.cell 3 rfl
  go_wp2_with fail
  refine (HLT.out _).mono ?_
  rintro r W2 ⟨rfl, hY⟩
  have HB2 := HB1.keep' hY
  have hB2 := below_then hB1 hY
  clear HB1 hB1 hY HLT q0 q1 q2 q3
  have q0 : W2.cell? ⟨W.heap.size, 0, none⟩ = some (.int .i64 w) := HB2.cell 0 rfl
  have q1 : W2.cell? ⟨W.heap.size, 1, none⟩ = some (.int .i64 z) := HB2.cell 1 rfl
  have q2 : W2.cell? ⟨W.heap.size, 2, none⟩ = some (.bool true) := HB2.cell 2 rfl
  have q3 : W2.cell? ⟨W.heap.size, 3, none⟩ = some (.bool true) := HB2.cell 3 rfl
  go_wp2_with fail
  go_ret2
  exact ⟨ret_two (by rw [HLT1.out]; rfl) rfl, below_alloc hB2 _⟩

set_option maxHeartbeats 4000000 in
theorem rhBytes_tt3 (w z : Int) (W : World) (hc : chkV w z true = 0) (hz : 4294967296 ≤ z) :
    Calls Try.prog 39 #[hdrVal w z true true] W fun r W' => r = .returned (.tuple #[.string (bytB w z true true), .int .i64 0]) ∧ Below W.heap.size W W' := by
  have hck := chk_ok hc
  have HK0 : kindV z true = 3 := by unfold kindV; rw [if_neg (by simp; omega), if_neg (by omega), if_neg (by omega)]
  have HL : Hid (bytB w z true true = strOfNums ([40, 181, 47, 253] ++ [228] ++ IL.leI (z) 8)) := by
    show _ = _
    unfold bytB bytesL
    rw [if_neg (by simp [hc]), HK0]
    rfl
  have HC := Lib.hid (fun W => rhCheck_any w z true true W (by omega) (by omega))
  rw [hc] at HC
  clear HK0 hc
  generalize bytB w z true true = S at *
  have hcat : ∀ W, (Op.stringOp .add ⟨#[40, 181, 47, 253]⟩ (strOfNums [228])).run Try.prog W = .ok (.string (strOfNums ([40, 181, 47, 253] ++ [228]))) W := fun W => by
    have := IL.run_add_nums (P := Try.prog) [40, 181, 47, 253] [228] (by simp) W
    exact this
  obtain ⟨L, hL⟩ : ∃ L : List Int, Hid (L = [40, 181, 47, 253] ++ [228]) := ⟨_, Lib.hid rfl⟩
  have HLT1 : Hid (S = strOfNums (L ++ IL.leI (z) 8)) := by show _ = _; rw [hL.out]; exact HL.out
  rw [← hL.out] at hcat
  clear HL
  have hcv := fun w : World => (readsB_new w #[.int .u8 228] 5 (0, 0) [228] rfl).conv (P := Try.prog) (src := 50) (dst := 9) Try.underlying50 Try.underlying5 Try.underlying9 1 1 rfl
  generalize strOfNums [228] = ST at *
  have hlit := little_ok (n := z) (k := 8) (by decide) (by decide) (by omega) (by omega)
  have HLT : Hid (∀ W, Calls Try.prog 77 #[.int .u64 (z), .int .i64 8] W fun e w' => e = .returned (.tuple #[.string (strOfNums (IL.leI (z) 8)), .int .i64 0]) ∧ Below W.heap.size W w') := fun W => by
    have := IL.rLittle_any (z) ((8 : Nat) : Int) W (by omega) (by omega)
    rw [hlit.1, hlit.2] at this
    exact this
  have gwn : IntKind.u64.wrap (z) = z := by rw [IntKind.wrap_u64]; omega
  have hlen : L.length = 5 := by rw [hL.out]; rfl
  have hadd := fun W => IL.run_add_nums (P := Try.prog) L (IL.leI (z) 8) (by rw [hlen, IL.leI_length]; decide) W
  generalize IL.leI (z) 8 = LE at *
  generalize strOfNums LE = SL at *
  clear hlit hlen
  have t_0f : decide (z < 0) = false := decide_eq_false (by omega)
  have t_256f : decide (z < 256) = false := decide_eq_false (by omega)
  have t_ge : decide (256 ≤ z) = true := decide_eq_true (by omega)
  have t_65792f : decide (z < 65792) = false := decide_eq_false (by omega)
  have t_4294967296f : decide (z < 4294967296) = false := decide_eq_false (by omega)
  have HB0 := Blk.new W #[.int .i64 w, .int .i64 z, .bool true, .bool true] 52
  have hB0 := below_new (w := W) (.cells #[.int .i64 w, .int .i64 z, .bool true, .bool true] 52)
  unfold hdrVal at *
  clear hck hz
  go_enter Try.func39, Try.ntmps39
  go_wp2_with fail
  refine (HC.out _).mono ?_
  rintro r W1 ⟨rfl, hY⟩
  have HB1 := HB0.keep' hY
  have hB1 := below_then hB0 hY
  clear HB0 hB0 hY HC
  have q0 : W1.cell? ⟨W.heap.size, 0, none⟩ = some (.int .i64 w) := HB1.cell 0 rfl
  have q1 : W1.cell? ⟨W.heap.size, 1, none⟩ = some (.int .i64 z) := HB1.cell 1 rfl
  have q2 : W1.cell? ⟨W.heap.size, 2, none⟩ = some (.bool true) := HB1.cell 2 rfl
  have q3 : W1.cell? ⟨W.heap.size, 3, none⟩ = some (.bool true) := HB1.cell 3 rfl
  go_wp2_with fail
  refine (HLT.out _).mono ?_
  rintro r W2 ⟨rfl, hY⟩
  have HB2 := HB1.keep' hY
  have hB2 := below_then hB1 hY
  clear HB1 hB1 hY HLT q0 q1 q2 q3
  have q0 : W2.cell? ⟨W.heap.size, 0, none⟩ = some (.int .i64 w) := HB2.cell 0 rfl
  have q1 : W2.cell? ⟨W.heap.size, 1, none⟩ = some (.int .i64 z) := HB2.cell 1 rfl
  have q2 : W2.cell? ⟨W.heap.size, 2, none⟩ = some (.bool true) := HB2.cell 2 rfl
  have q3 : W2.cell? ⟨W.heap.size, 3, none⟩ = some (.bool true) := HB2.cell 3 rfl
  go_wp2_with fail
  go_ret2
  exact ⟨ret_two (by rw [HLT1.out]; rfl) rfl, below_alloc hB2 _⟩

end Go.Proofs.Ytfdbkpbgkpkckaa
