/-
  The walk of the reference's Bytes (printed by wip/bin/genhdbytesr.py).
-/
import Derived.Test.YtfdbkpbgkpkckaaHdrBytesP
import Derived.Deep.RegionHeld3
import Derived.Deep.DrawnRows
namespace Go.Proofs.Ytfdbkpbgkpkckaa
open Go.RowKit
set_option linter.unusedVariables false
set_option maxRecDepth 100000
attribute [local go_sem ↓] Go.wp_at_zero Go.wp_at_succ

set_option maxHeartbeats 4000000 in
theorem rhBytes_ff0 (w z : Int) (W : World) (hc : chkV w z false = 0) (hz : z < 0) :
    Calls Try.prog 39 #[hdrVal w z false false] W fun r W' => r = .returned (.tuple #[.string (bytB w z false false), .int .i64 0]) ∧ Below W.heap.size W W' := by
  have hck := chk_ok hc
  have HK0 : kindV z false = 0 := by unfold kindV; rw [if_pos (.inl hz)]
  have HL : Hid (bytB w z false false = strOfNums ([40, 181, 47, 253] ++ [0, descV w] ++ IL.leI (z) 0)) := by
    show _ = _
    unfold bytB bytesL
    rw [if_neg (by simp [hc]), HK0]
    rfl
  have HC := Lib.hid (fun W => rhCheck_any w z false false W (by omega) (by omega))
  rw [hc] at HC
  clear HK0 hc
  generalize bytB w z false false = S at *
  have HD := Lib.hid (fun W => described_any w W (by omega))
  have hdn : descN w = descV w := by unfold descN; rw [if_neg (by have := hck.2.2.2.2.2 rfl; omega)]
  rw [hdn] at HD
  have hdv : 0 ≤ descV w ∧ descV w ≤ 143 := by
    rcases descV_spec w (by omega) with h | h
    · have := hck.2.2.2.2.2 rfl; omega
    · omega
  generalize descV w = dv at *
  generalize descI w = di at *
  clear hdn
  have gdv : IntKind.u8.wrap dv = dv := by rw [IntKind.wrap_u8]; omega
  have hcat : ∀ W, (Op.stringOp .add ⟨#[40, 181, 47, 253]⟩ (strOfNums [0, dv])).run Try.prog W = .ok (.string (strOfNums ([40, 181, 47, 253] ++ [0, dv]))) W := fun W => by
    have := IL.run_add_nums (P := Try.prog) [40, 181, 47, 253] [0, dv] (by simp) W
    exact this
  obtain ⟨L, hL⟩ : ∃ L : List Int, Hid (L = [40, 181, 47, 253] ++ [0, dv]) := ⟨_, Lib.hid rfl⟩
  have HLT1 : Hid (S = strOfNums (L ++ IL.leI (z) 0)) := by show _ = _; rw [hL.out]; exact HL.out
  rw [← hL.out] at hcat
  clear HL
  have hcv := fun w : World => (readsB_new w #[.int .u8 0, .int .u8 dv] 5 (0, 0) [0, dv] rfl).conv (P := Try.prog) (src := 50) (dst := 9) Try.underlying50 Try.underlying5 Try.underlying9 2 2 rfl
  generalize strOfNums [0, dv] = ST at *
  have HS0 : Hid (S = strOfNums L) := by show _ = _; rw [HLT1.out]; simp [IL.leI]
  have hadd := fun W => IL.run_add_nums (P := Try.prog) L [] (by rw [hL.out]; simp) W
  rw [List.append_nil] at hadd
  have hem : strOfNums ([] : List Int) = ⟨#[]⟩ := rfl
  rw [hem] at hadd
  clear HLT1 hem
  have t_0t : decide (z < 0) = true := decide_eq_true (by omega)
  have HB0 := Blk.new W #[.int .i64 w, .int .i64 z, .bool false, .bool false] 52
  have hB0 := below_new (w := W) (.cells #[.int .i64 w, .int .i64 z, .bool false, .bool false] 52)
  unfold hdrVal at *
  clear hck hz
  go_enter Try.func39, Try.ntmps39
  go_wp2_with fail
  refine (HC.out _).mono ?_
  rintro r W1 ⟨rfl, hY⟩
  have HB1 := HB0.keep' hY
  have hB1 := below_then hB0 hY
  clear HB0 hB0 hY HC
  have q0 : W1.cell? ⟨W.heap.size, 0, none⟩ = some (.int .i64 w) := HB1.cell 0 rfl
  have q1 : W1.cell? ⟨W.heap.size, 1, none⟩ = some (.int .i64 z) := HB1.cell 1 rfl
  have q2 : W1.cell? ⟨W.heap.size, 2, none⟩ = some (.bool false) := HB1.cell 2 rfl
  have q3 : W1.cell? ⟨W.heap.size, 3, none⟩ = some (.bool false) := HB1.cell 3 rfl
  go_wp2_with fail
  refine (HD.out _).mono ?_
  rintro r W3 ⟨rfl, rfl⟩
  go_wp2_with fail
  go_ret2
  exact ⟨ret_two (by rw [HS0.out]; rfl) rfl, below_alloc hB1 _⟩

set_option maxHeartbeats 4000000 in
theorem rhBytes_ff1 (w z : Int) (W : World) (hc : chkV w z false = 0) (hz : 256 ≤ z ∧ z < 65792) :
    Calls Try.prog 39 #[hdrVal w z false false] W fun r W' => r = .returned (.tuple #[.string (bytB w z false false), .int .i64 0]) ∧ Below W.heap.size W W' := by
  have hck := chk_ok hc
  have HK0 : kindV z false = 1 := by unfold kindV; rw [if_neg (by simp; omega), if_pos hz]
  have HL : Hid (bytB w z false false = strOfNums ([40, 181, 47, 253] ++ [64, descV w] ++ IL.leI (z - 256) 2)) := by
    show _ = _
    unfold bytB bytesL
    rw [if_neg (by simp [hc]), HK0]
    rfl
  have HC := Lib.hid (fun W => rhCheck_any w z false false W (by omega) (by omega))
  rw [hc] at HC
  clear HK0 hc
  generalize bytB w z false false = S at *
  have HD := Lib.hid (fun W => described_any w W (by omega))
  have hdn : descN w = descV w := by unfold descN; rw [if_neg (by have := hck.2.2.2.2.2 rfl; omega)]
  rw [hdn] at HD
  have hdv : 0 ≤ descV w ∧ descV w ≤ 143 := by
    rcases descV_spec w (by omega) with h | h
    · have := hck.2.2.2.2.2 rfl; omega
    · omega
  generalize descV w = dv at *
  generalize descI w = di at *
  clear hdn
  have gdv : IntKind.u8.wrap dv = dv := by rw [IntKind.wrap_u8]; omega
  have hcat : ∀ W, (Op.stringOp .add ⟨#[40, 181, 47, 253]⟩ (strOfNums [64, dv])).run Try.prog W = .ok (.string (strOfNums ([40, 181, 47, 253] ++ [64, dv]))) W := fun W => by
    have := IL.run_add_nums (P := Try.prog) [40, 181, 47, 253] [64, dv] (by simp) W
    exact this
  obtain ⟨L, hL⟩ : ∃ L : List Int, Hid (L = [40, 181, 47, 253] ++ [64, dv]) := ⟨_, Lib.hid rfl⟩
  have HLT1 : Hid (S = strOfNums (L ++ IL.leI (z - 256) 2)) := by show _ = _; rw [hL.out]; exact HL.out
  rw [← hL.out] at hcat
  clear HL
  have hcv := fun w : World => (readsB_new w #[.int .u8 64, .int .u8 dv] 5 (0, 0) [64, dv] rfl).conv (P := Try.prog) (src := 50) (dst := 9) Try.underlying50 Try.underlying5 Try.underlying9 2 2 rfl
  generalize strOfNums [64, dv] = ST at *
  have hlit := little_ok (n := z - 256) (k := 2) (by decide) (by decide) (by omega) (by omega)
  have HLT : Hid (∀ W, Calls Try.prog 77 #[.int .u64 (z - 256), .int .i64 2] W fun e w' => e = .returned (.tuple #[.string (strOfNums (IL.leI (z - 256) 2)), .int .i64 0]) ∧ Below W.heap.size W w') := fun W => by
    have := IL.rLittle_any (z - 256) ((2 : Nat) : Int) W (by omega) (by omega)
    rw [hlit.1, hlit.2] at this
    exact this
  have gwn : IntKind.u64.wrap (z - 256) = z - 256 := by rw [IntKind.wrap_u64]; omega
  have hlen : L.length = 6 := by rw [hL.out]; rfl
  have hadd := fun W => IL.run_add_nums (P := Try.prog) L (IL.leI (z - 256) 2) (by rw [hlen, IL.leI_length]; decide) W
  generalize IL.leI (z - 256) 2 = LE at *
  generalize strOfNums LE = SL at *
  clear hlit hlen
  have gw1 : IntKind.i64.wrap (z - 256) = z - 256 := by rw [IntKind.wrap_i64]; omega
  have t_0f : decide (z < 0) = false := decide_eq_false (by omega)
  have t_ge : decide (256 ≤ z) = true := decide_eq_true (by omega)
  have t_65792t : decide (z < 65792) = true := decide_eq_true (by omega)
  have HB0 := Blk.new W #[.int .i64 w, .int .i64 z, .bool false, .bool false] 52
  have hB0 := below_new (w := W) (.cells #[.int .i64 w, .int .i64 z, .bool false, .bool false] 52)
  unfold hdrVal at *
  clear hck hz
  go_enter Try.func39, Try.ntmps39
  go_wp2_with fail
  refine (HC.out _).mono ?_
  rintro r W1 ⟨rfl, hY⟩
  have HB1 := HB0.keep' hY
  have hB1 := below_then hB0 hY
  clear HB0 hB0 hY HC
  have q0 : W1.cell? ⟨W.heap.size, 0, none⟩ = some (.int .i64 w) := HB1.cell 0 rfl
  have q1 : W1.cell? ⟨W.heap.size, 1, none⟩ = some (.int .i64 z) := HB1.cell 1 rfl
  have q2 : W1.cell? ⟨W.heap.size, 2, none⟩ = some (.bool false) := HB1.cell 2 rfl
  have q3 : W1.cell? ⟨W.heap.size, 3, none⟩ = some (.bool false) := HB1.cell 3 rfl
  go_wp2_with fail
  refine (HLT.out _).mono ?_
  rintro r W2 ⟨rfl, hY⟩
  have HB2 := HB1.keep' hY
  have hB2 := below_then hB1 hY
  clear HB1 hB1 hY HLT q0 q1 q2 q3
  have q0 : W2.cell? ⟨W.heap.size, 0, none⟩ = some (.int .i64 w) := HB2.cell 0 rfl
  have q1 : W2.cell? ⟨W.heap.size, 1, none⟩ = some (.int .i64 z) := HB2.cell 1 rfl
  have q2 : W2.cell? ⟨W.heap.size, 2, none⟩ = some (.bool false) := HB2.cell 2 rfl
  have q3 : W2.cell? ⟨W.heap.size, 3, none⟩ = some (.bool false) := HB2.cell 3 rfl
  go_wp2_with fail
  refine (HD.out _).mono ?_
  rintro r W3 ⟨rfl, rfl⟩
  go_wp2_with fail
  go_ret2
  exact ⟨ret_two (by rw [HLT1.out]; rfl) rfl, below_alloc hB2 _⟩

set_option maxHeartbeats 4000000 in
theorem rhBytes_ff2a (w z : Int) (W : World) (hc : chkV w z false = 0) (hz : 0 ≤ z ∧ z < 4294967296 ∧ ¬ (256 ≤ z ∧ z < 65792)) (hz2 : z < 256) :
    Calls Try.prog 39 #[hdrVal w z false false] W fun r W' => r = .returned (.tuple #[.string (bytB w z false false), .int .i64 0]) ∧ Below W.heap.size W W' := by
  have hck := chk_ok hc
  have HK0 : kindV z false = 2 := by unfold kindV; rw [if_neg (by simp; omega), if_neg (by omega), if_pos (by omega)]
  have HL : Hid (bytB w z false false = strOfNums ([40, 181, 47, 253] ++ [128, descV w] ++ IL.leI (z) 4)) := by
    show _ = _
    unfold bytB bytesL
    rw [if_neg (by simp [hc]), HK0]
    rfl
  have HC := Lib.hid (fun W => rhCheck_any w z false false W (by omega) (by omega))
  rw [hc] at HC
  clear HK0 hc
  generalize bytB w z false false = S at *
  have HD := Lib.hid (fun W => described_any w W (by omega))
  have hdn : descN w = descV w := by unfold descN; rw [if_neg (by have := hck.2.2.2.2.2 rfl; omega)]
  rw [hdn] at HD
  have hdv : 0 ≤ descV w ∧ descV w ≤ 143 := by
    rcases descV_spec w (by omega) with h | h
    · have := hck.2.2.2.2.2 rfl; omega
    · omega
  generalize descV w = dv at *
  generalize descI w = di at *
  clear hdn
  have gdv : IntKind.u8.wrap dv = dv := by rw [IntKind.wrap_u8]; omega
  have hcat : ∀ W, (Op.stringOp .add ⟨#[40, 181, 47, 253]⟩ (strOfNums [128, dv])).run Try.prog W = .ok (.string (strOfNums ([40, 181, 47, 253] ++ [128, dv]))) W := fun W => by
    have := IL.run_add_nums (P := Try.prog) [40, 181, 47, 253] [128, dv] (by simp) W
    exact this
  obtain ⟨L, hL⟩ : ∃ L : List Int, Hid (L = [40, 181, 47, 253] ++ [128, dv]) := ⟨_, Lib.hid rfl⟩
  have HLT1 : Hid (S = strOfNums (L ++ IL.leI (z) 4)) := by show _ = _; rw [hL.out]; exact HL.out
  rw [← hL.out] at hcat
  clear HL
  have hcv := fun w : World => (readsB_new w #[.int .u8 128, .int .u8 dv] 5 (0, 0) [128, dv] rfl).conv (P := Try.prog) (src := 50) (dst := 9) Try.underlying50 Try.underlying5 Try.underlying9 2 2 rfl
  generalize strOfNums [128, dv] = ST at *
  have hlit := little_ok (n := z) (k := 4) (by decide) (by decide) (by omega) (by omega)
  have HLT : Hid (∀ W, Calls Try.prog 77 #[.int .u64 (z), .int .i64 4] W fun e w' => e = .returned (.tuple #[.string (strOfNums (IL.leI (z) 4)), .int .i64 0]) ∧ Below W.heap.size W w') := fun W => by
    have := IL.rLittle_any (z) ((4 : Nat) : Int) W (by omega) (by omega)
    rw [hlit.1, hlit.2] at this
    exact this
  have gwn : IntKind.u64.wrap (z) = z := by rw [IntKind.wrap_u64]; omega
  have hlen : L.length = 6 := by rw [hL.out]; rfl
  have hadd := fun W => IL.run_add_nums (P := Try.prog) L (IL.leI (z) 4) (by rw [hlen, IL.leI_length]; decide) W
  generalize IL.leI (z) 4 = LE at *
  generalize strOfNums LE = SL at *
  clear hlit hlen
  have t_0f : decide (z < 0) = false := decide_eq_false (by omega)
  have t_ge : decide (256 ≤ z) = false := decide_eq_false (by omega)
  have t_4294967296t : decide (z < 4294967296) = true := decide_eq_true (by omega)
  have HB0 := Blk.new W #[.int .i64 w, .int .i64 z, .bool false, .bool false] 52
  have hB0 := below_new (w := W) (.cells #[.int .i64 w, .int .i64 z, .bool false, .bool false] 52)
  unfold hdrVal at *
  clear hck hz
  go_enter Try.func39, Try.ntmps39
  go_wp2_with fail
  refine (HC.out _).mono ?_
  rintro r W1 ⟨rfl, hY⟩
  have HB1 := HB0.keep' hY
  have hB1 := below_then hB0 hY
  clear HB0 hB0 hY HC
  have q0 : W1.cell? ⟨W.heap.size, 0, none⟩ = some (.int .i64 w) := HB1.cell 0 rfl
  have q1 : W1.cell? ⟨W.heap.size, 1, none⟩ = some (.int .i64 z) := HB1.cell 1 rfl
  have q2 : W1.cell? ⟨W.heap.size, 2, none⟩ = some (.bool false) := HB1.cell 2 rfl
  have q3 : W1.cell? ⟨W.heap.size, 3, none⟩ = some (.bool false) := HB1.cell 3 rfl
  go_wp2_with fail
  refine (HLT.out _).mono ?_
  rintro r W2 ⟨rfl, hY⟩
  have HB2 := HB1.keep' hY
  have hB2 := below_then hB1 hY
  clear HB1 hB1 hY HLT q0 q1 q2 q3
  have q0 : W2.cell? ⟨W.heap.size, 0, none⟩ = some (.int .i64 w) := HB2.cell 0 rfl
  have q1 : W2.cell? ⟨W.heap.size, 1, none⟩ = some (.int .i64 z) := HB2.cell 1 rfl
  have q2 : W2.cell? ⟨W.heap.size, 2, none⟩ = some (.bool false) := HB2.cell 2 rfl
  have q3 : W2.cell? ⟨W.heap.size, 3, none⟩ = some (.bool false) := HB2.cell 3 rfl
  go_wp2_with fail
  refine (HD.out _).mono ?_
  rintro r W3 ⟨rfl, rfl⟩
  go_wp2_with fail
  go_ret2
  exact ⟨ret_two (by rw [HLT1.out]; rfl) rfl, below_alloc hB2 _⟩

set_option maxHeartbeats 4000000 in
theorem rhBytes_ff2b (w z : Int) (W : World) (hc : chkV w z false = 0) (hz : 0 ≤ z ∧ z < 4294967296 ∧ ¬ (256 ≤ z ∧ z < 65792)) (hz2 : 65792 ≤ z) :
    Calls Try.prog 39 #[hdrVal w z false false] W fun r W' => r = .returned (.tuple #[.string (bytB w z false false), .int .i64 0]) ∧ Below W.heap.size W W' := by
  have hck := chk_ok hc
  have HK0 : kindV z false = 2 := by unfold kindV; rw [if_neg (by simp; omega), if_neg (by omega), if_pos (by omega)]
  have HL : Hid (bytB w z false false = strOfNums ([40, 181, 47, 253] ++ [128, descV w] ++ IL.leI (z) 4)) := by
    show _ = _
    unfold bytB bytesL
    rw [if_neg (by simp [hc]), HK0]
    rfl
  have HC := Lib.hid (fun W => rhCheck_any w z false false W (by omega) (by omega))
  rw [hc] at HC
  clear HK0 hc
  generalize bytB w z false false = S at *
  have HD := Lib.hid (fun W => described_any w W (by omega))
  have hdn : descN w = descV w := by unfold descN; rw [if_neg (by have := hck.2.2.2.2.2 rfl; omega)]
  rw [hdn] at HD
  have hdv : 0 ≤ descV w ∧ descV w ≤ 143 := by
    rcases descV_spec w (by omega) with h | h
    · have := hck.2.2.2.2.2 rfl; omega
    · omega
  generalize descV w = dv at *
  generalize descI w = di at *
  clear hdn
  have gdv : IntKind.u8.wrap dv = dv := by rw [IntKind.wrap_u8]; omega
  have hcat : ∀ W, (Op.stringOp .add ⟨#[40, 181, 47, 253]⟩ (strOfNums [128, dv])).run Try.prog W = .ok (.string (strOfNums ([40, 181, 47, 253] ++ [128, dv]))) W := fun W => by
    have := IL.run_add_nums (P := Try.prog) [40, 181, 47, 253] [128, dv] (by simp) W
    exact this
  obtain ⟨L, hL⟩ : ∃ L : List Int, Hid (L = [40, 181, 47, 253] ++ [128, dv]) := ⟨_, Lib.hid rfl⟩
  have HLT1 : Hid (S = strOfNums (L ++ IL.leI (z) 4)) := by show _ = _; rw [hL.out]; exact HL.out
  rw [← hL.out] at hcat
  clear HL
  have hcv := fun w : World => (readsB_new w #[.int .u8 128, .int .u8 dv] 5 (0, 0) [128, dv] rfl).conv (P := Try.prog) (src := 50) (dst := 9) Try.underlying50 Try.underlying5 Try.underlying9 2 2 rfl
  generalize strOfNums [128, dv] = ST at *
  have hlit := little_ok (n := z) (k := 4) (by decide) (by decide) (by omega) (by omega)
  have HLT : Hid (∀ W, Calls Try.prog 77 #[.int .u64 (z), .int .i64 4] W fun e w' => e = .returned (.tuple #[.string (strOfNums (IL.leI (z) 4)), .int .i64 0]) ∧ Below W.heap.size W w') := fun W => by
    have := IL.rLittle_any (z) ((4 : Nat) : Int) W (by omega) (by omega)
    rw [hlit.1, hlit.2] at this
    exact this
  have gwn : IntKind.u64.wrap (z) = z := by rw [IntKind.wrap_u64]; omega
  have hlen : L.length = 6 := by rw [hL.out]; rfl
  have hadd := fun W => IL.run_add_nums (P := Try.prog) L (IL.leI (z) 4) (by rw [hlen, IL.leI_length]; decide) W
  generalize IL.leI (z) 4 = LE at *
  generalize strOfNums LE = SL at *
  clear hlit hlen
  have t_0f : decide (z < 0) = false := decide_eq_false (by omega)
  have t_ge : decide (256 ≤ z) = true := decide_eq_true (by omega)
  have t_65792f : decide (z < 65792) = false := decide_eq_false (by omega)
  have t_4294967296t : decide (z < 4294967296) = true := decide_eq_true (by omega)
  have HB0 := Blk.new W #[.int .i64 w, .int .i64 z, .bool false, .bool false] 52
  have hB0 := below_new (w := W) (.cells #[.int .i64 w, .int .i64 z, .bool false, .bool false] 52)
  unfold hdrVal at *
  clear hck hz
  go_enter Try.func39, Try.ntmps39
  go_wp2_with fail
  refine (HC.out _).mono ?_
  rintro r W1 ⟨rfl, hY⟩
  have HB1 := HB0.keep' hY
  have hB1 := below_then hB0 hY
  clear HB0 hB0 hY HC
  have q0 : W1.cell? ⟨W.heap.size, 0, none⟩ = some (.int .i64 w) := HB1.cell 0 rfl
  have q1 : W1.cell? ⟨W.heap.size, 1, none⟩ = some (.int .i64 z) := HB1.cell 1 rfl
  have q2 : W1.cell? ⟨W.heap.size, 2, none⟩ = some (.bool false) := HB1.cell 2 rfl
  have q3 : W1.cell? ⟨W.heap.size, 3, none⟩ = some (.bool false) := HB1.cell 3 rfl
  go_wp2_with fail
  refine (HLT.out _).mono ?_
  rintro r W2 ⟨rfl, hY⟩
  have HB2 := HB1.keep' hY
  have hB2 := below_then hB1 hY
  clear HB1 hB1 hY HLT q0 q1 q2 q3
  have q0 : W2.cell? ⟨W.heap.size, 0, none⟩ = some (.int .i64 w) := HB2.cell 0 rfl
  have q1 : W2.cell? ⟨W.heap.size, 1, none⟩ = some (.int .i64 z) := HB2.cell 1 rfl
  have q2 : W2.cell? ⟨W.heap.size, 2, none⟩ = some (.bool false) := HB2.cell 2 rfl
  have q3 : W2.cell? ⟨W.heap.size, 3, none⟩ = some (.bool false) := HB2.cell 3 rfl
  go_wp2_with fail
  refine (HD.out _).mono ?_
  rintro r W3 ⟨rfl, rfl⟩
  go_wp2_with fail
  go_ret2
  exact ⟨ret_two (by rw [HLT1.out]; rfl) rfl, below_alloc hB2 _⟩

set_option maxHeartbeats 4000000 in
theorem rhBytes_ff3 (w z : Int) (W : World) (hc : chkV w z false = 0) (hz : 4294967296 ≤ z) :
    Calls Try.prog 39 #[hdrVal w z false false] W fun r W' => r = .returned (.tuple #[.string (bytB w z false false), .int .i64 0]) ∧ Below W.heap.size W W' := by
  have hck := chk_ok hc
  have HK0 : kindV z false = 3 := by unfold kindV; rw [if_neg (by simp; omega), if_neg (by omega), if_neg (by omega)]
  have HL : Hid (bytB w z false false = strOfNums ([40, 181, 47, 253] ++ [192, descV w] ++ IL.leI (z) 8)) := by
    show _ = _
    unfold bytB bytesL
    rw [if_neg (by simp [hc]), HK0]
    rfl
  have HC := Lib.hid (fun W => rhCheck_any w z false false W (by omega) (by omega))
  rw [hc] at HC
  clear HK0 hc
  generalize bytB w z false false = S at *
  have HD := Lib.hid (fun W => described_any w W (by omega))
  have hdn : descN w = descV w := by unfold descN; rw [if_neg (by have := hck.2.2.2.2.2 rfl; omega)]
  rw [hdn] at HD
  have hdv : 0 ≤ descV w ∧ descV w ≤ 143 := by
    rcases descV_spec w (by omega) with h | h
    · have := hck.2.2.2.2.2 rfl; omega
    · omega
  generalize descV w = dv at *
  generalize descI w = di at *
  clear hdn
  have gdv : IntKind.u8.wrap dv = dv := by rw [IntKind.wrap_u8]; omega
  have hcat : ∀ W, (Op.stringOp .add ⟨#[40, 181, 47, 253]⟩ (strOfNums [192, dv])).run Try.prog W = .ok (.string (strOfNums ([40, 181, 47, 253] ++ [192, dv]))) W := fun W => by
    have := IL.run_add_nums (P := Try.prog) [40, 181, 47, 253] [192, dv] (by simp) W
    exact this
  obtain ⟨L, hL⟩ : ∃ L : List Int, Hid (L = [40, 181, 47, 253] ++ [192, dv]) := ⟨_, Lib.hid rfl⟩
  have HLT1 : Hid (S = strOfNums (L ++ IL.leI (z) 8)) := by show _ = _; rw [hL.out]; exact HL.out
  rw [← hL.out] at hcat
  clear HL
  have hcv := fun w : World => (readsB_new w #[.int .u8 192, .int .u8 dv] 5 (0, 0) [192, dv] rfl).conv (P := Try.prog) (src := 50) (dst := 9) Try.underlying50 Try.underlying5 Try.underlying9 2 2 rfl
  generalize strOfNums [192, dv] = ST at *
  have hlit := little_ok (n := z) (k := 8) (by decide) (by decide) (by omega) (by omega)
  have HLT : Hid (∀ W, Calls Try.prog 77 #[.int .u64 (z), .int .i64 8] W fun e w' => e = .returned (.tuple #[.string (strOfNums (IL.leI (z) 8)), .int .i64 0]) ∧ Below W.heap.size W w') := fun W => by
    have := IL.rLittle_any (z) ((8 : Nat) : Int) W (by omega) (by omega)
    rw [hlit.1, hlit.2] at this
    exact this
  have gwn : IntKind.u64.wrap (z) = z := by rw [IntKind.wrap_u64]; omega
  have hlen : L.length = 6 := by rw [hL.out]; rfl
  have hadd := fun W => IL.run_add_nums (P := Try.prog) L (IL.leI (z) 8) (by rw [hlen, IL.leI_length]; decide) W
  generalize IL.leI (z) 8 = LE at *
  generalize strOfNums LE = SL at *
  clear hlit hlen
  have t_0f : decide (z < 0) = false := decide_eq_false (by omega)
  have t_ge : decide (256 ≤ z) = true := decide_eq_true (by omega)
  have t_65792f : decide (z < 65792) = false := decide_eq_false (by omega)
  have t_4294967296f : decide (z < 4294967296) = false := decide_eq_false (by omega)
  have HB0 := Blk.new W #[.int .i64 w, .int .i64 z, .bool false, .bool false] 52
  have hB0 := below_new (w := W) (.cells #[.int .i64 w, .int .i64 z, .bool false, .bool false] 52)
  unfold hdrVal at *
  clear hck hz
  go_enter Try.func39, Try.ntmps39
  go_wp2_with fail
  refine (HC.out _).mono ?_
  rintro r W1 ⟨rfl, hY⟩
  have HB1 := HB0.keep' hY
  have hB1 := below_then hB0 hY
  clear HB0 hB0 hY HC
  have q0 : W1.cell? ⟨W.heap.size, 0, none⟩ = some (.int .i64 w) := HB1.cell 0 rfl
  have q1 : W1.cell? ⟨W.heap.size, 1, none⟩ = some (.int .i64 z) := HB1.cell 1 rfl
  have q2 : W1.cell? ⟨W.heap.size, 2, none⟩ = some (.bool false) := HB1.cell 2 rfl
  have q3 : W1.cell? ⟨W.heap.size, 3, none⟩ = some (.bool false) := HB1.cell 3 rfl
  go_wp2_with fail
  refine (HLT.out _).mono ?_
  rintro r W2 ⟨rfl, hY⟩
  have HB2 := HB1.keep' hY
  have hB2 := below_then hB1 hY
  clear HB1 hB1 hY HLT q0 q1 q2 q3
  have q0 : W2.cell? ⟨W.heap.size, 0, none⟩ = some (.int .i64 w) := HB2.cell 0 rfl
  have q1 : W2.cell? ⟨W.heap.size, 1, none⟩ = some (.int .i64 z) := HB2.cell 1 rfl
  have q2 : W2.cell? ⟨W.heap.size, 2, none⟩ = some (.bool false) := HB2.cell 2 rfl
  have q3 : W2.cell? ⟨W.heap.size, 3, none⟩ = some (.bool false) := HB2.cell 3 rfl
  go_wp2_with fail
  refine (HD.out _).mono ?_
  rintro r W3 ⟨rfl, rfl⟩
  go_wp2_with fail
  go_ret2
  exact ⟨ret_two (by rw [HLT1.out]; rfl) rfl, below_alloc hB2 _⟩

set_option maxHeartbeats 4000000 in
theorem rhBytes_ft0 (w z : Int) (W : World) (hc : chkV w z false = 0) (hz : z < 0) :
    Calls Try.prog 39 #[hdrVal w z false true] W fun r W' => r = .returned (.tuple #[.string (bytB w z false true), .int .i64 0]) ∧ Below W.heap.size W W' := by
  have hck := chk_ok hc
  have HK0 : kindV z false = 0 := by unfold kindV; rw [if_pos (.inl hz)]
  have HL : Hid (bytB w z false true = strOfNums ([40, 181, 47, 253] ++ [4, descV w] ++ IL.leI (z) 0)) := by
    show _ = _
    unfold bytB bytesL
    rw [if_neg (by simp [hc]), HK0]
    rfl
  have HC := Lib.hid (fun W => rhCheck_any w z false true W (by omega) (by omega))
  rw [hc] at HC
  clear HK0 hc
  generalize bytB w z false true = S at *
  have HD := Lib.hid (fun W => described_any w W (by omega))
  have hdn : descN w = descV w := by unfold descN; rw [if_neg (by have := hck.2.2.2.2.2 rfl; omega)]
  rw [hdn] at HD
  have hdv : 0 ≤ descV w ∧ descV w ≤ 143 := by
    rcases descV_spec w (by omega) with h | h
    · have := hck.2.2.2.2.2 rfl; omega
    · omega
  generalize descV w = dv at *
  generalize descI w = di at *
  clear hdn
  have gdv : IntKind.u8.wrap dv = dv := by rw [IntKind.wrap_u8]; omega
  have hcat : ∀ W, (Op.stringOp .add ⟨#[40, 181, 47, 253]⟩ (strOfNums [4, dv])).run Try.prog W = .ok (.string (strOfNums ([40, 181, 47, 253] ++ [4, dv]))) W := fun W => by
    have := IL.run_add_nums (P := Try.prog) [40, 181, 47, 253] [4, dv] (by simp) W
    exact this
  obtain ⟨L, hL⟩ : ∃ L : List Int, Hid (L = [40, 181, 47, 253] ++ [4, dv]) := ⟨_, Lib.hid rfl⟩
  have HLT1 : Hid (S = strOfNums (L ++ IL.leI (z) 0)) := by show _ = _; rw [hL.out]; exact HL.out
  rw [← hL.out] at hcat
  clear HL
  have hcv := fun w : World => (readsB_new w #[.int .u8 4, .int .u8 dv] 5 (0, 0) [4, dv] rfl).conv (P := Try.prog) (src := 50) (dst := 9) Try.underlying50 Try.underlying5 Try.underlying9 2 2 rfl
  generalize strOfNums [4, dv] = ST at *
  have HS0 : Hid (S = strOfNums L) := by show _ = _; rw [HLT1.out]; simp [IL.leI]
  have hadd := fun W => IL.run_add_nums (P := Try.prog) L [] (by rw [hL.out]; simp) W
  rw [List.append_nil] at hadd
  have hem : strOfNums ([] : List Int) = ⟨#[]⟩ := rfl
  rw [hem] at hadd
  clear HLT1 hem
  have t_0t : decide (z < 0) = true := decide_eq_true (by omega)
  have HB0 := Blk.new W #[.int .i64 w, .int .i64 z, .bool false, .bool true] 52
  have hB0 := below_new (w := W) (.cells #[.int .i64 w, .int .i64 z, .bool false, .bool true] 52)
  unfold hdrVal at *
  clear hck hz
  go_enter Try.func39, Try.ntmps39
  go_wp2_with fail
  refine (HC.out _).mono ?_
  rintro r W1 ⟨rfl, hY⟩
  have HB1 := HB0.keep' hY
  have hB1 := below_then hB0 hY
  clear HB0 hB0 hY HC
  have q0 : W1.cell? ⟨W.heap.size, 0, none⟩ = some (.int .i64 w) := HB1.cell 0 rfl
  have q1 : W1.cell? ⟨W.heap.size, 1, none⟩ = some (.int .i64 z) := HB1.cell 1 rfl
  have q2 : W1.cell? ⟨W.heap.size, 2, none⟩ = some (.bool false) := HB1.cell 2 rfl
  have q3 : W1.cell? ⟨W.heap.size, 3, none⟩ = some (.bool true) := HB1.cell 3 rfl
  go_wp2_with fail
  refine (HD.out _).mono ?_
  rintro r W3 ⟨rfl, rfl⟩
  go_wp2_with fail
  go_ret2
  exact ⟨ret_two (by rw [HS0.out]; rfl) rfl, below_alloc hB1 _⟩

set_option maxHeartbeats 4000000 in
theorem rhBytes_ft1 (w z : Int) (W : World) (hc : chkV w z false = 0) (hz : 256 ≤ z ∧ z < 65792) :
    Calls Try.prog 39 #[hdrVal w z false true] W fun r W' => r = .returned (.tuple #[.string (bytB w z false true), .int .i64 0]) ∧ Below W.heap.size W W' := by
  have hck := chk_ok hc
  have HK0 : kindV z false = 1 := by unfold kindV; rw [if_neg (by simp; omega), if_pos hz]
  have HL : Hid (bytB w z false true = strOfNums ([40, 181, 47, 253] ++ [68, descV w] ++ IL.leI (z - 256) 2)) := by
    show _ = _
    unfold bytB bytesL
    rw [if_neg (by simp [hc]), HK0]
    rfl
  have HC := Lib.hid (fun W => rhCheck_any w z false true W (by omega) (by omega))
  rw [hc] at HC
  clear HK0 hc
  generalize bytB w z false true = S at *
  have HD := Lib.hid (fun W => described_any w W (by omega))
  have hdn : descN w = descV w := by unfold descN; rw [if_neg (by have := hck.2.2.2.2.2 rfl; omega)]
  rw [hdn] at HD
  have hdv : 0 ≤ descV w ∧ descV w ≤ 143 := by
    rcases descV_spec w (by omega) with h | h
    · have := hck.2.2.2.2.2 rfl; omega
    · omega
  generalize descV w = dv at *
  generalize descI w = di at *
  clear hdn
  have gdv : IntKind.u8.wrap dv = dv := by rw [IntKind.wrap_u8]; omega
  have hcat : ∀ W, (Op.stringOp .add ⟨#[40, 181, 47, 253]⟩ (strOfNums [68, dv])).run Try.prog W = .ok (.string (strOfNums ([40, 181, 47, 253] ++ [68, dv]))) W := fun W => by
    have := IL.run_add_nums (P := Try.prog) [40, 181, 47, 253] [68, dv] (by simp) W
    exact this
  obtain ⟨L, hL⟩ : ∃ L : List Int, Hid (L = [40, 181, 47, 253] ++ [68, dv]) := ⟨_, Lib.hid rfl⟩
  have HLT1 : Hid (S = strOfNums (L ++ IL.leI (z - 256) 2)) := by show _ = _; rw [hL.out]; exact HL.out
  rw [← hL.out] at hcat
  clear HL
  have hcv := fun w : World => (readsB_new w #[.int .u8 68, .int .u8 dv] 5 (0, 0) [68, dv] rfl).conv (P := Try.prog) (src := 50) (dst := 9) Try.underlying50 Try.underlying5 Try.underlying9 2 2 rfl
  generalize strOfNums [68, dv] = ST at *
  have hlit := little_ok (n := z - 256) (k := 2) (by decide) (by decide) (by omega) (by omega)
  have HLT : Hid (∀ W, Calls Try.prog 77 #[.int .u64 (z - 256), .int .i64 2] W fun e w' => e = .returned (.tuple #[.string (strOfNums (IL.leI (z - 256) 2)), .int .i64 0]) ∧ Below W.heap.size W w') := fun W => by
    have := IL.rLittle_any (z - 256) ((2 : Nat) : Int) W (by omega) (by omega)
    rw [hlit.1, hlit.2] at this
    exact this
  have gwn : IntKind.u64.wrap (z - 256) = z - 256 := by rw [IntKind.wrap_u64]; omega
  have hlen : L.length = 6 := by rw [hL.out]; rfl
  have hadd := fun W => IL.run_add_nums (P := Try.prog) L (IL.leI (z - 256) 2) (by rw [hlen, IL.leI_length]; decide) W
  generalize IL.leI (z - 256) 2 = LE at *
  generalize strOfNums LE = SL at *
  clear hlit hlen
  have gw1 : IntKind.i64.wrap (z - 256) = z - 256 := by rw [IntKind.wrap_i64]; omega
  have t_0f : decide (z < 0) = false := decide_eq_false (by omega)
  have t_ge : decide (256 ≤ z) = true := decide_eq_true (by omega)
  have t_65792t : decide (z < 65792) = true := decide_eq_true (by omega)
  have HB0 := Blk.new W #[.int .i64 w, .int .i64 z, .bool false, .bool true] 52
  have hB0 := below_new (w := W) (.cells #[.int .i64 w, .int .i64 z, .bool false, .bool true] 52)
  unfold hdrVal at *
  clear hck hz
  go_enter Try.func39, Try.ntmps39
  go_wp2_with fail
  refine (HC.out _).mono ?_
  rintro r W1 ⟨rfl, hY⟩
  have HB1 := HB0.keep' hY
  have hB1 := below_then hB0 hY
  clear HB0 hB0 hY HC
  have q0 : W1.cell? ⟨W.heap.size, 0, none⟩ = some (.int .i64 w) := HB1.cell 0 rfl
  have q1 : W1.cell? ⟨W.heap.size, 1, none⟩ = some (.int .i64 z) := HB1.cell 1 rfl
  have q2 : W1.cell? ⟨W.heap.size, 2, none⟩ = some (.bool false) := HB1.cell 2 rfl
  have q3 : W1.cell? ⟨W.heap.size, 3, none⟩ = some (.bool true) := HB1.cell 3 rfl
  go_wp2_with fail
  refine (HLT.out _).mono ?_
  rintro r W2 ⟨rfl, hY⟩
  have HB2 := HB1.keep' hY
  have hB2 := below_then hB1 hY
  clear HB1 hB1 hY HLT q0 q1 q2 q3
  have q0 : W2.cell? ⟨W.heap.size, 0, none⟩ = some (.int .i64 w) := HB2.cell 0 rfl
  have q1 : W2.cell? ⟨W.heap.size, 1, none⟩ = some (.int .i64 z) := HB2.cell 1 rfl
  have q2 : W2.cell? ⟨W.heap.size, 2, none⟩ = some (.bool false) := HB2.cell 2 rfl
  have q3 : W2.cell? ⟨W.heap.size, 3, none⟩ = some (.bool true) := HB2.cell 3 rfl
  go_wp2_with fail
  refine (HD.out _).mono ?_
  rintro r W3 ⟨rfl, rfl⟩
  go_wp2_with fail
  go_ret2
  exact ⟨ret_two (by rw [HLT1.out]; rfl) rfl, below_alloc hB2 _⟩

set_option maxHeartbeats 4000000 in
theorem rhBytes_ft2a (w z : Int) (W : World) (hc : chkV w z false = 0) (hz : 0 ≤ z ∧ z < 4294967296 ∧ ¬ (256 ≤ z ∧ z < 65792)) (hz2 : z < 256) :
    Calls Try.prog 39 #[hdrVal w z false true] W fun r W' => r = .returned (.tuple #[.string (bytB w z false true), .int .i64 0]) ∧ Below W.heap.size W W' := by
  have hck := chk_ok hc
  have HK0 : kindV z false = 2 := by unfold kindV; rw [if_neg (by simp; omega), if_neg (by omega), if_pos (by omega)]
  have HL : Hid (bytB w z false true = strOfNums ([40, 181, 47, 253] ++ [132, descV w] ++ IL.leI (z) 4)) := by
    show _ = _
    unfold bytB bytesL
    rw [if_neg (by simp [hc]), HK0]
    rfl
  have HC := Lib.hid (fun W => rhCheck_any w z false true W (by omega) (by omega))
  rw [hc] at HC
  clear HK0 hc
  generalize bytB w z false true = S at *
  have HD := Lib.hid (fun W => described_any w W (by omega))
  have hdn : descN w = descV w := by unfold descN; rw [if_neg (by have := hck.2.2.2.2.2 rfl; omega)]
  rw [hdn] at HD
  have hdv : 0 ≤ descV w ∧ descV w ≤ 143 := by
    rcases descV_spec w (by omega) with h | h
    · have := hck.2.2.2.2.2 rfl; omega
    · omega
  generalize descV w = dv at *
  generalize descI w = di at *
  clear hdn
  have gdv : IntKind.u8.wrap dv = dv := by rw [IntKind.wrap_u8]; omega
  have hcat : ∀ W, (Op.stringOp .add ⟨#[40, 181, 47, 253]⟩ (strOfNums [132, dv])).run Try.prog W = .ok (.string (strOfNums ([40, 181, 47, 253] ++ [132, dv]))) W := fun W => by
    have := IL.run_add_nums (P := Try.prog) [40, 181, 47, 253] [132, dv] (by simp) W
    exact this
  obtain ⟨L, hL⟩ : ∃ L : List Int, Hid (L = [40, 181, 47, 253] ++ [132, dv]) := ⟨_, Lib.hid rfl⟩
  have HLT1 : Hid (S = strOfNums (L ++ IL.leI (z) 4)) := by show _ = _; rw [hL.out]; exact HL.out
  rw [← hL.out] at hcat
  clear HL
  have hcv := fun w : World => (readsB_new w #[.int .u8 132, .int .u8 dv] 5 (0, 0) [132, dv] rfl).conv (P := Try.prog) (src := 50) (dst := 9) Try.underlying50 Try.underlying5 Try.underlying9 2 2 rfl
  generalize strOfNums [132, dv] = ST at *
  have hlit := little_ok (n := z) (k := 4) (by decide) (by decide) (by omega) (by omega)
  have HLT : Hid (∀ W, Calls Try.prog 77 #[.int .u64 (z), .int .i64 4] W fun e w' => e = .returned (.tuple #[.string (strOfNums (IL.leI (z) 4)), .int .i64 0]) ∧ Below W.heap.size W w') := fun W => by
    have := IL.rLittle_any (z) ((4 : Nat) : Int) W (by omega) (by omega)
    rw [hlit.1, hlit.2] at this
    exact this
  have gwn : IntKind.u64.wrap (z) = z := by rw [IntKind.wrap_u64]; omega
  have hlen : L.length = 6 := by rw [hL.out]; rfl
  have hadd := fun W => IL.run_add_nums (P := Try.prog) L (IL.leI (z) 4) (by rw [hlen, IL.leI_length]; decide) W
  generalize IL.leI (z) 4 = LE at *
  generalize strOfNums LE = SL at *
  clear hlit hlen
  have t_0f : decide (z < 0) = false := decide_eq_false (by omega)
  have t_ge : decide (256 ≤ z) = false := decide_eq_false (by omega)
  have t_4294967296t : decide (z < 4294967296) = true := decide_eq_true (by omega)
  have HB0 := Blk.new W #[.int .i64 w, .int .i64 z, .bool false, .bool true] 52
  have hB0 := below_new (w := W) (.cells #[.int .i64 w, .int .i64 z, .bool false, .bool true] 52)
  unfold hdrVal at *
  clear hck hz
  go_enter Try.func39, Try.ntmps39
  go_wp2_with fail
  refine (HC.out _).mono ?_
  rintro r W1 ⟨rfl, hY⟩
  have HB1 := HB0.keep' hY
  have hB1 := below_then hB0 hY
  clear HB0 hB0 hY HC
  have q0 : W1.cell? ⟨W.heap.size, 0, none⟩ = some (.int .i64 w) := HB1.cell 0 rfl
  have q1 : W1.cell? ⟨W.heap.size, 1, none⟩ = some (.int .i64 z) := HB1.cell 1 rfl
  have q2 : W1.cell? ⟨W.heap.size, 2, none⟩ = some (.bool false) := HB1.cell 2 rfl
  have q3 : W1.cell? ⟨W.heap.size, 3, none⟩ = some (.bool true) := HB1.cell 3 rfl
  go_wp2_with fail
  refine (HLT.out _).mono ?_
  rintro r W2 ⟨rfl, hY⟩
  have HB2 := HB1.keep' hY
  have hB2 := below_then hB1 hY
  clear HB1 hB1 hY HLT q0 q1 q2 q3
  have q0 : W2.cell? ⟨W.heap.size, 0, none⟩ = some (.int .i64 w) := HB2.cell 0 rfl
  have q1 : W2.cell? ⟨W.heap.size, 1, none⟩ = some (.int .i64 z) := HB2.cell 1 rfl
  have q2 : W2.cell? ⟨W.heap.size, 2, none⟩ = some (.bool false) := HB2.cell 2 rfl
  have q3 : W2.cell? ⟨W.heap.size, 3, none⟩ = some (.bool true) := HB2.cell 3 rfl
  go_wp2_with fail
  refine (HD.out _).mono ?_
  rintro r W3 ⟨rfl, rfl⟩
  go_wp2_with fail
  go_ret2
  exact ⟨ret_two (by rw [HLT1.out]; rfl) rfl, below_alloc hB2 _⟩

set_option maxHeartbeats 4000000 in
theorem rhBytes_ft2b (w z : Int) (W : World) (hc : chkV w z false = 0) (hz : 0 ≤ z ∧ z < 4294967296 ∧ ¬ (256 ≤ z ∧ z < 65792)) (hz2 : 65792 ≤ z) :
    Calls Try.prog 39 #[hdrVal w z false true] W fun r W' => r = .returned (.tuple #[.string (bytB w z false true), .int .i64 0]) ∧ Below W.heap.size W W' := by
  have hck := chk_ok hc
  have HK0 : kindV z false = 2 := by unfold kindV; rw [if_neg (by simp; omega), if_neg (by omega), if_pos (by omega)]
  have HL : Hid (bytB w z false true = strOfNums ([40, 181, 47, 253] ++ [132, descV w] ++ IL.leI (z) 4)) := by
    show _ = _
    unfold bytB bytesL
    rw [if_neg (by simp [hc]), HK0]
    rfl
  have HC := Lib.hid (fun W => rhCheck_any w z false true W (by omega) (by omega))
  rw [hc] at HC
  clear HK0 hc
  generalize bytB w z false true = S at *
  have HD := Lib.hid (fun W => described_any w W (by omega))
  have hdn : descN w = descV w := by unfold descN; rw [if_neg (by have := hck.2.2.2.2.2 rfl; omega)]
  rw [hdn] at HD
  have hdv : 0 ≤ descV w ∧ descV w ≤ 143 := by
    rcases descV_spec w (by omega) with h | h
    · have := hck.2.2.2.2.2 rfl; omega
    · omega
  generalize descV w = dv at *
  generalize descI w = di at *
  clear hdn
  have gdv : IntKind.u8.wrap dv = dv := by rw [IntKind.wrap_u8]; omega
  have hcat : ∀ W, (Op.stringOp .add ⟨#[40, 181, 47, 253]⟩ (strOfNums [132, dv])).run Try.prog W = .ok (.string (strOfNums ([40, 181, 47, 253] ++ [132, dv]))) W := fun W => by
    have := IL.run_add_nums (P := Try.prog) [40, 181, 47, 253] [132, dv] (by simp) W
    exact this
  obtain ⟨L, hL⟩ : ∃ L : List Int, Hid (L = [40, 181, 47, 253] ++ [132, dv]) := ⟨_, Lib.hid rfl⟩
  have HLT1 : Hid (S = strOfNums (L ++ IL.leI (z) 4)) := by show _ = _; rw [hL.out]; exact HL.out
  rw [← hL.out] at hcat
  clear HL
  have hcv := fun w : World => (readsB_new w #[.int .u8 132, .int .u8 dv] 5 (0, 0) [132, dv] rfl).conv (P := Try.prog) (src := 50) (dst := 9) Try.underlying50 Try.underlying5 Try.underlying9 2 2 rfl
  generalize strOfNums [132, dv] = ST at *
  have hlit := little_ok (n := z) (k := 4) (by decide) (by decide) (by omega) (by omega)
  have HLT : Hid (∀ W, Calls Try.prog 77 #[.int .u64 (z), .int .i64 4] W fun e w' => e = .returned (.tuple #[.string (strOfNums (IL.leI (z) 4)), .int .i64 0]) ∧ Below W.heap.size W w') := fun W => by
    have := IL.rLittle_any (z) ((4 : Nat) : Int) W (by omega) (by omega)
    rw [hlit.1, hlit.2] at this
    exact this
  have gwn : IntKind.u64.wrap (z) = z := by rw [IntKind.wrap_u64]; omega
  have hlen : L.length = 6 := by rw [hL.out]; rfl
  have hadd := fun W => IL.run_add_nums (P := Try.prog) L (IL.leI (z) 4) (by rw [hlen, IL.leI_length]; decide) W
  generalize IL.leI (z) 4 = LE at *
  generalize strOfNums LE = SL at *
  clear hlit hlen
  have t_0f : decide (z < 0) = false := decide_eq_false (by omega)
  have t_ge : decide (256 ≤ z) = true := decide_eq_true (by omega)
  have t_65792f : decide (z < 65792) = false := decide_eq_false (by omega)
  have t_4294967296t : decide (z < 4294967296) = true := decide_eq_true (by omega)
  have HB0 := Blk.new W #[.int .i64 w, .int .i64 z, .bool false, .bool true] 52
  have hB0 := below_new (w := W) (.cells #[.int .i64 w, .int .i64 z, .bool false, .bool true] 52)
  unfold hdrVal at *
  clear hck hz
  go_enter Try.func39, Try.ntmps39
  go_wp2_with fail
  refine (HC.out _).mono ?_
  rintro r W1 ⟨rfl, hY⟩
  have HB1 := HB0.keep' hY
  have hB1 := below_then hB0 hY
  clear HB0 hB0 hY HC
  have q0 : W1.cell? ⟨W.heap.size, 0, none⟩ = some (.int .i64 w) := HB1.cell 0 rfl
  have q1 : W1.cell? ⟨W.heap.size, 1, none⟩ = some (.int .i64 z) := HB1.cell 1 rfl
  have q2 : W1.cell? ⟨W.heap.size, 2, none⟩ = some (.bool false) := HB1.cell 2 rfl
  have q3 : W1.cell? ⟨W.heap.size, 3, none⟩ = some (.bool true) := HB1.cell 3 rfl
  go_wp2_with fail
  refine (HLT.out _).mono ?_
  rintro r W2 ⟨rfl, hY⟩
  have HB2 := HB1.keep' hY
  have hB2 := below_then hB1 hY
  clear HB1 hB1 hY HLT q0 q1 q2 q3
  have q0 : W2.cell? ⟨W.heap.size, 0, none⟩ = some (.int .i64 w) := HB2.cell 0 rfl
  have q1 : W2.cell? ⟨W.heap.size, 1, none⟩ = some (.int .i64 z) := HB2.cell 1 rfl
  have q2 : W2.cell? ⟨W.heap.size, 2, none⟩ = some (.bool false) := HB2.cell 2 rfl
  have q3 : W2.cell? ⟨W.heap.size, 3, none⟩ = some (.bool true) := HB2.cell 3 rfl
  go_wp2_with fail
  refine (HD.out _).mono ?_
  rintro r W3 ⟨rfl, rfl⟩
  go_wp2_with fail
  go_ret2
  exact ⟨ret_two (by rw [HLT1.out]; rfl) rfl, below_alloc hB2 _⟩

set_option maxHeartbeats 4000000 in
theorem rhBytes_ft3 (w z : Int) (W : World) (hc : chkV w z false = 0) (hz : 4294967296 ≤ z) :
    Calls Try.prog 39 #[hdrVal w z false true] W fun r W' => r = .returned (.tuple #[.string (bytB w z false true), .int .i64 0]) ∧ Below W.heap.size W W' := by
  have hck := chk_ok hc
  have HK0 : kindV z false = 3 := by unfold kindV; rw [if_neg (by simp; omega), if_neg (by omega), if_neg (by omega)]
  have HL : Hid (bytB w z false true = strOfNums ([40, 181, 47, 253] ++ [196, descV w] ++ IL.leI (z) 8)) := by
    show _ = _
    unfold bytB bytesL
    rw [if_neg (by simp [hc]), HK0]
    rfl
  have HC := Lib.hid (fun W => rhCheck_any w z false true W (by omega) (by omega))
  rw [hc] at HC
  clear HK0 hc
  generalize bytB w z false true = S at *
  have HD := Lib.hid (fun W => described_any w W (by omega))
  have hdn : descN w = descV w := by unfold descN; rw [if_neg (by have := hck.2.2.2.2.2 rfl; omega)]
  rw [hdn] at HD
  have hdv : 0 ≤ descV w ∧ descV w ≤ 143 := by
    rcases descV_spec w (by omega) with h | h
    · have := hck.2.2.2.2.2 rfl; omega
    · omega
  generalize descV w = dv at *
  generalize descI w = di at *
  clear hdn
  have gdv : IntKind.u8.wrap dv = dv := by rw [IntKind.wrap_u8]; omega
  have hcat : ∀ W, (Op.stringOp .add ⟨#[40, 181, 47, 253]⟩ (strOfNums [196, dv])).run Try.prog W = .ok (.string (strOfNums ([40, 181, 47, 253] ++ [196, dv]))) W := fun W => by
    have := IL.run_add_nums (P := Try.prog) [40, 181, 47, 253] [196, dv] (by simp) W
    exact this
  obtain ⟨L, hL⟩ : ∃ L : List Int, Hid (L = [40, 181, 47, 253] ++ [196, dv]) := ⟨_, Lib.hid rfl⟩
  have HLT1 : Hid (S = strOfNums (L ++ IL.leI (z) 8)) := by show _ = _; rw [hL.out]; exact HL.out
  rw [← hL.out] at hcat
  clear HL
  have hcv := fun w : World => (readsB_new w #[.int .u8 196, .int .u8 dv] 5 (0, 0) [196, dv] rfl).conv (P := Try.prog) (src := 50) (dst := 9) Try.underlying50 Try.underlying5 Try.underlying9 2 2 rfl
  generalize strOfNums [196, dv] = ST at *
  have hlit := little_ok (n := z) (k := 8) (by decide) (by decide) (by omega) (by omega)
  have HLT : Hid (∀ W, Calls Try.prog 77 #[.int .u64 (z), .int .i64 8] W fun e w' => e = .returned (.tuple #[.string (strOfNums (IL.leI (z) 8)), .int .i64 0]) ∧ Below W.heap.size W w') := fun W => by
    have := IL.rLittle_any (z) ((8 : Nat) : Int) W (by omega) (by omega)
    rw [hlit.1, hlit.2] at this
    exact this
  have gwn : IntKind.u64.wrap (z) = z := by rw [IntKind.wrap_u64]; omega
  have hlen : L.length = 6 := by rw [hL.out]; rfl
  have hadd := fun W => IL.run_add_nums (P := Try.prog) L (IL.leI (z) 8) (by rw [hlen, IL.leI_length]; decide) W
  generalize IL.leI (z) 8 = LE at *
  generalize strOfNums LE = SL at *
  clear hlit hlen
  have t_0f : decide (z < 0) = false := decide_eq_false (by omega)
  have t_ge : decide (256 ≤ z) = true := decide_eq_true (by omega)
  have t_65792f : decide (z < 65792) = false := decide_eq_false (by omega)
  have t_4294967296f : decide (z < 4294967296) = false := decide_eq_false (by omega)
  have HB0 := Blk.new W #[.int .i64 w, .int .i64 z, .bool false, .bool true] 52
  have hB0 := below_new (w := W) (.cells #[.int .i64 w, .int .i64 z, .bool false, .bool true] 52)
  unfold hdrVal at *
  clear hck hz
  go_enter Try.func39, Try.ntmps39
  go_wp2_with fail
  refine (HC.out _).mono ?_
  rintro r W1 ⟨rfl, hY⟩
  have HB1 := HB0.keep' hY
  have hB1 := below_then hB0 hY
  clear HB0 hB0 hY HC
  have q0 : W1.cell? ⟨W.heap.size, 0, none⟩ = some (.int .i64 w) := HB1.cell 0 rfl
  have q1 : W1.cell? ⟨W.heap.size, 1, none⟩ = some (.int .i64 z) := HB1.cell 1 rfl
  have q2 : W1.cell? ⟨W.heap.size, 2, none⟩ = some (.bool false) := HB1.cell 2 rfl
  have q3 : W1.cell? ⟨W.heap.size, 3, none⟩ = some (.bool true) := HB1.cell 3 rfl
  go_wp2_with fail
  refine (HLT.out _).mono ?_
  rintro r W2 ⟨rfl, hY⟩
  have HB2 := HB1.keep' hY
  have hB2 := below_then hB1 hY
  clear HB1 hB1 hY HLT q0 q1 q2 q3
  have q0 : W2.cell? ⟨W.heap.size, 0, none⟩ = some (.int .i64 w) := HB2.cell 0 rfl
  have q1 : W2.cell? ⟨W.heap.size, 1, none⟩ = some (.int .i64 z) := HB2.cell 1 rfl
  have q2 : W2.cell? ⟨W.heap.size, 2, none⟩ = some (.bool false) := HB2.cell 2 rfl
  have q3 : W2.cell? ⟨W.heap.size, 3, none⟩ = some (.bool true) := HB2.cell 3 rfl
  go_wp2_with fail
  refine (HD.out _).mono ?_
  rintro r W3 ⟨rfl, rfl⟩
  go_wp2_with fail
  go_ret2
  exact ⟨ret_two (by rw [HLT1.out]; rfl) rfl, below_alloc hB2 _⟩

end Go.Proofs.Ytfdbkpbgkpkckaa
