/-
  The walk of header.Bytes (printed by wip/bin/genhdbytes.py).
-/
import Derived.Test.YtfdbkpbgkpkckaaHdrBytesP
import Derived.Lib.SlBytesConst
import Derived.Deep.RegionHeld3
import Derived.Deep.DrawnRows
namespace Go.Proofs.Ytfdbkpbgkpkckaa
open Go.RowKit
set_option linter.unusedVariables false
set_option maxRecDepth 100000
attribute [local go_sem ↓] Go.wp_at_zero Go.wp_at_succ

set_option maxHeartbeats 4000000 in
theorem hBytes_ff0 (w z : Int) (W : World) (hc : chkV w z false = 0) (hz : z < 0) :
    Calls Try.prog 38 #[hdrVal w z false false] W fun r W' => r = .returned (.tuple #[.string (bytB w z false false), .int .i64 0]) ∧ Below W.heap.size W W' := by
  have hck := chk_ok hc
  have HK0 : kindV z false = 0 := by unfold kindV; rw [if_pos (.inl hz)]
  obtain ⟨i0, hi, hz0, hz1, hz2⟩ := info_parts IL.Try.infoU8
  have HL : Hid (bytB w z false false = strOfNums ([40, 181, 47, 253] ++ [0, descV w] ++ IL.leI (z) 0)) := by
    show _ = _
    unfold bytB bytesL
    rw [if_neg (by simp [hc]), HK0]
    rfl
  have HC := Lib.hid (fun W => hCheck_any w z false false W (by omega) (by omega))
  rw [hc] at HC
  have HK := Lib.hid (fun W => kind_any w z false false W)
  rw [HK0] at HK
  clear HK0 hc
  generalize bytB w z false false = S at *
  have HD := Lib.hid (fun W => descriptor_any w W (by omega) (by omega))
  have hdv : 0 ≤ descV w ∧ descV w ≤ 143 := by
    rcases descV_spec w (by omega) with h | h
    · have := hck.2.2.2.2.2 rfl; omega
    · omega
  generalize descV w = dv at *
  have gdv : IntKind.u8.wrap dv = dv := by rw [IntKind.wrap_u8]; omega
  obtain ⟨L, hL⟩ : ∃ L : List Int, Hid (L = [40, 181, 47, 253] ++ [0, dv]) := ⟨_, Lib.hid rfl⟩
  have HL2 : Hid (S = strOfNums L) := by show _ = _; rw [hL.out, HL.out]; simp [IL.leI]
  clear HL
  have hfr : ∀ V, (Instr.index 101 (.agg #[.int .i64 0, .int .i64 2, .int .i64 4, .int .i64 8]) (.int .i64 0)).run Try.prog V = .ok (.int .i64 0) V := fld_run 0 (by decide)
  have gwd : IntKind.i64.wrap 0 = 0 := by decide
  have HFI := Lib.hid (fun W => fields_any W)
  have HB0 := Blk.new W #[.int .i64 w, .int .i64 z, .bool false, .bool false] 52
  have hB0 := below_new (w := W) (.cells #[.int .i64 w, .int .i64 z, .bool false, .bool false] 52)
  unfold hdrVal at *
  have hor1 : bits BinOp.or IntKind.i64 0 4 = 4 := by decide
  have hor2 : bits BinOp.or IntKind.i64 0 32 = 32 := by decide
  have kc := fun (w : World) (C : Array Value) (n c : Nat) => Lib.run_convert_bytes_const (P := Try.prog) w 50 5 C n c Try.underlying50 Try.underlying5
  clear hck
  go_enter Try.func38, Try.ntmps38
  go_wp2_with fail
  refine (HC.out _).mono ?_
  rintro r W1 ⟨rfl, hY⟩
  have HB1 := HB0.keep' hY
  have hB1 := below_then hB0 hY
  clear HB0 hB0 hY
  have k0 := HB1.cell 0 rfl
  have k1 := HB1.cell 1 rfl
  have k2 := HB1.cell 2 rfl
  have k3 := HB1.cell 3 rfl
  go_wp2_with fail
  refine (HK.out _).mono ?_
  rintro r W2 ⟨rfl, hY⟩
  have HB2 := HB1.keep' hY
  have hB2 := below_then hB1 hY
  clear HB1 hB1 hY k0 k1 k2 k3
  have k1 := HB2.cell 1 rfl
  go_wp2_with fail
  go_region_held3 (fun w' => Below W.heap.size W w' ∧ Blk 52 w' W.heap.size #[.int .i64 w, .int .i64 z, .bool false, .bool false] ∧ w'.cell? ⟨W.heap.size, 1, none⟩ = some (.int .i64 z))
    ((refine ⟨?_, ?_, ?_⟩ <;> first | assumption | exact below_drew (by assumption) | exact Blk.drew (by assumption) | go_keep))
    ((go_at_call 70; refine (HFI.out _).mono ?_; rintro r w5 ⟨rfl, hB5⟩; have hBn := below_then (by first | assumption | exact And.left (by assumption)) hB5; have hHn := Blk.keep' (by first | assumption | exact And.left (And.right (by assumption))) hB5; have q4 := hHn.cell 1 rfl))
  clear HB2 hB2 k1 hB5
  have HB5 := hHn
  have hB5 := hBn
  clear hHn hBn q4
  clear HC HK hfr HFI
  have q0 : w5.cell? ⟨W.heap.size, 0, none⟩ = some (.int .i64 w) := HB5.cell 0 rfl
  have q1 : w5.cell? ⟨W.heap.size, 1, none⟩ = some (.int .i64 z) := HB5.cell 1 rfl
  have q2 : w5.cell? ⟨W.heap.size, 2, none⟩ = some (.bool false) := HB5.cell 2 rfl
  have q3 : w5.cell? ⟨W.heap.size, 3, none⟩ = some (.bool false) := HB5.cell 3 rfl
  have HM := readsB_new w5 #[.int .u8 40, .int .u8 181, .int .u8 47, .int .u8 253] 5 (4, 5) [40, 181, 47, 253] rfl
  have HB6 := HB5.alloc (.cells #[.int .u8 40, .int .u8 181, .int .u8 47, .int .u8 253] 5 (4, 5))
  have hB6 := below_alloc hB5 (.cells #[.int .u8 40, .int .u8 181, .int .u8 47, .int .u8 253] 5 (4, 5))
  have hg6 : w5.heap.size < (w5.alloc (.cells #[.int .u8 40, .int .u8 181, .int .u8 47, .int .u8 253] 5 (4, 5))).heap.size := by simp
  go_upto_region 9 with fail
  generalize w5.alloc (.cells #[.int .u8 40, .int .u8 181, .int .u8 47, .int .u8 253] 5 (4, 5)) = w6 at *
  generalize w5.heap.size = g0 at *
  clear q0 q1 q2 q3 HB5 hB5
  have q0 : w6.cell? ⟨W.heap.size, 0, none⟩ = some (.int .i64 w) := HB6.cell 0 rfl
  have q1 : w6.cell? ⟨W.heap.size, 1, none⟩ = some (.int .i64 z) := HB6.cell 1 rfl
  have q2 : w6.cell? ⟨W.heap.size, 2, none⟩ = some (.bool false) := HB6.cell 2 rfl
  have q3 : w6.cell? ⟨W.heap.size, 3, none⟩ = some (.bool false) := HB6.cell 3 rfl
  go_wp2_with fail
  refine (HD.out _).mono ?_
  rintro r w6b ⟨rfl, hY⟩
  have HMb := HM.keep hY hg6
  have HBb := HB6.keep' hY
  have hBb := below_then hB6 hY
  have hgb : g0 < w6b.heap.size := by have := hY.size; omega
  clear q0 q1 q2 q3 HM HB6 hB6 hg6 hY HD w6
  have q0 : w6b.cell? ⟨W.heap.size, 0, none⟩ = some (.int .i64 w) := HBb.cell 0 rfl
  have q1 : w6b.cell? ⟨W.heap.size, 1, none⟩ = some (.int .i64 z) := HBb.cell 1 rfl
  have q2 : w6b.cell? ⟨W.heap.size, 2, none⟩ = some (.bool false) := HBb.cell 2 rfl
  have q3 : w6b.cell? ⟨W.heap.size, 3, none⟩ = some (.bool false) := HBb.cell 3 rfl
  have HMa := HMb.keep (below_new (w := w6b) (.cells #[.int .u8 0, .int .u8 dv] 5)) hgb
  have HN := readsB_new w6b #[.int .u8 0, .int .u8 dv] 5 (0, 0) [0, dv] rfl
  have HB7 := HBb.alloc (.cells #[.int .u8 0, .int .u8 dv] 5)
  have hB7 := below_alloc hBb (.cells #[.int .u8 0, .int .u8 dv] 5)
  go_wp2_with (at_builtin; refine wpList_append_full _ rfl _ _ 50 rfl 5 i0 Try.underlying50 hi hz0 hz1 hz2 _ _ 4 2 2 [40, 181, 47, 253] [0, dv] rfl rfl rfl rfl HMa HN (by decide) (by decide) ?_; intro cap w8 hR8 hY8 hs8; have HB8 := HB7.keep' hY8; have hB8 := below_then hB7 hY8; have r2 : w8.cell? ⟨W.heap.size, 2, none⟩ = some (.bool false) := HB8.cell 2 rfl; have hR9 : ReadsB w8 (w6b.heap.size + 1) L := (by rw [World.size_alloc] at hR8; rw [hL.out]; exact hR8); have hlen : L.length = 6 := (by rw [hL.out]; rfl); have hcv := ReadsB.conv (P := Try.prog) (dst := 9) hR9 (Try.underlying50) (Try.underlying5) (Try.underlying9) 6 cap hlen)
  go_ret2
  exact ⟨ret_two (by rw [HL2.out]; rfl) rfl, hB8⟩

set_option maxHeartbeats 4000000 in
theorem hBytes_ff1 (w z : Int) (W : World) (hc : chkV w z false = 0) (hz : 256 ≤ z ∧ z < 65792) :
    Calls Try.prog 38 #[hdrVal w z false false] W fun r W' => r = .returned (.tuple #[.string (bytB w z false false), .int .i64 0]) ∧ Below W.heap.size W W' := by
  have hck := chk_ok hc
  have HK0 : kindV z false = 1 := by unfold kindV; rw [if_neg (by simp; omega), if_pos hz]
  obtain ⟨i0, hi, hz0, hz1, hz2⟩ := info_parts IL.Try.infoU8
  have HL : Hid (bytB w z false false = strOfNums ([40, 181, 47, 253] ++ [64, descV w] ++ IL.leI (z - 256) 2)) := by
    show _ = _
    unfold bytB bytesL
    rw [if_neg (by simp [hc]), HK0]
    rfl
  have HC := Lib.hid (fun W => hCheck_any w z false false W (by omega) (by omega))
  rw [hc] at HC
  have HK := Lib.hid (fun W => kind_any w z false false W)
  rw [HK0] at HK
  clear HK0 hc
  generalize bytB w z false false = S at *
  have HD := Lib.hid (fun W => descriptor_any w W (by omega) (by omega))
  have hdv : 0 ≤ descV w ∧ descV w ≤ 143 := by
    rcases descV_spec w (by omega) with h | h
    · have := hck.2.2.2.2.2 rfl; omega
    · omega
  generalize descV w = dv at *
  have gdv : IntKind.u8.wrap dv = dv := by rw [IntKind.wrap_u8]; omega
  have hlit := little_ok (n := z - 256) (k := 2) (by decide) (by decide) (by omega) (by omega)
  have HLT : Hid (∀ W, Calls Try.prog 76 #[.int .u64 (z - 256), .int .i64 2] W fun e w' => e = .returned (.tuple #[.string (strOfNums (IL.leI (z - 256) 2)), .int .i64 0]) ∧ Below W.heap.size W w') := fun W => by
    have := IL.Little_any (z - 256) ((2 : Nat) : Int) W (by omega) (by omega)
    rw [hlit.1, hlit.2] at this
    exact this
  have gwn : IntKind.u64.wrap (z - 256) = z - 256 := by rw [IntKind.wrap_u64]; omega
  obtain ⟨L, hL⟩ : ∃ L : List Int, Hid (L = [40, 181, 47, 253] ++ [64, dv]) := ⟨_, Lib.hid rfl⟩
  have hadd := fun W => IL.run_add_nums (P := Try.prog) L (IL.leI (z - 256) 2) (by rw [hL.out]; simp [IL.leI_length]) W
  have HL2 : Hid (S = strOfNums (L ++ IL.leI (z - 256) 2)) := by show _ = _; rw [hL.out]; exact HL.out
  clear HL
  generalize IL.leI (z - 256) 2 = LE at *
  clear hlit
  have gw1 : IntKind.i64.wrap (z - 256) = z - 256 := by rw [IntKind.wrap_i64]; omega
  have hfr : ∀ V, (Instr.index 101 (.agg #[.int .i64 0, .int .i64 2, .int .i64 4, .int .i64 8]) (.int .i64 1)).run Try.prog V = .ok (.int .i64 2) V := fld_run 1 (by decide)
  have gwd : IntKind.i64.wrap 64 = 64 := by decide
  have HFI := Lib.hid (fun W => fields_any W)
  have HB0 := Blk.new W #[.int .i64 w, .int .i64 z, .bool false, .bool false] 52
  have hB0 := below_new (w := W) (.cells #[.int .i64 w, .int .i64 z, .bool false, .bool false] 52)
  unfold hdrVal at *
  have hor1 : bits BinOp.or IntKind.i64 64 4 = 68 := by decide
  have hor2 : bits BinOp.or IntKind.i64 64 32 = 96 := by decide
  have kc := fun (w : World) (C : Array Value) (n c : Nat) => Lib.run_convert_bytes_const (P := Try.prog) w 50 5 C n c Try.underlying50 Try.underlying5
  clear hck
  go_enter Try.func38, Try.ntmps38
  go_wp2_with fail
  refine (HC.out _).mono ?_
  rintro r W1 ⟨rfl, hY⟩
  have HB1 := HB0.keep' hY
  have hB1 := below_then hB0 hY
  clear HB0 hB0 hY
  have k0 := HB1.cell 0 rfl
  have k1 := HB1.cell 1 rfl
  have k2 := HB1.cell 2 rfl
  have k3 := HB1.cell 3 rfl
  go_wp2_with fail
  refine (HK.out _).mono ?_
  rintro r W2 ⟨rfl, hY⟩
  have HB2 := HB1.keep' hY
  have hB2 := below_then hB1 hY
  clear HB1 hB1 hY k0 k1 k2 k3
  have k1 := HB2.cell 1 rfl
  go_wp2_with fail
  go_region_held3 (fun w' => Below W.heap.size W w' ∧ Blk 52 w' W.heap.size #[.int .i64 w, .int .i64 z, .bool false, .bool false] ∧ w'.cell? ⟨W.heap.size, 1, none⟩ = some (.int .i64 z))
    ((refine ⟨?_, ?_, ?_⟩ <;> first | assumption | exact below_drew (by assumption) | exact Blk.drew (by assumption) | go_keep))
    ((go_at_call 70; refine (HFI.out _).mono ?_; rintro r w5 ⟨rfl, hB5⟩; have hBn := below_then (by first | assumption | exact And.left (by assumption)) hB5; have hHn := Blk.keep' (by first | assumption | exact And.left (And.right (by assumption))) hB5; have q4 := hHn.cell 1 rfl))
  clear HB2 hB2 k1 hB5
  have HB5 := hHn
  have hB5 := hBn
  clear hHn hBn q4
  clear HC HK hfr HFI
  have q0 : w5.cell? ⟨W.heap.size, 0, none⟩ = some (.int .i64 w) := HB5.cell 0 rfl
  have q1 : w5.cell? ⟨W.heap.size, 1, none⟩ = some (.int .i64 z) := HB5.cell 1 rfl
  have q2 : w5.cell? ⟨W.heap.size, 2, none⟩ = some (.bool false) := HB5.cell 2 rfl
  have q3 : w5.cell? ⟨W.heap.size, 3, none⟩ = some (.bool false) := HB5.cell 3 rfl
  have HM := readsB_new w5 #[.int .u8 40, .int .u8 181, .int .u8 47, .int .u8 253] 5 (4, 5) [40, 181, 47, 253] rfl
  have HB6 := HB5.alloc (.cells #[.int .u8 40, .int .u8 181, .int .u8 47, .int .u8 253] 5 (4, 5))
  have hB6 := below_alloc hB5 (.cells #[.int .u8 40, .int .u8 181, .int .u8 47, .int .u8 253] 5 (4, 5))
  have hg6 : w5.heap.size < (w5.alloc (.cells #[.int .u8 40, .int .u8 181, .int .u8 47, .int .u8 253] 5 (4, 5))).heap.size := by simp
  go_upto_region 9 with fail
  generalize w5.alloc (.cells #[.int .u8 40, .int .u8 181, .int .u8 47, .int .u8 253] 5 (4, 5)) = w6 at *
  generalize w5.heap.size = g0 at *
  clear q0 q1 q2 q3 HB5 hB5
  have q0 : w6.cell? ⟨W.heap.size, 0, none⟩ = some (.int .i64 w) := HB6.cell 0 rfl
  have q1 : w6.cell? ⟨W.heap.size, 1, none⟩ = some (.int .i64 z) := HB6.cell 1 rfl
  have q2 : w6.cell? ⟨W.heap.size, 2, none⟩ = some (.bool false) := HB6.cell 2 rfl
  have q3 : w6.cell? ⟨W.heap.size, 3, none⟩ = some (.bool false) := HB6.cell 3 rfl
  go_wp2_with fail
  refine (HD.out _).mono ?_
  rintro r w6b ⟨rfl, hY⟩
  have HMb := HM.keep hY hg6
  have HBb := HB6.keep' hY
  have hBb := below_then hB6 hY
  have hgb : g0 < w6b.heap.size := by have := hY.size; omega
  clear q0 q1 q2 q3 HM HB6 hB6 hg6 hY HD w6
  have q0 : w6b.cell? ⟨W.heap.size, 0, none⟩ = some (.int .i64 w) := HBb.cell 0 rfl
  have q1 : w6b.cell? ⟨W.heap.size, 1, none⟩ = some (.int .i64 z) := HBb.cell 1 rfl
  have q2 : w6b.cell? ⟨W.heap.size, 2, none⟩ = some (.bool false) := HBb.cell 2 rfl
  have q3 : w6b.cell? ⟨W.heap.size, 3, none⟩ = some (.bool false) := HBb.cell 3 rfl
  have HMa := HMb.keep (below_new (w := w6b) (.cells #[.int .u8 64, .int .u8 dv] 5)) hgb
  have HN := readsB_new w6b #[.int .u8 64, .int .u8 dv] 5 (0, 0) [64, dv] rfl
  have HB7 := HBb.alloc (.cells #[.int .u8 64, .int .u8 dv] 5)
  have hB7 := below_alloc hBb (.cells #[.int .u8 64, .int .u8 dv] 5)
  go_wp2_with (at_builtin; refine wpList_append_full _ rfl _ _ 50 rfl 5 i0 Try.underlying50 hi hz0 hz1 hz2 _ _ 4 2 2 [40, 181, 47, 253] [64, dv] rfl rfl rfl rfl HMa HN (by decide) (by decide) ?_; intro cap w8 hR8 hY8 hs8; have HB8 := HB7.keep' hY8; have hB8 := below_then hB7 hY8; have r2 : w8.cell? ⟨W.heap.size, 2, none⟩ = some (.bool false) := HB8.cell 2 rfl; have hR9 : ReadsB w8 (w6b.heap.size + 1) L := (by rw [World.size_alloc] at hR8; rw [hL.out]; exact hR8); have hlen : L.length = 6 := (by rw [hL.out]; rfl); have hcv := ReadsB.conv (P := Try.prog) (dst := 9) hR9 (Try.underlying50) (Try.underlying5) (Try.underlying9) 6 cap hlen)
  refine (HLT.out _).mono ?_
  rintro r w9 ⟨rfl, hY9⟩
  have hR10 := hR9.keep hY9 (by rw [World.size_alloc] at hs8; omega)
  have hcw := ReadsB.conv (P := Try.prog) (dst := 9) hR10 (Try.underlying50) (Try.underlying5) (Try.underlying9) 6 cap hlen
  have hB9 := below_then hB8 hY9
  go_wp2_with fail
  go_ret2
  exact ⟨ret_two (by rw [HL2.out]; rfl) rfl, hB9⟩

set_option maxHeartbeats 4000000 in
theorem hBytes_ff2 (w z : Int) (W : World) (hc : chkV w z false = 0) (hz : 0 ≤ z ∧ z < 4294967296 ∧ ¬ (256 ≤ z ∧ z < 65792)) :
    Calls Try.prog 38 #[hdrVal w z false false] W fun r W' => r = .returned (.tuple #[.string (bytB w z false false), .int .i64 0]) ∧ Below W.heap.size W W' := by
  have hck := chk_ok hc
  have HK0 : kindV z false = 2 := by unfold kindV; rw [if_neg (by simp; omega), if_neg (by omega), if_pos (by omega)]
  obtain ⟨i0, hi, hz0, hz1, hz2⟩ := info_parts IL.Try.infoU8
  have HL : Hid (bytB w z false false = strOfNums ([40, 181, 47, 253] ++ [128, descV w] ++ IL.leI (z) 4)) := by
    show _ = _
    unfold bytB bytesL
    rw [if_neg (by simp [hc]), HK0]
    rfl
  have HC := Lib.hid (fun W => hCheck_any w z false false W (by omega) (by omega))
  rw [hc] at HC
  have HK := Lib.hid (fun W => kind_any w z false false W)
  rw [HK0] at HK
  clear HK0 hc
  generalize bytB w z false false = S at *
  have HD := Lib.hid (fun W => descriptor_any w W (by omega) (by omega))
  have hdv : 0 ≤ descV w ∧ descV w ≤ 143 := by
    rcases descV_spec w (by omega) with h | h
    · have := hck.2.2.2.2.2 rfl; omega
    · omega
  generalize descV w = dv at *
  have gdv : IntKind.u8.wrap dv = dv := by rw [IntKind.wrap_u8]; omega
  have hlit := little_ok (n := z) (k := 4) (by decide) (by decide) (by omega) (by omega)
  have HLT : Hid (∀ W, Calls Try.prog 76 #[.int .u64 (z), .int .i64 4] W fun e w' => e = .returned (.tuple #[.string (strOfNums (IL.leI (z) 4)), .int .i64 0]) ∧ Below W.heap.size W w') := fun W => by
    have := IL.Little_any (z) ((4 : Nat) : Int) W (by omega) (by omega)
    rw [hlit.1, hlit.2] at this
    exact this
  have gwn : IntKind.u64.wrap (z) = z := by rw [IntKind.wrap_u64]; omega
  obtain ⟨L, hL⟩ : ∃ L : List Int, Hid (L = [40, 181, 47, 253] ++ [128, dv]) := ⟨_, Lib.hid rfl⟩
  have hadd := fun W => IL.run_add_nums (P := Try.prog) L (IL.leI (z) 4) (by rw [hL.out]; simp [IL.leI_length]) W
  have HL2 : Hid (S = strOfNums (L ++ IL.leI (z) 4)) := by show _ = _; rw [hL.out]; exact HL.out
  clear HL
  generalize IL.leI (z) 4 = LE at *
  clear hlit
  have hfr : ∀ V, (Instr.index 101 (.agg #[.int .i64 0, .int .i64 2, .int .i64 4, .int .i64 8]) (.int .i64 2)).run Try.prog V = .ok (.int .i64 4) V := fld_run 2 (by decide)
  have gwd : IntKind.i64.wrap 128 = 128 := by decide
  have HFI := Lib.hid (fun W => fields_any W)
  have HB0 := Blk.new W #[.int .i64 w, .int .i64 z, .bool false, .bool false] 52
  have hB0 := below_new (w := W) (.cells #[.int .i64 w, .int .i64 z, .bool false, .bool false] 52)
  unfold hdrVal at *
  have hor1 : bits BinOp.or IntKind.i64 128 4 = 132 := by decide
  have hor2 : bits BinOp.or IntKind.i64 128 32 = 160 := by decide
  have kc := fun (w : World) (C : Array Value) (n c : Nat) => Lib.run_convert_bytes_const (P := Try.prog) w 50 5 C n c Try.underlying50 Try.underlying5
  clear hck
  go_enter Try.func38, Try.ntmps38
  go_wp2_with fail
  refine (HC.out _).mono ?_
  rintro r W1 ⟨rfl, hY⟩
  have HB1 := HB0.keep' hY
  have hB1 := below_then hB0 hY
  clear HB0 hB0 hY
  have k0 := HB1.cell 0 rfl
  have k1 := HB1.cell 1 rfl
  have k2 := HB1.cell 2 rfl
  have k3 := HB1.cell 3 rfl
  go_wp2_with fail
  refine (HK.out _).mono ?_
  rintro r W2 ⟨rfl, hY⟩
  have HB2 := HB1.keep' hY
  have hB2 := below_then hB1 hY
  clear HB1 hB1 hY k0 k1 k2 k3
  have k1 := HB2.cell 1 rfl
  go_wp2_with fail
  go_region_held3 (fun w' => Below W.heap.size W w' ∧ Blk 52 w' W.heap.size #[.int .i64 w, .int .i64 z, .bool false, .bool false] ∧ w'.cell? ⟨W.heap.size, 1, none⟩ = some (.int .i64 z))
    ((refine ⟨?_, ?_, ?_⟩ <;> first | assumption | exact below_drew (by assumption) | exact Blk.drew (by assumption) | go_keep))
    ((go_at_call 70; refine (HFI.out _).mono ?_; rintro r w5 ⟨rfl, hB5⟩; have hBn := below_then (by first | assumption | exact And.left (by assumption)) hB5; have hHn := Blk.keep' (by first | assumption | exact And.left (And.right (by assumption))) hB5; have q4 := hHn.cell 1 rfl))
  clear HB2 hB2 k1 hB5
  have HB5 := hHn
  have hB5 := hBn
  clear hHn hBn q4
  clear HC HK hfr HFI
  have q0 : w5.cell? ⟨W.heap.size, 0, none⟩ = some (.int .i64 w) := HB5.cell 0 rfl
  have q1 : w5.cell? ⟨W.heap.size, 1, none⟩ = some (.int .i64 z) := HB5.cell 1 rfl
  have q2 : w5.cell? ⟨W.heap.size, 2, none⟩ = some (.bool false) := HB5.cell 2 rfl
  have q3 : w5.cell? ⟨W.heap.size, 3, none⟩ = some (.bool false) := HB5.cell 3 rfl
  have HM := readsB_new w5 #[.int .u8 40, .int .u8 181, .int .u8 47, .int .u8 253] 5 (4, 5) [40, 181, 47, 253] rfl
  have HB6 := HB5.alloc (.cells #[.int .u8 40, .int .u8 181, .int .u8 47, .int .u8 253] 5 (4, 5))
  have hB6 := below_alloc hB5 (.cells #[.int .u8 40, .int .u8 181, .int .u8 47, .int .u8 253] 5 (4, 5))
  have hg6 : w5.heap.size < (w5.alloc (.cells #[.int .u8 40, .int .u8 181, .int .u8 47, .int .u8 253] 5 (4, 5))).heap.size := by simp
  go_upto_region 9 with fail
  generalize w5.alloc (.cells #[.int .u8 40, .int .u8 181, .int .u8 47, .int .u8 253] 5 (4, 5)) = w6 at *
  generalize w5.heap.size = g0 at *
  clear q0 q1 q2 q3 HB5 hB5
  have q0 : w6.cell? ⟨W.heap.size, 0, none⟩ = some (.int .i64 w) := HB6.cell 0 rfl
  have q1 : w6.cell? ⟨W.heap.size, 1, none⟩ = some (.int .i64 z) := HB6.cell 1 rfl
  have q2 : w6.cell? ⟨W.heap.size, 2, none⟩ = some (.bool false) := HB6.cell 2 rfl
  have q3 : w6.cell? ⟨W.heap.size, 3, none⟩ = some (.bool false) := HB6.cell 3 rfl
  go_wp2_with fail
  refine (HD.out _).mono ?_
  rintro r w6b ⟨rfl, hY⟩
  have HMb := HM.keep hY hg6
  have HBb := HB6.keep' hY
  have hBb := below_then hB6 hY
  have hgb : g0 < w6b.heap.size := by have := hY.size; omega
  clear q0 q1 q2 q3 HM HB6 hB6 hg6 hY HD w6
  have q0 : w6b.cell? ⟨W.heap.size, 0, none⟩ = some (.int .i64 w) := HBb.cell 0 rfl
  have q1 : w6b.cell? ⟨W.heap.size, 1, none⟩ = some (.int .i64 z) := HBb.cell 1 rfl
  have q2 : w6b.cell? ⟨W.heap.size, 2, none⟩ = some (.bool false) := HBb.cell 2 rfl
  have q3 : w6b.cell? ⟨W.heap.size, 3, none⟩ = some (.bool false) := HBb.cell 3 rfl
  have HMa := HMb.keep (below_new (w := w6b) (.cells #[.int .u8 128, .int .u8 dv] 5)) hgb
  have HN := readsB_new w6b #[.int .u8 128, .int .u8 dv] 5 (0, 0) [128, dv] rfl
  have HB7 := HBb.alloc (.cells #[.int .u8 128, .int .u8 dv] 5)
  have hB7 := below_alloc hBb (.cells #[.int .u8 128, .int .u8 dv] 5)
  go_wp2_with (at_builtin; refine wpList_append_full _ rfl _ _ 50 rfl 5 i0 Try.underlying50 hi hz0 hz1 hz2 _ _ 4 2 2 [40, 181, 47, 253] [128, dv] rfl rfl rfl rfl HMa HN (by decide) (by decide) ?_; intro cap w8 hR8 hY8 hs8; have HB8 := HB7.keep' hY8; have hB8 := below_then hB7 hY8; have r2 : w8.cell? ⟨W.heap.size, 2, none⟩ = some (.bool false) := HB8.cell 2 rfl; have hR9 : ReadsB w8 (w6b.heap.size + 1) L := (by rw [World.size_alloc] at hR8; rw [hL.out]; exact hR8); have hlen : L.length = 6 := (by rw [hL.out]; rfl); have hcv := ReadsB.conv (P := Try.prog) (dst := 9) hR9 (Try.underlying50) (Try.underlying5) (Try.underlying9) 6 cap hlen)
  refine (HLT.out _).mono ?_
  rintro r w9 ⟨rfl, hY9⟩
  have hR10 := hR9.keep hY9 (by rw [World.size_alloc] at hs8; omega)
  have hcw := ReadsB.conv (P := Try.prog) (dst := 9) hR10 (Try.underlying50) (Try.underlying5) (Try.underlying9) 6 cap hlen
  have hB9 := below_then hB8 hY9
  go_wp2_with fail
  go_ret2
  exact ⟨ret_two (by rw [HL2.out]; rfl) rfl, hB9⟩

set_option maxHeartbeats 4000000 in
theorem hBytes_ff3 (w z : Int) (W : World) (hc : chkV w z false = 0) (hz : 4294967296 ≤ z) :
    Calls Try.prog 38 #[hdrVal w z false false] W fun r W' => r = .returned (.tuple #[.string (bytB w z false false), .int .i64 0]) ∧ Below W.heap.size W W' := by
  have hck := chk_ok hc
  have HK0 : kindV z false = 3 := by unfold kindV; rw [if_neg (by simp; omega), if_neg (by omega), if_neg (by omega)]
  obtain ⟨i0, hi, hz0, hz1, hz2⟩ := info_parts IL.Try.infoU8
  have HL : Hid (bytB w z false false = strOfNums ([40, 181, 47, 253] ++ [192, descV w] ++ IL.leI (z) 8)) := by
    show _ = _
    unfold bytB bytesL
    rw [if_neg (by simp [hc]), HK0]
    rfl
  have HC := Lib.hid (fun W => hCheck_any w z false false W (by omega) (by omega))
  rw [hc] at HC
  have HK := Lib.hid (fun W => kind_any w z false false W)
  rw [HK0] at HK
  clear HK0 hc
  generalize bytB w z false false = S at *
  have HD := Lib.hid (fun W => descriptor_any w W (by omega) (by omega))
  have hdv : 0 ≤ descV w ∧ descV w ≤ 143 := by
    rcases descV_spec w (by omega) with h | h
    · have := hck.2.2.2.2.2 rfl; omega
    · omega
  generalize descV w = dv at *
  have gdv : IntKind.u8.wrap dv = dv := by rw [IntKind.wrap_u8]; omega
  have hlit := little_ok (n := z) (k := 8) (by decide) (by decide) (by omega) (by omega)
  have HLT : Hid (∀ W, Calls Try.prog 76 #[.int .u64 (z), .int .i64 8] W fun e w' => e = .returned (.tuple #[.string (strOfNums (IL.leI (z) 8)), .int .i64 0]) ∧ Below W.heap.size W w') := fun W => by
    have := IL.Little_any (z) ((8 : Nat) : Int) W (by omega) (by omega)
    rw [hlit.1, hlit.2] at this
    exact this
  have gwn : IntKind.u64.wrap (z) = z := by rw [IntKind.wrap_u64]; omega
  obtain ⟨L, hL⟩ : ∃ L : List Int, Hid (L = [40, 181, 47, 253] ++ [192, dv]) := ⟨_, Lib.hid rfl⟩
  have hadd := fun W => IL.run_add_nums (P := Try.prog) L (IL.leI (z) 8) (by rw [hL.out]; simp [IL.leI_length]) W
  have HL2 : Hid (S = strOfNums (L ++ IL.leI (z) 8)) := by show _ = _; rw [hL.out]; exact HL.out
  clear HL
  generalize IL.leI (z) 8 = LE at *
  clear hlit
  have hfr : ∀ V, (Instr.index 101 (.agg #[.int .i64 0, .int .i64 2, .int .i64 4, .int .i64 8]) (.int .i64 3)).run Try.prog V = .ok (.int .i64 8) V := fld_run 3 (by decide)
  have gwd : IntKind.i64.wrap 192 = 192 := by decide
  have HFI := Lib.hid (fun W => fields_any W)
  have HB0 := Blk.new W #[.int .i64 w, .int .i64 z, .bool false, .bool false] 52
  have hB0 := below_new (w := W) (.cells #[.int .i64 w, .int .i64 z, .bool false, .bool false] 52)
  unfold hdrVal at *
  have hor1 : bits BinOp.or IntKind.i64 192 4 = 196 := by decide
  have hor2 : bits BinOp.or IntKind.i64 192 32 = 224 := by decide
  have kc := fun (w : World) (C : Array Value) (n c : Nat) => Lib.run_convert_bytes_const (P := Try.prog) w 50 5 C n c Try.underlying50 Try.underlying5
  clear hck
  go_enter Try.func38, Try.ntmps38
  go_wp2_with fail
  refine (HC.out _).mono ?_
  rintro r W1 ⟨rfl, hY⟩
  have HB1 := HB0.keep' hY
  have hB1 := below_then hB0 hY
  clear HB0 hB0 hY
  have k0 := HB1.cell 0 rfl
  have k1 := HB1.cell 1 rfl
  have k2 := HB1.cell 2 rfl
  have k3 := HB1.cell 3 rfl
  go_wp2_with fail
  refine (HK.out _).mono ?_
  rintro r W2 ⟨rfl, hY⟩
  have HB2 := HB1.keep' hY
  have hB2 := below_then hB1 hY
  clear HB1 hB1 hY k0 k1 k2 k3
  have k1 := HB2.cell 1 rfl
  go_wp2_with fail
  go_region_held3 (fun w' => Below W.heap.size W w' ∧ Blk 52 w' W.heap.size #[.int .i64 w, .int .i64 z, .bool false, .bool false] ∧ w'.cell? ⟨W.heap.size, 1, none⟩ = some (.int .i64 z))
    ((refine ⟨?_, ?_, ?_⟩ <;> first | assumption | exact below_drew (by assumption) | exact Blk.drew (by assumption) | go_keep))
    ((go_at_call 70; refine (HFI.out _).mono ?_; rintro r w5 ⟨rfl, hB5⟩; have hBn := below_then (by first | assumption | exact And.left (by assumption)) hB5; have hHn := Blk.keep' (by first | assumption | exact And.left (And.right (by assumption))) hB5; have q4 := hHn.cell 1 rfl))
  clear HB2 hB2 k1 hB5
  have HB5 := hHn
  have hB5 := hBn
  clear hHn hBn q4
  clear HC HK hfr HFI
  have q0 : w5.cell? ⟨W.heap.size, 0, none⟩ = some (.int .i64 w) := HB5.cell 0 rfl
  have q1 : w5.cell? ⟨W.heap.size, 1, none⟩ = some (.int .i64 z) := HB5.cell 1 rfl
  have q2 : w5.cell? ⟨W.heap.size, 2, none⟩ = some (.bool false) := HB5.cell 2 rfl
  have q3 : w5.cell? ⟨W.heap.size, 3, none⟩ = some (.bool false) := HB5.cell 3 rfl
  have HM := readsB_new w5 #[.int .u8 40, .int .u8 181, .int .u8 47, .int .u8 253] 5 (4, 5) [40, 181, 47, 253] rfl
  have HB6 := HB5.alloc (.cells #[.int .u8 40, .int .u8 181, .int .u8 47, .int .u8 253] 5 (4, 5))
  have hB6 := below_alloc hB5 (.cells #[.int .u8 40, .int .u8 181, .int .u8 47, .int .u8 253] 5 (4, 5))
  have hg6 : w5.heap.size < (w5.alloc (.cells #[.int .u8 40, .int .u8 181, .int .u8 47, .int .u8 253] 5 (4, 5))).heap.size := by simp
  go_upto_region 9 with fail
  generalize w5.alloc (.cells #[.int .u8 40, .int .u8 181, .int .u8 47, .int .u8 253] 5 (4, 5)) = w6 at *
  generalize w5.heap.size = g0 at *
  clear q0 q1 q2 q3 HB5 hB5
  have q0 : w6.cell? ⟨W.heap.size, 0, none⟩ = some (.int .i64 w) := HB6.cell 0 rfl
  have q1 : w6.cell? ⟨W.heap.size, 1, none⟩ = some (.int .i64 z) := HB6.cell 1 rfl
  have q2 : w6.cell? ⟨W.heap.size, 2, none⟩ = some (.bool false) := HB6.cell 2 rfl
  have q3 : w6.cell? ⟨W.heap.size, 3, none⟩ = some (.bool false) := HB6.cell 3 rfl
  go_wp2_with fail
  refine (HD.out _).mono ?_
  rintro r w6b ⟨rfl, hY⟩
  have HMb := HM.keep hY hg6
  have HBb := HB6.keep' hY
  have hBb := below_then hB6 hY
  have hgb : g0 < w6b.heap.size := by have := hY.size; omega
  clear q0 q1 q2 q3 HM HB6 hB6 hg6 hY HD w6
  have q0 : w6b.cell? ⟨W.heap.size, 0, none⟩ = some (.int .i64 w) := HBb.cell 0 rfl
  have q1 : w6b.cell? ⟨W.heap.size, 1, none⟩ = some (.int .i64 z) := HBb.cell 1 rfl
  have q2 : w6b.cell? ⟨W.heap.size, 2, none⟩ = some (.bool false) := HBb.cell 2 rfl
  have q3 : w6b.cell? ⟨W.heap.size, 3, none⟩ = some (.bool false) := HBb.cell 3 rfl
  have HMa := HMb.keep (below_new (w := w6b) (.cells #[.int .u8 192, .int .u8 dv] 5)) hgb
  have HN := readsB_new w6b #[.int .u8 192, .int .u8 dv] 5 (0, 0) [192, dv] rfl
  have HB7 := HBb.alloc (.cells #[.int .u8 192, .int .u8 dv] 5)
  have hB7 := below_alloc hBb (.cells #[.int .u8 192, .int .u8 dv] 5)
  go_wp2_with (at_builtin; refine wpList_append_full _ rfl _ _ 50 rfl 5 i0 Try.underlying50 hi hz0 hz1 hz2 _ _ 4 2 2 [40, 181, 47, 253] [192, dv] rfl rfl rfl rfl HMa HN (by decide) (by decide) ?_; intro cap w8 hR8 hY8 hs8; have HB8 := HB7.keep' hY8; have hB8 := below_then hB7 hY8; have r2 : w8.cell? ⟨W.heap.size, 2, none⟩ = some (.bool false) := HB8.cell 2 rfl; have hR9 : ReadsB w8 (w6b.heap.size + 1) L := (by rw [World.size_alloc] at hR8; rw [hL.out]; exact hR8); have hlen : L.length = 6 := (by rw [hL.out]; rfl); have hcv := ReadsB.conv (P := Try.prog) (dst := 9) hR9 (Try.underlying50) (Try.underlying5) (Try.underlying9) 6 cap hlen)
  refine (HLT.out _).mono ?_
  rintro r w9 ⟨rfl, hY9⟩
  have hR10 := hR9.keep hY9 (by rw [World.size_alloc] at hs8; omega)
  have hcw := ReadsB.conv (P := Try.prog) (dst := 9) hR10 (Try.underlying50) (Try.underlying5) (Try.underlying9) 6 cap hlen
  have hB9 := below_then hB8 hY9
  go_wp2_with fail
  go_ret2
  exact ⟨ret_two (by rw [HL2.out]; rfl) rfl, hB9⟩

set_option maxHeartbeats 4000000 in
theorem hBytes_ft0 (w z : Int) (W : World) (hc : chkV w z false = 0) (hz : z < 0) :
    Calls Try.prog 38 #[hdrVal w z false true] W fun r W' => r = .returned (.tuple #[.string (bytB w z false true), .int .i64 0]) ∧ Below W.heap.size W W' := by
  have hck := chk_ok hc
  have HK0 : kindV z false = 0 := by unfold kindV; rw [if_pos (.inl hz)]
  obtain ⟨i0, hi, hz0, hz1, hz2⟩ := info_parts IL.Try.infoU8
  have HL : Hid (bytB w z false true = strOfNums ([40, 181, 47, 253] ++ [4, descV w] ++ IL.leI (z) 0)) := by
    show _ = _
    unfold bytB bytesL
    rw [if_neg (by simp [hc]), HK0]
    rfl
  have HC := Lib.hid (fun W => hCheck_any w z false true W (by omega) (by omega))
  rw [hc] at HC
  have HK := Lib.hid (fun W => kind_any w z false true W)
  rw [HK0] at HK
  clear HK0 hc
  generalize bytB w z false true = S at *
  have HD := Lib.hid (fun W => descriptor_any w W (by omega) (by omega))
  have hdv : 0 ≤ descV w ∧ descV w ≤ 143 := by
    rcases descV_spec w (by omega) with h | h
    · have := hck.2.2.2.2.2 rfl; omega
    · omega
  generalize descV w = dv at *
  have gdv : IntKind.u8.wrap dv = dv := by rw [IntKind.wrap_u8]; omega
  obtain ⟨L, hL⟩ : ∃ L : List Int, Hid (L = [40, 181, 47, 253] ++ [4, dv]) := ⟨_, Lib.hid rfl⟩
  have HL2 : Hid (S = strOfNums L) := by show _ = _; rw [hL.out, HL.out]; simp [IL.leI]
  clear HL
  have hfr : ∀ V, (Instr.index 101 (.agg #[.int .i64 0, .int .i64 2, .int .i64 4, .int .i64 8]) (.int .i64 0)).run Try.prog V = .ok (.int .i64 0) V := fld_run 0 (by decide)
  have gwd : IntKind.i64.wrap 0 = 0 := by decide
  have HFI := Lib.hid (fun W => fields_any W)
  have HB0 := Blk.new W #[.int .i64 w, .int .i64 z, .bool false, .bool true] 52
  have hB0 := below_new (w := W) (.cells #[.int .i64 w, .int .i64 z, .bool false, .bool true] 52)
  unfold hdrVal at *
  have hor1 : bits BinOp.or IntKind.i64 0 4 = 4 := by decide
  have hor2 : bits BinOp.or IntKind.i64 4 32 = 36 := by decide
  have kc := fun (w : World) (C : Array Value) (n c : Nat) => Lib.run_convert_bytes_const (P := Try.prog) w 50 5 C n c Try.underlying50 Try.underlying5
  clear hck
  go_enter Try.func38, Try.ntmps38
  go_wp2_with fail
  refine (HC.out _).mono ?_
  rintro r W1 ⟨rfl, hY⟩
  have HB1 := HB0.keep' hY
  have hB1 := below_then hB0 hY
  clear HB0 hB0 hY
  have k0 := HB1.cell 0 rfl
  have k1 := HB1.cell 1 rfl
  have k2 := HB1.cell 2 rfl
  have k3 := HB1.cell 3 rfl
  go_wp2_with fail
  refine (HK.out _).mono ?_
  rintro r W2 ⟨rfl, hY⟩
  have HB2 := HB1.keep' hY
  have hB2 := below_then hB1 hY
  clear HB1 hB1 hY k0 k1 k2 k3
  have k1 := HB2.cell 1 rfl
  go_wp2_with fail
  go_region_held3 (fun w' => Below W.heap.size W w' ∧ Blk 52 w' W.heap.size #[.int .i64 w, .int .i64 z, .bool false, .bool true] ∧ w'.cell? ⟨W.heap.size, 1, none⟩ = some (.int .i64 z))
    ((refine ⟨?_, ?_, ?_⟩ <;> first | assumption | exact below_drew (by assumption) | exact Blk.drew (by assumption) | go_keep))
    ((go_at_call 70; refine (HFI.out _).mono ?_; rintro r w5 ⟨rfl, hB5⟩; have hBn := below_then (by first | assumption | exact And.left (by assumption)) hB5; have hHn := Blk.keep' (by first | assumption | exact And.left (And.right (by assumption))) hB5; have q4 := hHn.cell 1 rfl))
  clear HB2 hB2 k1 hB5
  have HB5 := hHn
  have hB5 := hBn
  clear hHn hBn q4
  clear HC HK hfr HFI
  have q0 : w5.cell? ⟨W.heap.size, 0, none⟩ = some (.int .i64 w) := HB5.cell 0 rfl
  have q1 : w5.cell? ⟨W.heap.size, 1, none⟩ = some (.int .i64 z) := HB5.cell 1 rfl
  have q2 : w5.cell? ⟨W.heap.size, 2, none⟩ = some (.bool false) := HB5.cell 2 rfl
  have q3 : w5.cell? ⟨W.heap.size, 3, none⟩ = some (.bool true) := HB5.cell 3 rfl
  have HM := readsB_new w5 #[.int .u8 40, .int .u8 181, .int .u8 47, .int .u8 253] 5 (4, 5) [40, 181, 47, 253] rfl
  have HB6 := HB5.alloc (.cells #[.int .u8 40, .int .u8 181, .int .u8 47, .int .u8 253] 5 (4, 5))
  have hB6 := below_alloc hB5 (.cells #[.int .u8 40, .int .u8 181, .int .u8 47, .int .u8 253] 5 (4, 5))
  have hg6 : w5.heap.size < (w5.alloc (.cells #[.int .u8 40, .int .u8 181, .int .u8 47, .int .u8 253] 5 (4, 5))).heap.size := by simp
  go_upto_region 9 with fail
  generalize w5.alloc (.cells #[.int .u8 40, .int .u8 181, .int .u8 47, .int .u8 253] 5 (4, 5)) = w6 at *
  generalize w5.heap.size = g0 at *
  clear q0 q1 q2 q3 HB5 hB5
  have q0 : w6.cell? ⟨W.heap.size, 0, none⟩ = some (.int .i64 w) := HB6.cell 0 rfl
  have q1 : w6.cell? ⟨W.heap.size, 1, none⟩ = some (.int .i64 z) := HB6.cell 1 rfl
  have q2 : w6.cell? ⟨W.heap.size, 2, none⟩ = some (.bool false) := HB6.cell 2 rfl
  have q3 : w6.cell? ⟨W.heap.size, 3, none⟩ = some (.bool true) := HB6.cell 3 rfl
  go_wp2_with fail
  refine (HD.out _).mono ?_
  rintro r w6b ⟨rfl, hY⟩
  have HMb := HM.keep hY hg6
  have HBb := HB6.keep' hY
  have hBb := below_then hB6 hY
  have hgb : g0 < w6b.heap.size := by have := hY.size; omega
  clear q0 q1 q2 q3 HM HB6 hB6 hg6 hY HD w6
  have q0 : w6b.cell? ⟨W.heap.size, 0, none⟩ = some (.int .i64 w) := HBb.cell 0 rfl
  have q1 : w6b.cell? ⟨W.heap.size, 1, none⟩ = some (.int .i64 z) := HBb.cell 1 rfl
  have q2 : w6b.cell? ⟨W.heap.size, 2, none⟩ = some (.bool false) := HBb.cell 2 rfl
  have q3 : w6b.cell? ⟨W.heap.size, 3, none⟩ = some (.bool true) := HBb.cell 3 rfl
  have HMa := HMb.keep (below_new (w := w6b) (.cells #[.int .u8 4, .int .u8 dv] 5)) hgb
  have HN := readsB_new w6b #[.int .u8 4, .int .u8 dv] 5 (0, 0) [4, dv] rfl
  have HB7 := HBb.alloc (.cells #[.int .u8 4, .int .u8 dv] 5)
  have hB7 := below_alloc hBb (.cells #[.int .u8 4, .int .u8 dv] 5)
  go_wp2_with (at_builtin; refine wpList_append_full _ rfl _ _ 50 rfl 5 i0 Try.underlying50 hi hz0 hz1 hz2 _ _ 4 2 2 [40, 181, 47, 253] [4, dv] rfl rfl rfl rfl HMa HN (by decide) (by decide) ?_; intro cap w8 hR8 hY8 hs8; have HB8 := HB7.keep' hY8; have hB8 := below_then hB7 hY8; have r2 : w8.cell? ⟨W.heap.size, 2, none⟩ = some (.bool false) := HB8.cell 2 rfl; have hR9 : ReadsB w8 (w6b.heap.size + 1) L := (by rw [World.size_alloc] at hR8; rw [hL.out]; exact hR8); have hlen : L.length = 6 := (by rw [hL.out]; rfl); have hcv := ReadsB.conv (P := Try.prog) (dst := 9) hR9 (Try.underlying50) (Try.underlying5) (Try.underlying9) 6 cap hlen)
  go_ret2
  exact ⟨ret_two (by rw [HL2.out]; rfl) rfl, hB8⟩

set_option maxHeartbeats 4000000 in
theorem hBytes_ft1 (w z : Int) (W : World) (hc : chkV w z false = 0) (hz : 256 ≤ z ∧ z < 65792) :
    Calls Try.prog 38 #[hdrVal w z false true] W fun r W' => r = .returned (.tuple #[.string (bytB w z false true), .int .i64 0]) ∧ Below W.heap.size W W' := by
  have hck := chk_ok hc
  have HK0 : kindV z false = 1 := by unfold kindV; rw [if_neg (by simp; omega), if_pos hz]
  obtain ⟨i0, hi, hz0, hz1, hz2⟩ := info_parts IL.Try.infoU8
  have HL : Hid (bytB w z false true = strOfNums ([40, 181, 47, 253] ++ [68, descV w] ++ IL.leI (z - 256) 2)) := by
    show _ = _
    unfold bytB bytesL
    rw [if_neg (by simp [hc]), HK0]
    rfl
  have HC := Lib.hid (fun W => hCheck_any w z false true W (by omega) (by omega))
  rw [hc] at HC
  have HK := Lib.hid (fun W => kind_any w z false true W)
  rw [HK0] at HK
  clear HK0 hc
  generalize bytB w z false true = S at *
  have HD := Lib.hid (fun W => descriptor_any w W (by omega) (by omega))
  have hdv : 0 ≤ descV w ∧ descV w ≤ 143 := by
    rcases descV_spec w (by omega) with h | h
    · have := hck.2.2.2.2.2 rfl; omega
    · omega
  generalize descV w = dv at *
  have gdv : IntKind.u8.wrap dv = dv := by rw [IntKind.wrap_u8]; omega
  have hlit := little_ok (n := z - 256) (k := 2) (by decide) (by decide) (by omega) (by omega)
  have HLT : Hid (∀ W, Calls Try.prog 76 #[.int .u64 (z - 256), .int .i64 2] W fun e w' => e = .returned (.tuple #[.string (strOfNums (IL.leI (z - 256) 2)), .int .i64 0]) ∧ Below W.heap.size W w') := fun W => by
    have := IL.Little_any (z - 256) ((2 : Nat) : Int) W (by omega) (by omega)
    rw [hlit.1, hlit.2] at this
    exact this
  have gwn : IntKind.u64.wrap (z - 256) = z - 256 := by rw [IntKind.wrap_u64]; omega
  obtain ⟨L, hL⟩ : ∃ L : List Int, Hid (L = [40, 181, 47, 253] ++ [68, dv]) := ⟨_, Lib.hid rfl⟩
  have hadd := fun W => IL.run_add_nums (P := Try.prog) L (IL.leI (z - 256) 2) (by rw [hL.out]; simp [IL.leI_length]) W
  have HL2 : Hid (S = strOfNums (L ++ IL.leI (z - 256) 2)) := by show _ = _; rw [hL.out]; exact HL.out
  clear HL
  generalize IL.leI (z - 256) 2 = LE at *
  clear hlit
  have gw1 : IntKind.i64.wrap (z - 256) = z - 256 := by rw [IntKind.wrap_i64]; omega
  have hfr : ∀ V, (Instr.index 101 (.agg #[.int .i64 0, .int .i64 2, .int .i64 4, .int .i64 8]) (.int .i64 1)).run Try.prog V = .ok (.int .i64 2) V := fld_run 1 (by decide)
  have gwd : IntKind.i64.wrap 64 = 64 := by decide
  have HFI := Lib.hid (fun W => fields_any W)
  have HB0 := Blk.new W #[.int .i64 w, .int .i64 z, .bool false, .bool true] 52
  have hB0 := below_new (w := W) (.cells #[.int .i64 w, .int .i64 z, .bool false, .bool true] 52)
  unfold hdrVal at *
  have hor1 : bits BinOp.or IntKind.i64 64 4 = 68 := by decide
  have hor2 : bits BinOp.or IntKind.i64 68 32 = 100 := by decide
  have kc := fun (w : World) (C : Array Value) (n c : Nat) => Lib.run_convert_bytes_const (P := Try.prog) w 50 5 C n c Try.underlying50 Try.underlying5
  clear hck
  go_enter Try.func38, Try.ntmps38
  go_wp2_with fail
  refine (HC.out _).mono ?_
  rintro r W1 ⟨rfl, hY⟩
  have HB1 := HB0.keep' hY
  have hB1 := below_then hB0 hY
  clear HB0 hB0 hY
  have k0 := HB1.cell 0 rfl
  have k1 := HB1.cell 1 rfl
  have k2 := HB1.cell 2 rfl
  have k3 := HB1.cell 3 rfl
  go_wp2_with fail
  refine (HK.out _).mono ?_
  rintro r W2 ⟨rfl, hY⟩
  have HB2 := HB1.keep' hY
  have hB2 := below_then hB1 hY
  clear HB1 hB1 hY k0 k1 k2 k3
  have k1 := HB2.cell 1 rfl
  go_wp2_with fail
  go_region_held3 (fun w' => Below W.heap.size W w' ∧ Blk 52 w' W.heap.size #[.int .i64 w, .int .i64 z, .bool false, .bool true] ∧ w'.cell? ⟨W.heap.size, 1, none⟩ = some (.int .i64 z))
    ((refine ⟨?_, ?_, ?_⟩ <;> first | assumption | exact below_drew (by assumption) | exact Blk.drew (by assumption) | go_keep))
    ((go_at_call 70; refine (HFI.out _).mono ?_; rintro r w5 ⟨rfl, hB5⟩; have hBn := below_then (by first | assumption | exact And.left (by assumption)) hB5; have hHn := Blk.keep' (by first | assumption | exact And.left (And.right (by assumption))) hB5; have q4 := hHn.cell 1 rfl))
  clear HB2 hB2 k1 hB5
  have HB5 := hHn
  have hB5 := hBn
  clear hHn hBn q4
  clear HC HK hfr HFI
  have q0 : w5.cell? ⟨W.heap.size, 0, none⟩ = some (.int .i64 w) := HB5.cell 0 rfl
  have q1 : w5.cell? ⟨W.heap.size, 1, none⟩ = some (.int .i64 z) := HB5.cell 1 rfl
  have q2 : w5.cell? ⟨W.heap.size, 2, none⟩ = some (.bool false) := HB5.cell 2 rfl
  have q3 : w5.cell? ⟨W.heap.size, 3, none⟩ = some (.bool true) := HB5.cell 3 rfl
  have HM := readsB_new w5 #[.int .u8 40, .int .u8 181, .int .u8 47, .int .u8 253] 5 (4, 5) [40, 181, 47, 253] rfl
  have HB6 := HB5.alloc (.cells #[.int .u8 40, .int .u8 181, .int .u8 47, .int .u8 253] 5 (4, 5))
  have hB6 := below_alloc hB5 (.cells #[.int .u8 40, .int .u8 181, .int .u8 47, .int .u8 253] 5 (4, 5))
  have hg6 : w5.heap.size < (w5.alloc (.cells #[.int .u8 40, .int .u8 181, .int .u8 47, .int .u8 253] 5 (4, 5))).heap.size := by simp
  go_upto_region 9 with fail
  generalize w5.alloc (.cells #[.int .u8 40, .int .u8 181, .int .u8 47, .int .u8 253] 5 (4, 5)) = w6 at *
  generalize w5.heap.size = g0 at *
  clear q0 q1 q2 q3 HB5 hB5
  have q0 : w6.cell? ⟨W.heap.size, 0, none⟩ = some (.int .i64 w) := HB6.cell 0 rfl
  have q1 : w6.cell? ⟨W.heap.size, 1, none⟩ = some (.int .i64 z) := HB6.cell 1 rfl
  have q2 : w6.cell? ⟨W.heap.size, 2, none⟩ = some (.bool false) := HB6.cell 2 rfl
  have q3 : w6.cell? ⟨W.heap.size, 3, none⟩ = some (.bool true) := HB6.cell 3 rfl
  go_wp2_with fail
  refine (HD.out _).mono ?_
  rintro r w6b ⟨rfl, hY⟩
  have HMb := HM.keep hY hg6
  have HBb := HB6.keep' hY
  have hBb := below_then hB6 hY
  have hgb : g0 < w6b.heap.size := by have := hY.size; omega
  clear q0 q1 q2 q3 HM HB6 hB6 hg6 hY HD w6
  have q0 : w6b.cell? ⟨W.heap.size, 0, none⟩ = some (.int .i64 w) := HBb.cell 0 rfl
  have q1 : w6b.cell? ⟨W.heap.size, 1, none⟩ = some (.int .i64 z) := HBb.cell 1 rfl
  have q2 : w6b.cell? ⟨W.heap.size, 2, none⟩ = some (.bool false) := HBb.cell 2 rfl
  have q3 : w6b.cell? ⟨W.heap.size, 3, none⟩ = some (.bool true) := HBb.cell 3 rfl
  have HMa := HMb.keep (below_new (w := w6b) (.cells #[.int .u8 68, .int .u8 dv] 5)) hgb
  have HN := readsB_new w6b #[.int .u8 68, .int .u8 dv] 5 (0, 0) [68, dv] rfl
  have HB7 := HBb.alloc (.cells #[.int .u8 68, .int .u8 dv] 5)
  have hB7 := below_alloc hBb (.cells #[.int .u8 68, .int .u8 dv] 5)
  go_wp2_with (at_builtin; refine wpList_append_full _ rfl _ _ 50 rfl 5 i0 Try.underlying50 hi hz0 hz1 hz2 _ _ 4 2 2 [40, 181, 47, 253] [68, dv] rfl rfl rfl rfl HMa HN (by decide) (by decide) ?_; intro cap w8 hR8 hY8 hs8; have HB8 := HB7.keep' hY8; have hB8 := below_then hB7 hY8; have r2 : w8.cell? ⟨W.heap.size, 2, none⟩ = some (.bool false) := HB8.cell 2 rfl; have hR9 : ReadsB w8 (w6b.heap.size + 1) L := (by rw [World.size_alloc] at hR8; rw [hL.out]; exact hR8); have hlen : L.length = 6 := (by rw [hL.out]; rfl); have hcv := ReadsB.conv (P := Try.prog) (dst := 9) hR9 (Try.underlying50) (Try.underlying5) (Try.underlying9) 6 cap hlen)
  refine (HLT.out _).mono ?_
  rintro r w9 ⟨rfl, hY9⟩
  have hR10 := hR9.keep hY9 (by rw [World.size_alloc] at hs8; omega)
  have hcw := ReadsB.conv (P := Try.prog) (dst := 9) hR10 (Try.underlying50) (Try.underlying5) (Try.underlying9) 6 cap hlen
  have hB9 := below_then hB8 hY9
  go_wp2_with fail
  go_ret2
  exact ⟨ret_two (by rw [HL2.out]; rfl) rfl, hB9⟩

set_option maxHeartbeats 4000000 in
theorem hBytes_ft2 (w z : Int) (W : World) (hc : chkV w z false = 0) (hz : 0 ≤ z ∧ z < 4294967296 ∧ ¬ (256 ≤ z ∧ z < 65792)) :
    Calls Try.prog 38 #[hdrVal w z false true] W fun r W' => r = .returned (.tuple #[.string (bytB w z false true), .int .i64 0]) ∧ Below W.heap.size W W' := by
  have hck := chk_ok hc
  have HK0 : kindV z false = 2 := by unfold kindV; rw [if_neg (by simp; omega), if_neg (by omega), if_pos (by omega)]
  obtain ⟨i0, hi, hz0, hz1, hz2⟩ := info_parts IL.Try.infoU8
  have HL : Hid (bytB w z false true = strOfNums ([40, 181, 47, 253] ++ [132, descV w] ++ IL.leI (z) 4)) := by
    show _ = _
    unfold bytB bytesL
    rw [if_neg (by simp [hc]), HK0]
    rfl
  have HC := Lib.hid (fun W => hCheck_any w z false true W (by omega) (by omega))
  rw [hc] at HC
  have HK := Lib.hid (fun W => kind_any w z false true W)
  rw [HK0] at HK
  clear HK0 hc
  generalize bytB w z false true = S at *
  have HD := Lib.hid (fun W => descriptor_any w W (by omega) (by omega))
  have hdv : 0 ≤ descV w ∧ descV w ≤ 143 := by
    rcases descV_spec w (by omega) with h | h
    · have := hck.2.2.2.2.2 rfl; omega
    · omega
  generalize descV w = dv at *
  have gdv : IntKind.u8.wrap dv = dv := by rw [IntKind.wrap_u8]; omega
  have hlit := little_ok (n := z) (k := 4) (by decide) (by decide) (by omega) (by omega)
  have HLT : Hid (∀ W, Calls Try.prog 76 #[.int .u64 (z), .int .i64 4] W fun e w' => e = .returned (.tuple #[.string (strOfNums (IL.leI (z) 4)), .int .i64 0]) ∧ Below W.heap.size W w') := fun W => by
    have := IL.Little_any (z) ((4 : Nat) : Int) W (by omega) (by omega)
    rw [hlit.1, hlit.2] at this
    exact this
  have gwn : IntKind.u64.wrap (z) = z := by rw [IntKind.wrap_u64]; omega
  obtain ⟨L, hL⟩ : ∃ L : List Int, Hid (L = [40, 181, 47, 253] ++ [132, dv]) := ⟨_, Lib.hid rfl⟩
  have hadd := fun W => IL.run_add_nums (P := Try.prog) L (IL.leI (z) 4) (by rw [hL.out]; simp [IL.leI_length]) W
  have HL2 : Hid (S = strOfNums (L ++ IL.leI (z) 4)) := by show _ = _; rw [hL.out]; exact HL.out
  clear HL
  generalize IL.leI (z) 4 = LE at *
  clear hlit
  have hfr : ∀ V, (Instr.index 101 (.agg #[.int .i64 0, .int .i64 2, .int .i64 4, .int .i64 8]) (.int .i64 2)).run Try.prog V = .ok (.int .i64 4) V := fld_run 2 (by decide)
  have gwd : IntKind.i64.wrap 128 = 128 := by decide
  have HFI := Lib.hid (fun W => fields_any W)
  have HB0 := Blk.new W #[.int .i64 w, .int .i64 z, .bool false, .bool true] 52
  have hB0 := below_new (w := W) (.cells #[.int .i64 w, .int .i64 z, .bool false, .bool true] 52)
  unfold hdrVal at *
  have hor1 : bits BinOp.or IntKind.i64 128 4 = 132 := by decide
  have hor2 : bits BinOp.or IntKind.i64 132 32 = 164 := by decide
  have kc := fun (w : World) (C : Array Value) (n c : Nat) => Lib.run_convert_bytes_const (P := Try.prog) w 50 5 C n c Try.underlying50 Try.underlying5
  clear hck
  go_enter Try.func38, Try.ntmps38
  go_wp2_with fail
  refine (HC.out _).mono ?_
  rintro r W1 ⟨rfl, hY⟩
  have HB1 := HB0.keep' hY
  have hB1 := below_then hB0 hY
  clear HB0 hB0 hY
  have k0 := HB1.cell 0 rfl
  have k1 := HB1.cell 1 rfl
  have k2 := HB1.cell 2 rfl
  have k3 := HB1.cell 3 rfl
  go_wp2_with fail
  refine (HK.out _).mono ?_
  rintro r W2 ⟨rfl, hY⟩
  have HB2 := HB1.keep' hY
  have hB2 := below_then hB1 hY
  clear HB1 hB1 hY k0 k1 k2 k3
  have k1 := HB2.cell 1 rfl
  go_wp2_with fail
  go_region_held3 (fun w' => Below W.heap.size W w' ∧ Blk 52 w' W.heap.size #[.int .i64 w, .int .i64 z, .bool false, .bool true] ∧ w'.cell? ⟨W.heap.size, 1, none⟩ = some (.int .i64 z))
    ((refine ⟨?_, ?_, ?_⟩ <;> first | assumption | exact below_drew (by assumption) | exact Blk.drew (by assumption) | go_keep))
    ((go_at_call 70; refine (HFI.out _).mono ?_; rintro r w5 ⟨rfl, hB5⟩; have hBn := below_then (by first | assumption | exact And.left (by assumption)) hB5; have hHn := Blk.keep' (by first | assumption | exact And.left (And.right (by assumption))) hB5; have q4 := hHn.cell 1 rfl))
  clear HB2 hB2 k1 hB5
  have HB5 := hHn
  have hB5 := hBn
  clear hHn hBn q4
  clear HC HK hfr HFI
  have q0 : w5.cell? ⟨W.heap.size, 0, none⟩ = some (.int .i64 w) := HB5.cell 0 rfl
  have q1 : w5.cell? ⟨W.heap.size, 1, none⟩ = some (.int .i64 z) := HB5.cell 1 rfl
  have q2 : w5.cell? ⟨W.heap.size, 2, none⟩ = some (.bool false) := HB5.cell 2 rfl
  have q3 : w5.cell? ⟨W.heap.size, 3, none⟩ = some (.bool true) := HB5.cell 3 rfl
  have HM := readsB_new w5 #[.int .u8 40, .int .u8 181, .int .u8 47, .int .u8 253] 5 (4, 5) [40, 181, 47, 253] rfl
  have HB6 := HB5.alloc (.cells #[.int .u8 40, .int .u8 181, .int .u8 47, .int .u8 253] 5 (4, 5))
  have hB6 := below_alloc hB5 (.cells #[.int .u8 40, .int .u8 181, .int .u8 47, .int .u8 253] 5 (4, 5))
  have hg6 : w5.heap.size < (w5.alloc (.cells #[.int .u8 40, .int .u8 181, .int .u8 47, .int .u8 253] 5 (4, 5))).heap.size := by simp
  go_upto_region 9 with fail
  generalize w5.alloc (.cells #[.int .u8 40, .int .u8 181, .int .u8 47, .int .u8 253] 5 (4, 5)) = w6 at *
  generalize w5.heap.size = g0 at *
  clear q0 q1 q2 q3 HB5 hB5
  have q0 : w6.cell? ⟨W.heap.size, 0, none⟩ = some (.int .i64 w) := HB6.cell 0 rfl
  have q1 : w6.cell? ⟨W.heap.size, 1, none⟩ = some (.int .i64 z) := HB6.cell 1 rfl
  have q2 : w6.cell? ⟨W.heap.size, 2, none⟩ = some (.bool false) := HB6.cell 2 rfl
  have q3 : w6.cell? ⟨W.heap.size, 3, none⟩ = some (.bool true) := HB6.cell 3 rfl
  go_wp2_with fail
  refine (HD.out _).mono ?_
  rintro r w6b ⟨rfl, hY⟩
  have HMb := HM.keep hY hg6
  have HBb := HB6.keep' hY
  have hBb := below_then hB6 hY
  have hgb : g0 < w6b.heap.size := by have := hY.size; omega
  clear q0 q1 q2 q3 HM HB6 hB6 hg6 hY HD w6
  have q0 : w6b.cell? ⟨W.heap.size, 0, none⟩ = some (.int .i64 w) := HBb.cell 0 rfl
  have q1 : w6b.cell? ⟨W.heap.size, 1, none⟩ = some (.int .i64 z) := HBb.cell 1 rfl
  have q2 : w6b.cell? ⟨W.heap.size, 2, none⟩ = some (.bool false) := HBb.cell 2 rfl
  have q3 : w6b.cell? ⟨W.heap.size, 3, none⟩ = some (.bool true) := HBb.cell 3 rfl
  have HMa := HMb.keep (below_new (w := w6b) (.cells #[.int .u8 132, .int .u8 dv] 5)) hgb
  have HN := readsB_new w6b #[.int .u8 132, .int .u8 dv] 5 (0, 0) [132, dv] rfl
  have HB7 := HBb.alloc (.cells #[.int .u8 132, .int .u8 dv] 5)
  have hB7 := below_alloc hBb (.cells #[.int .u8 132, .int .u8 dv] 5)
  go_wp2_with (at_builtin; refine wpList_append_full _ rfl _ _ 50 rfl 5 i0 Try.underlying50 hi hz0 hz1 hz2 _ _ 4 2 2 [40, 181, 47, 253] [132, dv] rfl rfl rfl rfl HMa HN (by decide) (by decide) ?_; intro cap w8 hR8 hY8 hs8; have HB8 := HB7.keep' hY8; have hB8 := below_then hB7 hY8; have r2 : w8.cell? ⟨W.heap.size, 2, none⟩ = some (.bool false) := HB8.cell 2 rfl; have hR9 : ReadsB w8 (w6b.heap.size + 1) L := (by rw [World.size_alloc] at hR8; rw [hL.out]; exact hR8); have hlen : L.length = 6 := (by rw [hL.out]; rfl); have hcv := ReadsB.conv (P := Try.prog) (dst := 9) hR9 (Try.underlying50) (Try.underlying5) (Try.underlying9) 6 cap hlen)
  refine (HLT.out _).mono ?_
  rintro r w9 ⟨rfl, hY9⟩
  have hR10 := hR9.keep hY9 (by rw [World.size_alloc] at hs8; omega)
  have hcw := ReadsB.conv (P := Try.prog) (dst := 9) hR10 (Try.underlying50) (Try.underlying5) (Try.underlying9) 6 cap hlen
  have hB9 := below_then hB8 hY9
  go_wp2_with fail
  go_ret2
  exact ⟨ret_two (by rw [HL2.out]; rfl) rfl, hB9⟩

set_option maxHeartbeats 4000000 in
theorem hBytes_ft3 (w z : Int) (W : World) (hc : chkV w z false = 0) (hz : 4294967296 ≤ z) :
    Calls Try.prog 38 #[hdrVal w z false true] W fun r W' => r = .returned (.tuple #[.string (bytB w z false true), .int .i64 0]) ∧ Below W.heap.size W W' := by
  have hck := chk_ok hc
  have HK0 : kindV z false = 3 := by unfold kindV; rw [if_neg (by simp; omega), if_neg (by omega), if_neg (by omega)]
  obtain ⟨i0, hi, hz0, hz1, hz2⟩ := info_parts IL.Try.infoU8
  have HL : Hid (bytB w z false true = strOfNums ([40, 181, 47, 253] ++ [196, descV w] ++ IL.leI (z) 8)) := by
    show _ = _
    unfold bytB bytesL
    rw [if_neg (by simp [hc]), HK0]
    rfl
  have HC := Lib.hid (fun W => hCheck_any w z false true W (by omega) (by omega))
  rw [hc] at HC
  have HK := Lib.hid (fun W => kind_any w z false true W)
  rw [HK0] at HK
  clear HK0 hc
  generalize bytB w z false true = S at *
  have HD := Lib.hid (fun W => descriptor_any w W (by omega) (by omega))
  have hdv : 0 ≤ descV w ∧ descV w ≤ 143 := by
    rcases descV_spec w (by omega) with h | h
    · have := hck.2.2.2.2.2 rfl; omega
    · omega
  generalize descV w = dv at *
  have gdv : IntKind.u8.wrap dv = dv := by rw [IntKind.wrap_u8]; omega
  have hlit := little_ok (n := z) (k := 8) (by decide) (by decide) (by omega) (by omega)
  have HLT : Hid (∀ W, Calls Try.prog 76 #[.int .u64 (z), .int .i64 8] W fun e w' => e = .returned (.tuple #[.string (strOfNums (IL.leI (z) 8)), .int .i64 0]) ∧ Below W.heap.size W w') := fun W => by
    have := IL.Little_any (z) ((8 : Nat) : Int) W (by omega) (by omega)
    rw [hlit.1, hlit.2] at this
    exact this
  have gwn : IntKind.u64.wrap (z) = z := by rw [IntKind.wrap_u64]; omega
  obtain ⟨L, hL⟩ : ∃ L : List Int, Hid (L = [40, 181, 47, 253] ++ [196, dv]) := ⟨_, Lib.hid rfl⟩
  have hadd := fun W => IL.run_add_nums (P := Try.prog) L (IL.leI (z) 8) (by rw [hL.out]; simp [IL.leI_length]) W
  have HL2 : Hid (S = strOfNums (L ++ IL.leI (z) 8)) := by show _ = _; rw [hL.out]; exact HL.out
  clear HL
  generalize IL.leI (z) 8 = LE at *
  clear hlit
  have hfr : ∀ V, (Instr.index 101 (.agg #[.int .i64 0, .int .i64 2, .int .i64 4, .int .i64 8]) (.int .i64 3)).run Try.prog V = .ok (.int .i64 8) V := fld_run 3 (by decide)
  have gwd : IntKind.i64.wrap 192 = 192 := by decide
  have HFI := Lib.hid (fun W => fields_any W)
  have HB0 := Blk.new W #[.int .i64 w, .int .i64 z, .bool false, .bool true] 52
  have hB0 := below_new (w := W) (.cells #[.int .i64 w, .int .i64 z, .bool false, .bool true] 52)
  unfold hdrVal at *
  have hor1 : bits BinOp.or IntKind.i64 192 4 = 196 := by decide
  have hor2 : bits BinOp.or IntKind.i64 196 32 = 228 := by decide
  have kc := fun (w : World) (C : Array Value) (n c : Nat) => Lib.run_convert_bytes_const (P := Try.prog) w 50 5 C n c Try.underlying50 Try.underlying5
  clear hck
  go_enter Try.func38, Try.ntmps38
  go_wp2_with fail
  refine (HC.out _).mono ?_
  rintro r W1 ⟨rfl, hY⟩
  have HB1 := HB0.keep' hY
  have hB1 := below_then hB0 hY
  clear HB0 hB0 hY
  have k0 := HB1.cell 0 rfl
  have k1 := HB1.cell 1 rfl
  have k2 := HB1.cell 2 rfl
  have k3 := HB1.cell 3 rfl
  go_wp2_with fail
  refine (HK.out _).mono ?_
  rintro r W2 ⟨rfl, hY⟩
  have HB2 := HB1.keep' hY
  have hB2 := below_then hB1 hY
  clear HB1 hB1 hY k0 k1 k2 k3
  have k1 := HB2.cell 1 rfl
  go_wp2_with fail
  go_region_held3 (fun w' => Below W.heap.size W w' ∧ Blk 52 w' W.heap.size #[.int .i64 w, .int .i64 z, .bool false, .bool true] ∧ w'.cell? ⟨W.heap.size, 1, none⟩ = some (.int .i64 z))
    ((refine ⟨?_, ?_, ?_⟩ <;> first | assumption | exact below_drew (by assumption) | exact Blk.drew (by assumption) | go_keep))
    ((go_at_call 70; refine (HFI.out _).mono ?_; rintro r w5 ⟨rfl, hB5⟩; have hBn := below_then (by first | assumption | exact And.left (by assumption)) hB5; have hHn := Blk.keep' (by first | assumption | exact And.left (And.right (by assumption))) hB5; have q4 := hHn.cell 1 rfl))
  clear HB2 hB2 k1 hB5
  have HB5 := hHn
  have hB5 := hBn
  clear hHn hBn q4
  clear HC HK hfr HFI
  have q0 : w5.cell? ⟨W.heap.size, 0, none⟩ = some (.int .i64 w) := HB5.cell 0 rfl
  have q1 : w5.cell? ⟨W.heap.size, 1, none⟩ = some (.int .i64 z) := HB5.cell 1 rfl
  have q2 : w5.cell? ⟨W.heap.size, 2, none⟩ = some (.bool false) := HB5.cell 2 rfl
  have q3 : w5.cell? ⟨W.heap.size, 3, none⟩ = some (.bool true) := HB5.cell 3 rfl
  have HM := readsB_new w5 #[.int .u8 40, .int .u8 181, .int .u8 47, .int .u8 253] 5 (4, 5) [40, 181, 47, 253] rfl
  have HB6 := HB5.alloc (.cells #[.int .u8 40, .int .u8 181, .int .u8 47, .int .u8 253] 5 (4, 5))
  have hB6 := below_alloc hB5 (.cells #[.int .u8 40, .int .u8 181, .int .u8 47, .int .u8 253] 5 (4, 5))
  have hg6 : w5.heap.size < (w5.alloc (.cells #[.int .u8 40, .int .u8 181, .int .u8 47, .int .u8 253] 5 (4, 5))).heap.size := by simp
  go_upto_region 9 with fail
  generalize w5.alloc (.cells #[.int .u8 40, .int .u8 181, .int .u8 47, .int .u8 253] 5 (4, 5)) = w6 at *
  generalize w5.heap.size = g0 at *
  clear q0 q1 q2 q3 HB5 hB5
  have q0 : w6.cell? ⟨W.heap.size, 0, none⟩ = some (.int .i64 w) := HB6.cell 0 rfl
  have q1 : w6.cell? ⟨W.heap.size, 1, none⟩ = some (.int .i64 z) := HB6.cell 1 rfl
  have q2 : w6.cell? ⟨W.heap.size, 2, none⟩ = some (.bool false) := HB6.cell 2 rfl
  have q3 : w6.cell? ⟨W.heap.size, 3, none⟩ = some (.bool true) := HB6.cell 3 rfl
  go_wp2_with fail
  refine (HD.out _).mono ?_
  rintro r w6b ⟨rfl, hY⟩
  have HMb := HM.keep hY hg6
  have HBb := HB6.keep' hY
  have hBb := below_then hB6 hY
  have hgb : g0 < w6b.heap.size := by have := hY.size; omega
  clear q0 q1 q2 q3 HM HB6 hB6 hg6 hY HD w6
  have q0 : w6b.cell? ⟨W.heap.size, 0, none⟩ = some (.int .i64 w) := HBb.cell 0 rfl
  have q1 : w6b.cell? ⟨W.heap.size, 1, none⟩ = some (.int .i64 z) := HBb.cell 1 rfl
  have q2 : w6b.cell? ⟨W.heap.size, 2, none⟩ = some (.bool false) := HBb.cell 2 rfl
  have q3 : w6b.cell? ⟨W.heap.size, 3, none⟩ = some (.bool true) := HBb.cell 3 rfl
  have HMa := HMb.keep (below_new (w := w6b) (.cells #[.int .u8 196, .int .u8 dv] 5)) hgb
  have HN := readsB_new w6b #[.int .u8 196, .int .u8 dv] 5 (0, 0) [196, dv] rfl
  have HB7 := HBb.alloc (.cells #[.int .u8 196, .int .u8 dv] 5)
  have hB7 := below_alloc hBb (.cells #[.int .u8 196, .int .u8 dv] 5)
  go_wp2_with (at_builtin; refine wpList_append_full _ rfl _ _ 50 rfl 5 i0 Try.underlying50 hi hz0 hz1 hz2 _ _ 4 2 2 [40, 181, 47, 253] [196, dv] rfl rfl rfl rfl HMa HN (by decide) (by decide) ?_; intro cap w8 hR8 hY8 hs8; have HB8 := HB7.keep' hY8; have hB8 := below_then hB7 hY8; have r2 : w8.cell? ⟨W.heap.size, 2, none⟩ = some (.bool false) := HB8.cell 2 rfl; have hR9 : ReadsB w8 (w6b.heap.size + 1) L := (by rw [World.size_alloc] at hR8; rw [hL.out]; exact hR8); have hlen : L.length = 6 := (by rw [hL.out]; rfl); have hcv := ReadsB.conv (P := Try.prog) (dst := 9) hR9 (Try.underlying50) (Try.underlying5) (Try.underlying9) 6 cap hlen)
  refine (HLT.out _).mono ?_
  rintro r w9 ⟨rfl, hY9⟩
  have hR10 := hR9.keep hY9 (by rw [World.size_alloc] at hs8; omega)
  have hcw := ReadsB.conv (P := Try.prog) (dst := 9) hR10 (Try.underlying50) (Try.underlying5) (Try.underlying9) 6 cap hlen
  have hB9 := below_then hB8 hY9
  go_wp2_with fail
  go_ret2
  exact ⟨ret_two (by rw [HL2.out]; rfl) rfl, hB9⟩

end Go.Proofs.Ytfdbkpbgkpkckaa
