/-
  The walk of the laws' made (printed by wip/bin/genhdmade.py).
-/
import Derived.Test.YtfdbkpbgkpkckaaHdrMade
namespace Go.Proofs.Ytfdbkpbgkpkckaa
open Go.RowKit
set_option linter.unusedVariables false
set_option maxRecDepth 100000

set_option maxHeartbeats 4000000 in
theorem made_ff (a b : Int) (u : Bool) (W : World) (ha : -9223372036854775808 ≤ a ∧ a ≤ 9223372036854775807) (hb : -9223372036854775808 ≤ b ∧ b ≤ 9223372036854775807)
    (h3 : ¬ 0 < modI a 1048576 % 3) (h5 : ¬ modI a 1048576 % 5 = 0) :
    Calls Try.prog 50 #[.int .i64 a, .int .i64 b, .bool u] W fun r W' => r = .returned (hdrVal (mkWin (modI a 1048576)) (-1) false u) ∧ Below W.heap.size W W' := by
  have HM1 := Lib.hid (fun W => Mod_any a 1048576 W (by omega) (by omega) (by omega))
  have hkb := modI_lo (n := a) (m := 1048576) (by decide)
  have hmk := mk_ok _ hkb.1
  have hmx := mkX_bd _ hkb.1
  generalize modI a 1048576 = k at *
  obtain ⟨m17, e17⟩ : ∃ m : Nat, k % 17 = m := ⟨(k % 17).toNat, by omega⟩
  have hmw : Hid (mkX k + k / 17 % 8 * (mkX k / 8) = mkWin k) := rfl
  have hX : mkX k = 2 ^ (10 + m17) := by unfold mkX; rw [e17]; congr 1
  rw [hX] at hmw hmx
  have hx8 : (2 : Int) ^ (10 + m17) / 8 ≤ 8388608 ∧ 0 ≤ (2 : Int) ^ (10 + m17) / 8 := by omega
  have hprod : 0 ≤ k / 17 % 8 * ((2 : Int) ^ (10 + m17) / 8) ∧ k / 17 % 8 * ((2 : Int) ^ (10 + m17) / 8) ≤ 7 * 8388608 := ⟨Int.mul_nonneg (by omega) hx8.2, Int.mul_le_mul (by omega) hx8.1 hx8.2 (by omega)⟩
  generalize mkWin k = wv at *
  have g3 : decide (0 < k % 3) = false := decide_eq_false h3
  have g5 : (k % 5 == 0) = false := by simpa using h5
  unfold hdrVal
  have HR0 := Blk.new W #[.int .i64 0, .int .i64 0, .bool false, .bool false] 52
  have hB0 := below_new (w := W) (.cells #[.int .i64 0, .int .i64 0, .bool false, .bool false] 52)
  clear h3 h5 hX
  go_enter Try.func50, Try.ntmps50
  go_wp2_with fail
  refine (HM1.out _).mono ?_
  rintro r w1 ⟨rfl, rfl⟩
  go_upto_region 3 with fail
  have HR1 := HR0.alloc (.cells #[.int .i64 0, .int .i64 (-1), .bool false, .bool u] 52)
  have HH1 := Blk.new (W.alloc (.cells #[.int .i64 0, .int .i64 0, .bool false, .bool false] 52)) #[.int .i64 0, .int .i64 (-1), .bool false, .bool u] 52
  have hB1 := below_alloc hB0 (.cells #[.int .i64 0, .int .i64 (-1), .bool false, .bool u] 52)
  rw [World.size_alloc] at HH1
  generalize (W.alloc (.cells #[.int .i64 0, .int .i64 0, .bool false, .bool false] 52)).alloc (.cells #[.int .i64 0, .int .i64 (-1), .bool false, .bool u] 52) = V1 at *
  have hgr : W.heap.size ≠ W.heap.size + 1 := by omega
  have hgl : W.heap.size ≤ W.heap.size + 1 := by omega
  clear HR0 hB0
  generalize W.heap.size + 1 = gh at *
  have q0 : V1.cell? ⟨gh, 0, none⟩ = some (.int .i64 0) := HH1.cell 0 rfl
  have qz0 := HH1.fz 0
  have q1 : V1.cell? ⟨gh, 1, none⟩ = some (.int .i64 (-1)) := HH1.cell 1 rfl
  have qz1 := HH1.fz 1
  have q2 : V1.cell? ⟨gh, 2, none⟩ = some (.bool false) := HH1.cell 2 rfl
  have qz2 := HH1.fz 2
  have q3 : V1.cell? ⟨gh, 3, none⟩ = some (.bool u) := HH1.cell 3 rfl
  have qz3 := HH1.fz 3
  go_upto_region 5 with fail
  clear q0 qz0 q1 qz1 q2 qz2 q3 qz3
  rw [hmw.out]
  have HH2 : Blk 52 (V1.setCell ⟨gh, 0, none⟩ (.int .i64 wv)) gh #[.int .i64 wv, .int .i64 (-1), .bool false, .bool u] := HH1.set 0 _
  have HR2 := HR1.other ⟨gh, 0, none⟩ hgr (.int .i64 wv)
  have hB2 := hB1.setCell (p := ⟨gh, 0, none⟩) hgl (.int .i64 wv)
  generalize V1.setCell ⟨gh, 0, none⟩ (.int .i64 wv) = V2 at *
  clear HH1 HR1 hB1
  have q0 : V2.cell? ⟨gh, 0, none⟩ = some (.int .i64 wv) := HH2.cell 0 rfl
  have qz0 := HH2.fz 0
  have q1 : V2.cell? ⟨gh, 1, none⟩ = some (.int .i64 (-1)) := HH2.cell 1 rfl
  have qz1 := HH2.fz 1
  have q2 : V2.cell? ⟨gh, 2, none⟩ = some (.bool false) := HH2.cell 2 rfl
  have qz2 := HH2.fz 2
  have q3 : V2.cell? ⟨gh, 3, none⟩ = some (.bool u) := HH2.cell 3 rfl
  have qz3 := HH2.fz 3
  go_upto_region 8 with fail
  clear q0 qz0 q1 qz1 q2 qz2 q3 qz3
  have q0 : V2.cell? ⟨gh, 0, none⟩ = some (.int .i64 wv) := HH2.cell 0 rfl
  have qz0 := HH2.fz 0
  have q1 : V2.cell? ⟨gh, 1, none⟩ = some (.int .i64 (-1)) := HH2.cell 1 rfl
  have qz1 := HH2.fz 1
  have q2 : V2.cell? ⟨gh, 2, none⟩ = some (.bool false) := HH2.cell 2 rfl
  have qz2 := HH2.fz 2
  have q3 : V2.cell? ⟨gh, 3, none⟩ = some (.bool u) := HH2.cell 3 rfl
  have qz3 := HH2.fz 3
  have o0 : V2.cell? ⟨W.heap.size, 0, none⟩ = some (.int .i64 0) := HR2.cell 0 rfl
  have oz0 := HR2.fz 0
  have o1 : V2.cell? ⟨W.heap.size, 1, none⟩ = some (.int .i64 0) := HR2.cell 1 rfl
  have oz1 := HR2.fz 1
  have o2 : V2.cell? ⟨W.heap.size, 2, none⟩ = some (.bool false) := HR2.cell 2 rfl
  have oz2 := HR2.fz 2
  have o3 : V2.cell? ⟨W.heap.size, 3, none⟩ = some (.bool false) := HR2.cell 3 rfl
  have oz3 := HR2.fz 3
  have HRf : Blk 52 ((((V2.setCell ⟨W.heap.size, 0, none⟩ (.int .i64 wv)).setCell ⟨W.heap.size, 1, none⟩ (.int .i64 (-1))).setCell ⟨W.heap.size, 2, none⟩ (.bool false)).setCell ⟨W.heap.size, 3, none⟩ (.bool u)) W.heap.size #[.int .i64 wv, .int .i64 (-1), .bool false, .bool u] := (((HR2.set 0 _).set 1 _).set 2 _).set 3 _
  have hBf := (((hB2.setCell (p := ⟨W.heap.size, 0, none⟩) (Nat.le_refl _) (.int .i64 wv)).setCell (p := ⟨W.heap.size, 1, none⟩) (Nat.le_refl _) (.int .i64 (-1))).setCell (p := ⟨W.heap.size, 2, none⟩) (Nat.le_refl _) (.bool false)).setCell (p := ⟨W.heap.size, 3, none⟩) (Nat.le_refl _) (.bool u)
  have j0 := HRf.cell 0 rfl
  have j1 := HRf.cell 1 rfl
  have j2 := HRf.cell 2 rfl
  have j3 := HRf.cell 3 rfl
  go_wp2_with fail
  exact bodyPost_ret (v := .agg #[.int .i64 wv, .int .i64 (-1), .bool false, .bool u]) (by simp [results, Try.results50, go_sem, j0, j1, j2, j3]) rfl ⟨rfl, hBf⟩

set_option maxHeartbeats 4000000 in
theorem made_ft (a b : Int) (u : Bool) (W : World) (ha : -9223372036854775808 ≤ a ∧ a ≤ 9223372036854775807) (hb : -9223372036854775808 ≤ b ∧ b ≤ 9223372036854775807)
    (h3 : ¬ 0 < modI a 1048576 % 3) (h5 : modI a 1048576 % 5 = 0) :
    Calls Try.prog 50 #[.int .i64 a, .int .i64 b, .bool u] W fun r W' => r = .returned (hdrVal (modI b (2 ^ (modI a 1048576 / 5 % 28).toNat)) (modI b (2 ^ (modI a 1048576 / 5 % 28).toNat)) true u) ∧ Below W.heap.size W W' := by
  have HM1 := Lib.hid (fun W => Mod_any a 1048576 W (by omega) (by omega) (by omega))
  have hkb := modI_lo (n := a) (m := 1048576) (by decide)
  have hmk := mk_ok _ hkb.1
  have hmx := mkX_bd _ hkb.1
  generalize modI a 1048576 = k at *
  obtain ⟨m17, e17⟩ : ∃ m : Nat, k % 17 = m := ⟨(k % 17).toNat, by omega⟩
  have hmw : Hid (mkX k + k / 17 % 8 * (mkX k / 8) = mkWin k) := rfl
  have hX : mkX k = 2 ^ (10 + m17) := by unfold mkX; rw [e17]; congr 1
  rw [hX] at hmw hmx
  have hx8 : (2 : Int) ^ (10 + m17) / 8 ≤ 8388608 ∧ 0 ≤ (2 : Int) ^ (10 + m17) / 8 := by omega
  have hprod : 0 ≤ k / 17 % 8 * ((2 : Int) ^ (10 + m17) / 8) ∧ k / 17 % 8 * ((2 : Int) ^ (10 + m17) / 8) ≤ 7 * 8388608 := ⟨Int.mul_nonneg (by omega) hx8.2, Int.mul_le_mul (by omega) hx8.1 hx8.2 (by omega)⟩
  obtain ⟨m28, e28⟩ : ∃ m : Nat, k / 5 % 28 = m := ⟨(k / 5 % 28).toNat, by omega⟩
  have hm28 : m28 < 28 := by omega
  rw [e28, Int.toNat_natCast]
  have hp28 : (1 : Int) ≤ 2 ^ m28 ∧ (2 : Int) ^ m28 ≤ 134217728 := by
    have h1 := pow_pos2 m28
    have h2 : (2 : Int) ^ m28 ≤ 2 ^ 27 := pow_le_pow2 (by omega)
    omega
  have HM3 := Lib.hid (fun W => Mod_any b (2 ^ m28) W (by omega) (by omega) (by omega))
  have hvb := modI_lo (n := b) (m := 2 ^ m28) hp28.1
  generalize modI b (2 ^ m28) = v at *
  generalize mkWin k = wv at *
  have g3 : decide (0 < k % 3) = false := decide_eq_false h3
  have g5 : (k % 5 == 0) = true := by simpa using h5
  unfold hdrVal
  have HR0 := Blk.new W #[.int .i64 0, .int .i64 0, .bool false, .bool false] 52
  have hB0 := below_new (w := W) (.cells #[.int .i64 0, .int .i64 0, .bool false, .bool false] 52)
  clear h3 h5 hX
  go_enter Try.func50, Try.ntmps50
  go_wp2_with fail
  refine (HM1.out _).mono ?_
  rintro r w1 ⟨rfl, rfl⟩
  go_upto_region 3 with fail
  have HR1 := HR0.alloc (.cells #[.int .i64 0, .int .i64 (-1), .bool false, .bool u] 52)
  have HH1 := Blk.new (W.alloc (.cells #[.int .i64 0, .int .i64 0, .bool false, .bool false] 52)) #[.int .i64 0, .int .i64 (-1), .bool false, .bool u] 52
  have hB1 := below_alloc hB0 (.cells #[.int .i64 0, .int .i64 (-1), .bool false, .bool u] 52)
  rw [World.size_alloc] at HH1
  generalize (W.alloc (.cells #[.int .i64 0, .int .i64 0, .bool false, .bool false] 52)).alloc (.cells #[.int .i64 0, .int .i64 (-1), .bool false, .bool u] 52) = V1 at *
  have hgr : W.heap.size ≠ W.heap.size + 1 := by omega
  have hgl : W.heap.size ≤ W.heap.size + 1 := by omega
  clear HR0 hB0
  generalize W.heap.size + 1 = gh at *
  have q0 : V1.cell? ⟨gh, 0, none⟩ = some (.int .i64 0) := HH1.cell 0 rfl
  have qz0 := HH1.fz 0
  have q1 : V1.cell? ⟨gh, 1, none⟩ = some (.int .i64 (-1)) := HH1.cell 1 rfl
  have qz1 := HH1.fz 1
  have q2 : V1.cell? ⟨gh, 2, none⟩ = some (.bool false) := HH1.cell 2 rfl
  have qz2 := HH1.fz 2
  have q3 : V1.cell? ⟨gh, 3, none⟩ = some (.bool u) := HH1.cell 3 rfl
  have qz3 := HH1.fz 3
  go_upto_region 5 with fail
  clear q0 qz0 q1 qz1 q2 qz2 q3 qz3
  rw [hmw.out]
  have HH2 : Blk 52 (V1.setCell ⟨gh, 0, none⟩ (.int .i64 wv)) gh #[.int .i64 wv, .int .i64 (-1), .bool false, .bool u] := HH1.set 0 _
  have HR2 := HR1.other ⟨gh, 0, none⟩ hgr (.int .i64 wv)
  have hB2 := hB1.setCell (p := ⟨gh, 0, none⟩) hgl (.int .i64 wv)
  generalize V1.setCell ⟨gh, 0, none⟩ (.int .i64 wv) = V2 at *
  clear HH1 HR1 hB1
  have q0 : V2.cell? ⟨gh, 0, none⟩ = some (.int .i64 wv) := HH2.cell 0 rfl
  have qz0 := HH2.fz 0
  have q1 : V2.cell? ⟨gh, 1, none⟩ = some (.int .i64 (-1)) := HH2.cell 1 rfl
  have qz1 := HH2.fz 1
  have q2 : V2.cell? ⟨gh, 2, none⟩ = some (.bool false) := HH2.cell 2 rfl
  have qz2 := HH2.fz 2
  have q3 : V2.cell? ⟨gh, 3, none⟩ = some (.bool u) := HH2.cell 3 rfl
  have qz3 := HH2.fz 3
  go_upto_region 8 with fail
  clear q0 qz0 q1 qz1 q2 qz2 q3 qz3
  go_wp2_with fail
  refine (HM3.out _).mono ?_
  rintro r w3 ⟨rfl, rfl⟩
  have q0 : V2.cell? ⟨gh, 0, none⟩ = some (.int .i64 wv) := HH2.cell 0 rfl
  have qz0 := HH2.fz 0
  have q1 : V2.cell? ⟨gh, 1, none⟩ = some (.int .i64 (-1)) := HH2.cell 1 rfl
  have qz1 := HH2.fz 1
  have q2 : V2.cell? ⟨gh, 2, none⟩ = some (.bool false) := HH2.cell 2 rfl
  have qz2 := HH2.fz 2
  have q3 : V2.cell? ⟨gh, 3, none⟩ = some (.bool u) := HH2.cell 3 rfl
  have qz3 := HH2.fz 3
  go_upto_region 10 with fail
  clear q0 qz0 q1 qz1 q2 qz2 q3 qz3
  have HH3 : Blk 52 (V2.setCell ⟨gh, 2, none⟩ (.bool true)) gh #[.int .i64 wv, .int .i64 (-1), .bool true, .bool u] := HH2.set 2 _
  have HR3 := HR2.other ⟨gh, 2, none⟩ hgr (.bool true)
  have hB3 := hB2.setCell (p := ⟨gh, 2, none⟩) hgl (.bool true)
  generalize V2.setCell ⟨gh, 2, none⟩ (.bool true) = V3 at *
  clear HH2 HR2 hB2
  have HH4 : Blk 52 (V3.setCell ⟨gh, 1, none⟩ (.int .i64 v)) gh #[.int .i64 wv, .int .i64 v, .bool true, .bool u] := HH3.set 1 _
  have HR4 := HR3.other ⟨gh, 1, none⟩ hgr (.int .i64 v)
  have hB4 := hB3.setCell (p := ⟨gh, 1, none⟩) hgl (.int .i64 v)
  generalize V3.setCell ⟨gh, 1, none⟩ (.int .i64 v) = V4 at *
  clear HH3 HR3 hB3
  have q0 : V4.cell? ⟨gh, 0, none⟩ = some (.int .i64 wv) := HH4.cell 0 rfl
  have qz0 := HH4.fz 0
  have q1 : V4.cell? ⟨gh, 1, none⟩ = some (.int .i64 v) := HH4.cell 1 rfl
  have qz1 := HH4.fz 1
  have q2 : V4.cell? ⟨gh, 2, none⟩ = some (.bool true) := HH4.cell 2 rfl
  have qz2 := HH4.fz 2
  have q3 : V4.cell? ⟨gh, 3, none⟩ = some (.bool u) := HH4.cell 3 rfl
  have qz3 := HH4.fz 3
  go_upto_region 11 with fail
  clear q0 qz0 q1 qz1 q2 qz2 q3 qz3
  have HH5 : Blk 52 (V4.setCell ⟨gh, 0, none⟩ (.int .i64 v)) gh #[.int .i64 v, .int .i64 v, .bool true, .bool u] := HH4.set 0 _
  have HR5 := HR4.other ⟨gh, 0, none⟩ hgr (.int .i64 v)
  have hB5 := hB4.setCell (p := ⟨gh, 0, none⟩) hgl (.int .i64 v)
  generalize V4.setCell ⟨gh, 0, none⟩ (.int .i64 v) = V5 at *
  clear HH4 HR4 hB4
  have q0 : V5.cell? ⟨gh, 0, none⟩ = some (.int .i64 v) := HH5.cell 0 rfl
  have qz0 := HH5.fz 0
  have q1 : V5.cell? ⟨gh, 1, none⟩ = some (.int .i64 v) := HH5.cell 1 rfl
  have qz1 := HH5.fz 1
  have q2 : V5.cell? ⟨gh, 2, none⟩ = some (.bool true) := HH5.cell 2 rfl
  have qz2 := HH5.fz 2
  have q3 : V5.cell? ⟨gh, 3, none⟩ = some (.bool u) := HH5.cell 3 rfl
  have qz3 := HH5.fz 3
  have o0 : V5.cell? ⟨W.heap.size, 0, none⟩ = some (.int .i64 0) := HR5.cell 0 rfl
  have oz0 := HR5.fz 0
  have o1 : V5.cell? ⟨W.heap.size, 1, none⟩ = some (.int .i64 0) := HR5.cell 1 rfl
  have oz1 := HR5.fz 1
  have o2 : V5.cell? ⟨W.heap.size, 2, none⟩ = some (.bool false) := HR5.cell 2 rfl
  have oz2 := HR5.fz 2
  have o3 : V5.cell? ⟨W.heap.size, 3, none⟩ = some (.bool false) := HR5.cell 3 rfl
  have oz3 := HR5.fz 3
  have HRf : Blk 52 ((((V5.setCell ⟨W.heap.size, 0, none⟩ (.int .i64 v)).setCell ⟨W.heap.size, 1, none⟩ (.int .i64 v)).setCell ⟨W.heap.size, 2, none⟩ (.bool true)).setCell ⟨W.heap.size, 3, none⟩ (.bool u)) W.heap.size #[.int .i64 v, .int .i64 v, .bool true, .bool u] := (((HR5.set 0 _).set 1 _).set 2 _).set 3 _
  have hBf := (((hB5.setCell (p := ⟨W.heap.size, 0, none⟩) (Nat.le_refl _) (.int .i64 v)).setCell (p := ⟨W.heap.size, 1, none⟩) (Nat.le_refl _) (.int .i64 v)).setCell (p := ⟨W.heap.size, 2, none⟩) (Nat.le_refl _) (.bool true)).setCell (p := ⟨W.heap.size, 3, none⟩) (Nat.le_refl _) (.bool u)
  have j0 := HRf.cell 0 rfl
  have j1 := HRf.cell 1 rfl
  have j2 := HRf.cell 2 rfl
  have j3 := HRf.cell 3 rfl
  go_wp2_with fail
  exact bodyPost_ret (v := .agg #[.int .i64 v, .int .i64 v, .bool true, .bool u]) (by simp [results, Try.results50, go_sem, j0, j1, j2, j3]) rfl ⟨rfl, hBf⟩

set_option maxHeartbeats 4000000 in
theorem made_tf (a b : Int) (u : Bool) (W : World) (ha : -9223372036854775808 ≤ a ∧ a ≤ 9223372036854775807) (hb : -9223372036854775808 ≤ b ∧ b ≤ 9223372036854775807)
    (h3 : 0 < modI a 1048576 % 3) (h5 : ¬ modI a 1048576 % 5 = 0) :
    Calls Try.prog 50 #[.int .i64 a, .int .i64 b, .bool u] W fun r W' => r = .returned (hdrVal (mkWin (modI a 1048576)) (modI b 1099511627776 / 2 ^ (modI a 1048576 / 3 % 40).toNat) false u) ∧ Below W.heap.size W W' := by
  have HM1 := Lib.hid (fun W => Mod_any a 1048576 W (by omega) (by omega) (by omega))
  have hkb := modI_lo (n := a) (m := 1048576) (by decide)
  have hmk := mk_ok _ hkb.1
  have hmx := mkX_bd _ hkb.1
  generalize modI a 1048576 = k at *
  obtain ⟨m17, e17⟩ : ∃ m : Nat, k % 17 = m := ⟨(k % 17).toNat, by omega⟩
  have hmw : Hid (mkX k + k / 17 % 8 * (mkX k / 8) = mkWin k) := rfl
  have hX : mkX k = 2 ^ (10 + m17) := by unfold mkX; rw [e17]; congr 1
  rw [hX] at hmw hmx
  have hx8 : (2 : Int) ^ (10 + m17) / 8 ≤ 8388608 ∧ 0 ≤ (2 : Int) ^ (10 + m17) / 8 := by omega
  have hprod : 0 ≤ k / 17 % 8 * ((2 : Int) ^ (10 + m17) / 8) ∧ k / 17 % 8 * ((2 : Int) ^ (10 + m17) / 8) ≤ 7 * 8388608 := ⟨Int.mul_nonneg (by omega) hx8.2, Int.mul_le_mul (by omega) hx8.1 hx8.2 (by omega)⟩
  have HM2 := Lib.hid (fun W => Mod_any b 1099511627776 W (by omega) (by omega) (by omega))
  have hnb := modI_lo (n := b) (m := 1099511627776) (by decide)
  obtain ⟨m40, e40⟩ : ∃ m : Nat, k / 3 % 40 = m := ⟨(k / 3 % 40).toNat, by omega⟩
  have hm40 : m40 < 40 := by omega
  rw [e40, Int.toNat_natCast]
  generalize modI b 1099511627776 = n at *
  generalize mkWin k = wv at *
  have g3 : decide (0 < k % 3) = true := decide_eq_true h3
  have g5 : (k % 5 == 0) = false := by simpa using h5
  unfold hdrVal
  have HR0 := Blk.new W #[.int .i64 0, .int .i64 0, .bool false, .bool false] 52
  have hB0 := below_new (w := W) (.cells #[.int .i64 0, .int .i64 0, .bool false, .bool false] 52)
  clear h3 h5 hX
  go_enter Try.func50, Try.ntmps50
  go_wp2_with fail
  refine (HM1.out _).mono ?_
  rintro r w1 ⟨rfl, rfl⟩
  go_upto_region 3 with fail
  have HR1 := HR0.alloc (.cells #[.int .i64 0, .int .i64 (-1), .bool false, .bool u] 52)
  have HH1 := Blk.new (W.alloc (.cells #[.int .i64 0, .int .i64 0, .bool false, .bool false] 52)) #[.int .i64 0, .int .i64 (-1), .bool false, .bool u] 52
  have hB1 := below_alloc hB0 (.cells #[.int .i64 0, .int .i64 (-1), .bool false, .bool u] 52)
  rw [World.size_alloc] at HH1
  generalize (W.alloc (.cells #[.int .i64 0, .int .i64 0, .bool false, .bool false] 52)).alloc (.cells #[.int .i64 0, .int .i64 (-1), .bool false, .bool u] 52) = V1 at *
  have hgr : W.heap.size ≠ W.heap.size + 1 := by omega
  have hgl : W.heap.size ≤ W.heap.size + 1 := by omega
  clear HR0 hB0
  generalize W.heap.size + 1 = gh at *
  have q0 : V1.cell? ⟨gh, 0, none⟩ = some (.int .i64 0) := HH1.cell 0 rfl
  have qz0 := HH1.fz 0
  have q1 : V1.cell? ⟨gh, 1, none⟩ = some (.int .i64 (-1)) := HH1.cell 1 rfl
  have qz1 := HH1.fz 1
  have q2 : V1.cell? ⟨gh, 2, none⟩ = some (.bool false) := HH1.cell 2 rfl
  have qz2 := HH1.fz 2
  have q3 : V1.cell? ⟨gh, 3, none⟩ = some (.bool u) := HH1.cell 3 rfl
  have qz3 := HH1.fz 3
  go_upto_region 5 with fail
  clear q0 qz0 q1 qz1 q2 qz2 q3 qz3
  rw [hmw.out]
  have HH2 : Blk 52 (V1.setCell ⟨gh, 0, none⟩ (.int .i64 wv)) gh #[.int .i64 wv, .int .i64 (-1), .bool false, .bool u] := HH1.set 0 _
  have HR2 := HR1.other ⟨gh, 0, none⟩ hgr (.int .i64 wv)
  have hB2 := hB1.setCell (p := ⟨gh, 0, none⟩) hgl (.int .i64 wv)
  generalize V1.setCell ⟨gh, 0, none⟩ (.int .i64 wv) = V2 at *
  clear HH1 HR1 hB1
  go_wp2_with fail
  refine (HM2.out _).mono ?_
  rintro r w2 ⟨rfl, rfl⟩
  have q0 : V2.cell? ⟨gh, 0, none⟩ = some (.int .i64 wv) := HH2.cell 0 rfl
  have qz0 := HH2.fz 0
  have q1 : V2.cell? ⟨gh, 1, none⟩ = some (.int .i64 (-1)) := HH2.cell 1 rfl
  have qz1 := HH2.fz 1
  have q2 : V2.cell? ⟨gh, 2, none⟩ = some (.bool false) := HH2.cell 2 rfl
  have qz2 := HH2.fz 2
  have q3 : V2.cell? ⟨gh, 3, none⟩ = some (.bool u) := HH2.cell 3 rfl
  have qz3 := HH2.fz 3
  go_upto_region 8 with fail
  clear q0 qz0 q1 qz1 q2 qz2 q3 qz3
  have HH3 : Blk 52 (V2.setCell ⟨gh, 1, none⟩ (.int .i64 (n / 2 ^ m40))) gh #[.int .i64 wv, .int .i64 (n / 2 ^ m40), .bool false, .bool u] := HH2.set 1 _
  have HR3 := HR2.other ⟨gh, 1, none⟩ hgr (.int .i64 (n / 2 ^ m40))
  have hB3 := hB2.setCell (p := ⟨gh, 1, none⟩) hgl (.int .i64 (n / 2 ^ m40))
  generalize V2.setCell ⟨gh, 1, none⟩ (.int .i64 (n / 2 ^ m40)) = V3 at *
  clear HH2 HR2 hB2
  have q0 : V3.cell? ⟨gh, 0, none⟩ = some (.int .i64 wv) := HH3.cell 0 rfl
  have qz0 := HH3.fz 0
  have q1 : V3.cell? ⟨gh, 1, none⟩ = some (.int .i64 (n / 2 ^ m40)) := HH3.cell 1 rfl
  have qz1 := HH3.fz 1
  have q2 : V3.cell? ⟨gh, 2, none⟩ = some (.bool false) := HH3.cell 2 rfl
  have qz2 := HH3.fz 2
  have q3 : V3.cell? ⟨gh, 3, none⟩ = some (.bool u) := HH3.cell 3 rfl
  have qz3 := HH3.fz 3
  have o0 : V3.cell? ⟨W.heap.size, 0, none⟩ = some (.int .i64 0) := HR3.cell 0 rfl
  have oz0 := HR3.fz 0
  have o1 : V3.cell? ⟨W.heap.size, 1, none⟩ = some (.int .i64 0) := HR3.cell 1 rfl
  have oz1 := HR3.fz 1
  have o2 : V3.cell? ⟨W.heap.size, 2, none⟩ = some (.bool false) := HR3.cell 2 rfl
  have oz2 := HR3.fz 2
  have o3 : V3.cell? ⟨W.heap.size, 3, none⟩ = some (.bool false) := HR3.cell 3 rfl
  have oz3 := HR3.fz 3
  have HRf : Blk 52 ((((V3.setCell ⟨W.heap.size, 0, none⟩ (.int .i64 wv)).setCell ⟨W.heap.size, 1, none⟩ (.int .i64 (n / 2 ^ m40))).setCell ⟨W.heap.size, 2, none⟩ (.bool false)).setCell ⟨W.heap.size, 3, none⟩ (.bool u)) W.heap.size #[.int .i64 wv, .int .i64 (n / 2 ^ m40), .bool false, .bool u] := (((HR3.set 0 _).set 1 _).set 2 _).set 3 _
  have hBf := (((hB3.setCell (p := ⟨W.heap.size, 0, none⟩) (Nat.le_refl _) (.int .i64 wv)).setCell (p := ⟨W.heap.size, 1, none⟩) (Nat.le_refl _) (.int .i64 (n / 2 ^ m40))).setCell (p := ⟨W.heap.size, 2, none⟩) (Nat.le_refl _) (.bool false)).setCell (p := ⟨W.heap.size, 3, none⟩) (Nat.le_refl _) (.bool u)
  have j0 := HRf.cell 0 rfl
  have j1 := HRf.cell 1 rfl
  have j2 := HRf.cell 2 rfl
  have j3 := HRf.cell 3 rfl
  go_wp2_with fail
  exact bodyPost_ret (v := .agg #[.int .i64 wv, .int .i64 (n / 2 ^ m40), .bool false, .bool u]) (by simp [results, Try.results50, go_sem, j0, j1, j2, j3]) rfl ⟨rfl, hBf⟩

set_option maxHeartbeats 4000000 in
theorem made_tt (a b : Int) (u : Bool) (W : World) (ha : -9223372036854775808 ≤ a ∧ a ≤ 9223372036854775807) (hb : -9223372036854775808 ≤ b ∧ b ≤ 9223372036854775807)
    (h3 : 0 < modI a 1048576 % 3) (h5 : modI a 1048576 % 5 = 0) :
    Calls Try.prog 50 #[.int .i64 a, .int .i64 b, .bool u] W fun r W' => r = .returned (hdrVal (modI b (2 ^ (modI a 1048576 / 5 % 28).toNat)) (modI b (2 ^ (modI a 1048576 / 5 % 28).toNat)) true u) ∧ Below W.heap.size W W' := by
  have HM1 := Lib.hid (fun W => Mod_any a 1048576 W (by omega) (by omega) (by omega))
  have hkb := modI_lo (n := a) (m := 1048576) (by decide)
  have hmk := mk_ok _ hkb.1
  have hmx := mkX_bd _ hkb.1
  generalize modI a 1048576 = k at *
  obtain ⟨m17, e17⟩ : ∃ m : Nat, k % 17 = m := ⟨(k % 17).toNat, by omega⟩
  have hmw : Hid (mkX k + k / 17 % 8 * (mkX k / 8) = mkWin k) := rfl
  have hX : mkX k = 2 ^ (10 + m17) := by unfold mkX; rw [e17]; congr 1
  rw [hX] at hmw hmx
  have hx8 : (2 : Int) ^ (10 + m17) / 8 ≤ 8388608 ∧ 0 ≤ (2 : Int) ^ (10 + m17) / 8 := by omega
  have hprod : 0 ≤ k / 17 % 8 * ((2 : Int) ^ (10 + m17) / 8) ∧ k / 17 % 8 * ((2 : Int) ^ (10 + m17) / 8) ≤ 7 * 8388608 := ⟨Int.mul_nonneg (by omega) hx8.2, Int.mul_le_mul (by omega) hx8.1 hx8.2 (by omega)⟩
  have HM2 := Lib.hid (fun W => Mod_any b 1099511627776 W (by omega) (by omega) (by omega))
  have hnb := modI_lo (n := b) (m := 1099511627776) (by decide)
  obtain ⟨m40, e40⟩ : ∃ m : Nat, k / 3 % 40 = m := ⟨(k / 3 % 40).toNat, by omega⟩
  have hm40 : m40 < 40 := by omega
  generalize modI b 1099511627776 = n at *
  obtain ⟨m28, e28⟩ : ∃ m : Nat, k / 5 % 28 = m := ⟨(k / 5 % 28).toNat, by omega⟩
  have hm28 : m28 < 28 := by omega
  rw [e28, Int.toNat_natCast]
  have hp28 : (1 : Int) ≤ 2 ^ m28 ∧ (2 : Int) ^ m28 ≤ 134217728 := by
    have h1 := pow_pos2 m28
    have h2 : (2 : Int) ^ m28 ≤ 2 ^ 27 := pow_le_pow2 (by omega)
    omega
  have HM3 := Lib.hid (fun W => Mod_any b (2 ^ m28) W (by omega) (by omega) (by omega))
  have hvb := modI_lo (n := b) (m := 2 ^ m28) hp28.1
  generalize modI b (2 ^ m28) = v at *
  generalize mkWin k = wv at *
  have g3 : decide (0 < k % 3) = true := decide_eq_true h3
  have g5 : (k % 5 == 0) = true := by simpa using h5
  unfold hdrVal
  have HR0 := Blk.new W #[.int .i64 0, .int .i64 0, .bool false, .bool false] 52
  have hB0 := below_new (w := W) (.cells #[.int .i64 0, .int .i64 0, .bool false, .bool false] 52)
  clear h3 h5 hX
  go_enter Try.func50, Try.ntmps50
  go_wp2_with fail
  refine (HM1.out _).mono ?_
  rintro r w1 ⟨rfl, rfl⟩
  go_upto_region 3 with fail
  have HR1 := HR0.alloc (.cells #[.int .i64 0, .int .i64 (-1), .bool false, .bool u] 52)
  have HH1 := Blk.new (W.alloc (.cells #[.int .i64 0, .int .i64 0, .bool false, .bool false] 52)) #[.int .i64 0, .int .i64 (-1), .bool false, .bool u] 52
  have hB1 := below_alloc hB0 (.cells #[.int .i64 0, .int .i64 (-1), .bool false, .bool u] 52)
  rw [World.size_alloc] at HH1
  generalize (W.alloc (.cells #[.int .i64 0, .int .i64 0, .bool false, .bool false] 52)).alloc (.cells #[.int .i64 0, .int .i64 (-1), .bool false, .bool u] 52) = V1 at *
  have hgr : W.heap.size ≠ W.heap.size + 1 := by omega
  have hgl : W.heap.size ≤ W.heap.size + 1 := by omega
  clear HR0 hB0
  generalize W.heap.size + 1 = gh at *
  have q0 : V1.cell? ⟨gh, 0, none⟩ = some (.int .i64 0) := HH1.cell 0 rfl
  have qz0 := HH1.fz 0
  have q1 : V1.cell? ⟨gh, 1, none⟩ = some (.int .i64 (-1)) := HH1.cell 1 rfl
  have qz1 := HH1.fz 1
  have q2 : V1.cell? ⟨gh, 2, none⟩ = some (.bool false) := HH1.cell 2 rfl
  have qz2 := HH1.fz 2
  have q3 : V1.cell? ⟨gh, 3, none⟩ = some (.bool u) := HH1.cell 3 rfl
  have qz3 := HH1.fz 3
  go_upto_region 5 with fail
  clear q0 qz0 q1 qz1 q2 qz2 q3 qz3
  rw [hmw.out]
  have HH2 : Blk 52 (V1.setCell ⟨gh, 0, none⟩ (.int .i64 wv)) gh #[.int .i64 wv, .int .i64 (-1), .bool false, .bool u] := HH1.set 0 _
  have HR2 := HR1.other ⟨gh, 0, none⟩ hgr (.int .i64 wv)
  have hB2 := hB1.setCell (p := ⟨gh, 0, none⟩) hgl (.int .i64 wv)
  generalize V1.setCell ⟨gh, 0, none⟩ (.int .i64 wv) = V2 at *
  clear HH1 HR1 hB1
  go_wp2_with fail
  refine (HM2.out _).mono ?_
  rintro r w2 ⟨rfl, rfl⟩
  have q0 : V2.cell? ⟨gh, 0, none⟩ = some (.int .i64 wv) := HH2.cell 0 rfl
  have qz0 := HH2.fz 0
  have q1 : V2.cell? ⟨gh, 1, none⟩ = some (.int .i64 (-1)) := HH2.cell 1 rfl
  have qz1 := HH2.fz 1
  have q2 : V2.cell? ⟨gh, 2, none⟩ = some (.bool false) := HH2.cell 2 rfl
  have qz2 := HH2.fz 2
  have q3 : V2.cell? ⟨gh, 3, none⟩ = some (.bool u) := HH2.cell 3 rfl
  have qz3 := HH2.fz 3
  go_upto_region 8 with fail
  clear q0 qz0 q1 qz1 q2 qz2 q3 qz3
  have HH3 : Blk 52 (V2.setCell ⟨gh, 1, none⟩ (.int .i64 (n / 2 ^ m40))) gh #[.int .i64 wv, .int .i64 (n / 2 ^ m40), .bool false, .bool u] := HH2.set 1 _
  have HR3 := HR2.other ⟨gh, 1, none⟩ hgr (.int .i64 (n / 2 ^ m40))
  have hB3 := hB2.setCell (p := ⟨gh, 1, none⟩) hgl (.int .i64 (n / 2 ^ m40))
  generalize V2.setCell ⟨gh, 1, none⟩ (.int .i64 (n / 2 ^ m40)) = V3 at *
  clear HH2 HR2 hB2
  go_wp2_with fail
  refine (HM3.out _).mono ?_
  rintro r w3 ⟨rfl, rfl⟩
  have q0 : V3.cell? ⟨gh, 0, none⟩ = some (.int .i64 wv) := HH3.cell 0 rfl
  have qz0 := HH3.fz 0
  have q1 : V3.cell? ⟨gh, 1, none⟩ = some (.int .i64 (n / 2 ^ m40)) := HH3.cell 1 rfl
  have qz1 := HH3.fz 1
  have q2 : V3.cell? ⟨gh, 2, none⟩ = some (.bool false) := HH3.cell 2 rfl
  have qz2 := HH3.fz 2
  have q3 : V3.cell? ⟨gh, 3, none⟩ = some (.bool u) := HH3.cell 3 rfl
  have qz3 := HH3.fz 3
  go_upto_region 10 with fail
  clear q0 qz0 q1 qz1 q2 qz2 q3 qz3
  have HH4 : Blk 52 (V3.setCell ⟨gh, 2, none⟩ (.bool true)) gh #[.int .i64 wv, .int .i64 (n / 2 ^ m40), .bool true, .bool u] := HH3.set 2 _
  have HR4 := HR3.other ⟨gh, 2, none⟩ hgr (.bool true)
  have hB4 := hB3.setCell (p := ⟨gh, 2, none⟩) hgl (.bool true)
  generalize V3.setCell ⟨gh, 2, none⟩ (.bool true) = V4 at *
  clear HH3 HR3 hB3
  have HH5 : Blk 52 (V4.setCell ⟨gh, 1, none⟩ (.int .i64 v)) gh #[.int .i64 wv, .int .i64 v, .bool true, .bool u] := HH4.set 1 _
  have HR5 := HR4.other ⟨gh, 1, none⟩ hgr (.int .i64 v)
  have hB5 := hB4.setCell (p := ⟨gh, 1, none⟩) hgl (.int .i64 v)
  generalize V4.setCell ⟨gh, 1, none⟩ (.int .i64 v) = V5 at *
  clear HH4 HR4 hB4
  have q0 : V5.cell? ⟨gh, 0, none⟩ = some (.int .i64 wv) := HH5.cell 0 rfl
  have qz0 := HH5.fz 0
  have q1 : V5.cell? ⟨gh, 1, none⟩ = some (.int .i64 v) := HH5.cell 1 rfl
  have qz1 := HH5.fz 1
  have q2 : V5.cell? ⟨gh, 2, none⟩ = some (.bool true) := HH5.cell 2 rfl
  have qz2 := HH5.fz 2
  have q3 : V5.cell? ⟨gh, 3, none⟩ = some (.bool u) := HH5.cell 3 rfl
  have qz3 := HH5.fz 3
  go_upto_region 11 with fail
  clear q0 qz0 q1 qz1 q2 qz2 q3 qz3
  have HH6 : Blk 52 (V5.setCell ⟨gh, 0, none⟩ (.int .i64 v)) gh #[.int .i64 v, .int .i64 v, .bool true, .bool u] := HH5.set 0 _
  have HR6 := HR5.other ⟨gh, 0, none⟩ hgr (.int .i64 v)
  have hB6 := hB5.setCell (p := ⟨gh, 0, none⟩) hgl (.int .i64 v)
  generalize V5.setCell ⟨gh, 0, none⟩ (.int .i64 v) = V6 at *
  clear HH5 HR5 hB5
  have q0 : V6.cell? ⟨gh, 0, none⟩ = some (.int .i64 v) := HH6.cell 0 rfl
  have qz0 := HH6.fz 0
  have q1 : V6.cell? ⟨gh, 1, none⟩ = some (.int .i64 v) := HH6.cell 1 rfl
  have qz1 := HH6.fz 1
  have q2 : V6.cell? ⟨gh, 2, none⟩ = some (.bool true) := HH6.cell 2 rfl
  have qz2 := HH6.fz 2
  have q3 : V6.cell? ⟨gh, 3, none⟩ = some (.bool u) := HH6.cell 3 rfl
  have qz3 := HH6.fz 3
  have o0 : V6.cell? ⟨W.heap.size, 0, none⟩ = some (.int .i64 0) := HR6.cell 0 rfl
  have oz0 := HR6.fz 0
  have o1 : V6.cell? ⟨W.heap.size, 1, none⟩ = some (.int .i64 0) := HR6.cell 1 rfl
  have oz1 := HR6.fz 1
  have o2 : V6.cell? ⟨W.heap.size, 2, none⟩ = some (.bool false) := HR6.cell 2 rfl
  have oz2 := HR6.fz 2
  have o3 : V6.cell? ⟨W.heap.size, 3, none⟩ = some (.bool false) := HR6.cell 3 rfl
  have oz3 := HR6.fz 3
  have HRf : Blk 52 ((((V6.setCell ⟨W.heap.size, 0, none⟩ (.int .i64 v)).setCell ⟨W.heap.size, 1, none⟩ (.int .i64 v)).setCell ⟨W.heap.size, 2, none⟩ (.bool true)).setCell ⟨W.heap.size, 3, none⟩ (.bool u)) W.heap.size #[.int .i64 v, .int .i64 v, .bool true, .bool u] := (((HR6.set 0 _).set 1 _).set 2 _).set 3 _
  have hBf := (((hB6.setCell (p := ⟨W.heap.size, 0, none⟩) (Nat.le_refl _) (.int .i64 v)).setCell (p := ⟨W.heap.size, 1, none⟩) (Nat.le_refl _) (.int .i64 v)).setCell (p := ⟨W.heap.size, 2, none⟩) (Nat.le_refl _) (.bool true)).setCell (p := ⟨W.heap.size, 3, none⟩) (Nat.le_refl _) (.bool u)
  have j0 := HRf.cell 0 rfl
  have j1 := HRf.cell 1 rfl
  have j2 := HRf.cell 2 rfl
  have j3 := HRf.cell 3 rfl
  go_wp2_with fail
  exact bodyPost_ret (v := .agg #[.int .i64 v, .int .i64 v, .bool true, .bool u]) (by simp [results, Try.results50, go_sem, j0, j1, j2, j3]) rfl ⟨rfl, hBf⟩

/-- made returns a valid header. -/
theorem made_any (a b : Int) (u : Bool) (ha : -9223372036854775808 ≤ a ∧ a ≤ 9223372036854775807) (hb : -9223372036854775808 ≤ b ∧ b ≤ 9223372036854775807) :
    ∃ (w z : Int) (i : Bool), chkV w z i = 0 ∧ ∀ W : World, Calls Try.prog 50 #[.int .i64 a, .int .i64 b, .bool u] W fun r W' => r = .returned (hdrVal w z i u) ∧ Below W.heap.size W W' := by
  have hkb := modI_lo (n := a) (m := 1048576) (by decide)
  have hmk := mk_ok _ hkb.1
  by_cases h5 : modI a 1048576 % 5 = 0
  · have hp : (1 : Int) ≤ 2 ^ (modI a 1048576 / 5 % 28).toNat ∧ (2 : Int) ^ (modI a 1048576 / 5 % 28).toNat ≤ 134217728 := by
      have h1 := pow_pos2 (modI a 1048576 / 5 % 28).toNat
      have h2 : (2 : Int) ^ (modI a 1048576 / 5 % 28).toNat ≤ 2 ^ 27 := pow_le_pow2 (by omega)
      omega
    have hv := modI_lo (n := b) (m := 2 ^ (modI a 1048576 / 5 % 28).toNat) hp.1
    refine ⟨_, _, true, chk_single (modI b (2 ^ (modI a 1048576 / 5 % 28).toNat)) (by omega) (by omega), fun W => ?_⟩
    by_cases h3 : 0 < modI a 1048576 % 3
    · exact made_tt a b u W ha hb h3 h5
    · exact made_ft a b u W ha hb h3 h5
  · by_cases h3 : 0 < modI a 1048576 % 3
    · have hn := modI_lo (n := b) (m := 1099511627776) (by decide)
      have h1 : 0 ≤ modI b 1099511627776 / 2 ^ (modI a 1048576 / 3 % 40).toNat := Int.ediv_nonneg hn.1 (Int.le_of_lt (pow_pos2 _))
      have h2 : modI b 1099511627776 / 2 ^ (modI a 1048576 / 3 % 40).toNat ≤ modI b 1099511627776 := Int.ediv_le_self _ hn.1
      exact ⟨_, _, false, chk_size hmk.1 (modI b 1099511627776 / 2 ^ (modI a 1048576 / 3 % 40).toNat) (by omega) (by omega), fun W => made_tf a b u W ha hb h3 h5⟩
    · exact ⟨_, _, false, hmk.1, fun W => made_ff a b u W ha hb h3 h5⟩

end Go.Proofs.Ytfdbkpbgkpkckaa
