/-
  The walk of the reference's Read, at five bytes and more (printed by wip/bin/genhdref.py).
-/
import Derived.Test.YtfdbkpbgkpkckaaHdrRef
namespace Go.Proofs.Ytfdbkpbgkpkckaa
open Go.RowKit
set_option linter.unusedVariables false
set_option maxRecDepth 100000
attribute [local go_sem ↓] Go.wp_at_zero Go.wp_at_succ

set_option maxHeartbeats 16000000 in
theorem rhread_long_f (s : ByteArray) (a : Nat) (w : World) (hs : s.size ≤ 4611686018427387904) (h5 : a + 5 ≤ s.size) (hsg : sgV (sb s (a + 4)) = false) :
    Calls Try.prog 37 #[.string s, .int .i64 a] w fun r w' => r = .returned (refR s a) ∧ Below w.heap.size w w' := by
  have HRm : Hid (¬ magOk s a → refR s a = badR 14 a) := fun h => by unfold refR; rw [if_pos (by omega), Int.toNat_natCast, if_neg h]
  have HRr : Hid (magOk s a → rsV (sb s (a + 4)) = true → refR s a = badR 15 ((a : Int) + 4)) := fun h h1 => by unfold refR; rw [if_pos (by omega), Int.toNat_natCast, if_pos h, if_neg (by omega), if_pos h1]
  have HRt : Hid (magOk s a → ¬ rsV (sb s (a + 4)) = true → refR s a = refTail s a (sb s (a + 4))) := fun h h1 => by unfold refR; rw [if_pos (by omega), Int.toNat_natCast, if_pos h, if_neg (by omega), if_neg h1]
  generalize refR s a = R at *
  have hd := sb_lo s (a + 4)
  have gi4 := run_index_hs (P := Try.prog) Try.underlying9 s (a + 4) (by omega)
  rw [Int.natCast_add, show ((4 : Nat) : Int) = 4 from rfl] at gi4
  generalize sb s (a + 4) = d at *
  have GI5 : Hid (a + 5 < s.size → ∀ w, (Instr.index 9 (.string s) (.int .i64 ((a : Int) + 5))).run Try.prog w = .ok (.int .u8 (sb s (a + 5))) w) := fun h => by
    have := run_index_hs (P := Try.prog) Try.underlying9 s (a + 5) h
    rw [Int.natCast_add, show ((5 : Nat) : Int) = 5 from rfl] at this
    exact this
  have HT := Lib.hid (refTail_cases s a d)
  have HNT := Lib.hid (num_two s a d)
  have hrn := num_lo s a d
  have HZ := Lib.hid (rd_zero s (nxV a d) (dictN d))
  have HZn := Lib.hid (rd_pos s (nxV a d) (dictN d))
  have HWN := Lib.hid (fun W => rwindow_any (sb s (a + 5)) W (sb_lo _ _))
  have hb5 := sb_lo s (a + 5)
  have HRD := Lib.hid (ref_reads s a d hs)
  have HX : Hid ((nxV a d : Int) = (a : Int) + 6) := by show _ = _; unfold nxV; rw [hsg]; simp; omega
  have hnxb : a + 5 ≤ nxV a d ∧ nxV a d ≤ a + 6 := by unfold nxV; split <;> omega
  have hD4 := (dictN_eq d).2
  have hK8 := (sizeN_eq d).2
  obtain ⟨k1, hk1, hk14, hkD⟩ := dict_cell hd
  obtain ⟨k2, hk2, hk24, hkK, Bv, FB1, FB2, FL1, FL2⟩ := size_cell hd
  obtain ⟨hc8, hc32, hc4⟩ := bit_tests d
  rw [hsg] at hc32 HT FB1
  skip
  clear hsg
  generalize refTail s a d = TR at *
  generalize numV s a d = N at *
  generalize rd s (nxV a d + dictN d) (sizeN d) = rN at *
  generalize rd s (nxV a d) (dictN d) = rD at *
  generalize windowV (sb s (a + 5)) = wd at *
  generalize sb s (a + 5) = b5 at *
  generalize nxV a d = nx at *
  generalize dictN d = D at *
  generalize sizeN d = K at *
  generalize sizeK d = K2 at *
  generalize smV d = sm at *
  generalize rsV d = rs at *
  have hB0 := Blk.new w #[.int .i64 0, .int .i64 0, .bool false, .bool false] 52
  have hh := hB0.alloc (.cells #[.int .i64 0, .int .i64 0] 54)
  have hf := Blk.new (w.alloc (.cells #[.int .i64 0, .int .i64 0, .bool false, .bool false] 52)) #[.int .i64 0, .int .i64 0] 54
  rw [World.size_alloc] at hf
  have hBw := below_alloc (below_new (w := w) (.cells #[.int .i64 0, .int .i64 0, .bool false, .bool false] 52)) (.cells #[.int .i64 0, .int .i64 0] 54)
  have hne : w.heap.size ≠ w.heap.size + 1 := by omega
  have HFL := Lib.hid (fun e f W => rfault_any e f W)
  clear hB0
  have g8 : decide ((a : Int) < 0) = false := decide_eq_false (by omega)
  have g9 : decide ((s.size : Int) < (a : Int)) = false := decide_eq_false (by omega)
  have g7 : decide (s.size < a) = false := decide_eq_false (by omega)
  go_enter Try.func37, Try.ntmps37
  go_wp2_with fail
  generalize (w.alloc (.cells #[.int .i64 0, .int .i64 0, .bool false, .bool false] 52)).alloc (.cells #[.int .i64 0, .int .i64 0] 54) = W0 at *
  go_loopg [7] 4 (fun m iv wr => ∃ j : Nat, j ≤ 4 ∧ m = 4 - j ∧ a + j ≤ s.size ∧ iv = .int .i64 j ∧ Hid (∀ i, i < j → sb s (a + i) = sb magicB i) ∧ Blk 52 wr w.heap.size #[.int .i64 0, .int .i64 0, .bool false, .bool false] ∧ Blk 54 wr (w.heap.size + 1) #[.int .i64 0, .int .i64 0] ∧ Below w.heap.size w wr)
  case atStart => exact ⟨0, by omega, rfl, by omega, rfl, fun i h => absurd h (by omega), hh, hf, hBw⟩
  case round =>
    obtain ⟨j, hj, rfl, haj, rfl, HM, hhR, hfR, hBR⟩ := hrel
    clear hh hf hBw
    by_cases hlt : j < 4
    · have hj4 : j < 4 := by omega
      have hja : a + j < s.size := by omega
      have g0 : decide ((j : Int) < 4) = true := decide_eq_true (by omega)
      have g1 : decide ((a : Int) + (j : Int) < (s.size : Int)) = true := decide_eq_true (by omega)
      have gw : IntKind.i64.wrap ((a : Int) + (j : Int)) = (a : Int) + (j : Int) := by rw [IntKind.wrap_i64]; omega
      have gi1 := run_index_hs (P := Try.prog) Try.underlying9 s (a + j) hja
      have gi2 := run_index_hs (P := Try.prog) Try.underlying9 magicB j hj4
      rw [Int.natCast_add] at gi1
      unfold magicB at gi2
      by_cases hq : sb s (a + j) = sb magicB j
      · have HQ : Hid (∀ i, i < j + 1 → sb s (a + i) = sb magicB i) := fun i hi => by
          rcases Nat.lt_or_ge i j with hh | hh
          · exact HM.out i hh
          · obtain rfl : i = j := by omega
            exact hq
        have g2 : (sb s (a + j) != sb magicB j) = false := by rw [hq]; simp
        unfold magicB at g2
        generalize sb s (a + j) = q1 at *
        generalize sb ⟨#[40, 181, 47, 253]⟩ j = q2 at *
        clear hq
        go_wp2_with fail
        go_quiet (fail)
        go_wp2_with fail
        go_roundg (4 - (j + 1))
        case rel => exact ⟨j + 1, by omega, rfl, by omega, by go_num, HQ.out, hhR.drewN nq, hfR.drewN nq, below_drewN hBR nq⟩
        case measure => omega
      · have HR : Hid (R = badR 14 a) := HRm.out (fun h => hq (h j hj4 hja))
        have g2 : (sb s (a + j) != sb magicB j) = true := by simpa using hq
        unfold magicB at g2
        generalize sb s (a + j) = q1 at *
        generalize sb ⟨#[40, 181, 47, 253]⟩ j = q2 at *
        clear hq
        go_wp2_with fail
        go_quiet (fail)
        go_wp2_with fail
        have hhN := hhR.drewN nq
        have hfN := hfR.drewN nq
        have hBN := below_drewN hBR nq
        generalize wr.drewN nq = WN at *
        refine (HFL.out _ _ _).mono ?_
        rintro r WX ⟨rfl, hYX⟩
        have hhX := hhN.keep' hYX
        have hfX := hfN.keep' hYX
        have hBX := below_then hBN hYX
        have hex := setHF_blk hhX hfX hne (.int .i64 0) (.int .i64 0) (.bool false) (.bool false) (.int .i64 (14)) (.int .i64 (a))
        have j0 := hex.1.cell 0 rfl
        have j1 := hex.1.cell 1 rfl
        have j2 := hex.1.cell 2 rfl
        have j3 := hex.1.cell 3 rfl
        have j4 := hex.2.cell 0 rfl
        have j5 := hex.2.cell 1 rfl
        have k0 := hhX.cell 0 rfl
        have k1 := hhX.cell 1 rfl
        have k2 := hhX.cell 2 rfl
        have k3 := hhX.cell 3 rfl
        have z0 := hhX.fz 0
        have z1 := hhX.fz 1
        have z2 := hhX.fz 2
        have z3 := hhX.fz 3
        have l0 := hfX.cell 0 rfl
        have l1 := hfX.cell 1 rfl
        have y0 := hfX.fz 0
        have y1 := hfX.fz 1
        simp only [World.setHF] at j0 j1 j2 j3 j4 j5
        clear hex
        go_wp2_with fail
        exact bodyPost_ret (v := .tuple #[.agg #[.int .i64 0, .int .i64 0, .bool false, .bool false], .int .i64 0, .agg #[.int .i64 (14), .int .i64 (a)]]) (by simp [results, Try.results37, go_sem, j0, j1, j2, j3, j4, j5]) rfl ⟨by rw [HR.out]; rfl, (setHF_below hBX (Nat.le_refl _) (by omega) _ _ _ _ _ _)⟩
    · have hM : magOk s a := fun i h4 hi => HM.out i (by omega)
      have HRr2 := Lib.hid (HRr.out hM)
      have HRt2 := Lib.hid (HRt.out hM)
      have g0 : decide ((j : Int) < 4) = false := decide_eq_false (by omega)
      have g6 : decide ((s.size : Int) - (a : Int) < 5) = false := decide_eq_false (by omega)
      have ga4 : IntKind.i64.wrap ((a : Int) + 4) = (a : Int) + 4 := by rw [IntKind.wrap_i64]; omega
      clear hM HRr HRt HRm
      cases rs
      case true =>
        have HR := Lib.hid (HRr2.out rfl)
        go_wp2_with fail
        refine (HFL.out _ _ _).mono ?_
        rintro r WX ⟨rfl, hYX⟩
        have hhX := hhR.keep' hYX
        have hfX := hfR.keep' hYX
        have hBX := below_then hBR hYX
        have hex := setHF_blk hhX hfX hne (.int .i64 0) (.int .i64 0) (.bool false) (.bool false) (.int .i64 (15)) (.int .i64 ((a : Int) + 4))
        have j0 := hex.1.cell 0 rfl
        have j1 := hex.1.cell 1 rfl
        have j2 := hex.1.cell 2 rfl
        have j3 := hex.1.cell 3 rfl
        have j4 := hex.2.cell 0 rfl
        have j5 := hex.2.cell 1 rfl
        have k0 := hhX.cell 0 rfl
        have k1 := hhX.cell 1 rfl
        have k2 := hhX.cell 2 rfl
        have k3 := hhX.cell 3 rfl
        have z0 := hhX.fz 0
        have z1 := hhX.fz 1
        have z2 := hhX.fz 2
        have z3 := hhX.fz 3
        have l0 := hfX.cell 0 rfl
        have l1 := hfX.cell 1 rfl
        have y0 := hfX.fz 0
        have y1 := hfX.fz 1
        simp only [World.setHF] at j0 j1 j2 j3 j4 j5
        clear hex
        go_wp2_with fail
        exact bodyPost_ret (v := .tuple #[.agg #[.int .i64 0, .int .i64 0, .bool false, .bool false], .int .i64 0, .agg #[.int .i64 (15), .int .i64 ((a : Int) + 4)]]) (by simp [results, Try.results37, go_sem, j0, j1, j2, j3, j4, j5]) rfl ⟨by rw [HR.out]; rfl, (setHF_below hBX (Nat.le_refl _) (by omega) _ _ _ _ _ _)⟩
      case false =>
      have HR1 : Hid (R = TR) := HRt2.out (by simp)
      clear HRr2 HRt2
      go_upto_if 94 with fail
      have hlM := hhR.lt
      have hlM2 := hfR.lt
      have hneM1 : w.heap.size ≠ wr.heap.size := by omega
      have hneM2 : w.heap.size + 1 ≠ wr.heap.size := by omega
      have hMB : w.heap.size ≤ wr.heap.size := by omega
      have hHB := Blk.new wr #[.int .i64 0, .int .i64 (-1), .bool false, .bool sm] 52
      have hhB := hhR.alloc (.cells #[.int .i64 0, .int .i64 (-1), .bool false, .bool sm] 52)
      have hfB := hfR.alloc (.cells #[.int .i64 0, .int .i64 (-1), .bool false, .bool sm] 52)
      have hBB := below_alloc hBR (.cells #[.int .i64 0, .int .i64 (-1), .bool false, .bool sm] 52)
      generalize wr.alloc (.cells #[.int .i64 0, .int .i64 (-1), .bool false, .bool sm] 52) = WB at *
      generalize wr.heap.size = wr0 at *
      clear hhR hfR hBR
      go_upto_region 18 with fail
      rw [show Value.int IntKind.i64 ((a : Int) + 5 + 1) = Value.int IntKind.i64 (nx : Int) from val_int (by rw [HX.out]; omega)]
      have hk1' := hk1.out
      have hk2' := hk2.out
      have hq1 : (0 : Int) ≤ (k1 : Int) := by omega
      have hq2 : (k1 : Int) < 4 := by omega
      have hq3 : (0 : Int) ≤ (k2 : Int) := by omega
      have hq4 : (k2 : Int) < 4 := by omega
      have hxD := (Blk.new WB #[.int .i64 0, .int .i64 1, .int .i64 2, .int .i64 4] 3).cell k1 hkD
      go_upto_region 19 with fail
      clear hxD hk1' hq1 hq2 hkD
      have hHC := hHB.alloc (.cells #[.int .i64 0, .int .i64 1, .int .i64 2, .int .i64 4] 3)
      have hhC := hhB.alloc (.cells #[.int .i64 0, .int .i64 1, .int .i64 2, .int .i64 4] 3)
      have hfC := hfB.alloc (.cells #[.int .i64 0, .int .i64 1, .int .i64 2, .int .i64 4] 3)
      have hBC := below_alloc hBB (.cells #[.int .i64 0, .int .i64 1, .int .i64 2, .int .i64 4] 3)
      generalize WB.alloc (.cells #[.int .i64 0, .int .i64 1, .int .i64 2, .int .i64 4] 3) = WC at *
      clear hHB hhB hfB hBB
      have hxK := (Blk.new WC #[.int .i64 0, .int .i64 2, .int .i64 4, .int .i64 8] 3).cell k2 hkK
      go_upto_region 20 with fail
      clear hxK hq3 hq4 hkK
      have hHD := hHC.alloc (.cells #[.int .i64 0, .int .i64 2, .int .i64 4, .int .i64 8] 3)
      have hhD := hhC.alloc (.cells #[.int .i64 0, .int .i64 2, .int .i64 4, .int .i64 8] 3)
      have hfD := hfC.alloc (.cells #[.int .i64 0, .int .i64 2, .int .i64 4, .int .i64 8] 3)
      have hBD := below_alloc hBC (.cells #[.int .i64 0, .int .i64 2, .int .i64 4, .int .i64 8] 3)
      generalize WC.alloc (.cells #[.int .i64 0, .int .i64 2, .int .i64 4, .int .i64 8] 3) = WD at *
      clear hHC hhC hfC hBC
      go_cut [112] (fun s112 wx => s112 = .bool Bv ∧ wx = WD)
      case first =>
        by_cases hK : k2 = 0
        · have g2 : ((k2 : Int) == 0) = true := by rw [hK]; rfl
          have hB := Lib.hid (FB1.out hK)
          clear hK
          go_wp2_with fail
          go_meet
          exact ⟨by rw [hB.out], rfl⟩
        · have g2 : ((k2 : Int) == 0) = false := beq_false_of_ne (by omega)
          have hB := Lib.hid (FB2.out hK)
          clear hK
          go_wp2_with fail
          go_meet
          exact ⟨by rw [hB.out], rfl⟩
      case rest =>
      obtain ⟨rfl, hWc⟩ := hcut
      subst hWc
      generalize wc = WD at *
      clear FB1 FB2 hk2'
      go_upto_if 112 with fail
      go_cut [13] (fun s13 wx => s13 = .int .i64 (K : Int) ∧ wx = WD)
      case first =>
        cases Bv
        · have hL := Lib.hid (FL2.out rfl)
          go_wp2_with fail
          go_meet
          exact ⟨by rw [hL.out], rfl⟩
        · have hL := Lib.hid (FL1.out rfl)
          go_wp2_with fail
          go_meet
          exact ⟨by rw [hL.out], rfl⟩
      case rest =>
      obtain ⟨rfl, hWc⟩ := hcut
      subst hWc
      generalize wc = WD at *
      clear FL1 FL2
      have hDK : IntKind.i64.wrap ((D : Int) + (K : Int)) = (D : Int) + (K : Int) := by rw [IntKind.wrap_i64]; omega
      have hsn : IntKind.i64.wrap ((s.size : Int) - (nx : Int)) = (s.size : Int) - (nx : Int) := by rw [IntKind.wrap_i64]; omega
      by_cases hS : s.size < nx + D + K
      · have HR := Lib.hid (HR1.out.trans (HT.out.1 hS))
        have g3 : decide ((s.size : Int) - (nx : Int) < (D : Int) + (K : Int)) = true := decide_eq_true (by omega)
        go_wp2_with fail
        refine (HFL.out _ _ _).mono ?_
        rintro r WX ⟨rfl, hYX⟩
        have hhX := hhD.keep' hYX
        have hfX := hfD.keep' hYX
        have hBX := below_then hBD hYX
        have hex := setHF_blk hhX hfX hne (.int .i64 0) (.int .i64 0) (.bool false) (.bool false) (.int .i64 (5)) (.int .i64 (s.size))
        have j0 := hex.1.cell 0 rfl
        have j1 := hex.1.cell 1 rfl
        have j2 := hex.1.cell 2 rfl
        have j3 := hex.1.cell 3 rfl
        have j4 := hex.2.cell 0 rfl
        have j5 := hex.2.cell 1 rfl
        have k0 := hhX.cell 0 rfl
        have k1 := hhX.cell 1 rfl
        have k2 := hhX.cell 2 rfl
        have k3 := hhX.cell 3 rfl
        have z0 := hhX.fz 0
        have z1 := hhX.fz 1
        have z2 := hhX.fz 2
        have z3 := hhX.fz 3
        have l0 := hfX.cell 0 rfl
        have l1 := hfX.cell 1 rfl
        have y0 := hfX.fz 0
        have y1 := hfX.fz 1
        simp only [World.setHF] at j0 j1 j2 j3 j4 j5
        clear hex
        go_wp2_with fail
        exact bodyPost_ret (v := .tuple #[.agg #[.int .i64 0, .int .i64 0, .bool false, .bool false], .int .i64 0, .agg #[.int .i64 (5), .int .i64 (s.size)]]) (by simp [results, Try.results37, go_sem, j0, j1, j2, j3, j4, j5]) rfl ⟨by rw [HR.out]; rfl, (setHF_below hBX (Nat.le_refl _) (by omega) _ _ _ _ _ _)⟩
      have HT2 := Lib.hid (And.intro (HT.out.2.1 hS) (And.intro (HT.out.2.2.1 hS) (And.intro (HT.out.2.2.2.1 hS) (And.intro (HT.out.2.2.2.2.1 hS) (And.intro (HT.out.2.2.2.2.2.1 hS) (HT.out.2.2.2.2.2.2 hS))))))
      have g3 : decide ((s.size : Int) - (nx : Int) < (D : Int) + (K : Int)) = false := decide_eq_false (by omega)
      clear HT gi4 g0 g6 ga4 g7 g8 g9 hsn
      go_wp2_with fail
      go_loopg [14] D (fun m iv wx => ∃ i : Nat, i ≤ D ∧ m = D - i ∧ iv = .int .i64 i ∧ Hid (∀ t, t < i → sb s (nx + t) = 0) ∧ wx = WD)
      case atStart => exact ⟨0, by omega, rfl, rfl, fun t h => absurd h (by omega), rfl⟩
      case round =>
      obtain ⟨i, hi, rfl, rfl, HM2, hWi⟩ := hrel
      subst hWi
      generalize wr = WD at *
      by_cases hlt2 : i < D
      · have g0 : decide ((i : Int) < (D : Int)) = true := decide_eq_true (by omega)
        have gw : IntKind.i64.wrap ((nx : Int) + (i : Int)) = (nx : Int) + (i : Int) := by rw [IntKind.wrap_i64]; omega
        have gi1 := run_index_hs (P := Try.prog) Try.underlying9 s (nx + i) (by omega)
        rw [Int.natCast_add] at gi1
        by_cases hq : sb s (nx + i) = 0
        · have HQ : Hid (∀ t, t < i + 1 → sb s (nx + t) = 0) := fun t ht => by
            rcases Nat.lt_or_ge t i with hh | hh
            · exact HM2.out t hh
            · obtain rfl : t = i := by omega
              exact hq
          have g2 : (sb s (nx + i) != 0) = false := by rw [hq]; rfl
          generalize sb s (nx + i) = q1 at *
          clear hq
          go_wp2_with fail
          go_roundg (D - (i + 1))
          case rel => exact ⟨i + 1, by omega, rfl, by go_num, HQ.out, rfl⟩
          case measure => omega
        · have HR : Hid (R = badR 16 nx) := HR1.out.trans (HT2.out.1 (HZn.out i hlt2 hq))
          have g2 : (sb s (nx + i) != 0) = true := by simpa using hq
          generalize sb s (nx + i) = q1 at *
          clear hq
          go_wp2_with fail
          refine (HFL.out _ _ _).mono ?_
          rintro r WX ⟨rfl, hYX⟩
          have hhX := hhD.keep' hYX
          have hfX := hfD.keep' hYX
          have hBX := below_then hBD hYX
          have hex := setHF_blk hhX hfX hne (.int .i64 0) (.int .i64 0) (.bool false) (.bool false) (.int .i64 (16)) (.int .i64 (nx))
          have j0 := hex.1.cell 0 rfl
          have j1 := hex.1.cell 1 rfl
          have j2 := hex.1.cell 2 rfl
          have j3 := hex.1.cell 3 rfl
          have j4 := hex.2.cell 0 rfl
          have j5 := hex.2.cell 1 rfl
          have k0 := hhX.cell 0 rfl
          have k1 := hhX.cell 1 rfl
          have k2 := hhX.cell 2 rfl
          have k3 := hhX.cell 3 rfl
          have z0 := hhX.fz 0
          have z1 := hhX.fz 1
          have z2 := hhX.fz 2
          have z3 := hhX.fz 3
          have l0 := hfX.cell 0 rfl
          have l1 := hfX.cell 1 rfl
          have y0 := hfX.fz 0
          have y1 := hfX.fz 1
          simp only [World.setHF] at j0 j1 j2 j3 j4 j5
          clear hex
          go_wp2_with fail
          exact bodyPost_ret (v := .tuple #[.agg #[.int .i64 0, .int .i64 0, .bool false, .bool false], .int .i64 0, .agg #[.int .i64 (16), .int .i64 (nx)]]) (by simp [results, Try.results37, go_sem, j0, j1, j2, j3, j4, j5]) rfl ⟨by rw [HR.out]; rfl, (setHF_below hBX (Nat.le_refl _) (by omega) _ _ _ _ _ _)⟩
      have hrD : rD = 0 := HZ.out (fun t ht => HM2.out t (by omega))
      have HT3 := Lib.hid (HT2.out.2)
      have HT4 := Lib.hid (And.intro (HT3.out.1 hrD) (And.intro (HT3.out.2.1 hrD) (And.intro (HT3.out.2.2.1 hrD) (And.intro (HT3.out.2.2.2.1 hrD) (HT3.out.2.2.2.2 hrD)))))
      have g0 : decide ((i : Int) < (D : Int)) = false := decide_eq_false (by omega)
      clear HT2 HT3 HZ HZn hrD HM2
      have gw : IntKind.i64.wrap ((nx : Int) + (D : Int)) = (nx : Int) + (D : Int) := by rw [IntKind.wrap_i64]; omega
      have gw5 : IntKind.i64.wrap ((a : Int) + 5) = (a : Int) + 5 := by rw [IntKind.wrap_i64]; omega
      have hX5 := HX.out
      have gi5 := GI5.out (by omega)
      clear hX5
      go_wp2_with fail
      refine (HWN.out WD).mono ?_
      rintro r WX0 ⟨rfl, rfl⟩
      by_cases hw1 : 134217728 < wd
      · have HR : Hid (R = badR 17 ((a : Int) + 5)) := (HR1.out.trans (HT4.out.1 (by simpa using hw1))).trans (by simp [Int.natCast_add])
        have g5 : decide (134217728 < wd) = true := decide_eq_true hw1
        clear hw1
        go_wp2_with fail
        refine (HFL.out _ _ _).mono ?_
        rintro r WX ⟨rfl, hYX⟩
        have hhX := hhD.keep' hYX
        have hfX := hfD.keep' hYX
        have hBX := below_then hBD hYX
        have hex := setHF_blk hhX hfX hne (.int .i64 0) (.int .i64 0) (.bool false) (.bool false) (.int .i64 (17)) (.int .i64 ((a : Int) + 5))
        have j0 := hex.1.cell 0 rfl
        have j1 := hex.1.cell 1 rfl
        have j2 := hex.1.cell 2 rfl
        have j3 := hex.1.cell 3 rfl
        have j4 := hex.2.cell 0 rfl
        have j5 := hex.2.cell 1 rfl
        have k0 := hhX.cell 0 rfl
        have k1 := hhX.cell 1 rfl
        have k2 := hhX.cell 2 rfl
        have k3 := hhX.cell 3 rfl
        have z0 := hhX.fz 0
        have z1 := hhX.fz 1
        have z2 := hhX.fz 2
        have z3 := hhX.fz 3
        have l0 := hfX.cell 0 rfl
        have l1 := hfX.cell 1 rfl
        have y0 := hfX.fz 0
        have y1 := hfX.fz 1
        simp only [World.setHF] at j0 j1 j2 j3 j4 j5
        clear hex
        go_wp2_with fail
        exact bodyPost_ret (v := .tuple #[.agg #[.int .i64 0, .int .i64 0, .bool false, .bool false], .int .i64 0, .agg #[.int .i64 (17), .int .i64 ((a : Int) + 5)]]) (by simp [results, Try.results37, go_sem, j0, j1, j2, j3, j4, j5]) rfl ⟨by rw [HR.out]; rfl, (setHF_below hBX (Nat.le_refl _) (by omega) _ _ _ _ _ _)⟩
      have g5 : decide (134217728 < wd) = false := decide_eq_false hw1
      have hw2 : wd ≤ 134217728 := by omega
      by_cases hKp : 0 < K
      · have HR2 : Hid (1099511627776 < N → R = badR 2 ((nx : Int) + (D : Int))) := fun h => (HR1.out.trans (by first | exact HT4.out.2.2.1 (by simp; omega) hKp (by simp) h | exact HT4.out.2.2.1 (by omega) hKp h | exact HT4.out.2.2.1 (by omega) hKp (by simp) h)).trans (by rw [Int.natCast_add])
        have HR3 : Hid (¬ 1099511627776 < N → R = .tuple #[.agg #[.int .i64 wd, .int .i64 N, .bool false, .bool sm], .int .i64 ((nx : Int) + (D : Int) + (K : Int)), .agg #[.int .i64 0, .int .i64 0]]) := fun h => (HR1.out.trans (by first | exact HT4.out.2.2.2.1 (by simp; omega) hKp (by simp) (by omega) | exact HT4.out.2.2.2.1 (by omega) hKp (by omega) | exact HT4.out.2.2.2.1 (by omega) hKp (by simp) (by omega))).trans (by simp [Int.natCast_add])
        clear HR1 HT4 hw1
        have g4 : decide ((0 : Int) < (K : Int)) = true := decide_eq_true (by omega)
        go_wp2_with fail
        refine (HRD.out WD (by omega) hKp).mono ?_
        rintro r WE ⟨rfl, hYE⟩
        have hHE := hHD.keep' hYE
        have hhE := hhD.keep' hYE
        have hfE := hfD.keep' hYE
        have hBE := below_then hBD hYE
        clear hHD hhD hfD hBD
        go_upto_region 34 with fail
        have hHF : Blk 52 (WE.alloc (.cells #[.int .i64 0, .int .i64 0] 54)) wr0 #[.int .i64 0, .int .i64 (-1), .bool false, .bool sm] := hHE.alloc _
        have hhF := hhE.alloc (.cells #[.int .i64 0, .int .i64 0] 54)
        have hfF := hfE.alloc (.cells #[.int .i64 0, .int .i64 0] 54)
        have hBF := below_alloc hBE (.cells #[.int .i64 0, .int .i64 0] 54)
        generalize WE.alloc (.cells #[.int .i64 0, .int .i64 0] 54) = WF at *
        clear hHE hhE hfE hBE
        go_upto_if 176 with fail
        go_cut [15] (fun s15 wx => s15 = .int .u64 N ∧ wx = WF)
        case first =>
          by_cases hK2 : K = 2
          · have g5 : ((K : Int) == 2) = true := by rw [hK2]; rfl
            have hN := Lib.hid (HNT.out.1 hK2).1
            have hN2 := (HNT.out.1 hK2).2
            have gw6 : IntKind.u64.wrap (rN + 256) = rN + 256 := by rw [IntKind.wrap_u64]; omega
            clear hK2
            go_wp2_with fail
            go_meet
            exact ⟨val_int hN.out.symm, rfl⟩
          · have g5 : ((K : Int) == 2) = false := beq_false_of_ne (by omega)
            have hN := Lib.hid (HNT.out.2 hK2)
            clear hK2
            go_wp2_with fail
            go_meet
            exact ⟨val_int hN.out.symm, rfl⟩
        case rest =>
        obtain ⟨rfl, hWc⟩ := hcut
        subst hWc
        generalize wc = WF at *
        have hNb : 0 ≤ N ∧ N < 18446744073709551616 := by
          by_cases hK2 : K = 2
          · have := HNT.out.1 hK2; omega
          · have := HNT.out.2 hK2; omega
        by_cases hN1 : 1099511627776 < N
        · have HR := Lib.hid (HR2.out hN1)
          have g6 : decide (1099511627776 < N) = true := decide_eq_true hN1
          clear hN1
          go_wp2_with fail
          refine (HFL.out _ _ _).mono ?_
          rintro r WX ⟨rfl, hYX⟩
          have hhX := hhF.keep' hYX
          have hfX := hfF.keep' hYX
          have hBX := below_then hBF hYX
          have hex := setHF_blk hhX hfX hne (.int .i64 0) (.int .i64 0) (.bool false) (.bool false) (.int .i64 (2)) (.int .i64 ((nx : Int) + (D : Int)))
          have j0 := hex.1.cell 0 rfl
          have j1 := hex.1.cell 1 rfl
          have j2 := hex.1.cell 2 rfl
          have j3 := hex.1.cell 3 rfl
          have j4 := hex.2.cell 0 rfl
          have j5 := hex.2.cell 1 rfl
          have k0 := hhX.cell 0 rfl
          have k1 := hhX.cell 1 rfl
          have k2 := hhX.cell 2 rfl
          have k3 := hhX.cell 3 rfl
          have z0 := hhX.fz 0
          have z1 := hhX.fz 1
          have z2 := hhX.fz 2
          have z3 := hhX.fz 3
          have l0 := hfX.cell 0 rfl
          have l1 := hfX.cell 1 rfl
          have y0 := hfX.fz 0
          have y1 := hfX.fz 1
          simp only [World.setHF] at j0 j1 j2 j3 j4 j5
          clear hex
          go_wp2_with fail
          exact bodyPost_ret (v := .tuple #[.agg #[.int .i64 0, .int .i64 0, .bool false, .bool false], .int .i64 0, .agg #[.int .i64 (2), .int .i64 ((nx : Int) + (D : Int))]]) (by simp [results, Try.results37, go_sem, j0, j1, j2, j3, j4, j5]) rfl ⟨by rw [HR.out]; rfl, (setHF_below hBX (Nat.le_refl _) (by omega) _ _ _ _ _ _)⟩
        have g6 : decide (1099511627776 < N) = false := decide_eq_false hN1
        have HR := Lib.hid (HR3.out (by omega))
        have gN : IntKind.i64.wrap N = N := by rw [IntKind.wrap_i64]; omega
        have gK : IntKind.i64.wrap ((nx : Int) + (D : Int) + (K : Int)) = (nx : Int) + (D : Int) + (K : Int) := by rw [IntKind.wrap_i64]; omega
        have n0 := hHF.cell 0 rfl
        have n1 := hHF.cell 1 rfl
        have n2 := hHF.cell 2 rfl
        have n3 := hHF.cell 3 rfl
        have x0 := hHF.fz 0
        have x1 := hHF.fz 1
        have x2 := hHF.fz 2
        have x3 := hHF.fz 3
        simp at n0 n1 n2 n3
        go_upto_region 41 with fail
        clear n0 n1 n2 n3 x0 x1 x2 x3
        have hHG : Blk 52 (WF.setCell ⟨wr0, 1, none⟩ (.int .i64 N)) wr0 #[.int .i64 0, .int .i64 N, .bool false, .bool sm] := hHF.set 1 _
        have hhG := hhF.other ⟨wr0, 1, none⟩ hneM1 (.int .i64 N)
        have hfG := hfF.other ⟨wr0, 1, none⟩ hneM2 (.int .i64 N)
        have hBG := hBF.setCell (p := ⟨wr0, 1, none⟩) hMB (.int .i64 N)
        generalize WF.setCell ⟨wr0, 1, none⟩ (.int .i64 N) = WG at *
        clear hHF hhF hfF hBF
        have n0 := hHG.cell 0 rfl
        have n1 := hHG.cell 1 rfl
        have n2 := hHG.cell 2 rfl
        have n3 := hHG.cell 3 rfl
        have x0 := hHG.fz 0
        have x1 := hHG.fz 1
        have x2 := hHG.fz 2
        have x3 := hHG.fz 3
        simp at n0 n1 n2 n3
        go_upto_region 42 with fail
        clear n0 n1 n2 n3 x0 x1 x2 x3
        have hHH : Blk 52 (WG.setCell ⟨wr0, 0, none⟩ (.int .i64 (N))) wr0 #[.int .i64 (N), .int .i64 (N), .bool false, .bool sm] := hHG.set 0 _
        have hhH := hhG.other ⟨wr0, 0, none⟩ hneM1 (.int .i64 (N))
        have hfH := hfG.other ⟨wr0, 0, none⟩ hneM2 (.int .i64 (N))
        have hBH := hBG.setCell (p := ⟨wr0, 0, none⟩) hMB (.int .i64 (N))
        generalize WG.setCell ⟨wr0, 0, none⟩ (.int .i64 (N)) = WH at *
        clear hHG hhG hfG hBG
        have n0 := hHH.cell 0 rfl
        have n1 := hHH.cell 1 rfl
        have n2 := hHH.cell 2 rfl
        have n3 := hHH.cell 3 rfl
        have x0 := hHH.fz 0
        have x1 := hHH.fz 1
        have x2 := hHH.fz 2
        have x3 := hHH.fz 3
        simp at n0 n1 n2 n3
        go_wp2_with fail
        refine (HWN.out WH).mono ?_
        rintro r WX1 ⟨rfl, rfl⟩
        go_upto_region 44 with fail
        clear n0 n1 n2 n3 x0 x1 x2 x3
        have hHI : Blk 52 (WH.setCell ⟨wr0, 0, none⟩ (.int .i64 wd)) wr0 #[.int .i64 wd, .int .i64 (N), .bool false, .bool sm] := hHH.set 0 _
        have hhI := hhH.other ⟨wr0, 0, none⟩ hneM1 (.int .i64 wd)
        have hfI := hfH.other ⟨wr0, 0, none⟩ hneM2 (.int .i64 wd)
        have hBI := hBH.setCell (p := ⟨wr0, 0, none⟩) hMB (.int .i64 wd)
        generalize WH.setCell ⟨wr0, 0, none⟩ (.int .i64 wd) = WI at *
        clear hHH hhH hfH hBH
        have n0 := hHI.cell 0 rfl
        have n1 := hHI.cell 1 rfl
        have n2 := hHI.cell 2 rfl
        have n3 := hHI.cell 3 rfl
        have x0 := hHI.fz 0
        have x1 := hHI.fz 1
        have x2 := hHI.fz 2
        have x3 := hHI.fz 3
        simp at n0 n1 n2 n3
        have k0 := hhI.cell 0 rfl
        have k1 := hhI.cell 1 rfl
        have k2 := hhI.cell 2 rfl
        have k3 := hhI.cell 3 rfl
        have z0 := hhI.fz 0
        have z1 := hhI.fz 1
        have z2 := hhI.fz 2
        have z3 := hhI.fz 3
        have l0 := hfI.cell 0 rfl
        have l1 := hfI.cell 1 rfl
        have y0 := hfI.fz 0
        have y1 := hfI.fz 1
        have hex := setHF_blk hhI hfI hne (.int .i64 (wd)) (.int .i64 (N)) (.bool false) (.bool sm) (.int .i64 0) (.int .i64 0)
        have j0 := hex.1.cell 0 rfl
        have j1 := hex.1.cell 1 rfl
        have j2 := hex.1.cell 2 rfl
        have j3 := hex.1.cell 3 rfl
        have j4 := hex.2.cell 0 rfl
        have j5 := hex.2.cell 1 rfl
        simp only [World.setHF] at j0 j1 j2 j3 j4 j5
        clear hex
        go_wp2_with fail
        exact bodyPost_ret (v := .tuple #[.agg #[.int .i64 (wd), .int .i64 (N), .bool false, .bool sm], .int .i64 ((nx : Int) + (D : Int) + (K : Int)), .agg #[.int .i64 0, .int .i64 0]]) (by simp [results, Try.results37, go_sem, j0, j1, j2, j3, j4, j5]) rfl ⟨by rw [HR.out], (setHF_below hBI (Nat.le_refl _) (by omega) _ _ _ _ _ _)⟩

      · have HR : Hid (R = .tuple #[.agg #[.int .i64 wd, .int .i64 (-1), .bool false, .bool sm], .int .i64 ((nx : Int) + (D : Int)), .agg #[.int .i64 0, .int .i64 0]]) := (HR1.out.trans (HT4.out.2.2.2.2 (by first | omega | (simp; omega)) (by first | omega | simpa using hKp))).trans (by simp [Int.natCast_add])
        clear HR1 HT4 hw1
        have g4 : decide ((0 : Int) < (K : Int)) = false := decide_eq_false (by omega)
        have hHG := hHD
        have hhG := hhD
        have hfG := hfD
        have hBG := hBD
        generalize WD = WG at *
        clear hHD hhD hfD hBD
        go_upto_region 41 with fail
        have n0 := hHG.cell 0 rfl
        have n1 := hHG.cell 1 rfl
        have n2 := hHG.cell 2 rfl
        have n3 := hHG.cell 3 rfl
        have x0 := hHG.fz 0
        have x1 := hHG.fz 1
        have x2 := hHG.fz 2
        have x3 := hHG.fz 3
        simp at n0 n1 n2 n3
        go_upto_region 42 with fail
        clear n0 n1 n2 n3 x0 x1 x2 x3
        have hHH : Blk 52 (WG.setCell ⟨wr0, 0, none⟩ (.int .i64 (-1))) wr0 #[.int .i64 (-1), .int .i64 (-1), .bool false, .bool sm] := hHG.set 0 _
        have hhH := hhG.other ⟨wr0, 0, none⟩ hneM1 (.int .i64 (-1))
        have hfH := hfG.other ⟨wr0, 0, none⟩ hneM2 (.int .i64 (-1))
        have hBH := hBG.setCell (p := ⟨wr0, 0, none⟩) hMB (.int .i64 (-1))
        generalize WG.setCell ⟨wr0, 0, none⟩ (.int .i64 (-1)) = WH at *
        clear hHG hhG hfG hBG
        have n0 := hHH.cell 0 rfl
        have n1 := hHH.cell 1 rfl
        have n2 := hHH.cell 2 rfl
        have n3 := hHH.cell 3 rfl
        have x0 := hHH.fz 0
        have x1 := hHH.fz 1
        have x2 := hHH.fz 2
        have x3 := hHH.fz 3
        simp at n0 n1 n2 n3
        go_wp2_with fail
        refine (HWN.out WH).mono ?_
        rintro r WX1 ⟨rfl, rfl⟩
        go_upto_region 44 with fail
        clear n0 n1 n2 n3 x0 x1 x2 x3
        have hHI : Blk 52 (WH.setCell ⟨wr0, 0, none⟩ (.int .i64 wd)) wr0 #[.int .i64 wd, .int .i64 (-1), .bool false, .bool sm] := hHH.set 0 _
        have hhI := hhH.other ⟨wr0, 0, none⟩ hneM1 (.int .i64 wd)
        have hfI := hfH.other ⟨wr0, 0, none⟩ hneM2 (.int .i64 wd)
        have hBI := hBH.setCell (p := ⟨wr0, 0, none⟩) hMB (.int .i64 wd)
        generalize WH.setCell ⟨wr0, 0, none⟩ (.int .i64 wd) = WI at *
        clear hHH hhH hfH hBH
        have n0 := hHI.cell 0 rfl
        have n1 := hHI.cell 1 rfl
        have n2 := hHI.cell 2 rfl
        have n3 := hHI.cell 3 rfl
        have x0 := hHI.fz 0
        have x1 := hHI.fz 1
        have x2 := hHI.fz 2
        have x3 := hHI.fz 3
        simp at n0 n1 n2 n3
        have k0 := hhI.cell 0 rfl
        have k1 := hhI.cell 1 rfl
        have k2 := hhI.cell 2 rfl
        have k3 := hhI.cell 3 rfl
        have z0 := hhI.fz 0
        have z1 := hhI.fz 1
        have z2 := hhI.fz 2
        have z3 := hhI.fz 3
        have l0 := hfI.cell 0 rfl
        have l1 := hfI.cell 1 rfl
        have y0 := hfI.fz 0
        have y1 := hfI.fz 1
        have hex := setHF_blk hhI hfI hne (.int .i64 (wd)) (.int .i64 (-1)) (.bool false) (.bool sm) (.int .i64 0) (.int .i64 0)
        have j0 := hex.1.cell 0 rfl
        have j1 := hex.1.cell 1 rfl
        have j2 := hex.1.cell 2 rfl
        have j3 := hex.1.cell 3 rfl
        have j4 := hex.2.cell 0 rfl
        have j5 := hex.2.cell 1 rfl
        simp only [World.setHF] at j0 j1 j2 j3 j4 j5
        clear hex
        go_wp2_with fail
        exact bodyPost_ret (v := .tuple #[.agg #[.int .i64 (wd), .int .i64 (-1), .bool false, .bool sm], .int .i64 ((nx : Int) + (D : Int)), .agg #[.int .i64 0, .int .i64 0]]) (by simp [results, Try.results37, go_sem, j0, j1, j2, j3, j4, j5]) rfl ⟨by rw [HR.out], (setHF_below hBI (Nat.le_refl _) (by omega) _ _ _ _ _ _)⟩

end Go.Proofs.Ytfdbkpbgkpkckaa
