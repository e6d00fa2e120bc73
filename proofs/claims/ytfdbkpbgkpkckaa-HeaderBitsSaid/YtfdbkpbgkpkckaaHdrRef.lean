/-
  The walk of the reference's Read (printed by wip/bin/genhdref.py).
-/
import Derived.Test.YtfdbkpbgkpkckaaHdrPlain
import Derived.Deep.QuietTactic
import Derived.BigQuiet
import Derived.Deep.DeepCutAuto
import Derived.Deep.LoopGhost
namespace Go.Proofs.Ytfdbkpbgkpkckaa
open Go.RowKit
set_option linter.unusedVariables false
set_option maxRecDepth 100000
attribute [local go_sem ↓] Go.wp_at_zero Go.wp_at_succ

theorem run_index_hs {P : Program} {t : TypeId} (ht : P.underlying t = some .string) (s : ByteArray) (i : Nat) (hi : i < s.size) : ∀ w, (Instr.index t (.string s) (.int .i64 (i : Int))).run P w = .ok (.int .u8 (sb s i)) w := fun w => by
  rw [run_index_string w t s .i64 i ht, dif_pos (by omega)]
  rw [← sb_get s i hi]; rfl

set_option maxHeartbeats 1600000 in
theorem rfault_any (e f : Int) (w : World) :
    Calls Try.prog 71 #[.int .i64 e, .int .i64 f] w fun r w' => r = .returned (.tuple #[.agg #[.int .i64 0, .int .i64 0, .bool false, .bool false], .int .i64 0, .agg #[.int .i64 e, .int .i64 f]]) ∧ Below w.heap.size w w' := by
  have hB0 := Blk.new w #[.int .i64 0, .int .i64 0, .bool false, .bool false] 52
  have hh := hB0.alloc (.cells #[.int .i64 0, .int .i64 0] 54)
  have hf := Blk.new (w.alloc (.cells #[.int .i64 0, .int .i64 0, .bool false, .bool false] 52)) #[.int .i64 0, .int .i64 0] 54
  rw [World.size_alloc] at hf
  have hBw := below_alloc (below_new (w := w) (.cells #[.int .i64 0, .int .i64 0, .bool false, .bool false] 52)) (.cells #[.int .i64 0, .int .i64 0] 54)
  have hne : w.heap.size ≠ w.heap.size + 1 := by omega
  go_enter Try.func71, Try.ntmps71
  go_upto_region 1 with fail
  generalize (w.alloc (.cells #[.int .i64 0, .int .i64 0, .bool false, .bool false] 52)).alloc (.cells #[.int .i64 0, .int .i64 0] 54) = W0 at *
  have hex := setHF_blk hh hf hne (.int .i64 0) (.int .i64 0) (.bool false) (.bool false) (.int .i64 e) (.int .i64 f)
  have j0 := hex.1.cell 0 rfl
  have j1 := hex.1.cell 1 rfl
  have j2 := hex.1.cell 2 rfl
  have j3 := hex.1.cell 3 rfl
  have j4 := hex.2.cell 0 rfl
  have j5 := hex.2.cell 1 rfl
  have k0 := hh.cell 0 rfl
  have k1 := hh.cell 1 rfl
  have k2 := hh.cell 2 rfl
  have k3 := hh.cell 3 rfl
  have z0 := hh.fz 0
  have z1 := hh.fz 1
  have z2 := hh.fz 2
  have z3 := hh.fz 3
  have l0 := hf.cell 0 rfl
  have l1 := hf.cell 1 rfl
  have y0 := hf.fz 0
  have y1 := hf.fz 1
  simp only [World.setHF] at j0 j1 j2 j3 j4 j5
  clear hex hB0
  go_wp2_with fail
  exact bodyPost_ret (v := .tuple #[.agg #[.int .i64 0, .int .i64 0, .bool false, .bool false], .int .i64 0, .agg #[.int .i64 e, .int .i64 f]]) (by simp [results, Try.results71, go_sem, j0, j1, j2, j3, j4, j5]) rfl ⟨rfl, (setHF_below hBw (Nat.le_refl _) (by omega) _ _ _ _ _ _)⟩

set_option maxHeartbeats 4000000 in
theorem rhread_bad (s : ByteArray) (x : Int) (w : World) (hs : s.size ≤ 4611686018427387904) (hx : ¬ (0 ≤ x ∧ x ≤ (s.size : Int))) :
    Calls Try.prog 37 #[.string s, .int .i64 x] w fun r w' => r = .returned (refR s x) ∧ Below w.heap.size w w' := by
  have HR : Hid (refR s x = badR 2 0) := if_neg hx
  generalize refR s x = R at *
  have hB0 := Blk.new w #[.int .i64 0, .int .i64 0, .bool false, .bool false] 52
  have hh := hB0.alloc (.cells #[.int .i64 0, .int .i64 0] 54)
  have hf := Blk.new (w.alloc (.cells #[.int .i64 0, .int .i64 0, .bool false, .bool false] 52)) #[.int .i64 0, .int .i64 0] 54
  rw [World.size_alloc] at hf
  have hBw := below_alloc (below_new (w := w) (.cells #[.int .i64 0, .int .i64 0, .bool false, .bool false] 52)) (.cells #[.int .i64 0, .int .i64 0] 54)
  have hne : w.heap.size ≠ w.heap.size + 1 := by omega
  have HFL := Lib.hid (fun e f W => rfault_any e f W)
  clear hB0
  by_cases h0 : x < 0
  · have g0 : decide (x < 0) = true := decide_eq_true h0
    clear h0 hx
    go_enter Try.func37, Try.ntmps37
    go_wp2_with fail
    refine (HFL.out _ _ _).mono ?_
    rintro r WX ⟨rfl, hYX⟩
    have hhX := hh.keep' hYX
    have hfX := hf.keep' hYX
    have hBX := below_then hBw hYX
    have hex := setHF_blk hhX hfX hne (.int .i64 0) (.int .i64 0) (.bool false) (.bool false) (.int .i64 (2)) (.int .i64 (0))
    have j0 := hex.1.cell 0 rfl
    have j1 := hex.1.cell 1 rfl
    have j2 := hex.1.cell 2 rfl
    have j3 := hex.1.cell 3 rfl
    have j4 := hex.2.cell 0 rfl
    have j5 := hex.2.cell 1 rfl
    have k0 := hhX.cell 0 rfl
    have k1 := hhX.cell 1 rfl
    have k2 := hhX.cell 2 rfl
    have k3 := hhX.cell 3 rfl
    have z0 := hhX.fz 0
    have z1 := hhX.fz 1
    have z2 := hhX.fz 2
    have z3 := hhX.fz 3
    have l0 := hfX.cell 0 rfl
    have l1 := hfX.cell 1 rfl
    have y0 := hfX.fz 0
    have y1 := hfX.fz 1
    simp only [World.setHF] at j0 j1 j2 j3 j4 j5
    clear hex
    go_wp2_with fail
    exact bodyPost_ret (v := .tuple #[.agg #[.int .i64 0, .int .i64 0, .bool false, .bool false], .int .i64 0, .agg #[.int .i64 (2), .int .i64 (0)]]) (by simp [results, Try.results37, go_sem, j0, j1, j2, j3, j4, j5]) rfl ⟨by rw [HR.out]; rfl, (setHF_below hBX (Nat.le_refl _) (by omega) _ _ _ _ _ _)⟩
  · have g0 : decide (x < 0) = false := decide_eq_false h0
    have g1 : decide ((s.size : Int) < x) = true := decide_eq_true (by omega)
    clear h0 hx
    go_enter Try.func37, Try.ntmps37
    go_wp2_with fail
    refine (HFL.out _ _ _).mono ?_
    rintro r WX ⟨rfl, hYX⟩
    have hhX := hh.keep' hYX
    have hfX := hf.keep' hYX
    have hBX := below_then hBw hYX
    have hex := setHF_blk hhX hfX hne (.int .i64 0) (.int .i64 0) (.bool false) (.bool false) (.int .i64 (2)) (.int .i64 (0))
    have j0 := hex.1.cell 0 rfl
    have j1 := hex.1.cell 1 rfl
    have j2 := hex.1.cell 2 rfl
    have j3 := hex.1.cell 3 rfl
    have j4 := hex.2.cell 0 rfl
    have j5 := hex.2.cell 1 rfl
    have k0 := hhX.cell 0 rfl
    have k1 := hhX.cell 1 rfl
    have k2 := hhX.cell 2 rfl
    have k3 := hhX.cell 3 rfl
    have z0 := hhX.fz 0
    have z1 := hhX.fz 1
    have z2 := hhX.fz 2
    have z3 := hhX.fz 3
    have l0 := hfX.cell 0 rfl
    have l1 := hfX.cell 1 rfl
    have y0 := hfX.fz 0
    have y1 := hfX.fz 1
    simp only [World.setHF] at j0 j1 j2 j3 j4 j5
    clear hex
    go_wp2_with fail
    exact bodyPost_ret (v := .tuple #[.agg #[.int .i64 0, .int .i64 0, .bool false, .bool false], .int .i64 0, .agg #[.int .i64 (2), .int .i64 (0)]]) (by simp [results, Try.results37, go_sem, j0, j1, j2, j3, j4, j5]) rfl ⟨by rw [HR.out]; rfl, (setHF_below hBX (Nat.le_refl _) (by omega) _ _ _ _ _ _)⟩


set_option maxHeartbeats 8000000 in
theorem rhread_short (s : ByteArray) (a : Nat) (w : World) (hs : s.size ≤ 4611686018427387904) (ha : a ≤ s.size) (h5 : s.size < a + 5) :
    Calls Try.prog 37 #[.string s, .int .i64 a] w fun r w' => r = .returned (refR s a) ∧ Below w.heap.size w w' := by
  have HRm : Hid (¬ magOk s a → refR s a = badR 14 a) := fun h => by unfold refR; rw [if_pos (by omega), Int.toNat_natCast, if_neg h]
  have HRs : Hid (magOk s a → refR s a = badR 5 s.size) := fun h => by unfold refR; rw [if_pos (by omega), Int.toNat_natCast, if_pos h, if_pos h5]
  generalize refR s a = R at *
  have hB0 := Blk.new w #[.int .i64 0, .int .i64 0, .bool false, .bool false] 52
  have hh := hB0.alloc (.cells #[.int .i64 0, .int .i64 0] 54)
  have hf := Blk.new (w.alloc (.cells #[.int .i64 0, .int .i64 0, .bool false, .bool false] 52)) #[.int .i64 0, .int .i64 0] 54
  rw [World.size_alloc] at hf
  have hBw := below_alloc (below_new (w := w) (.cells #[.int .i64 0, .int .i64 0, .bool false, .bool false] 52)) (.cells #[.int .i64 0, .int .i64 0] 54)
  have hne : w.heap.size ≠ w.heap.size + 1 := by omega
  have HFL := Lib.hid (fun e f W => rfault_any e f W)
  clear hB0
  have g8 : decide ((a : Int) < 0) = false := decide_eq_false (by omega)
  have g9 : decide ((s.size : Int) < (a : Int)) = false := decide_eq_false (by omega)
  have g7 : decide (s.size < a) = false := decide_eq_false (by omega)
  go_enter Try.func37, Try.ntmps37
  go_wp2_with fail
  generalize (w.alloc (.cells #[.int .i64 0, .int .i64 0, .bool false, .bool false] 52)).alloc (.cells #[.int .i64 0, .int .i64 0] 54) = W0 at *
  go_loopg [7] 4 (fun m iv wr => ∃ j : Nat, j ≤ 4 ∧ m = 4 - j ∧ a + j ≤ s.size ∧ iv = .int .i64 j ∧ Hid (∀ i, i < j → sb s (a + i) = sb magicB i) ∧ Blk 52 wr w.heap.size #[.int .i64 0, .int .i64 0, .bool false, .bool false] ∧ Blk 54 wr (w.heap.size + 1) #[.int .i64 0, .int .i64 0] ∧ Below w.heap.size w wr)
  case atStart => exact ⟨0, by omega, rfl, by omega, rfl, fun i h => absurd h (by omega), hh, hf, hBw⟩
  case round =>
    obtain ⟨j, hj, rfl, haj, rfl, HM, hhR, hfR, hBR⟩ := hrel
    clear hh hf hBw
    by_cases hlt : j < 4 ∧ a + j < s.size
    · have hj4 : j < 4 := by omega
      have hja : a + j < s.size := by omega
      have g0 : decide ((j : Int) < 4) = true := decide_eq_true (by omega)
      have g1 : decide ((a : Int) + (j : Int) < (s.size : Int)) = true := decide_eq_true (by omega)
      have gw : IntKind.i64.wrap ((a : Int) + (j : Int)) = (a : Int) + (j : Int) := by rw [IntKind.wrap_i64]; omega
      have gi1 := run_index_hs (P := Try.prog) Try.underlying9 s (a + j) hja
      have gi2 := run_index_hs (P := Try.prog) Try.underlying9 magicB j hj4
      rw [Int.natCast_add] at gi1
      unfold magicB at gi2
      by_cases hq : sb s (a + j) = sb magicB j
      · have HQ : Hid (∀ i, i < j + 1 → sb s (a + i) = sb magicB i) := fun i hi => by
          rcases Nat.lt_or_ge i j with hh | hh
          · exact HM.out i hh
          · obtain rfl : i = j := by omega
            exact hq
        have g2 : (sb s (a + j) != sb magicB j) = false := by rw [hq]; simp
        unfold magicB at g2
        generalize sb s (a + j) = q1 at *
        generalize sb ⟨#[40, 181, 47, 253]⟩ j = q2 at *
        clear hq
        go_wp2_with fail
        go_quiet (fail)
        go_wp2_with fail
        go_roundg (4 - (j + 1))
        case rel => exact ⟨j + 1, by omega, rfl, by omega, by go_num, HQ.out, hhR.drewN nq, hfR.drewN nq, below_drewN hBR nq⟩
        case measure => omega
      · have HR : Hid (R = badR 14 a) := HRm.out (fun h => hq (h j hj4 hja))
        have g2 : (sb s (a + j) != sb magicB j) = true := by simpa using hq
        unfold magicB at g2
        generalize sb s (a + j) = q1 at *
        generalize sb ⟨#[40, 181, 47, 253]⟩ j = q2 at *
        clear hq
        go_wp2_with fail
        go_quiet (fail)
        go_wp2_with fail
        have hhN := hhR.drewN nq
        have hfN := hfR.drewN nq
        have hBN := below_drewN hBR nq
        generalize wr.drewN nq = WN at *
        refine (HFL.out _ _ _).mono ?_
        rintro r WX ⟨rfl, hYX⟩
        have hhX := hhN.keep' hYX
        have hfX := hfN.keep' hYX
        have hBX := below_then hBN hYX
        have hex := setHF_blk hhX hfX hne (.int .i64 0) (.int .i64 0) (.bool false) (.bool false) (.int .i64 (14)) (.int .i64 (a))
        have j0 := hex.1.cell 0 rfl
        have j1 := hex.1.cell 1 rfl
        have j2 := hex.1.cell 2 rfl
        have j3 := hex.1.cell 3 rfl
        have j4 := hex.2.cell 0 rfl
        have j5 := hex.2.cell 1 rfl
        have k0 := hhX.cell 0 rfl
        have k1 := hhX.cell 1 rfl
        have k2 := hhX.cell 2 rfl
        have k3 := hhX.cell 3 rfl
        have z0 := hhX.fz 0
        have z1 := hhX.fz 1
        have z2 := hhX.fz 2
        have z3 := hhX.fz 3
        have l0 := hfX.cell 0 rfl
        have l1 := hfX.cell 1 rfl
        have y0 := hfX.fz 0
        have y1 := hfX.fz 1
        simp only [World.setHF] at j0 j1 j2 j3 j4 j5
        clear hex
        go_wp2_with fail
        exact bodyPost_ret (v := .tuple #[.agg #[.int .i64 0, .int .i64 0, .bool false, .bool false], .int .i64 0, .agg #[.int .i64 (14), .int .i64 (a)]]) (by simp [results, Try.results37, go_sem, j0, j1, j2, j3, j4, j5]) rfl ⟨by rw [HR.out]; rfl, (setHF_below hBX (Nat.le_refl _) (by omega) _ _ _ _ _ _)⟩
    · have HR : Hid (R = badR 5 s.size) := HRs.out (fun i h4 hi => HM.out i (by omega))
      have g6 : decide ((s.size : Int) - (a : Int) < 5) = true := decide_eq_true (by omega)
      by_cases hj4 : j < 4
      · have g0 : decide ((j : Int) < 4) = true := decide_eq_true (by omega)
        have g1 : decide ((a : Int) + (j : Int) < (s.size : Int)) = false := decide_eq_false (by omega)
        have gw : IntKind.i64.wrap ((a : Int) + (j : Int)) = (a : Int) + (j : Int) := by rw [IntKind.wrap_i64]; omega
        go_wp2_with fail
        refine (HFL.out _ _ _).mono ?_
        rintro r WX ⟨rfl, hYX⟩
        have hhX := hhR.keep' hYX
        have hfX := hfR.keep' hYX
        have hBX := below_then hBR hYX
        have hex := setHF_blk hhX hfX hne (.int .i64 0) (.int .i64 0) (.bool false) (.bool false) (.int .i64 (5)) (.int .i64 (s.size))
        have j0 := hex.1.cell 0 rfl
        have j1 := hex.1.cell 1 rfl
        have j2 := hex.1.cell 2 rfl
        have j3 := hex.1.cell 3 rfl
        have j4 := hex.2.cell 0 rfl
        have j5 := hex.2.cell 1 rfl
        have k0 := hhX.cell 0 rfl
        have k1 := hhX.cell 1 rfl
        have k2 := hhX.cell 2 rfl
        have k3 := hhX.cell 3 rfl
        have z0 := hhX.fz 0
        have z1 := hhX.fz 1
        have z2 := hhX.fz 2
        have z3 := hhX.fz 3
        have l0 := hfX.cell 0 rfl
        have l1 := hfX.cell 1 rfl
        have y0 := hfX.fz 0
        have y1 := hfX.fz 1
        simp only [World.setHF] at j0 j1 j2 j3 j4 j5
        clear hex
        go_wp2_with fail
        exact bodyPost_ret (v := .tuple #[.agg #[.int .i64 0, .int .i64 0, .bool false, .bool false], .int .i64 0, .agg #[.int .i64 (5), .int .i64 (s.size)]]) (by simp [results, Try.results37, go_sem, j0, j1, j2, j3, j4, j5]) rfl ⟨by rw [HR.out]; rfl, (setHF_below hBX (Nat.le_refl _) (by omega) _ _ _ _ _ _)⟩
      · have g0 : decide ((j : Int) < 4) = false := decide_eq_false (by omega)
        go_wp2_with fail
        refine (HFL.out _ _ _).mono ?_
        rintro r WX ⟨rfl, hYX⟩
        have hhX := hhR.keep' hYX
        have hfX := hfR.keep' hYX
        have hBX := below_then hBR hYX
        have hex := setHF_blk hhX hfX hne (.int .i64 0) (.int .i64 0) (.bool false) (.bool false) (.int .i64 (5)) (.int .i64 (s.size))
        have j0 := hex.1.cell 0 rfl
        have j1 := hex.1.cell 1 rfl
        have j2 := hex.1.cell 2 rfl
        have j3 := hex.1.cell 3 rfl
        have j4 := hex.2.cell 0 rfl
        have j5 := hex.2.cell 1 rfl
        have k0 := hhX.cell 0 rfl
        have k1 := hhX.cell 1 rfl
        have k2 := hhX.cell 2 rfl
        have k3 := hhX.cell 3 rfl
        have z0 := hhX.fz 0
        have z1 := hhX.fz 1
        have z2 := hhX.fz 2
        have z3 := hhX.fz 3
        have l0 := hfX.cell 0 rfl
        have l1 := hfX.cell 1 rfl
        have y0 := hfX.fz 0
        have y1 := hfX.fz 1
        simp only [World.setHF] at j0 j1 j2 j3 j4 j5
        clear hex
        go_wp2_with fail
        exact bodyPost_ret (v := .tuple #[.agg #[.int .i64 0, .int .i64 0, .bool false, .bool false], .int .i64 0, .agg #[.int .i64 (5), .int .i64 (s.size)]]) (by simp [results, Try.results37, go_sem, j0, j1, j2, j3, j4, j5]) rfl ⟨by rw [HR.out]; rfl, (setHF_below hBX (Nat.le_refl _) (by omega) _ _ _ _ _ _)⟩

theorem refTail_cases (s : ByteArray) (a : Nat) (d : Int) :
    (s.size < nxV a d + dictN d + sizeN d → refTail s a d = badR 5 s.size) ∧
    (¬ s.size < nxV a d + dictN d + sizeN d → rd s (nxV a d) (dictN d) ≠ 0 → refTail s a d = badR 16 (nxV a d)) ∧
    (¬ s.size < nxV a d + dictN d + sizeN d → rd s (nxV a d) (dictN d) = 0 → (sgV d = false ∧ 134217728 < windowV (sb s (a + 5))) → refTail s a d = badR 17 ((a + 5 : Nat) : Int)) ∧
    (¬ s.size < nxV a d + dictN d + sizeN d → rd s (nxV a d) (dictN d) = 0 → ¬ (sgV d = false ∧ 134217728 < windowV (sb s (a + 5))) → 0 < sizeN d → (sgV d = true ∧ 134217728 < numV s a d) → refTail s a d = badR 17 ((nxV a d + dictN d : Nat) : Int)) ∧
    (¬ s.size < nxV a d + dictN d + sizeN d → rd s (nxV a d) (dictN d) = 0 → ¬ (sgV d = false ∧ 134217728 < windowV (sb s (a + 5))) → 0 < sizeN d → ¬ (sgV d = true ∧ 134217728 < numV s a d) → 1099511627776 < numV s a d → refTail s a d = badR 2 ((nxV a d + dictN d : Nat) : Int)) ∧
    (¬ s.size < nxV a d + dictN d + sizeN d → rd s (nxV a d) (dictN d) = 0 → ¬ (sgV d = false ∧ 134217728 < windowV (sb s (a + 5))) → 0 < sizeN d → ¬ (sgV d = true ∧ 134217728 < numV s a d) → ¬ 1099511627776 < numV s a d →
      refTail s a d = .tuple #[.agg #[.int .i64 (if sgV d = true then numV s a d else windowV (sb s (a + 5))), .int .i64 (numV s a d), .bool (sgV d), .bool (smV d)], .int .i64 ((nxV a d + dictN d + sizeN d : Nat) : Int), .agg #[.int .i64 0, .int .i64 0]]) ∧
    (¬ s.size < nxV a d + dictN d + sizeN d → rd s (nxV a d) (dictN d) = 0 → ¬ (sgV d = false ∧ 134217728 < windowV (sb s (a + 5))) → ¬ 0 < sizeN d →
      refTail s a d = .tuple #[.agg #[.int .i64 (windowV (sb s (a + 5))), .int .i64 (-1), .bool (sgV d), .bool (smV d)], .int .i64 ((nxV a d + dictN d : Nat) : Int), .agg #[.int .i64 0, .int .i64 0]]) := by
  unfold refTail
  refine ⟨fun h => if_pos h, fun h1 h2 => ?_, fun h1 h2 h3 => ?_, fun h1 h2 h3 h4 h5 => ?_, fun h1 h2 h3 h4 h5 h6 => ?_, fun h1 h2 h3 h4 h5 h6 => ?_, fun h1 h2 h3 h4 => ?_⟩
  · rw [if_neg h1, if_pos h2]
  · rw [if_neg h1, if_neg (by omega), if_pos h3]
  · rw [if_neg h1, if_neg (by omega), if_neg h3, if_pos h4, if_pos h5]
  · rw [if_neg h1, if_neg (by omega), if_neg h3, if_pos h4, if_neg h5, if_pos h6]
  · rw [if_neg h1, if_neg (by omega), if_neg h3, if_pos h4, if_neg h5, if_neg h6]
  · rw [if_neg h1, if_neg (by omega), if_neg h3, if_neg h4]
theorem rd_zero (s : ByteArray) (a k : Nat) (h : ∀ i, i < k → sb s (a + i) = 0) : rd s a k = 0 := by
  induction k with
  | zero => rfl
  | succ k ih => simp only [rd]; rw [ih (fun i hi => h i (by omega)), h k (by omega)]; simp
theorem rd_pos (s : ByteArray) (a k : Nat) (i : Nat) (hi : i < k) (h : sb s (a + i) ≠ 0) : rd s a k ≠ 0 := by
  induction k with
  | zero => omega
  | succ k ih =>
    simp only [rd]
    have h1 := rd_lo s a k
    have h2 := sb_lo s (a + k)
    have hp : (0 : Int) < 256 ^ k := Int.pow_pos (by decide)
    have h3 : 0 ≤ sb s (a + k) * 256 ^ k := Int.mul_nonneg h2.1 (by omega)
    rcases Nat.lt_or_ge i k with hk | hk
    · have := ih hk; omega
    · obtain rfl : i = k := by omega
      have h4 : 1 * 256 ^ i ≤ sb s (a + i) * 256 ^ i := Int.mul_le_mul_of_nonneg_right (by omega) (by omega)
      omega
theorem num_two (s : ByteArray) (a : Nat) (d : Int) : (sizeN d = 2 → numV s a d = rd s (nxV a d + dictN d) (sizeN d) + 256 ∧ rd s (nxV a d + dictN d) (sizeN d) < 65536) ∧ (sizeN d ≠ 2 → numV s a d = rd s (nxV a d + dictN d) (sizeN d)) := by
  have hK := sizeN_eq d
  have hd2 : sizeN d = 2 ↔ d / 64 = 1 := by
    constructor
    · intro h
      rw [h] at hK
      have hk := hK.1
      unfold sizeL sizeK at hk
      by_cases h0 : d / 64 = 0
      · rw [if_pos h0] at hk; split at hk <;> simp at hk
      · by_cases h1 : d / 64 = 1
        · exact h1
        · rw [if_neg h0, if_neg h1] at hk
          split at hk
          · simp at hk
          · split at hk <;> simp at hk
    · intro h
      have : sizeL d = 2 := by unfold sizeL sizeK; rw [if_neg (by omega), if_pos h, if_neg (by omega)]
      omega
  unfold numV
  refine ⟨fun h => ⟨by rw [if_pos (hd2.1 h)], ?_⟩, fun h => by rw [if_neg (fun hh => h (hd2.2 hh)), Int.add_zero]⟩
  rw [h]
  exact (rd_lo _ _ 2).2
theorem dict_tab (d : Int) : (d % 4 = 0 → (dictN d : Int) = 0) ∧ (d % 4 = 1 → (dictN d : Int) = 1) ∧ (d % 4 = 2 → (dictN d : Int) = 2) ∧ (d % 4 = 3 → (dictN d : Int) = 4) := by
  rw [← (dictN_eq d).1]; unfold dictL
  exact ⟨fun h => by rw [if_pos h], fun h => by rw [if_neg (by omega), if_pos h], fun h => by rw [if_neg (by omega), if_neg (by omega), if_pos h], fun h => by rw [if_neg (by omega), if_neg (by omega), if_neg (by omega)]⟩
theorem size_tab (d : Int) : (d / 64 = 0 → sizeK d = 0) ∧ (d / 64 = 1 → sizeK d = 2) ∧ (d / 64 = 2 → sizeK d = 4) ∧ (d / 64 = 3 → sizeK d = 8) := by
  unfold sizeK
  exact ⟨fun h => by rw [if_pos h], fun h => by rw [if_neg (by omega), if_pos h], fun h => by rw [if_neg (by omega), if_neg (by omega), if_pos h], fun h => by rw [if_neg (by omega), if_neg (by omega), if_neg (by omega)]⟩
theorem size_nil (d : Int) : sizeK d = 0 ↔ d / 64 = 0 := by
  unfold sizeK
  constructor
  · intro h
    by_cases h0 : d / 64 = 0
    · exact h0
    · rw [if_neg h0] at h; split at h
      · simp at h
      · split at h <;> simp at h
  · intro h; rw [if_pos h]
theorem bv_tab (d : Int) : ∃ Bv : Bool, Hid (d / 64 = 0 → Bv = sgV d) ∧ Hid (d / 64 ≠ 0 → Bv = false) ∧ Hid (Bv = true → (sizeN d : Int) = 1) ∧ Hid (Bv = false → (sizeN d : Int) = sizeK d) := by
  rw [← (sizeN_eq d).1]
  refine ⟨decide (d / 64 = 0) && sgV d, fun h => ?_, fun h => ?_, fun h => ?_, fun h => ?_⟩
  · rw [decide_eq_true h, Bool.true_and]
  · rw [decide_eq_false h, Bool.false_and]
  · rw [Bool.and_eq_true] at h
    exact if_pos ⟨(size_nil d).2 (of_decide_eq_true h.1), h.2⟩
  · refine if_neg (fun hh => ?_)
    rw [hh.2, Bool.and_true] at h
    exact absurd ((size_nil d).1 hh.1) (of_decide_eq_false h)
theorem dict_cell {d : Int} (h : 0 ≤ d ∧ d ≤ 255) : ∃ k : Nat, Hid (d % 4 = k) ∧ k < 4 ∧ (#[.int .i64 0, .int .i64 1, .int .i64 2, .int .i64 4] : Array Value)[k]? = some (.int .i64 (dictN d : Int)) := by
  refine ⟨(d % 4).toNat, by show _ = _; omega, by omega, ?_⟩
  obtain ⟨h0, h1, h2, h3⟩ := dict_tab d
  have hd4 : d % 4 = 0 ∨ d % 4 = 1 ∨ d % 4 = 2 ∨ d % 4 = 3 := by omega
  rcases hd4 with h | h | h | h
  · rw [h0 h, h]; rfl
  · rw [h1 h, h]; rfl
  · rw [h2 h, h]; rfl
  · rw [h3 h, h]; rfl
theorem size_cell {d : Int} (h : 0 ≤ d ∧ d ≤ 255) : ∃ k : Nat, Hid (d / 64 = k) ∧ k < 4 ∧ (#[.int .i64 0, .int .i64 2, .int .i64 4, .int .i64 8] : Array Value)[k]? = some (.int .i64 (sizeK d)) ∧
    ∃ Bv : Bool, Hid (k = 0 → Bv = sgV d) ∧ Hid (k ≠ 0 → Bv = false) ∧ Hid (Bv = true → (sizeN d : Int) = 1) ∧ Hid (Bv = false → (sizeN d : Int) = sizeK d) := by
  refine ⟨(d / 64).toNat, by show _ = _; omega, by omega, ?_, ?_⟩
  · obtain ⟨h0, h1, h2, h3⟩ := size_tab d
    have hd4 : d / 64 = 0 ∨ d / 64 = 1 ∨ d / 64 = 2 ∨ d / 64 = 3 := by omega
    rcases hd4 with h | h | h | h
    · rw [h0 h, h]; rfl
    · rw [h1 h, h]; rfl
    · rw [h2 h, h]; rfl
    · rw [h3 h, h]; rfl
  · obtain ⟨Bv, b1, b2, b3, b4⟩ := bv_tab d
    exact ⟨Bv, fun hk => b1.out (by omega), fun hk => b2.out (by omega), b3, b4⟩
theorem beq_eq_decide' (a b : Int) : (a == b) = decide (a = b) := by
  by_cases h : a = b
  · rw [decide_eq_true h, h]; simp
  · rw [decide_eq_false h]; simpa using h
theorem bit_tests (d : Int) : (d / 8 % 2 == 1) = rsV d ∧ (d / 32 % 2 == 1) = sgV d ∧ (d / 4 % 2 == 1) = smV d := by
  unfold rsV sgV smV
  exact ⟨by simp only [beq_eq_decide'], by simp only [beq_eq_decide'], by simp only [beq_eq_decide']⟩
theorem ref_reads (s : ByteArray) (a : Nat) (d : Int) (hs : s.size ≤ 4611686018427387904) (W : World) (h1 : nxV a d + dictN d + sizeN d ≤ s.size) (h2 : 1 ≤ sizeN d) : Calls Try.prog 73 #[.string s, .int .i64 ((nxV a d : Int) + (dictN d : Int)), .int .i64 (sizeN d : Int)] W fun e w' =>
      e = .returned (.tuple #[.int .u64 (rd s (nxV a d + dictN d) (sizeN d)), .int .i64 ((nxV a d : Int) + (dictN d : Int) + (sizeN d : Int)), .agg #[.int .i64 0, .int .i64 0]]) ∧ Below W.heap.size W w' := by
  have := rRead_mid s (nxV a d + dictN d) (sizeN d) W h2 (sizeN_eq d).2 h1 (by omega)
  rw [Int.natCast_add] at this
  exact this
theorem num_lo (s : ByteArray) (a : Nat) (d : Int) : 0 ≤ rd s (nxV a d + dictN d) (sizeN d) ∧ rd s (nxV a d + dictN d) (sizeN d) < 18446744073709551616 := by
  have h1 := rd_lo s (nxV a d + dictN d) (sizeN d)
  have h2 := sizeN_eq d
  have h3 : (256 : Int) ^ (sizeN d) ≤ 256 ^ 8 := pow256_le (by omega)
  omega


end Go.Proofs.Ytfdbkpbgkpkckaa
