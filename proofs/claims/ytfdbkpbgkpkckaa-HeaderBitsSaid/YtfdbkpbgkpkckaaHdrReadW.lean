/-
  The walk of header.Read.
-/
import Derived.Test.YtfdbkpbgkpkckaaHdrRead
import Derived.Deep.QuietTactic
import Derived.BigQuiet
import Derived.Deep.DeepCutAuto
namespace Go.Proofs.Ytfdbkpbgkpkckaa
open Go.RowKit
set_option linter.unusedVariables false
set_option maxRecDepth 100000
attribute [local go_sem ↓] Go.wp_at_zero Go.wp_at_succ

theorem Blk.but {T : TypeId} {W W' : World} {b g : Nat} {cs : Array Value} (h : Blk T W b cs) (hu : But g W W') (hne : b ≠ g) : Blk T W' b cs := (hu.block b h.lt hne).trans h
theorem begC_in {c : Cur} (h : CurOk c) : True := trivial

set_option maxHeartbeats 8000000 in
theorem hread_any (s : ByteArray) (x : Int) (w : World) (hs : s.size ≤ 4611686018427387904) (hx : -9223372036854775808 ≤ x ∧ x ≤ 9223372036854775807) :
    Calls Try.prog 36 #[.string s, .int .i64 x] w fun r w' => r = .returned (readR s x) ∧ Below w.heap.size w w' := by
  have HN := Lib.hid (fun W => New_any s x W (by omega))
  have hok := newV_ok s x
  have hcs : (newV s x).s = s := by unfold newV; split <;> rfl
  have HRa : Hid ((newV s x).e ≠ 0 → readR s x = badR (newV s x).e (newV s x).f) := fun h => if_pos h
  have HRb : Hid ((newV s x).e = 0 → begE (newV s x) ≠ 0 → readR s x = badR (begE (newV s x)) (begF (newV s x))) := fun h h1 => by unfold readR; rw [if_neg (by simp [h]), if_pos h1]
  have HRc : Hid ((newV s x).e = 0 → begE (newV s x) = 0 → ((bytesC (begC (newV s x)) 1).e = 0 ∧ rsV (byteV (begC (newV s x))) = true) → readR s x = badR 15 ((bytesC (begC (newV s x)) 1).a - 1)) := fun h h1 h2 => by unfold readR; rw [if_neg (by simp [h]), if_neg (by simp [h1]), if_pos h2]
  have HRd : Hid ((newV s x).e = 0 → begE (newV s x) = 0 → ¬ ((bytesC (begC (newV s x)) 1).e = 0 ∧ rsV (byteV (begC (newV s x))) = true) → readR s x = tailR (byteV (begC (newV s x))) (bytesC (begC (newV s x)) 1)) := fun h h1 h2 => by unfold readR; rw [if_neg (by simp [h]), if_neg (by simp [h1]), if_neg h2]
  generalize readR s x = R at *
  generalize newV s x = c0 at *
  have hok1 := begC_ok hok
  have hcs1 := begC_s c0
  rw [hcs] at hcs1
  have hok2 := bytesC_ok 1 hok1
  have hcs2 := bytesC_s (begC c0) 1
  rw [hcs1] at hcs2
  have hby : 0 ≤ byteV (begC c0) ∧ byteV (begC c0) ≤ 255 := sb_lo _ _
  have hszc : c0.s.size ≤ 4611686018427387904 := by rw [hcs]; exact hs
  have hsz1 : (begC c0).s.size ≤ 4611686018427387904 := by rw [hcs1]; exact hs
  have hsz2 : (bytesC (begC c0) 1).s.size ≤ 4611686018427387904 := by rw [hcs2]; exact hs
  have HBG := Lib.hid (fun g W hg => rbegins_any g c0 W hg hok hszc)
  have HBY := Lib.hid (fun g W hg => rbyte_any g (begC c0) W hg hok1 (by omega))
  have hB0 := Blk.new w #[.int .i64 0, .int .i64 0, .bool false, .bool false] 52
  have hB0' := hB0.alloc (.cells #[.int .i64 0, .int .i64 0] 54)
  have hB1 := Blk.new (w.alloc (.cells #[.int .i64 0, .int .i64 0, .bool false, .bool false] 52)) #[.int .i64 0, .int .i64 0] 54
  rw [World.size_alloc] at hB1
  have hBw := below_alloc (below_new (w := w) (.cells #[.int .i64 0, .int .i64 0, .bool false, .bool false] 52)) (.cells #[.int .i64 0, .int .i64 0] 54)
  clear hcs hcs1 hcs2
  generalize begC c0 = c1 at *
  generalize bytesC c1 1 = c2 at *
  generalize byteV c1 = d at *
  have F3t : Hid (sgV d = true → hC3 d c2 = c2 ∧ hWd d c2 = 0) := fun h => by unfold hC3 hWd; rw [if_pos h, if_pos h]; exact ⟨rfl, rfl⟩
  have F3f : Hid (sgV d = false → hC3 d c2 = bytesC c2 1 ∧ hWd d c2 = windowV (byteV c2)) := fun h => by unfold hC3 hWd; rw [if_neg (by rw [h]; simp), if_neg (by rw [h]; simp)]; exact ⟨rfl, rfl⟩
  have hby2 : 0 ≤ byteV c2 ∧ byteV c2 ≤ 255 := sb_lo _ _
  have HBY2 := Lib.hid (fun g W hg => rbyte_any g c2 W hg hok2 (by omega))
  have HWN := Lib.hid (fun W => window_any (byteV c2) W hby2)
  have hok3 : CurOk (hC3 d c2) := by unfold hC3; split; exact hok2; exact bytesC_ok 1 hok2
  have hsz3 : (hC3 d c2).s.size ≤ 4611686018427387904 := by unfold hC3; split; exact hsz2; rw [bytesC_s]; exact hsz2
  have HRt := Lib.hid (tail_cases d c2)
  have HDT := Lib.hid (dict_run d)
  have HST := Lib.hid (size_run d hby)
  have HDI := Lib.hid (fun W => dicts_any W)
  have HFI := Lib.hid (fun W => fields_any W)
  have HF1 : Hid (∀ g W, Cu 96 W g (hC3 d c2) → Calls Try.prog 68 #[.pointer (some ⟨g, 0, none⟩), .int .i64 (dictL d)] W fun r w' => r = .returned (.int .u64 (hId d (hC3 d c2))) ∧ Cu 96 w' g (hC4 d (hC3 d c2)) ∧ But g W w') := fun g W hg => rfield_any g _ _ W hg hok3 (by omega) (dictL_bd d)
  have hok4 : CurOk (hC4 d (hC3 d c2)) := fieldC_ok _ hok3 (dictL_bd d)
  have hsz4 : (hC4 d (hC3 d c2)).s.size ≤ 4611686018427387904 := by unfold hC4; rw [fieldC_s _ _ (dictL_bd d)]; exact hsz3
  have HF2 : Hid (∀ g W, Cu 96 W g (hC4 d (hC3 d c2)) → Calls Try.prog 68 #[.pointer (some ⟨g, 0, none⟩), .int .i64 (sizeL d)] W fun r w' => r = .returned (.int .u64 (fieldV (hC4 d (hC3 d c2)) (sizeL d))) ∧ Cu 96 w' g (hC5 d (hC4 d (hC3 d c2))) ∧ But g W w') := fun g W hg => rfield_any g _ _ W hg hok4 (by omega) (sizeL_bd d)
  have hV2 := size_val d hok4
  have FNt : Hid (d / 64 = 1 → hN d (hC4 d (hC3 d c2)) = fieldV (hC4 d (hC3 d c2)) (sizeL d) + 256) := fun h => by unfold hN; rw [if_pos h]
  have FNf : Hid (¬ d / 64 = 1 → hN d (hC4 d (hC3 d c2)) = fieldV (hC4 d (hC3 d c2)) (sizeL d)) := fun h => by unfold hN; rw [if_neg h, Int.add_zero]
  have FSt : Hid (sizeK d = 0 ∧ sgV d = true → sizeL d = 1) := fun h => if_pos h
  have FSf : Hid (¬ (sizeK d = 0 ∧ sgV d = true) → sizeL d = sizeK d) := fun h => if_neg h
  have hL2 := sizeL_bd d
  have hNb : 0 ≤ hN d (hC4 d (hC3 d c2)) := by unfold hN; split <;> omega
  generalize tailR d c2 = TR at *
  generalize hId d (hC3 d c2) = idv at *
  generalize hN d (hC4 d (hC3 d c2)) = N at *
  generalize fieldV (hC4 d (hC3 d c2)) (sizeL d) = rN at *
  generalize hC5 d (hC4 d (hC3 d c2)) = c5 at *
  generalize hC4 d (hC3 d c2) = c4 at *
  generalize dictL d = L1 at *
  generalize sizeL d = L2 at *
  generalize sizeK d = K2 at *
  generalize hC3 d c2 = c3 at *
  generalize hWd d c2 = wd at *
  generalize bytesC c2 1 = c3b at *
  generalize windowV (byteV c2) = wdb at *
  generalize byteV c2 = d2 at *
  generalize begE c0 = E1 at *
  generalize begF c0 = F1 at *
  go_enter Try.func36, Try.ntmps36
  go_wp2_with fail
  refine (HN.out _).mono ?_
  rintro r w1 ⟨rfl, hY1⟩
  have hh := hB0'.keep' hY1
  have hf := hB1.keep' hY1
  have hBb := below_then hBw hY1
  clear hB0 hB0' hB1 hBw hY1
  obtain ⟨s0, a0, e0, f0⟩ := c0
  obtain ⟨s1, a1, e1, f1⟩ := c1
  obtain ⟨s2, a2, e2, f2⟩ := c2
  unfold Cur.val
  simp only at HRa HRb HRc HRd HRt hszc hsz1 hsz2 ⊢
  have hg := Cu.new w1 ⟨s0, a0, e0, f0⟩ 96
  have hhA := hh.alloc (.cells #[.string s0, .int .i64 a0, .int .i64 e0, .int .i64 f0] 96)
  have hfA := hf.alloc (.cells #[.string s0, .int .i64 a0, .int .i64 e0, .int .i64 f0] 96)
  have hBA := below_alloc hBb (.cells #[.string s0, .int .i64 a0, .int .i64 e0, .int .i64 f0] 96)
  have hl1 := hh.lt
  have hl2 := hf.lt
  have hne : w.heap.size ≠ w.heap.size + 1 := by omega
  have hneg1 : w.heap.size ≠ w1.heap.size := by omega
  have hneg2 : w.heap.size + 1 ≠ w1.heap.size := by omega
  clear hh hf
  by_cases he0 : e0 ≠ 0
  · have HR := Lib.hid (HRa.out he0)
    have g0 : (e0 != 0) = true := by simpa using he0
    clear he0
    go_wp2_with fail
    generalize hW2 : w1.alloc (.cells #[.string s0, .int .i64 a0, .int .i64 e0, .int .i64 f0] 96) = W2 at *
    clear hW2
    have p0 := hg.c0
    have p1 := hg.c1
    have p2 := hg.c2
    have p3 := hg.c3
    simp only at p0 p1 p2 p3
    have k0 := hhA.cell 0 rfl
    have k1 := hhA.cell 1 rfl
    have k2 := hhA.cell 2 rfl
    have k3 := hhA.cell 3 rfl
    have z0 := hhA.fz 0
    have z1 := hhA.fz 1
    have z2 := hhA.fz 2
    have z3 := hhA.fz 3
    have l0 := hfA.cell 0 rfl
    have l1 := hfA.cell 1 rfl
    have y0 := hfA.fz 0
    have y1 := hfA.fz 1
    have hex := setHF_blk hhA hfA hne (.int .i64 0) (.int .i64 0) (.bool false) (.bool false) (.int .i64 (e0)) (.int .i64 (f0))
    have j0 := hex.1.drew.cell 0 rfl
    have j1 := hex.1.drew.cell 1 rfl
    have j2 := hex.1.drew.cell 2 rfl
    have j3 := hex.1.drew.cell 3 rfl
    have j4 := hex.2.drew.cell 0 rfl
    have j5 := hex.2.drew.cell 1 rfl
    simp only [World.setHF] at j0 j1 j2 j3 j4 j5
    clear hex
    go_region
    all_goals go_wp2_with fail
    exact bodyPost_ret (v := .tuple #[.agg #[.int .i64 0, .int .i64 0, .bool false, .bool false], .int .i64 0, .agg #[.int .i64 (e0), .int .i64 (f0)]]) (by simp [results, Try.results36, go_sem, j0, j1, j2, j3, j4, j5]) rfl ⟨by rw [HR.out]; rfl, below_drew (setHF_below hBA (Nat.le_refl _) (by omega) _ _ _ _ _ _)⟩

  have he0' : e0 = 0 := by omega
  have HRb2 := Lib.hid (HRb.out he0')
  have HRc2 := Lib.hid (HRc.out he0')
  have HRd2 := Lib.hid (HRd.out he0')
  have g0 : (e0 != 0) = false := by rw [he0']; rfl
  clear he0 he0' HRa HRb HRc HRd
  go_wp2_with fail
  generalize hW2 : w1.alloc (.cells #[.string s0, .int .i64 a0, .int .i64 e0, .int .i64 f0] 96) = W2 at *
  clear hW2
  refine (HBG.out _ _ hg).mono ?_
  rintro r W3 ⟨rfl, hg3, hu3⟩
  have hh3 := hhA.but hu3 hneg1
  have hf3 := hfA.but hu3 hneg2
  have hB3 := But.below hBA (by omega) (by have := hBA.size; omega) hu3
  clear hg hhA hfA hBA hu3
  have hg4 := (hg3.setOther ⟨w.heap.size + 1, 0, none⟩ (Ne.symm hneg2) (.int .i64 E1)).setOther ⟨w.heap.size + 1, 1, none⟩ (Ne.symm hneg2) (.int .i64 F1)
  have hh4 := (hh3.other ⟨w.heap.size + 1, 0, none⟩ hne (.int .i64 E1)).other ⟨w.heap.size + 1, 1, none⟩ hne (.int .i64 F1)
  have hf4 := (hf3.set 0 (.int .i64 E1)).set 1 (.int .i64 F1)
  have hB4 := (hB3.setCell (p := ⟨w.heap.size + 1, 0, none⟩) (by simp only; omega) (.int .i64 E1)).setCell (p := ⟨w.heap.size + 1, 1, none⟩) (by simp only; omega) (.int .i64 F1)
  have l0 := hf3.cell 0 rfl
  have l1 := hf3.cell 1 rfl
  have y0 := hf3.fz 0
  have y1 := hf3.fz 1
  have m0 := hf4.cell 0 rfl
  by_cases hE1 : E1 ≠ 0
  · have HR := Lib.hid (HRb2.out hE1)
    have g1 : (E1 != 0) = true := by simpa using hE1
    clear hE1
    go_wp2_with fail
    generalize hW4 : (W3.setCell ⟨w.heap.size + 1, 0, none⟩ (.int .i64 E1)).setCell ⟨w.heap.size + 1, 1, none⟩ (.int .i64 F1) = W4 at *
    clear hW4 l0 l1 y0 y1 m0
    have p0 := hg4.c0
    have p1 := hg4.c1
    have p2 := hg4.c2
    have p3 := hg4.c3
    simp only at p0 p1 p2 p3
    have k0 := hh4.cell 0 rfl
    have k1 := hh4.cell 1 rfl
    have k2 := hh4.cell 2 rfl
    have k3 := hh4.cell 3 rfl
    have z0 := hh4.fz 0
    have z1 := hh4.fz 1
    have z2 := hh4.fz 2
    have z3 := hh4.fz 3
    have l0 := hf4.cell 0 rfl
    have l1 := hf4.cell 1 rfl
    have y0 := hf4.fz 0
    have y1 := hf4.fz 1
    simp at k0 k1 k2 k3 l0 l1
    have hex := setHF_blk hh4 hf4 hne (.int .i64 0) (.int .i64 0) (.bool false) (.bool false) (.int .i64 (E1)) (.int .i64 (F1))
    have j0 := hex.1.drew.cell 0 rfl
    have j1 := hex.1.drew.cell 1 rfl
    have j2 := hex.1.drew.cell 2 rfl
    have j3 := hex.1.drew.cell 3 rfl
    have j4 := hex.2.drew.cell 0 rfl
    have j5 := hex.2.drew.cell 1 rfl
    simp only [World.setHF] at j0 j1 j2 j3 j4 j5
    clear hex
    go_region
    all_goals go_wp2_with fail
    exact bodyPost_ret (v := .tuple #[.agg #[.int .i64 0, .int .i64 0, .bool false, .bool false], .int .i64 0, .agg #[.int .i64 (E1), .int .i64 (F1)]]) (by simp [results, Try.results36, go_sem, j0, j1, j2, j3, j4, j5]) rfl ⟨by rw [HR.out]; rfl, below_drew (setHF_below hB4 (Nat.le_refl _) (by omega) _ _ _ _ _ _)⟩

  have hE1' : E1 = 0 := by omega
  have HRc3 := Lib.hid (HRc2.out hE1')
  have HRd3 := Lib.hid (HRd2.out hE1')
  have g1 : (E1 != 0) = false := by rw [hE1']; rfl
  clear hE1 hE1' HRb2 HRc2 HRd2
  go_wp2_with fail
  generalize hW4 : (W3.setCell ⟨w.heap.size + 1, 0, none⟩ (.int .i64 E1)).setCell ⟨w.heap.size + 1, 1, none⟩ (.int .i64 F1) = W4 at *
  clear hW4 l0 l1 y0 y1 m0 hg3 hh3 hf3 hB3
  refine (HBY.out _ _ hg4).mono ?_
  rintro r W5 ⟨rfl, hg5, hu5⟩
  have hh5 := hh4.but hu5 hneg1
  have hf5 := hf4.but hu5 hneg2
  have hB5 := But.below hB4 (by omega) (by have := hB4.size; omega) hu5
  clear hg4 hh4 hf4 hB4 hu5
  obtain ⟨hb32, hb4, hb8, hb3⟩ := bit_all hby
  generalize sgV d = sg at *
  generalize smV d = sm at *
  have p0 := hg5.c0
  have p1 := hg5.c1
  have p2 := hg5.c2
  have p3 := hg5.c3
  simp only at p0 p1 p2 p3
  have k0 := hh5.cell 0 rfl
  have k1 := hh5.cell 1 rfl
  have k2 := hh5.cell 2 rfl
  have k3 := hh5.cell 3 rfl
  have z0 := hh5.fz 0
  have z1 := hh5.fz 1
  have z2 := hh5.fz 2
  have z3 := hh5.fz 3
  have l0 := hf5.cell 0 rfl
  have l1 := hf5.cell 1 rfl
  have y0 := hf5.fz 0
  have y1 := hf5.fz 1

  simp at k0 k1 k2 k3 l0 l1
  by_cases hrs : e2 = 0 ∧ rsV d = true
  · have HR := Lib.hid (HRc3.out hrs)
    have g2 : (e2 == 0) = true := by rw [hrs.1]; rfl
    have g3 : (bits BinOp.and IntKind.i64 d 8 != 0) = true := by rw [hb8]; exact hrs.2
    have hwa : IntKind.i64.wrap (a2 - 1) = a2 - 1 := by have := hok2.1; simp only at this; rw [IntKind.wrap_i64]; omega
    clear hrs hb8 hb32 hb4 hb3
    go_wp2_with fail
    have hex := setHF_blk hh5 hf5 hne (.int .i64 0) (.int .i64 0) (.bool false) (.bool false) (.int .i64 15) (.int .i64 (a2 - 1))
    have j0 := hex.1.drew.cell 0 rfl
    have j1 := hex.1.drew.cell 1 rfl
    have j2 := hex.1.drew.cell 2 rfl
    have j3 := hex.1.drew.cell 3 rfl
    have j4 := hex.2.drew.cell 0 rfl
    have j5 := hex.2.drew.cell 1 rfl
    simp only [World.setHF] at j0 j1 j2 j3 j4 j5
    clear hex
    go_region
    all_goals go_wp2_with fail
    exact bodyPost_ret (v := .tuple #[.agg #[.int .i64 0, .int .i64 0, .bool false, .bool false], .int .i64 0, .agg #[.int .i64 15, .int .i64 (a2 - 1)]]) (by simp [results, Try.results36, go_sem, j0, j1, j2, j3, j4, j5]) rfl ⟨by rw [HR.out]; rfl, below_drew (setHF_below hB5 (Nat.le_refl _) (by omega) _ _ _ _ _ _)⟩

  have HRd4 := Lib.hid (HRd3.out hrs)
  go_upto_region 8 with fail
  go_cut [53] (fun s53 wx => s53 = .bool false ∧ wx = W5)
  case first =>
    by_cases h2 : e2 = 0
    · have g2 : (e2 == 0) = true := by rw [h2]; rfl
      have g3 : (bits BinOp.and IntKind.i64 d 8 != 0) = false := by
        rw [hb8]
        cases hr : rsV d
        · rfl
        · exact absurd ⟨h2, hr⟩ hrs
      clear h2 hrs hb8
      go_wp2_with fail
      go_meet
      exact ⟨rfl, rfl⟩
    · have g2 : (e2 == 0) = false := by simpa using h2
      clear h2 hrs
      go_wp2_with fail
      go_meet
      exact ⟨rfl, rfl⟩
  case rest =>
  obtain ⟨rfl, hWc⟩ := hcut
  subst hWc
  clear hrs
  have hh6 := (((hh5.set 0 (.int .i64 0)).set 1 (.int .i64 (-1))).set 2 (.bool sg)).set 3 (.bool sm)
  have hf6 := (((hf5.other ⟨w.heap.size, 0, none⟩ (Ne.symm hne) (.int .i64 0)).other ⟨w.heap.size, 1, none⟩ (Ne.symm hne) (.int .i64 (-1))).other ⟨w.heap.size, 2, none⟩ (Ne.symm hne) (.bool sg)).other ⟨w.heap.size, 3, none⟩ (Ne.symm hne) (.bool sm)
  have hg6 := (((hg5.setOther ⟨w.heap.size, 0, none⟩ (Ne.symm hneg1) (.int .i64 0)).setOther ⟨w.heap.size, 1, none⟩ (Ne.symm hneg1) (.int .i64 (-1))).setOther ⟨w.heap.size, 2, none⟩ (Ne.symm hneg1) (.bool sg)).setOther ⟨w.heap.size, 3, none⟩ (Ne.symm hneg1) (.bool sm)
  have hB6 := (((hB5.setCell (p := ⟨w.heap.size, 0, none⟩) (Nat.le_refl _) (.int .i64 0)).setCell (p := ⟨w.heap.size, 1, none⟩) (Nat.le_refl _) (.int .i64 (-1))).setCell (p := ⟨w.heap.size, 2, none⟩) (Nat.le_refl _) (.bool sg)).setCell (p := ⟨w.heap.size, 3, none⟩) (Nat.le_refl _) (.bool sm)
  have q1 := hg6.c1
  have q2 := hh6.cell 2 rfl
  simp only at q1
  go_upto_if 76 with fail
  generalize hW6 : (((wc.setCell ⟨w.heap.size, 0, none⟩ (.int .i64 0)).setCell ⟨w.heap.size, 1, none⟩ (.int .i64 (-1))).setCell ⟨w.heap.size, 2, none⟩ (.bool sg)).setCell ⟨w.heap.size, 3, none⟩ (.bool sm) = W6 at *
  clear hW6 hb8 hb32 hb4 q1 q2 hg5 hh5 hf5 hB5
  clear p0 p1 p2 p3 k0 k1 k2 k3 z0 z1 z2 z3 l0 l1 y0 y1

  have p0 := hg6.c0
  have p1 := hg6.c1
  have p2 := hg6.c2
  have p3 := hg6.c3
  simp only at p0 p1 p2 p3
  go_cut [9] (fun s9 wx => s9 = .int .i64 a2 ∧ Cu 96 wx w1.heap.size c3 ∧ Blk 52 wx w.heap.size #[.int .i64 wd, .int .i64 (-1), .bool sg, .bool sm] ∧ Blk 54 wx (w.heap.size + 1) #[.int .i64 E1, .int .i64 F1] ∧ Below w.heap.size w wx)
  case first =>
    cases sg
    · obtain ⟨hc3, hwd⟩ := F3f.out rfl
      have HC3 := Lib.hid hc3
      have HWD := Lib.hid hwd
      clear hc3 hwd
      go_wp2_with fail
      refine (HBY2.out _ _ hg6).mono ?_
      rintro r W7 ⟨rfl, hg7, hu7⟩
      have hh7 := hh6.but hu7 hneg1
      have hf7 := hf6.but hu7 hneg2
      have hB7 := But.below hB6 (by omega) (by have := hB6.size; omega) hu7
      clear p0 p1 p2 p3
      go_wp2_with fail
      refine (HWN.out _).mono ?_
      rintro r W8 ⟨rfl, hY8⟩
      have hg8 := hg7.keep' hY8
      have hh8 := hh7.keep' hY8
      have hf8 := hf7.keep' hY8
      have hB8 := below_then hB7 hY8
      have hg9 := hg8.setOther ⟨w.heap.size, 0, none⟩ (Ne.symm hneg1) (.int .i64 wdb)
      have hh9 := hh8.set 0 (.int .i64 wdb)
      have hf9 := hf8.other ⟨w.heap.size, 0, none⟩ (Ne.symm hne) (.int .i64 wdb)
      have hB9 := hB8.setCell (p := ⟨w.heap.size, 0, none⟩) (Nat.le_refl _) (.int .i64 wdb)
      have k0 := hh8.cell 0 rfl
      have z0 := hh8.fz 0
      go_wp2_with fail
      go_meet
      exact ⟨rfl, by rw [HC3.out]; exact hg9, by rw [HWD.out]; exact hh9, hf9, hB9⟩
    · obtain ⟨hc3, hwd⟩ := F3t.out rfl
      have HC3 := Lib.hid hc3
      have HWD := Lib.hid hwd
      clear hc3 hwd
      go_wp2_with fail
      go_meet
      exact ⟨rfl, by rw [HC3.out]; exact hg6, by rw [HWD.out]; exact hh6, hf6, hB6⟩
  case rest =>
  obtain ⟨rfl, hgA, hhA, hfA, hBA⟩ := hcut
  generalize wc = WA at *
  clear hg6 hh6 hf6 hB6 p0 p1 p2 p3
  obtain ⟨s3, a3, e3, f3⟩ := c3
  obtain ⟨s4, a4, e4, f4⟩ := c4
  obtain ⟨s5, a5, e5, f5⟩ := c5
  simp only at HRt
  have p0 := hgA.c0
  have p1 := hgA.c1
  have p2 := hgA.c2
  have p3 := hgA.c3
  simp only at p0 p1 p2 p3
  go_wp2_with fail
  refine (HDI.out _).mono ?_
  rintro r WB ⟨rfl, hYB⟩
  have hgB := hgA.keep' hYB
  have hhB := hhA.keep' hYB
  have hfB := hfA.keep' hYB
  have hBB := below_then hBA hYB
  clear hgA hhA hfA hBA hYB p0 p1 p2 p3
  have hdt := HDT.out
  go_wp2_with fail
  clear hdt hb3
  refine (HF1.out _ _ hgB).mono ?_
  rintro r WC ⟨rfl, hgC, huC⟩
  have hhC := hhB.but huC hneg1
  have hfC := hfB.but huC hneg2
  have hBC := But.below hBB (by omega) (by have := hBB.size; omega) huC
  clear hgB hhB hfB hBB huC
  have p0 := hgC.c0
  have p1 := hgC.c1
  have p2 := hgC.c2
  have p3 := hgC.c3
  simp only at p0 p1 p2 p3
  go_wp2_with fail
  refine (HFI.out _).mono ?_
  rintro r WD ⟨rfl, hYD⟩
  have hgD := hgC.keep' hYD
  have hhD := hhC.keep' hYD
  have hfD := hfC.keep' hYD
  have hBD := below_then hBC hYD
  clear hgC hhC hfC hBC hYD p0 p1 p2 p3
  have hst := HST.out
  go_upto_region 18 with fail
  clear hst
  have k2 := hhD.cell 2 rfl
  have z2 := hhD.fz 2
  obtain ⟨Bv, FB1, FB2, FL1, FL2⟩ : ∃ Bv : Bool, Hid (K2 = 0 → Bv = sg) ∧ Hid (K2 ≠ 0 → Bv = false) ∧ Hid (Bv = true → L2 = 1) ∧ Hid (Bv = false → L2 = K2) := by
    refine ⟨decide (K2 = 0) && sg, fun h => ?_, fun h => ?_, fun h => ?_, fun h => ?_⟩
    · rw [decide_eq_true h, Bool.true_and]
    · rw [decide_eq_false h, Bool.false_and]
    · rw [Bool.and_eq_true] at h
      exact FSt.out ⟨of_decide_eq_true h.1, h.2⟩
    · refine FSf.out (fun hh => ?_)
      rw [hh.2, Bool.and_true] at h
      exact absurd hh.1 (of_decide_eq_false h)
  clear FSt FSf
  go_cut [106] (fun s106 wx => s106 = .bool Bv ∧ wx = WD)
  case first =>
    by_cases hK : K2 = 0
    · have g2 : (K2 == 0) = true := by rw [hK]; rfl
      have hB := Lib.hid (FB1.out hK)
      clear hK
      cases sg
      · go_wp2_with fail
        go_meet
        exact ⟨by rw [hB.out], rfl⟩
      · go_wp2_with fail
        go_meet
        exact ⟨by rw [hB.out], rfl⟩
    · have g2 : (K2 == 0) = false := by simpa using hK
      have hB := Lib.hid (FB2.out hK)
      clear hK
      go_wp2_with fail
      go_meet
      exact ⟨by rw [hB.out], rfl⟩
  case rest =>
  obtain ⟨rfl, hWc⟩ := hcut
  subst hWc
  generalize wc = WD at *
  clear FB1 FB2
  go_upto_if 106 with fail
  go_cut [13] (fun s13 wx => s13 = .int .i64 L2 ∧ wx = WD)
  case first =>
    cases Bv
    · have hL := Lib.hid (FL2.out rfl)
      go_wp2_with fail
      go_meet
      exact ⟨by rw [hL.out], rfl⟩
    · have hL := Lib.hid (FL1.out rfl)
      go_wp2_with fail
      go_meet
      exact ⟨by rw [hL.out], rfl⟩
  case rest =>
  obtain ⟨rfl, hWc⟩ := hcut
  subst hWc
  clear k2 z2 FL1 FL2
  generalize wc = WD at *
  go_wp2_with fail
  refine (HF2.out _ _ hgD).mono ?_
  rintro r WE ⟨rfl, hgE, huE⟩
  have hhE := hhD.but huE hneg1
  have hfE := hfD.but huE hneg2
  have hBE := But.below hBD (by omega) (by have := hBD.size; omega) huE
  clear hgD hhD hfD hBD huE
  go_upto_if 112 with fail
  go_cut [14] (fun s14 wx => s14 = .int .u64 N ∧ wx = WE)
  case first =>
    by_cases hK : d / 64 = 1
    · have hL := Lib.hid (FNt.out hK)
      have g3 : (d / 64 == 1) = true := by rw [hK]; rfl
      have hw : IntKind.u64.wrap (rN + 256) = rN + 256 := by
        have h1 := hV2.2.2 hK
        have h2 := hV2.1
        rw [IntKind.wrap_u64]; omega
      clear hK hV2
      go_wp2_with fail
      go_meet
      exact ⟨by rw [hL.out], rfl⟩
    · have hL := Lib.hid (FNf.out hK)
      have g3 : (d / 64 == 1) = false := by simpa using hK
      clear hK hV2
      go_wp2_with fail
      go_meet
      exact ⟨by rw [hL.out], rfl⟩
  case rest =>
  obtain ⟨rfl, hWc⟩ := hcut
  subst hWc
  clear hV2 FNt FNf
  generalize wc = WE at *
  have p0 := hgE.c0
  have p1 := hgE.c1
  have p2 := hgE.c2
  have p3 := hgE.c3
  simp only at p0 p1 p2 p3
  have k0 := hhE.cell 0 rfl
  have k1 := hhE.cell 1 rfl
  have k2 := hhE.cell 2 rfl
  have k3 := hhE.cell 3 rfl
  have z0 := hhE.fz 0
  have z1 := hhE.fz 1
  have z2 := hhE.fz 2
  have z3 := hhE.fz 3
  have l0 := hfE.cell 0 rfl
  have l1 := hfE.cell 1 rfl
  have y0 := hfE.fz 0
  have y1 := hfE.fz 1
  simp at k0 k1 k2 k3 l0 l1

  by_cases h5 : e5 ≠ 0
  · have HR := Lib.hid (HRd4.out.trans (HRt.out.1 h5))
    have g2 : (e5 != 0) = true := by simpa using h5
    clear h5
    go_wp2_with fail
    have hex := setHF_blk hhE hfE hne (.int .i64 0) (.int .i64 0) (.bool false) (.bool false) (.int .i64 (e5)) (.int .i64 (f5))
    have j0 := hex.1.drew.cell 0 rfl
    have j1 := hex.1.drew.cell 1 rfl
    have j2 := hex.1.drew.cell 2 rfl
    have j3 := hex.1.drew.cell 3 rfl
    have j4 := hex.2.drew.cell 0 rfl
    have j5 := hex.2.drew.cell 1 rfl
    simp only [World.setHF] at j0 j1 j2 j3 j4 j5
    clear hex
    go_region
    all_goals go_wp2_with fail
    exact bodyPost_ret (v := .tuple #[.agg #[.int .i64 0, .int .i64 0, .bool false, .bool false], .int .i64 0, .agg #[.int .i64 (e5), .int .i64 (f5)]]) (by simp [results, Try.results36, go_sem, j0, j1, j2, j3, j4, j5]) rfl ⟨by rw [HR.out]; rfl, below_drew (setHF_below hBE (Nat.le_refl _) (by omega) _ _ _ _ _ _)⟩

  have h5' : e5 = 0 := by omega
  have g2 : (e5 != 0) = false := by rw [h5']; rfl
  have HRt5 := Lib.hid (And.intro (HRt.out.2.1 h5') (And.intro (HRt.out.2.2.1 h5') (And.intro (HRt.out.2.2.2.1 h5') (And.intro (HRt.out.2.2.2.2.1 h5') (HRt.out.2.2.2.2.2 h5')))))
  clear h5 h5' HRt
  by_cases hi : idv ≠ 0
  · have HR := Lib.hid (HRd4.out.trans (HRt5.out.1 hi))
    have g3 : (idv != 0) = true := by simpa using hi
    clear hi
    have hex := setHF_blk hhE hfE hne (.int .i64 0) (.int .i64 0) (.bool false) (.bool false) (.int .i64 (16)) (.int .i64 (a3))
    have j0 := hex.1.cell 0 rfl
    have j1 := hex.1.cell 1 rfl
    have j2 := hex.1.cell 2 rfl
    have j3 := hex.1.cell 3 rfl
    have j4 := hex.2.cell 0 rfl
    have j5 := hex.2.cell 1 rfl
    simp only [World.setHF] at j0 j1 j2 j3 j4 j5
    clear hex
    go_wp2_with fail
    exact bodyPost_ret (v := .tuple #[.agg #[.int .i64 0, .int .i64 0, .bool false, .bool false], .int .i64 0, .agg #[.int .i64 (16), .int .i64 (a3)]]) (by simp [results, Try.results36, go_sem, j0, j1, j2, j3, j4, j5]) rfl ⟨by rw [HR.out]; rfl, (setHF_below hBE (Nat.le_refl _) (by omega) _ _ _ _ _ _)⟩

  have hi' : idv = 0 := by omega
  have g3 : (idv != 0) = false := by rw [hi']; rfl
  have HRt6 := Lib.hid (And.intro (HRt5.out.2.1 hi') (And.intro (HRt5.out.2.2.1 hi') (And.intro (HRt5.out.2.2.2.1 hi') (HRt5.out.2.2.2.2 hi'))))
  clear hi hi' HRt5
  cases sg
  · by_cases h7 : 134217728 < wd
    · have HR := Lib.hid (HRd4.out.trans (HRt6.out.2.1 (by simp) ⟨rfl, h7⟩))
      have g4 : decide (134217728 < wd) = true := decide_eq_true h7
      have hex := setHF_blk hhE hfE hne (.int .i64 0) (.int .i64 0) (.bool false) (.bool false) (.int .i64 (17)) (.int .i64 (a2))
      have j0 := hex.1.cell 0 rfl
      have j1 := hex.1.cell 1 rfl
      have j2 := hex.1.cell 2 rfl
      have j3 := hex.1.cell 3 rfl
      have j4 := hex.2.cell 0 rfl
      have j5 := hex.2.cell 1 rfl
      simp only [World.setHF] at j0 j1 j2 j3 j4 j5
      clear hex
      go_wp2_with fail
      exact bodyPost_ret (v := .tuple #[.agg #[.int .i64 0, .int .i64 0, .bool false, .bool false], .int .i64 0, .agg #[.int .i64 (17), .int .i64 (a2)]]) (by simp [results, Try.results36, go_sem, j0, j1, j2, j3, j4, j5]) rfl ⟨by rw [HR.out]; rfl, (setHF_below hBE (Nat.le_refl _) (by omega) _ _ _ _ _ _)⟩
    
    have g4 : decide (134217728 < wd) = false := decide_eq_false h7
    have n1 : ¬ (false = true ∧ 134217728 < N) := by simp
    have n2 : ¬ (false = false ∧ 134217728 < wd) := fun h => h7 h.2
    have HRt8 := Lib.hid (And.intro (HRt6.out.2.2.1 n1 n2) (HRt6.out.2.2.2 n1 n2))
    clear h7 HRt6 n1 n2
    by_cases h8 : 1099511627776 < N
    · have HR := Lib.hid (HRd4.out.trans (HRt8.out.1 h8))
      have g5 : decide (1099511627776 < N) = true := decide_eq_true h8
      have hex := setHF_blk hhE hfE hne (.int .i64 0) (.int .i64 0) (.bool false) (.bool false) (.int .i64 (2)) (.int .i64 (a4))
      have j0 := hex.1.cell 0 rfl
      have j1 := hex.1.cell 1 rfl
      have j2 := hex.1.cell 2 rfl
      have j3 := hex.1.cell 3 rfl
      have j4 := hex.2.cell 0 rfl
      have j5 := hex.2.cell 1 rfl
      simp only [World.setHF] at j0 j1 j2 j3 j4 j5
      clear hex
      go_wp2_with fail
      exact bodyPost_ret (v := .tuple #[.agg #[.int .i64 0, .int .i64 0, .bool false, .bool false], .int .i64 0, .agg #[.int .i64 (2), .int .i64 (a4)]]) (by simp [results, Try.results36, go_sem, j0, j1, j2, j3, j4, j5]) rfl ⟨by rw [HR.out]; rfl, (setHF_below hBE (Nat.le_refl _) (by omega) _ _ _ _ _ _)⟩
    
    have g5 : decide (1099511627776 < N) = false := decide_eq_false h8
    have HRt9 := Lib.hid (HRd4.out.trans (HRt8.out.2 (Int.not_lt.mp h8)))
    have hNw : IntKind.i64.wrap N = N := by rw [IntKind.wrap_i64]; omega
    clear h8 HRt8
    by_cases h9 : 0 < L2
    · have HR : Hid (R = .tuple #[.agg #[.int .i64 wd, .int .i64 N, .bool false, .bool sm], .int .i64 a5, .agg #[.int .i64 0, .int .i64 0]]) := by
        have hh := HRt9.out
        rw [if_neg (show ¬ (false = true) from by simp), if_pos h9] at hh
        exact hh
      have g6 : decide (0 < L2) = true := decide_eq_true h9
      clear HRt9
      have hh1 := hhE.set 1 (.int .i64 N)
      have hf1 := hfE.other ⟨w.heap.size, 1, none⟩ (Ne.symm hne) (.int .i64 N)
      have hg1 := hgE.setOther ⟨w.heap.size, 1, none⟩ (Ne.symm hneg1) (.int .i64 N)
      have hB1 := hBE.setCell (p := ⟨w.heap.size, 1, none⟩) (Nat.le_refl _) (.int .i64 N)
      have hh2 := hh1
      have hf2 := hf1
      have hg2 := hg1
      have hB2 := hB1
      have n2 := hh1.cell 2 rfl
      simp at n2
      go_wp2_with fail
      clear p0 p1 p2 p3 k0 k1 k2 k3 z0 z1 z2 z3 l0 l1 y0 y1
      generalize hWF : (WE.setCell ⟨w.heap.size, 1, none⟩ (.int .i64 N)) = WF at *
      clear hWF
      have p0 := hg2.c0
      have p1 := hg2.c1
      have p2 := hg2.c2
      have p3 := hg2.c3
      simp only at p0 p1 p2 p3
      have k0 := hh2.cell 0 rfl
      have k1 := hh2.cell 1 rfl
      have k2 := hh2.cell 2 rfl
      have k3 := hh2.cell 3 rfl
      have z0 := hh2.fz 0
      have z1 := hh2.fz 1
      have z2 := hh2.fz 2
      have z3 := hh2.fz 3
      have l0 := hf2.cell 0 rfl
      have l1 := hf2.cell 1 rfl
      have y0 := hf2.fz 0
      have y1 := hf2.fz 1
      simp at k0 k1 k2 k3 l0 l1
      have hex := setHF_blk hh2 hf2 hne (.int .i64 wd) (.int .i64 N) (.bool false) (.bool sm) (.int .i64 0) (.int .i64 0)
      have j0 := hex.1.drew.cell 0 rfl
      have j1 := hex.1.drew.cell 1 rfl
      have j2 := hex.1.drew.cell 2 rfl
      have j3 := hex.1.drew.cell 3 rfl
      have j4 := hex.2.drew.cell 0 rfl
      have j5 := hex.2.drew.cell 1 rfl
      simp only [World.setHF] at j0 j1 j2 j3 j4 j5
      clear hex
      go_region
      all_goals go_wp2_with fail
      exact bodyPost_ret (v := .tuple #[.agg #[.int .i64 wd, .int .i64 N, .bool false, .bool sm], .int .i64 a5, .agg #[.int .i64 0, .int .i64 0]]) (by simp [results, Try.results36, go_sem, j0, j1, j2, j3, j4, j5]) rfl ⟨by rw [HR.out], below_drew (setHF_below hB2 (Nat.le_refl _) (by omega) _ _ _ _ _ _)⟩
    
    · have HR : Hid (R = .tuple #[.agg #[.int .i64 wd, .int .i64 (-1), .bool false, .bool sm], .int .i64 a5, .agg #[.int .i64 0, .int .i64 0]]) := by
        have hh := HRt9.out
        rw [if_neg (show ¬ (false = true) from by simp), if_neg h9] at hh
        exact hh
      have g6 : decide (0 < L2) = false := decide_eq_false h9
      clear HRt9
      have hh1 := hhE
      have hf1 := hfE
      have hg1 := hgE
      have hB1 := hBE
      have hh2 := hh1
      have hf2 := hf1
      have hg2 := hg1
      have hB2 := hB1
      have n2 := hh1.cell 2 rfl
      simp at n2
      go_wp2_with fail
      clear p0 p1 p2 p3 k0 k1 k2 k3 z0 z1 z2 z3 l0 l1 y0 y1
      have p0 := hg2.c0
      have p1 := hg2.c1
      have p2 := hg2.c2
      have p3 := hg2.c3
      simp only at p0 p1 p2 p3
      have k0 := hh2.cell 0 rfl
      have k1 := hh2.cell 1 rfl
      have k2 := hh2.cell 2 rfl
      have k3 := hh2.cell 3 rfl
      have z0 := hh2.fz 0
      have z1 := hh2.fz 1
      have z2 := hh2.fz 2
      have z3 := hh2.fz 3
      have l0 := hf2.cell 0 rfl
      have l1 := hf2.cell 1 rfl
      have y0 := hf2.fz 0
      have y1 := hf2.fz 1
      simp at k0 k1 k2 k3 l0 l1
      have hex := setHF_blk hh2 hf2 hne (.int .i64 wd) (.int .i64 (-1)) (.bool false) (.bool sm) (.int .i64 0) (.int .i64 0)
      have j0 := hex.1.drew.cell 0 rfl
      have j1 := hex.1.drew.cell 1 rfl
      have j2 := hex.1.drew.cell 2 rfl
      have j3 := hex.1.drew.cell 3 rfl
      have j4 := hex.2.drew.cell 0 rfl
      have j5 := hex.2.drew.cell 1 rfl
      simp only [World.setHF] at j0 j1 j2 j3 j4 j5
      clear hex
      go_region
      all_goals go_wp2_with fail
      exact bodyPost_ret (v := .tuple #[.agg #[.int .i64 wd, .int .i64 (-1), .bool false, .bool sm], .int .i64 a5, .agg #[.int .i64 0, .int .i64 0]]) (by simp [results, Try.results36, go_sem, j0, j1, j2, j3, j4, j5]) rfl ⟨by rw [HR.out], below_drew (setHF_below hB2 (Nat.le_refl _) (by omega) _ _ _ _ _ _)⟩
  · by_cases h7 : 134217728 < N
    · have HR := Lib.hid (HRd4.out.trans (HRt6.out.1 ⟨rfl, h7⟩))
      have g4 : decide (134217728 < N) = true := decide_eq_true h7
      have hex := setHF_blk hhE hfE hne (.int .i64 0) (.int .i64 0) (.bool false) (.bool false) (.int .i64 (17)) (.int .i64 (a4))
      have j0 := hex.1.cell 0 rfl
      have j1 := hex.1.cell 1 rfl
      have j2 := hex.1.cell 2 rfl
      have j3 := hex.1.cell 3 rfl
      have j4 := hex.2.cell 0 rfl
      have j5 := hex.2.cell 1 rfl
      simp only [World.setHF] at j0 j1 j2 j3 j4 j5
      clear hex
      go_wp2_with fail
      exact bodyPost_ret (v := .tuple #[.agg #[.int .i64 0, .int .i64 0, .bool false, .bool false], .int .i64 0, .agg #[.int .i64 (17), .int .i64 (a4)]]) (by simp [results, Try.results36, go_sem, j0, j1, j2, j3, j4, j5]) rfl ⟨by rw [HR.out]; rfl, (setHF_below hBE (Nat.le_refl _) (by omega) _ _ _ _ _ _)⟩
    
    have g4 : decide (134217728 < N) = false := decide_eq_false h7
    have n1 : ¬ (true = true ∧ 134217728 < N) := fun h => h7 h.2
    have n2 : ¬ (true = false ∧ 134217728 < wd) := by simp
    have HRt8 := Lib.hid (And.intro (HRt6.out.2.2.1 n1 n2) (HRt6.out.2.2.2 n1 n2))
    clear h7 HRt6 n1 n2
    by_cases h8 : 1099511627776 < N
    · have HR := Lib.hid (HRd4.out.trans (HRt8.out.1 h8))
      have g5 : decide (1099511627776 < N) = true := decide_eq_true h8
      have hex := setHF_blk hhE hfE hne (.int .i64 0) (.int .i64 0) (.bool false) (.bool false) (.int .i64 (2)) (.int .i64 (a4))
      have j0 := hex.1.cell 0 rfl
      have j1 := hex.1.cell 1 rfl
      have j2 := hex.1.cell 2 rfl
      have j3 := hex.1.cell 3 rfl
      have j4 := hex.2.cell 0 rfl
      have j5 := hex.2.cell 1 rfl
      simp only [World.setHF] at j0 j1 j2 j3 j4 j5
      clear hex
      go_wp2_with fail
      exact bodyPost_ret (v := .tuple #[.agg #[.int .i64 0, .int .i64 0, .bool false, .bool false], .int .i64 0, .agg #[.int .i64 (2), .int .i64 (a4)]]) (by simp [results, Try.results36, go_sem, j0, j1, j2, j3, j4, j5]) rfl ⟨by rw [HR.out]; rfl, (setHF_below hBE (Nat.le_refl _) (by omega) _ _ _ _ _ _)⟩
    
    have g5 : decide (1099511627776 < N) = false := decide_eq_false h8
    have HRt9 := Lib.hid (HRd4.out.trans (HRt8.out.2 (Int.not_lt.mp h8)))
    have hNw : IntKind.i64.wrap N = N := by rw [IntKind.wrap_i64]; omega
    clear h8 HRt8
    by_cases h9 : 0 < L2
    · have HR : Hid (R = .tuple #[.agg #[.int .i64 N, .int .i64 N, .bool true, .bool sm], .int .i64 a5, .agg #[.int .i64 0, .int .i64 0]]) := by
        have hh := HRt9.out
        rw [if_pos (rfl : true = true), if_pos h9] at hh
        exact hh
      have g6 : decide (0 < L2) = true := decide_eq_true h9
      clear HRt9
      have hh1 := hhE.set 1 (.int .i64 N)
      have hf1 := hfE.other ⟨w.heap.size, 1, none⟩ (Ne.symm hne) (.int .i64 N)
      have hg1 := hgE.setOther ⟨w.heap.size, 1, none⟩ (Ne.symm hneg1) (.int .i64 N)
      have hB1 := hBE.setCell (p := ⟨w.heap.size, 1, none⟩) (Nat.le_refl _) (.int .i64 N)
      have hh2 := hh1.set 0 (.int .i64 N)
      have hf2 := hf1.other ⟨w.heap.size, 0, none⟩ (Ne.symm hne) (.int .i64 N)
      have hg2 := hg1.setOther ⟨w.heap.size, 0, none⟩ (Ne.symm hneg1) (.int .i64 N)
      have hB2 := hB1.setCell (p := ⟨w.heap.size, 0, none⟩) (Nat.le_refl _) (.int .i64 N)
      have n1 := hh1.cell 1 rfl
      have n2 := hh1.cell 2 rfl
      simp at n1 n2
      go_wp2_with fail
      clear p0 p1 p2 p3 k0 k1 k2 k3 z0 z1 z2 z3 l0 l1 y0 y1
      generalize hWF : ((WE.setCell ⟨w.heap.size, 1, none⟩ (.int .i64 N)).setCell ⟨w.heap.size, 0, none⟩ (.int .i64 N)) = WF at *
      clear hWF
      have p0 := hg2.c0
      have p1 := hg2.c1
      have p2 := hg2.c2
      have p3 := hg2.c3
      simp only at p0 p1 p2 p3
      have k0 := hh2.cell 0 rfl
      have k1 := hh2.cell 1 rfl
      have k2 := hh2.cell 2 rfl
      have k3 := hh2.cell 3 rfl
      have z0 := hh2.fz 0
      have z1 := hh2.fz 1
      have z2 := hh2.fz 2
      have z3 := hh2.fz 3
      have l0 := hf2.cell 0 rfl
      have l1 := hf2.cell 1 rfl
      have y0 := hf2.fz 0
      have y1 := hf2.fz 1
      simp at k0 k1 k2 k3 l0 l1
      have hex := setHF_blk hh2 hf2 hne (.int .i64 N) (.int .i64 N) (.bool true) (.bool sm) (.int .i64 0) (.int .i64 0)
      have j0 := hex.1.drew.cell 0 rfl
      have j1 := hex.1.drew.cell 1 rfl
      have j2 := hex.1.drew.cell 2 rfl
      have j3 := hex.1.drew.cell 3 rfl
      have j4 := hex.2.drew.cell 0 rfl
      have j5 := hex.2.drew.cell 1 rfl
      simp only [World.setHF] at j0 j1 j2 j3 j4 j5
      clear hex
      go_region
      all_goals go_wp2_with fail
      exact bodyPost_ret (v := .tuple #[.agg #[.int .i64 N, .int .i64 N, .bool true, .bool sm], .int .i64 a5, .agg #[.int .i64 0, .int .i64 0]]) (by simp [results, Try.results36, go_sem, j0, j1, j2, j3, j4, j5]) rfl ⟨by rw [HR.out], below_drew (setHF_below hB2 (Nat.le_refl _) (by omega) _ _ _ _ _ _)⟩
    
    · have HR : Hid (R = .tuple #[.agg #[.int .i64 (-1), .int .i64 (-1), .bool true, .bool sm], .int .i64 a5, .agg #[.int .i64 0, .int .i64 0]]) := by
        have hh := HRt9.out
        rw [if_pos (rfl : true = true), if_neg h9] at hh
        exact hh
      have g6 : decide (0 < L2) = false := decide_eq_false h9
      clear HRt9
      have hh1 := hhE
      have hf1 := hfE
      have hg1 := hgE
      have hB1 := hBE
      have hh2 := hh1.set 0 (.int .i64 (-1))
      have hf2 := hf1.other ⟨w.heap.size, 0, none⟩ (Ne.symm hne) (.int .i64 (-1))
      have hg2 := hg1.setOther ⟨w.heap.size, 0, none⟩ (Ne.symm hneg1) (.int .i64 (-1))
      have hB2 := hB1.setCell (p := ⟨w.heap.size, 0, none⟩) (Nat.le_refl _) (.int .i64 (-1))
      have n1 := hh1.cell 1 rfl
      have n2 := hh1.cell 2 rfl
      simp at n1 n2
      go_wp2_with fail
      clear p0 p1 p2 p3 k0 k1 k2 k3 z0 z1 z2 z3 l0 l1 y0 y1
      generalize hWF : (WE.setCell ⟨w.heap.size, 0, none⟩ (.int .i64 (-1))) = WF at *
      clear hWF
      have p0 := hg2.c0
      have p1 := hg2.c1
      have p2 := hg2.c2
      have p3 := hg2.c3
      simp only at p0 p1 p2 p3
      have k0 := hh2.cell 0 rfl
      have k1 := hh2.cell 1 rfl
      have k2 := hh2.cell 2 rfl
      have k3 := hh2.cell 3 rfl
      have z0 := hh2.fz 0
      have z1 := hh2.fz 1
      have z2 := hh2.fz 2
      have z3 := hh2.fz 3
      have l0 := hf2.cell 0 rfl
      have l1 := hf2.cell 1 rfl
      have y0 := hf2.fz 0
      have y1 := hf2.fz 1
      simp at k0 k1 k2 k3 l0 l1
      have hex := setHF_blk hh2 hf2 hne (.int .i64 (-1)) (.int .i64 (-1)) (.bool true) (.bool sm) (.int .i64 0) (.int .i64 0)
      have j0 := hex.1.drew.cell 0 rfl
      have j1 := hex.1.drew.cell 1 rfl
      have j2 := hex.1.drew.cell 2 rfl
      have j3 := hex.1.drew.cell 3 rfl
      have j4 := hex.2.drew.cell 0 rfl
      have j5 := hex.2.drew.cell 1 rfl
      simp only [World.setHF] at j0 j1 j2 j3 j4 j5
      clear hex
      go_region
      all_goals go_wp2_with fail
      exact bodyPost_ret (v := .tuple #[.agg #[.int .i64 (-1), .int .i64 (-1), .bool true, .bool sm], .int .i64 a5, .agg #[.int .i64 0, .int .i64 0]]) (by simp [results, Try.results36, go_sem, j0, j1, j2, j3, j4, j5]) rfl ⟨by rw [HR.out], below_drew (setHF_below hB2 (Nat.le_refl _) (by omega) _ _ _ _ _ _)⟩

end Go.Proofs.Ytfdbkpbgkpkckaa
