/- The statement cheesepresslaw05.XxhParts holds: for every input the law returns true, and the arguments read as before. -/
import Derived.Test.YtboajmnckldmiaaShell
import Derived.Test.YtboajmnckldmiaaKit
import Derived.Test.YtboajmnckldmiaaXxhKnown
import Derived.Deep.RegionHeld3
import Derived.Deep.DrawnRows
import Derived.Deep.DeepCutAuto
namespace Go.Proofs.Ytboajmnckldmiaa.xxhParts
open Go.ChangeShapes Go.WideShapes Go.ChangeAt Go.RowKit
open Go.ChangeMaps (open_string shut_string)
set_option linter.unusedVariables false
set_option maxRecDepth 100000

attribute [local go_sem ↓] Go.wp_at_zero Go.wp_at_succ
theorem new0 (W : World) : Hs 49 (W.alloc (.cells #[.int .u64 0, .int .u64 0, .int .u64 0, .int .u64 0, .int .i64 0, .string ⟨#[]⟩, .int .u64 0] 49)) W.heap.size zeroH := heap_alloc_new _ _
theorem split3 (t : ByteArray) (p r : Nat) (h : p + r ≤ t.size) : t.extract 0 p ++ t.extract p (p + r) ++ t.extract (p + r) t.size = t := by
  apply ByteArray.ext
  simp only [ByteArray.data_append, ByteArray.data_extract]
  apply Array.ext'
  simp only [Array.toList_append, Array.toList_extract, List.extract, List.drop_zero, Nat.sub_zero]
  have hs : t.data.toList.length = t.size := by simp
  rw [show p + r - p = r by omega, List.take_of_length_le (l := List.drop (p + r) t.data.toList) (by rw [List.length_drop]; omega), List.append_assoc, ← List.drop_drop, List.take_append_drop, List.take_append_drop]

set_option maxHeartbeats 8000000 in
theorem walk (s : ByteArray) (b : Bool) (sd at0 to0 : Int) (w : World) (hs : s.size ≤ maxLen) (hsd : 0 ≤ sd ∧ sd ≤ 18446744073709551615) (hat : -9223372036854775808 ≤ at0 ∧ at0 ≤ 9223372036854775807) (hto : -9223372036854775808 ≤ to0 ∧ to0 ≤ 9223372036854775807) :
    Calls Try.prog 10 #[.string s, .bool b, .int .u64 sd, .int .i64 at0, .int .i64 to0] w fun e w' => e = .returned (.bool true) ∧ Below w.heap.size w w' := by
  have hs' : s.size ≤ 9223372036854775807 := hs
  clear hs
  by_cases hl : 200 < s.size
  · go_enter Try.func10, Try.ntmps10
    go_wp2_with fail
    refine (Known05_any _).mono ?_
    rintro e w1 ⟨rfl, hB⟩
    go_wp2
    go_ret
    exact ⟨rfl, hB⟩
  · have HL := Lib.hid (fun W => long_any s b W (by omega))
    have hz := longV_size s b
    generalize longV s b = t at *
    have ht : t.size ≤ 400 := by omega
    obtain ⟨p, hp⟩ : ∃ p : Nat, modI at0 ((t.size : Int) + 1) = p := ⟨(modI at0 ((t.size : Int) + 1)).toNat, by have := modI_lo (n := at0) (m := (t.size : Int) + 1) (by omega); omega⟩
    have hpl : p ≤ t.size := by have := modI_lo (n := at0) (m := (t.size : Int) + 1) (by omega); omega
    obtain ⟨r, hr⟩ : ∃ r : Nat, modI to0 ((t.size : Int) - p + 1) = r := ⟨(modI to0 ((t.size : Int) - p + 1)).toNat, by have := modI_lo (n := to0) (m := (t.size : Int) - p + 1) (by omega); omega⟩
    have hrl : p + r ≤ t.size := by have := modI_lo (n := to0) (m := (t.size : Int) - p + 1) (by omega); omega
    have HM1 := Lib.hid (fun W => Mod_any at0 ((t.size : Int) + 1) W hat.1 hat.2 (by omega))
    rw [hp] at HM1
    have HM2 := Lib.hid (fun W => Mod_any to0 ((t.size : Int) - p + 1) W hto.1 hto.2 (by omega))
    rw [hr] at HM2
    clear hp hr hat hto
    have hsp := split3 t p r hrl
    have z1 : (t.extract 0 p).size = p := by rw [ByteArray.size_extract]; omega
    have z2 : (t.extract p (p + r)).size = r := by rw [ByteArray.size_extract]; omega
    have z3 : (t.extract (p + r) t.size).size = t.size - (p + r) := by rw [ByteArray.size_extract]; omega
    obtain ⟨x1, hx1⟩ : ∃ x, t.extract 0 p = x := ⟨_, rfl⟩
    obtain ⟨x2, hx2⟩ : ∃ x, t.extract p (p + r) = x := ⟨_, rfl⟩
    obtain ⟨x3, hx3⟩ : ∃ x, t.extract (p + r) t.size = x := ⟨_, rfl⟩
    rw [hx1, hx2, hx3] at hsp
    rw [hx1] at z1
    rw [hx2] at z2
    rw [hx3] at z3
    have HX1 := Lib.hid hx1
    have HX2 : Hid (t.extract p ((p : Int) + (r : Int)).toNat = x2) := hx2
    have HX3 : Hid (t.extract ((p : Int) + (r : Int)).toNat t.size = x3) := hx3
    clear hx1 hx2 hx3
    have s1 : x1.size ≤ 1099511627776 := by omega
    have s12 : (x1 ++ x2).size ≤ 1099511627776 := by rw [ByteArray.size_append]; omega
    have st : t.size ≤ 1099511627776 := by omega
    have HN := Lib.hid (fun W => New05_any sd W hsd)
    have HA1 := Lib.hid (fun W => Add05_H (newH sd) x1 W (newH_ok sd hsd) (by omega))
    rw [(addO_new sd x1 s1).1, (addO_new sd x1 s1).2] at HA1
    have HA2 := Lib.hid (fun W => Add05_H (addH (newH sd) x1) x2 W (addNew_ok sd x1 s1 hsd) (by omega))
    have g1 := addH_good x1 (new_good sd) (by show (0 : Int) + (x1.size : Int) ≤ _; omega)
    have ad2 := addO_good x2 g1 (by show (0 : Int) + (x1.size : Int) + (x2.size : Int) ≤ _; omega)
    rw [ad2.1, ad2.2, addH_addH] at HA2
    have HA3 := Lib.hid (fun W => Add05_H (addH (newH sd) (x1 ++ x2)) x3 W (addNew_ok sd _ s12 hsd) (by omega))
    have g2 := addH_good (x1 ++ x2) (new_good sd) (by show (0 : Int) + ((x1 ++ x2).size : Int) ≤ _; omega)
    have ad3 := addO_good x3 g2 (by show (0 : Int) + ((x1 ++ x2).size : Int) + (x3.size : Int) ≤ _; rw [ByteArray.size_append]; omega)
    rw [ad3.1, ad3.2, addH_addH, hsp] at HA3
    have HA4 := Lib.hid (fun W => Add05_H (newH sd) t W (newH_ok sd hsd) (by omega))
    rw [(addO_new sd t st).1, (addO_new sd t st).2] at HA4
    have HS := Lib.hid (fun W => Sum05_H (addH (newH sd) t) W (addNew_ok sd t st hsd))
    rw [sum_new sd t st, check_new sd t st] at HS
    have HC := Lib.hid (fun W => Check05_H (addH (newH sd) t) W (addNew_ok sd t st hsd))
    rw [check_new sd t st] at HC
    have HSE := Lib.hid (fun W => Seeded_any t sd W st hsd)
    have HK3 := Lib.hid (addH_new sd t)
    have HTL := Lib.hid (strip_end (startV sd) t)
    generalize seededV t sd = y at *
    generalize addH (newH sd) t = k at *
    obtain rfl := HK3.out
    generalize (stripV (startV sd) t).2 = t3 at *
    generalize (stripV (startV sd) t).1 = l3 at *
    obtain ⟨c0, c1, c2, c3⟩ := l3
    generalize addH (newH sd) (x1 ++ x2) = d at *
    obtain ⟨⟨d0, d1, d2, d3⟩, d4, d5, d6⟩ := d
    generalize addH (newH sd) x1 = a at *
    obtain ⟨⟨a0, a1, a2, a3⟩, a4, a5, a6⟩ := a
    generalize newH sd = n at *
    obtain ⟨⟨n0, n1, n2, n3⟩, n4, n5, n6⟩ := n
    unfold Hsh.val at HN HA1 HA2 HA3 HA4 HS HC
    simp only at HN HA1 HA2 HA3 HA4 HS HC
    clear hsp z1 z2 z3 s1 s12 ad2 ad3 g1 g2 HK3
    go_enter Try.func10, Try.ntmps10
    go_wp2_with fail
    refine (Known05_any _).mono ?_
    rintro e w1 ⟨rfl, hB1⟩
    go_wp2_with fail
    refine (HL.out _).mono ?_
    rintro e w2 ⟨rfl, rfl⟩
    go_wp2_with fail
    refine (HM1.out _).mono ?_
    rintro e w2 ⟨rfl, rfl⟩
    go_wp2_with fail
    refine (HM2.out _).mono ?_
    rintro e w2 ⟨rfl, rfl⟩
    go_wp2_with fail
    have q0 : (0 : Int) ≤ (p : Int) := by omega
    have q1 : (p : Int) ≤ (t.size : Int) := by omega
    have q2 : (p : Int) ≤ ((p : Int) + (r : Int)) := by omega
    have q3 : ((p : Int) + (r : Int)) ≤ (t.size : Int) := by omega
    have q4 : (0 : Int) ≤ (p : Int) + (r : Int) := by omega
    have hB1r := Below.refl w1.heap.size w1
    go_cut [13, 14] (fun s13 s14 wx => ∃ g, s13 = .pointer (some ⟨g, 0, none⟩) ∧ s14 = .int .i64 0 ∧ w1.heap.size ≤ g ∧ Hs 49 wx g ⟨⟨a0, a1, a2, a3⟩, a4, a5, a6⟩ ∧ Below w1.heap.size w1 wx)
    case first =>
      go_region_with
        (first
          | (go_at_call 43; refine (HN.out _).mono ?_; rintro e5 w5 ⟨rfl, hB5⟩; have hBn := below_then (by first | exact hB1r | exact below_drew hB1r | exact below_alloc hB1r _ | exact below_drew (below_alloc hB1r _)) hB5; first | (with_reducible have hN5 := (new0 w1).keep' hB5) | (with_reducible have hN5 := (new0 w1).drew.keep' hB5) | skip)
          | (go_at_call 37; rw [HX1.out]; refine (HA1.out _).mono ?_; rintro e6 w6 ⟨rfl, hB6⟩; have hBm := below_then (by first | exact hBn | exact below_drew hBn | exact below_alloc hBn _) hB6; first | ((with_reducible have hN6 := hN5.keep' hB6); have y0 := hN6.fz 0; have v0 := hN6.c0; have y1 := hN6.fz 1; have v1 := hN6.c1; have y2 := hN6.fz 2; have v2 := hN6.c2; have y3 := hN6.fz 3; have v3 := hN6.c3; have y4 := hN6.fz 4; have v4 := hN6.c4; have y5 := hN6.fz 5; have v5 := hN6.c5; have y6 := hN6.fz 6; have v6 := hN6.c6; simp only [zeroH] at v0 v1 v2 v3 v4 v5 v6) | ((with_reducible have hN6 := (new0 w5).keep' hB6); have y0 := hN6.fz 0; have v0 := hN6.c0; have y1 := hN6.fz 1; have v1 := hN6.c1; have y2 := hN6.fz 2; have v2 := hN6.c2; have y3 := hN6.fz 3; have v3 := hN6.c3; have y4 := hN6.fz 4; have v4 := hN6.c4; have y5 := hN6.fz 5; have v5 := hN6.c5; have y6 := hN6.fz 6; have v6 := hN6.c6; simp only [zeroH] at v0 v1 v2 v3 v4 v5 v6) | skip))
      all_goals (
        go_wp2_with fail
        go_meet
        first
          | exact ⟨_, rfl, rfl, hBm.size, Hs.new w6 ⟨⟨a0, a1, a2, a3⟩, a4, a5, a6⟩ 49, below_alloc hBm _⟩
          | exact ⟨_, rfl, rfl, hBn.size, (((((((hN6.set0 a0).set1 a1).set2 a2).set3 a3).set4 a4).set5 a5).set6 a6), (((((((hBm.setCell (p := ⟨w5.heap.size, 0, none⟩) hBn.size (.int .u64 a0)).setCell (p := ⟨w5.heap.size, 1, none⟩) hBn.size (.int .u64 a1)).setCell (p := ⟨w5.heap.size, 2, none⟩) hBn.size (.int .u64 a2)).setCell (p := ⟨w5.heap.size, 3, none⟩) hBn.size (.int .u64 a3)).setCell (p := ⟨w5.heap.size, 4, none⟩) hBn.size (.int .i64 a4)).setCell (p := ⟨w5.heap.size, 5, none⟩) hBn.size (.string a5)).setCell (p := ⟨w5.heap.size, 6, none⟩) hBn.size (.int .u64 a6))⟩
          | exact ⟨_, rfl, rfl, Nat.le_refl _, (((((((hN6.set0 a0).set1 a1).set2 a2).set3 a3).set4 a4).set5 a5).set6 a6), (((((((hBm.setCell (p := ⟨w1.heap.size, 0, none⟩) (Nat.le_refl _) (.int .u64 a0)).setCell (p := ⟨w1.heap.size, 1, none⟩) (Nat.le_refl _) (.int .u64 a1)).setCell (p := ⟨w1.heap.size, 2, none⟩) (Nat.le_refl _) (.int .u64 a2)).setCell (p := ⟨w1.heap.size, 3, none⟩) (Nat.le_refl _) (.int .u64 a3)).setCell (p := ⟨w1.heap.size, 4, none⟩) (Nat.le_refl _) (.int .i64 a4)).setCell (p := ⟨w1.heap.size, 5, none⟩) (Nat.le_refl _) (.string a5)).setCell (p := ⟨w1.heap.size, 6, none⟩) (Nat.le_refl _) (.int .u64 a6))⟩)
    case rest =>
      obtain ⟨g, rfl, rfl, hgg, hG, hBc⟩ := hcut
      have bBc := below_then hB1 hBc
      have hgw : w.heap.size ≤ g := Nat.le_trans hB1.size hgg
      clear hB1r hBc hgg
      have p0 := hG.c0
      have p1 := hG.c1
      have p2 := hG.c2
      have p3 := hG.c3
      have p4 := hG.c4
      have p5 := hG.c5
      have p6 := hG.c6
      have z0 := hG.fz 0
      have z1 := hG.fz 1
      have z2 := hG.fz 2
      have z3 := hG.fz 3
      have z4 := hG.fz 4
      have z5 := hG.fz 5
      have z6 := hG.fz 6
      simp only at p0 p1 p2 p3 p4 p5 p6
      have hBr8 := Below.refl wc.heap.size wc
      have HP8 := Lib.hid (fun V (hV : Below wc.heap.size wc V) => hG.keep' hV)
      go_wp2_with fail
      go_region_with
        (first
          | (go_at_call 37; rw [HX2.out]; refine (HA2.out _).mono ?_; rintro e8 w8 ⟨rfl, hB8⟩; have hBm8 := below_then (by first | exact hBr8 | exact below_drew hBr8) hB8; have hK8 := HP8.out _ hBm8; have q0 := hK8.c0; have q1 := hK8.c1; have q2 := hK8.c2; have q3 := hK8.c3; have q4 := hK8.c4; have q5 := hK8.c5; have q6 := hK8.c6; have y0 := hK8.fz 0; have y1 := hK8.fz 1; have y2 := hK8.fz 2; have y3 := hK8.fz 3; have y4 := hK8.fz 4; have y5 := hK8.fz 5; have y6 := hK8.fz 6; simp only at q0 q1 q2 q3 q4 q5 q6))
      clear p0 p1 p2 p3 p4 p5 p6 z0 z1 z2 z3 z4 z5 z6 q0 q1 q2 q3 q4 q5 q6 y0 y1 y2 y3 y4 y5 y6
      go_wp2_with fail
      have hG8 := (((((((hK8.set0 d0).set1 d1).set2 d2).set3 d3).set4 d4).set5 d5).set6 d6)
      have bB8 := ((((((((below_then bBc hBm8).setCell (p := ⟨g, 0, none⟩) hgw (.int .u64 d0)).setCell (p := ⟨g, 1, none⟩) hgw (.int .u64 d1)).setCell (p := ⟨g, 2, none⟩) hgw (.int .u64 d2)).setCell (p := ⟨g, 3, none⟩) hgw (.int .u64 d3)).setCell (p := ⟨g, 4, none⟩) hgw (.int .i64 d4)).setCell (p := ⟨g, 5, none⟩) hgw (.string d5)).setCell (p := ⟨g, 6, none⟩) hgw (.int .u64 d6))
      generalize (((((((w8.setCell ⟨g, 0, none⟩ (.int .u64 d0)).setCell ⟨g, 1, none⟩ (.int .u64 d1)).setCell ⟨g, 2, none⟩ (.int .u64 d2)).setCell ⟨g, 3, none⟩ (.int .u64 d3)).setCell ⟨g, 4, none⟩ (.int .i64 d4)).setCell ⟨g, 5, none⟩ (.string d5)).setCell ⟨g, 6, none⟩ (.int .u64 d6)) = W8 at hG8 bB8 ⊢
      clear HP8 hB8 hBm8 hK8 hBr8
      have p0 := hG8.c0
      have p1 := hG8.c1
      have p2 := hG8.c2
      have p3 := hG8.c3
      have p4 := hG8.c4
      have p5 := hG8.c5
      have p6 := hG8.c6
      have z0 := hG8.fz 0
      have z1 := hG8.fz 1
      have z2 := hG8.fz 2
      have z3 := hG8.fz 3
      have z4 := hG8.fz 4
      have z5 := hG8.fz 5
      have z6 := hG8.fz 6
      simp only at p0 p1 p2 p3 p4 p5 p6
      have hBr9 := Below.refl W8.heap.size W8
      have HP9 := Lib.hid (fun V (hV : Below W8.heap.size W8 V) => hG8.keep' hV)
      go_wp2_with fail
      go_region_with
        (first
          | (go_at_call 37; rw [HX3.out]; refine (HA3.out _).mono ?_; rintro e9 w9 ⟨rfl, hB9⟩; have hBm9 := below_then (by first | exact hBr9 | exact below_drew hBr9) hB9; have hK9 := HP9.out _ hBm9; have q0 := hK9.c0; have q1 := hK9.c1; have q2 := hK9.c2; have q3 := hK9.c3; have q4 := hK9.c4; have q5 := hK9.c5; have q6 := hK9.c6; have y0 := hK9.fz 0; have y1 := hK9.fz 1; have y2 := hK9.fz 2; have y3 := hK9.fz 3; have y4 := hK9.fz 4; have y5 := hK9.fz 5; have y6 := hK9.fz 6; simp only at q0 q1 q2 q3 q4 q5 q6))
      clear p0 p1 p2 p3 p4 p5 p6 z0 z1 z2 z3 z4 z5 z6 q0 q1 q2 q3 q4 q5 q6 y0 y1 y2 y3 y4 y5 y6
      go_wp2_with fail
      have hG9 := (((((((hK9.set0 c0).set1 c1).set2 c2).set3 c3).set4 (t.size : Int)).set5 t3).set6 sd)
      have bB9 := ((((((((below_then bB8 hBm9).setCell (p := ⟨g, 0, none⟩) hgw (.int .u64 c0)).setCell (p := ⟨g, 1, none⟩) hgw (.int .u64 c1)).setCell (p := ⟨g, 2, none⟩) hgw (.int .u64 c2)).setCell (p := ⟨g, 3, none⟩) hgw (.int .u64 c3)).setCell (p := ⟨g, 4, none⟩) hgw (.int .i64 (t.size : Int))).setCell (p := ⟨g, 5, none⟩) hgw (.string t3)).setCell (p := ⟨g, 6, none⟩) hgw (.int .u64 sd))
      generalize (((((((w9.setCell ⟨g, 0, none⟩ (.int .u64 c0)).setCell ⟨g, 1, none⟩ (.int .u64 c1)).setCell ⟨g, 2, none⟩ (.int .u64 c2)).setCell ⟨g, 3, none⟩ (.int .u64 c3)).setCell ⟨g, 4, none⟩ (.int .i64 (t.size : Int))).setCell ⟨g, 5, none⟩ (.string t3)).setCell ⟨g, 6, none⟩ (.int .u64 sd)) = W9 at hG9 bB9 ⊢
      clear HP9 hB9 hBm9 hK9 hBr9
      refine (HN.out _).mono ?_
      rintro e w10 ⟨rfl, hB10⟩
      go_wp2_with fail
      refine (HA4.out _).mono ?_
      rintro e w11 ⟨rfl, hB11⟩
      have bB11 := below_then (below_then bB9 hB10) hB11
      have hG11 := ((hG9.keep' hB10).keep' hB11).alloc (.cells #[.int .u64 c0, .int .u64 c1, .int .u64 c2, .int .u64 c3, .int .i64 (t.size : Int), .string t3, .int .u64 sd] 49)
      have hK11 := Hs.new w11 ⟨⟨c0, c1, c2, c3⟩, (t.size : Int), t3, sd⟩ 49
      have bC11 := below_alloc bB11 (.cells #[.int .u64 c0, .int .u64 c1, .int .u64 c2, .int .u64 c3, .int .i64 (t.size : Int), .string t3, .int .u64 sd] 49)
      clear hG9 hB10 hB11 bB9 bB11 bB8 hG8 hG bBc
      have p0 := hG11.c0
      have p1 := hG11.c1
      have p2 := hG11.c2
      have p3 := hG11.c3
      have p4 := hG11.c4
      have p5 := hG11.c5
      have p6 := hG11.c6
      simp only at p0 p1 p2 p3 p4 p5 p6
      go_wp2_with fail
      refine (HS.out _).mono ?_
      rintro e w12 ⟨rfl, hB12⟩
      have hG12 := hG11.keep' hB12
      have hK12 := hK11.keep' hB12
      have bB12 := below_then bC11 hB12
      clear hG11 hK11 bC11 hB12 p0 p1 p2 p3 p4 p5 p6
      have HP12 := Lib.hid (fun V (hV : Below w12.heap.size w12 V) => And.intro (hG12.keep' hV) (hK12.keep' hV))
      have hBr12 := Below.refl w12.heap.size w12
      have p0 := hG12.c0
      have p1 := hG12.c1
      have p2 := hG12.c2
      have p3 := hG12.c3
      have p4 := hG12.c4
      have p5 := hG12.c5
      have p6 := hG12.c6
      simp only at p0 p1 p2 p3 p4 p5 p6
      have q0 := hK12.c0
      have q1 := hK12.c1
      have q2 := hK12.c2
      have q3 := hK12.c3
      have q4 := hK12.c4
      have q5 := hK12.c5
      have q6 := hK12.c6
      simp only at q0 q1 q2 q3 q4 q5 q6
      clear hG12 hK12
      have hq1 := fun V => run_eqH V c0 c1 c2 c3 (t.size : Int) t3 sd
      obtain ⟨m, hm⟩ : ∃ m : Nat, t.size % 32 = m := ⟨_, rfl⟩
      obtain ⟨k, hk⟩ : ∃ k : Nat, t.size - t.size % 32 = k := ⟨_, rfl⟩
      have hmk : k + m = t.size := by omega
      have hrem : ((t.size : Int)).tmod 32 = (m : Int) := by rw [Int.tmod_eq_emod_of_nonneg (by omega)]; omega
      have hrem2 : ((t.size : Int)) % 32 = (m : Int) := by omega
      have hsub : IntKind.i64.wrap ((t.size : Int) - (m : Int)) = (k : Int) := by rw [IntWalk.i64_in _ (by omega)]; omega
      have hsub2 : (t.size : Int) - (m : Int) = (k : Int) := by omega
      have hsl : ∀ V, (Instr.slice 9 (.string t) (some (.int .i64 (k : Int))) none none).run Try.prog V = .ok (.string t3) V := fun V => by
        rw [run_slice_string_l (P := Try.prog) (w := V) 9 t Try.underlying9 .i64 (k : Int) (by omega) (by omega), HTL.out, hk]; rfl
      have hwk : IntKind.i64.wrap (k : Int) = (k : Int) := IntWalk.i64_in _ (by omega)
      have hk1 : (0 : Int) ≤ (k : Int) := by omega
      have hk2 : (k : Int) ≤ (t.size : Int) := by omega
      clear hm hk hmk
      go_wp2_with fail
      go_region_held3 (fun w' => Below w12.heap.size w12 w' ∧ w'.cell? ⟨g, 0, none⟩ = some (.int .u64 c0) ∧ w'.cell? ⟨g, 1, none⟩ = some (.int .u64 c1) ∧ w'.cell? ⟨g, 2, none⟩ = some (.int .u64 c2) ∧ w'.cell? ⟨g, 3, none⟩ = some (.int .u64 c3) ∧ w'.cell? ⟨g, 4, none⟩ = some (.int .i64 (t.size : Int)) ∧ w'.cell? ⟨g, 5, none⟩ = some (.string t3) ∧ w'.cell? ⟨g, 6, none⟩ = some (.int .u64 sd) ∧ w'.cell? ⟨w11.heap.size, 0, none⟩ = some (.int .u64 c0) ∧ w'.cell? ⟨w11.heap.size, 1, none⟩ = some (.int .u64 c1) ∧ w'.cell? ⟨w11.heap.size, 2, none⟩ = some (.int .u64 c2) ∧ w'.cell? ⟨w11.heap.size, 3, none⟩ = some (.int .u64 c3) ∧ w'.cell? ⟨w11.heap.size, 4, none⟩ = some (.int .i64 (t.size : Int)) ∧ w'.cell? ⟨w11.heap.size, 5, none⟩ = some (.string t3) ∧ w'.cell? ⟨w11.heap.size, 6, none⟩ = some (.int .u64 sd))
        ((refine ⟨?_, ?_, ?_, ?_, ?_, ?_, ?_, ?_, ?_, ?_, ?_, ?_, ?_, ?_, ?_⟩ <;> first | assumption | exact below_drew (by assumption)))
        (first
          | (go_at_call 41; refine (HC.out _).mono ?_; rintro r w13 ⟨rfl, hB13⟩; have hBn := below_then (by first | assumption | exact And.left (by assumption)) hB13; obtain ⟨xp, xq⟩ := HP12.out _ hBn; have r0 := xp.c0; have r1 := xp.c1; have r2 := xp.c2; have r3 := xp.c3; have r4 := xp.c4; have r5 := xp.c5; have r6 := xp.c6; simp only at r0 r1 r2 r3 r4 r5 r6; have s0 := xq.c0; have s1 := xq.c1; have s2 := xq.c2; have s3 := xq.c3; have s4 := xq.c4; have s5 := xq.c5; have s6 := xq.c6; simp only at s0 s1 s2 s3 s4 s5 s6)
          | (go_at_call 48; refine (HSE.out _).mono ?_; rintro r w13 ⟨rfl, hB13⟩; have hBn := below_then (by first | assumption | exact And.left (by assumption)) hB13; obtain ⟨xp, xq⟩ := HP12.out _ hBn; have r0 := xp.c0; have r1 := xp.c1; have r2 := xp.c2; have r3 := xp.c3; have r4 := xp.c4; have r5 := xp.c5; have r6 := xp.c6; simp only at r0 r1 r2 r3 r4 r5 r6; have s0 := xq.c0; have s1 := xq.c1; have s2 := xq.c2; have s3 := xq.c3; have s4 := xq.c4; have s5 := xq.c5; have s6 := xq.c6; simp only at s0 s1 s2 s3 s4 s5 s6))
      all_goals (
        go_wp2
        go_ret
        exact ⟨rfl, below_then bB12 (by assumption)⟩)

/-! The step from the walk to the statement: the shell's text. -/
set_option maxRecDepth 100000 in
theorem lifted (os : Os) (started : os.Started) (H : Type) (enc : TypeId × Value → H) :
    ReturnsInHanded {} Try.checked os 10 .any (Rows.xxhPartsSpec.pre6 enc Try.prog Try.f10 Rows.xxhPartsRow.domain false) (Rows.xxhPartsSpec.post enc Try.prog Try.f10 false true false false) := by
  refine returnsInHanded_of_change (C := Try.checked) own started (by kernel_rfl) Try.func10
    (ChangeSpec.witness6 (enc := enc) (C := Try.checked) false ⟨#[], #[.string ByteArray.empty, .bool false, .int .u64 0, .int .i64 0, .int .i64 0], []⟩ 8 (by kernel_rfl) (by kernel_rfl) (by kernel_rfl) (by kernel_rfl)) ?_
  intro W base args ds gs before hval0 hW hcnd _
  have hval : ∀ (j : Nat) t v, Try.f10.params[j]? = some t → args[j]? = some v → Value.okWide Try.prog W .any base t v := hval0
  have hW' := hW
  obtain ⟨p, q, hA0, hV, rfl, hfz, hnd⟩ := hW
  have hA : DataW.TrodAll enc Try.prog W 0 (fun _ => true) true Try.f10.params.toList args.toList ds p := hA0
  rw [Try.params10] at hA hval
  obtain ⟨v0, vs0, d0, ds0, p0, q0, hargs, rfl, rfl, h0, r0⟩ := trodAll_cons hA
  obtain ⟨v1, vs1, d1, ds1, p1, q1, rfl, rfl, rfl, h1, r1⟩ := trodAll_cons r0
  obtain ⟨v2, vs2, d2, ds2, p2, q2, rfl, rfl, rfl, h2, r2⟩ := trodAll_cons r1
  obtain ⟨v3, vs3, d3, ds3, p3, q3, rfl, rfl, rfl, h3, r3⟩ := trodAll_cons r2
  obtain ⟨v4, vs4, d4, ds4, p4, q4, rfl, rfl, rfl, h4, r4⟩ := trodAll_cons r3
  obtain ⟨rfl, rfl, rfl⟩ := trodAll_nil r4
  obtain rfl : args = #[v0, v1, v2, v3, v4] := by cases args; simp_all
  obtain ⟨rfl, rfl⟩ := trodVars_none hV
  obtain ⟨a0, rfl, rfl, rfl, w0⟩ := open_string Try.underlying9 (hval 0 9 v0 rfl rfl) h0
  obtain ⟨a1, rfl, rfl, rfl⟩ := open_bool Try.underlying4 (hval 1 4 v1 rfl rfl) h1
  obtain ⟨a2, rfl, rfl, rfl, w2⟩ := open_int Try.underlying32 (hval 2 32 v2 rfl rfl) h2
  obtain ⟨a3, rfl, rfl, rfl, w3⟩ := open_int Try.underlying3 (hval 3 3 v3 rfl rfl) h3
  obtain ⟨a4, rfl, rfl, rfl, w4⟩ := open_int Try.underlying3 (hval 4 3 v4 rfl rfl) h4
  clear hA0 hval0
  refine (walk a0 a1 a2 a3 a4 W w0 (bounds_u64 w2) (bounds_i64 w3) (bounds_i64 w4)).mono fun e W' ⟨he, bel⟩ => ?_
  subst he
  exact ⟨_, rfl, _, _, _, [], _, [], hW', trodAll_mk1 (shut_bool Try.underlying4 _), (trodAll_cons_mk (shut_string Try.underlying9 w0) (trodAll_cons_mk (shut_bool Try.underlying4 _) (trodAll_cons_mk (shut_int Try.underlying32 w2) (trodAll_cons_mk (shut_int Try.underlying3 w3) (trodAll_cons_mk (shut_int Try.underlying3 w4) trodAll_mk0))))), rfl, bel.frame _, fun h => by cases h⟩

theorem over : Rows.xxhPartsRow.holds Try.pinned (OpenSpec.ofChange Rows.xxhPartsSpec) :=
  OpenClaim.holds_of_wide 10 Try.f10 rfl rfl rfl rfl rfl rfl rfl ⟨rfl, rfl, rfl, rfl, rfl⟩ rfl rfl rfl rfl rfl (by kernel_rfl) Try.func10 (by kernel_rfl)
    (of_decide_eq_true (by kernel_rfl)) (by unfold Func.isWrapper; first | (rw [if_pos (by decide +kernel)]; kernel_rfl) | (rw [if_neg (by decide +kernel)]; exact ⟨rfl, rfl⟩))
    (fun os started H enc _ => lifted os started H enc)

/-- The statement. -/
theorem proved : Rows.XxhPartsSaid := over
#print axioms proved
end Go.Proofs.Ytboajmnckldmiaa.xxhParts
