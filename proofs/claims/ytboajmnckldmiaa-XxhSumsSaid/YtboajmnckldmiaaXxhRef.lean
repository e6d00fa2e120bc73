/-
  The walks of the references' Seeded, Of, Low, Add, Sum.
-/
import Derived.Test.YtboajmnckldmiaaXxhCheck
import Derived.Test.YtboajmnckldmiaaCurBytes
import Derived.Test.YtboajmnckldmiaaXxhState2
import Derived.Deep.RegionHeld3
import Derived.Deep.LoopGhost
import Derived.Deep.DrawnRows
namespace Go.Proofs.Ytboajmnckldmiaa
open Go.RowKit
set_option linter.unusedVariables false
set_option maxRecDepth 100000

attribute [local go_sem ↓] Go.wp_at_zero Go.wp_at_succ
set_option maxHeartbeats 4000000 in
theorem rSeeded_any (s : ByteArray) (sd : Int) (w : World) (hs : s.size ≤ 1099511627776) (hsd : 0 ≤ sd ∧ sd ≤ 18446744073709551615) :
    Calls Try.prog 49 #[.string s, .int .u64 sd] w fun e w' => e = .returned (.int .u64 (seededV s sd)) ∧ Below w.heap.size w w' := by
  have HN := Lib.hid (fun W => rlanes_any sd W hsd)
  have hli := startV_in sd hsd
  have HQ : Hid (seededV s sd = sumV (stripV (startV sd) s).1 s.size (stripV (startV sd) s).2 sd) := rfl
  unfold Lan.val at HN
  generalize startV sd = l0 at *
  obtain ⟨la, lb, lc, ld⟩ := l0
  simp only at HN
  go_enter Try.func49, Try.ntmps49
  go_wp2_with fail
  refine (HN.out _).mono ?_
  rintro e w1 ⟨rfl, hB1⟩
  have HL0 := Lib.hid (Lb.new w1 ⟨la, lb, lc, ld⟩ 47)
  have HB0 := Lib.hid (below_alloc hB1 (.cells #[.int .u64 la, .int .u64 lb, .int .u64 lc, .int .u64 ld] 47))
  have HZ := Lib.hid hB1.size
  go_wp2
  go_loopw [0] (fun rv wr => ∃ (l : Lan) (r : ByteArray), rv = .string r ∧ Lb 47 wr w1.heap.size l ∧ LanIn l ∧ r.size ≤ 1099511627776 ∧ Hid (stripV l r = stripV ⟨la, lb, lc, ld⟩ s) ∧ Below w.heap.size w wr) (fun rv _ => match rv with | .string r => r.size | _ => 0)
  case atStart => exact ⟨⟨la, lb, lc, ld⟩, s, rfl, HL0.out, hli, hs, Lib.hid rfl, HB0.out⟩
  case round =>
    clear HL0 HB0 hB1
    obtain ⟨l, r, rfl, hb, hln, hr, HR, hBt⟩ := hrel
    obtain ⟨xa, xb, xc, xd⟩ := l
    have p0 := hb.c0
    have p1 := hb.c1
    have p2 := hb.c2
    have p3 := hb.c3
    simp only at p0 p1 p2 p3
    by_cases h32 : 32 ≤ r.size
    · have HV := Lib.hid (stripV_32 ⟨xa, xb, xc, xd⟩ r h32)
      have HT := Lib.hid (fun W => rtake_any xa xb xc xd r W hln h32 (by omega))
      have hmn := takeV_in ⟨xa, xb, xc, xd⟩ r 0
      generalize takeV ⟨xa, xb, xc, xd⟩ r 0 = m at *
      obtain ⟨ma, mb, mc, md⟩ := m
      unfold Lan.val at HT
      simp only at HT
      have g32 : (32 : Int) ≤ (r.size : Int) := by omega
      have hz := ext_lt r 32 (by omega) (by omega)
      have he' : (r.extract 32 r.size).size ≤ 1099511627776 := by omega
      go_wp2_with fail
      refine (HT.out _).mono ?_
      rintro e w5 ⟨rfl, hB6⟩
      have e1 := hb.keep' hB6
      have u0 := e1.c0
      have u1 := e1.c1
      have u2 := e1.c2
      have u3 := e1.c3
      have v0 := e1.fz 0
      have v1 := e1.fz 1
      have v2 := e1.fz 2
      have v3 := e1.fz 3
      simp only at u0 u1 u2 u3
      go_wp2
      go_roundw
      case rel =>
        have hz1 := HZ.out
        exact ⟨⟨ma, mb, mc, md⟩, r.extract 32 r.size, rfl, ((((e1.set0 ma).set1 mb).set2 mc).set3 md), hmn, he', Lib.hid (HV.out.symm.trans HR.out), (((((below_then hBt hB6).setCell (p := ⟨w1.heap.size, 0, none⟩) hz1 _).setCell (p := ⟨w1.heap.size, 1, none⟩) hz1 _).setCell (p := ⟨w1.heap.size, 2, none⟩) hz1 _).setCell (p := ⟨w1.heap.size, 3, none⟩) hz1 _)⟩
      case measure => exact hz
    · have HV := Lib.hid (stripV_lt ⟨xa, xb, xc, xd⟩ r (by omega))
      have HE := Lib.hid (fun W => rend_any xa xb xc xd (s.size : Int) r sd W hln (by omega) hsd (by omega))
      have g32 : ¬ (32 : Int) ≤ (r.size : Int) := by omega
      go_wp2_with fail
      refine (HE.out _).mono ?_
      rintro e w5 ⟨rfl, hB6⟩
      go_wp2
      go_ret
      refine ⟨ret_int ?_, below_then hBt hB6⟩
      rw [HQ.out, ← HR.out, HV.out]

theorem rOf05_any (s : ByteArray) (w : World) (hs : s.size ≤ 1099511627776) :
    Calls Try.prog 47 #[.string s] w fun e w' => e = .returned (.int .u64 (seededV s 0)) ∧ Below w.heap.size w w' := by
  have HS := Lib.hid (fun W => rSeeded_any s 0 W hs (by omega))
  go_enter Try.func47, Try.ntmps47
  go_wp2_with fail
  refine (HS.out _).mono ?_
  rintro e w1 ⟨rfl, hB1⟩
  go_wp2
  go_ret
  exact ⟨rfl, hB1⟩

theorem rLow05_any (s : ByteArray) (w : World) (hs : s.size ≤ 1099511627776) :
    Calls Try.prog 51 #[.string s] w fun e w' => e = .returned (.int .u32 (seededV s 0 % 4294967296)) ∧ Below w.heap.size w w' := by
  have HS := Lib.hid (fun W => rOf05_any s W hs)
  have hb : 0 ≤ seededV s 0 ∧ seededV s 0 ≤ 18446744073709551615 := sumV_in _ _ _ _
  generalize seededV s 0 = x at *
  have HW : Hid (IntKind.u32.wrap (x % 4294967296) = x % 4294967296) := by show _ = _; rw [IntKind.wrap_u32]; omega
  go_enter Try.func51, Try.ntmps51
  go_wp2_with fail
  refine (HS.out _).mono ?_
  rintro e w1 ⟨rfl, hB1⟩
  go_wp2
  go_ret
  exact ⟨ret_int (by first | exact HW.out | rfl), hB1⟩

set_option maxHeartbeats 4000000 in
theorem rAdd_bad (la lb lc ld t : Int) (s : ByteArray) (sd : Int) (x : ByteArray) (w : World) (hok : HshOk ⟨⟨la, lb, lc, ld⟩, t, s, sd⟩) (hx : x.size ≤ 9223372036854775807) (hb : badH ⟨⟨la, lb, lc, ld⟩, t, s, sd⟩ = true) :
    Calls Try.prog 38 #[.agg #[.int .u64 la, .int .u64 lb, .int .u64 lc, .int .u64 ld, .int .i64 t, .string s, .int .u64 sd], .string x] w fun e w' => e = .returned (.tuple #[zeroH.val, .int .i64 10]) ∧ Below w.heap.size w w' := by
  have HC := Lib.hid (fun W => rCheck05_any la lb lc ld t s sd W hok.2.2.1 hok.2.2.2)
  rw [check_bad hb] at HC
  clear hb
  have hz := (Hs.new w ⟨⟨la, lb, lc, ld⟩, t, s, sd⟩ 49).alloc (.cells #[.int .u64 0, .int .u64 0, .int .u64 0, .int .u64 0, .int .i64 0, .string ⟨#[]⟩, .int .u64 0] 49)
  have hr := Hs.new (w.alloc (.cells #[.int .u64 la, .int .u64 lb, .int .u64 lc, .int .u64 ld, .int .i64 t, .string s, .int .u64 sd] 49)) zeroH 49
  rw [World.size_alloc] at hr
  go_enter Try.func38, Try.ntmps38
  go_wp2_with fail
  refine (HC.out _).mono ?_
  rintro e w1 ⟨rfl, hB1⟩
  have hz1 := hz.keep' hB1
  have hr1 := hr.keep' hB1
  have hlt := hr1.lt
  have p0 := hz1.c0
  have p1 := hz1.c1
  have p2 := hz1.c2
  have p3 := hz1.c3
  have p4 := hz1.c4
  have p5 := hz1.c5
  have p6 := hz1.c6
  have z0 := hz1.fz 0
  have z1 := hz1.fz 1
  have z2 := hz1.fz 2
  have z3 := hz1.fz 3
  have z4 := hz1.fz 4
  have z5 := hz1.fz 5
  have z6 := hz1.fz 6
  simp only at p0 p1 p2 p3 p4 p5 p6
  have q0 := hr1.c0
  have q1 := hr1.c1
  have q2 := hr1.c2
  have q3 := hr1.c3
  have q4 := hr1.c4
  have q5 := hr1.c5
  have q6 := hr1.c6
  have y0 := hr1.fz 0
  have y1 := hr1.fz 1
  have y2 := hr1.fz 2
  have y3 := hr1.fz 3
  have y4 := hr1.fz 4
  have y5 := hr1.fz 5
  have y6 := hr1.fz 6
  simp only [zeroH] at q0 q1 q2 q3 q4 q5 q6
  have hst := ((((((hr1.set0 0).set1 0).set2 0).set3 0).set4 0).set5 ⟨#[]⟩).set6 0
  have j0 := hst.c0
  have j1 := hst.c1
  have j2 := hst.c2
  have j3 := hst.c3
  have j4 := hst.c4
  have j5 := hst.c5
  have j6 := hst.c6
  simp only at j0 j1 j2 j3 j4 j5 j6
  go_wp2
  refine bodyPost_ret (v := .tuple #[.agg #[.int .u64 0, .int .u64 0, .int .u64 0, .int .u64 0, .int .i64 0, .string ⟨#[]⟩, .int .u64 0], .int .i64 10]) (by simp [results, Try.results38, go_sem, j0, j1, j2, j3, j4, j5, j6]) rfl ⟨rfl, ?_⟩
  have hBw := below_then (below_alloc (below_new (w := w) _) _) hB1
  exact ((((((hBw.setCell (p := ⟨w.heap.size + 1, 0, none⟩) (by simp) _).setCell (p := ⟨w.heap.size + 1, 1, none⟩) (by simp) _).setCell (p := ⟨w.heap.size + 1, 2, none⟩) (by simp) _).setCell (p := ⟨w.heap.size + 1, 3, none⟩) (by simp) _).setCell (p := ⟨w.heap.size + 1, 4, none⟩) (by simp) _).setCell (p := ⟨w.heap.size + 1, 5, none⟩) (by simp) _).setCell (p := ⟨w.heap.size + 1, 6, none⟩) (by simp) _

set_option maxHeartbeats 4000000 in
theorem rAdd_long (la lb lc ld t : Int) (s : ByteArray) (sd : Int) (x : ByteArray) (w : World) (hok : HshOk ⟨⟨la, lb, lc, ld⟩, t, s, sd⟩) (hx : x.size ≤ 9223372036854775807) (hb : badH ⟨⟨la, lb, lc, ld⟩, t, s, sd⟩ = false) (hl : 1099511627776 - t < (x.size : Int)) :
    Calls Try.prog 38 #[.agg #[.int .u64 la, .int .u64 lb, .int .u64 lc, .int .u64 ld, .int .i64 t, .string s, .int .u64 sd], .string x] w fun e w' => e = .returned (.tuple #[zeroH.val, .int .i64 2]) ∧ Below w.heap.size w w' := by
  have HC := Lib.hid (fun W => rCheck05_any la lb lc ld t s sd W hok.2.2.1 hok.2.2.2)
  rw [check_ok hb] at HC
  obtain ⟨ht0, _⟩ := badH_ok hb
  simp only at ht0
  clear hb
  have hw : IntKind.i64.wrap (1099511627776 - t) = 1099511627776 - t := IntWalk.i64_in _ (by omega)
  have hw2 : decide (1099511627776 - t < (x.size : Int)) = true := by simpa using hl
  have HW := Lib.hid hw
  clear hw
  have hz := (Hs.new w ⟨⟨la, lb, lc, ld⟩, t, s, sd⟩ 49).alloc (.cells #[.int .u64 0, .int .u64 0, .int .u64 0, .int .u64 0, .int .i64 0, .string ⟨#[]⟩, .int .u64 0] 49)
  have hr := Hs.new (w.alloc (.cells #[.int .u64 la, .int .u64 lb, .int .u64 lc, .int .u64 ld, .int .i64 t, .string s, .int .u64 sd] 49)) zeroH 49
  rw [World.size_alloc] at hr
  go_enter Try.func38, Try.ntmps38
  go_wp2_with fail
  refine (HC.out _).mono ?_
  rintro e w1 ⟨rfl, hB1⟩
  have hz1 := hz.keep' hB1
  have hr1 := hr.keep' hB1
  have hlt := hr1.lt
  have p0 := hz1.c0
  have p1 := hz1.c1
  have p2 := hz1.c2
  have p3 := hz1.c3
  have p4 := hz1.c4
  have p5 := hz1.c5
  have p6 := hz1.c6
  have z0 := hz1.fz 0
  have z1 := hz1.fz 1
  have z2 := hz1.fz 2
  have z3 := hz1.fz 3
  have z4 := hz1.fz 4
  have z5 := hz1.fz 5
  have z6 := hz1.fz 6
  simp only at p0 p1 p2 p3 p4 p5 p6
  have q0 := hr1.c0
  have q1 := hr1.c1
  have q2 := hr1.c2
  have q3 := hr1.c3
  have q4 := hr1.c4
  have q5 := hr1.c5
  have q6 := hr1.c6
  have y0 := hr1.fz 0
  have y1 := hr1.fz 1
  have y2 := hr1.fz 2
  have y3 := hr1.fz 3
  have y4 := hr1.fz 4
  have y5 := hr1.fz 5
  have y6 := hr1.fz 6
  simp only [zeroH] at q0 q1 q2 q3 q4 q5 q6
  have hst := ((((((hr1.set0 0).set1 0).set2 0).set3 0).set4 0).set5 ⟨#[]⟩).set6 0
  have j0 := hst.c0
  have j1 := hst.c1
  have j2 := hst.c2
  have j3 := hst.c3
  have j4 := hst.c4
  have j5 := hst.c5
  have j6 := hst.c6
  simp only at j0 j1 j2 j3 j4 j5 j6
  go_wp2
  refine bodyPost_ret (v := .tuple #[.agg #[.int .u64 0, .int .u64 0, .int .u64 0, .int .u64 0, .int .i64 0, .string ⟨#[]⟩, .int .u64 0], .int .i64 2]) (by simp [results, Try.results38, go_sem, j0, j1, j2, j3, j4, j5, j6]) rfl ⟨rfl, ?_⟩
  have hBw := below_then (below_alloc (below_new (w := w) _) _) hB1
  exact ((((((hBw.setCell (p := ⟨w.heap.size + 1, 0, none⟩) (by simp) _).setCell (p := ⟨w.heap.size + 1, 1, none⟩) (by simp) _).setCell (p := ⟨w.heap.size + 1, 2, none⟩) (by simp) _).setCell (p := ⟨w.heap.size + 1, 3, none⟩) (by simp) _).setCell (p := ⟨w.heap.size + 1, 4, none⟩) (by simp) _).setCell (p := ⟨w.heap.size + 1, 5, none⟩) (by simp) _).setCell (p := ⟨w.heap.size + 1, 6, none⟩) (by simp) _

set_option maxHeartbeats 4000000 in
theorem rAdd_ok (la lb lc ld t : Int) (s : ByteArray) (sd : Int) (x : ByteArray) (w : World) (hok : HshOk ⟨⟨la, lb, lc, ld⟩, t, s, sd⟩) (hx : x.size ≤ 9223372036854775807) (hb : badH ⟨⟨la, lb, lc, ld⟩, t, s, sd⟩ = false) (hl : ¬ 1099511627776 - t < (x.size : Int)) :
    Calls Try.prog 38 #[.agg #[.int .u64 la, .int .u64 lb, .int .u64 lc, .int .u64 ld, .int .i64 t, .string s, .int .u64 sd], .string x] w fun e w' => e = .returned (.tuple #[(addH ⟨⟨la, lb, lc, ld⟩, t, s, sd⟩ x).val, .int .i64 0]) ∧ Below w.heap.size w w' := by
  have HC := Lib.hid (fun W => rCheck05_any la lb lc ld t s sd W hok.2.2.1 hok.2.2.2)
  rw [check_ok hb] at HC
  obtain ⟨ht0, hsz⟩ := badH_ok hb
  simp only at ht0 hsz
  have hs1 : s.size ≤ 1000 := by omega
  have hln := hok.1
  clear hb hsz
  have hw2 : decide (1099511627776 - t < (x.size : Int)) = false := by simpa using hl
  have hz := (Hs.new w ⟨⟨la, lb, lc, ld⟩, t, s, sd⟩ 49).alloc (.cells #[.int .u64 0, .int .u64 0, .int .u64 0, .int .u64 0, .int .i64 0, .string ⟨#[]⟩, .int .u64 0] 49)
  have hr := Hs.new (w.alloc (.cells #[.int .u64 la, .int .u64 lb, .int .u64 lc, .int .u64 ld, .int .i64 t, .string s, .int .u64 sd] 49)) zeroH 49
  rw [World.size_alloc] at hr
  have hxl : x.size ≤ 1099511627776 := by omega
  have hv : (s ++ x).size ≤ 1099511628776 := by rw [ByteArray.size_append]; omega
  have HA : Hid (addH ⟨⟨la, lb, lc, ld⟩, t, s, sd⟩ x = ⟨(stripV ⟨la, lb, lc, ld⟩ (s ++ x)).1, t + x.size, (stripV ⟨la, lb, lc, ld⟩ (s ++ x)).2, sd⟩) := rfl
  generalize addH ⟨⟨la, lb, lc, ld⟩, t, s, sd⟩ x = mm at *
  go_enter Try.func38, Try.ntmps38
  go_wp2_with fail
  refine (HC.out _).mono ?_
  rintro e w1 ⟨rfl, hB1⟩
  have hz1 := hz.keep' hB1
  have hr1 := hr.keep' hB1
  have hBw := below_then (below_alloc (below_new (w := w) _) _) hB1
  have hlt := hr1.lt
  have p0 := hz1.c0
  have p1 := hz1.c1
  have p2 := hz1.c2
  have p3 := hz1.c3
  have p4 := hz1.c4
  have p5 := hz1.c5
  have p6 := hz1.c6
  have z0 := hz1.fz 0
  have z1 := hz1.fz 1
  have z2 := hz1.fz 2
  have z3 := hz1.fz 3
  have z4 := hz1.fz 4
  have z5 := hz1.fz 5
  have z6 := hz1.fz 6
  simp only at p0 p1 p2 p3 p4 p5 p6
  have hst := (hz1.set4 (t + (x.size : Int)))
  have k5 := hst.c5
  have kz5 := hst.fz 5
  simp only at k5
  have HS0 := Lib.hid (hst.set5 (s ++ x))
  have HR0 := Lib.hid ((hr1.setOther ⟨w.heap.size, 4, none⟩ (by simp) (.int .i64 (t + (x.size : Int)))).setOther ⟨w.heap.size, 5, none⟩ (by simp) (.string (s ++ x)))
  have HB0 := Lib.hid ((hBw.setCell (p := ⟨w.heap.size, 4, none⟩) (Nat.le_refl _) (.int .i64 (t + (x.size : Int)))).setCell (p := ⟨w.heap.size, 5, none⟩) (Nat.le_refl _) (.string (s ++ x)))
  go_wp2
  go_loopg [34] (s ++ x).size (fun k _ wr => ∃ (l : Lan) (r : ByteArray), k = r.size ∧ Hs 49 wr w.heap.size ⟨l, t + (x.size : Int), r, sd⟩ ∧ LanIn l ∧ r.size ≤ 1099511628776 ∧ Hid (stripV l r = stripV ⟨la, lb, lc, ld⟩ (s ++ x)) ∧ Hs 49 wr (w.heap.size + 1) zeroH ∧ Below w.heap.size w wr)
  case atStart => exact ⟨⟨la, lb, lc, ld⟩, s ++ x, rfl, HS0.out, hln, hv, Lib.hid rfl, HR0.out, HB0.out⟩
  case round =>
    clear p0 p1 p2 p3 p4 p5 p6 z0 z1 z2 z3 z4 z5 z6 k5 kz5 HS0 HR0 HB0 hst hz1 hr1 hz hr
    obtain ⟨l, r, rfl, hg, hln2, hrz, HR, hgr, hBt⟩ := hrel
    obtain ⟨xa, xb, xc, xd⟩ := l
    have p0 := hg.c0
    have p1 := hg.c1
    have p2 := hg.c2
    have p3 := hg.c3
    have p4 := hg.c4
    have p5 := hg.c5
    have p6 := hg.c6
    have z0 := hg.fz 0
    have z1 := hg.fz 1
    have z2 := hg.fz 2
    have z3 := hg.fz 3
    have z4 := hg.fz 4
    have z5 := hg.fz 5
    have z6 := hg.fz 6
    simp only at p0 p1 p2 p3 p4 p5 p6
    by_cases h32 : 32 ≤ r.size
    · have HV := Lib.hid (stripV_32 ⟨xa, xb, xc, xd⟩ r h32)
      have HT := Lib.hid (fun W => rtake_any xa xb xc xd r W hln2 h32 (by omega))
      have hmn := takeV_in ⟨xa, xb, xc, xd⟩ r 0
      generalize takeV ⟨xa, xb, xc, xd⟩ r 0 = m at *
      obtain ⟨ma, mb, mc, md⟩ := m
      unfold Lan.val at HT
      simp only at HT
      have g32 : (32 : Int) ≤ (r.size : Int) := by omega
      have hzz := ext_lt r 32 (by omega) (by omega)
      have he' : (r.extract 32 r.size).size ≤ 1099511628776 := by omega
      go_wp2_with fail
      refine (HT.out _).mono ?_
      rintro e w5 ⟨rfl, hB6⟩
      clear p0 p1 p2 p3 p4 p5 p6 z0 z1 z2 z3 z4 z5 z6
      have e1 := hg.keep' hB6
      have e2 := hgr.keep' hB6
      have e3 := (((e1.set0 ma).set1 mb).set2 mc).set3 md
      have p0 := e1.c0
      have p1 := e1.c1
      have p2 := e1.c2
      have p3 := e1.c3
      have p4 := e1.c4
      have p5 := e1.c5
      have p6 := e1.c6
      have z0 := e1.fz 0
      have z1 := e1.fz 1
      have z2 := e1.fz 2
      have z3 := e1.fz 3
      have z4 := e1.fz 4
      have z5 := e1.fz 5
      have z6 := e1.fz 6
      simp only at p0 p1 p2 p3 p4 p5 p6
      have k5 := e3.c5
      have kz5 := e3.fz 5
      simp only at k5
      go_wp2
      go_roundg (r.extract 32 r.size).size
      case measure => exact hzz
      case rel =>
        exact ⟨⟨ma, mb, mc, md⟩, r.extract 32 r.size, rfl, e3.set5 (r.extract 32 r.size), hmn, he', Lib.hid (HV.out.symm.trans HR.out), (((((e2.setOther ⟨w.heap.size, 0, none⟩ (by simp) _).setOther ⟨w.heap.size, 1, none⟩ (by simp) _).setOther ⟨w.heap.size, 2, none⟩ (by simp) _).setOther ⟨w.heap.size, 3, none⟩ (by simp) _).setOther ⟨w.heap.size, 5, none⟩ (by simp) _), ((((((below_then hBt hB6).setCell (p := ⟨w.heap.size, 0, none⟩) (Nat.le_refl _) _).setCell (p := ⟨w.heap.size, 1, none⟩) (Nat.le_refl _) _).setCell (p := ⟨w.heap.size, 2, none⟩) (Nat.le_refl _) _).setCell (p := ⟨w.heap.size, 3, none⟩) (Nat.le_refl _) _).setCell (p := ⟨w.heap.size, 5, none⟩) (Nat.le_refl _) _)⟩
    · have HV := Lib.hid (stripV_lt ⟨xa, xb, xc, xd⟩ r (by omega))
      have g32 : ¬ (32 : Int) ≤ (r.size : Int) := by omega
      have q0 := hgr.c0
      have q1 := hgr.c1
      have q2 := hgr.c2
      have q3 := hgr.c3
      have q4 := hgr.c4
      have q5 := hgr.c5
      have q6 := hgr.c6
      have y0 := hgr.fz 0
      have y1 := hgr.fz 1
      have y2 := hgr.fz 2
      have y3 := hgr.fz 3
      have y4 := hgr.fz 4
      have y5 := hgr.fz 5
      have y6 := hgr.fz 6
      simp only [zeroH] at q0 q1 q2 q3 q4 q5 q6
      have hst := ((((((hgr.set0 xa).set1 xb).set2 xc).set3 xd).set4 (t + (x.size : Int))).set5 r).set6 sd
      have j0 := hst.c0
      have j1 := hst.c1
      have j2 := hst.c2
      have j3 := hst.c3
      have j4 := hst.c4
      have j5 := hst.c5
      have j6 := hst.c6
      simp only at j0 j1 j2 j3 j4 j5 j6
      go_wp2
      refine bodyPost_ret (v := .tuple #[.agg #[.int .u64 xa, .int .u64 xb, .int .u64 xc, .int .u64 xd, .int .i64 (t + (x.size : Int)), .string r, .int .u64 sd], .int .i64 0]) (by simp [results, Try.results38, go_sem, j0, j1, j2, j3, j4, j5, j6]) rfl ⟨?_, ?_⟩
      · rw [HA.out, ← HR.out, HV.out]; rfl
      · exact ((((((hBt.setCell (p := ⟨w.heap.size + 1, 0, none⟩) (by simp) _).setCell (p := ⟨w.heap.size + 1, 1, none⟩) (by simp) _).setCell (p := ⟨w.heap.size + 1, 2, none⟩) (by simp) _).setCell (p := ⟨w.heap.size + 1, 3, none⟩) (by simp) _).setCell (p := ⟨w.heap.size + 1, 4, none⟩) (by simp) _).setCell (p := ⟨w.heap.size + 1, 5, none⟩) (by simp) _).setCell (p := ⟨w.heap.size + 1, 6, none⟩) (by simp) _

theorem rAdd05_any (la lb lc ld t : Int) (s : ByteArray) (sd : Int) (x : ByteArray) (w : World) (hok : HshOk ⟨⟨la, lb, lc, ld⟩, t, s, sd⟩) (hx : x.size ≤ 9223372036854775807) :
    Calls Try.prog 38 #[.agg #[.int .u64 la, .int .u64 lb, .int .u64 lc, .int .u64 ld, .int .i64 t, .string s, .int .u64 sd], .string x] w fun e w' => e = .returned (.tuple #[(addO ⟨⟨la, lb, lc, ld⟩, t, s, sd⟩ x).val, .int .i64 (addE ⟨⟨la, lb, lc, ld⟩, t, s, sd⟩ x)]) ∧ Below w.heap.size w w' := by
  cases hb : badH ⟨⟨la, lb, lc, ld⟩, t, s, sd⟩
  · by_cases hl : 1099511627776 - t < (x.size : Int)
    · obtain ⟨e1, e2⟩ := addE_long (x := x) hb hl
      rw [e1, e2]; exact rAdd_long la lb lc ld t s sd x w hok hx hb hl
    · obtain ⟨e1, e2⟩ := addE_ok (x := x) hb hl
      rw [e1, e2]; exact rAdd_ok la lb lc ld t s sd x w hok hx hb hl
  · obtain ⟨e1, e2⟩ := addE_bad (x := x) hb
    rw [e1, e2]; exact rAdd_bad la lb lc ld t s sd x w hok hx hb

set_option maxHeartbeats 4000000 in
theorem rSum_bad (la lb lc ld t : Int) (s : ByteArray) (sd : Int) (w : World) (hok : HshOk ⟨⟨la, lb, lc, ld⟩, t, s, sd⟩) (hb : badH ⟨⟨la, lb, lc, ld⟩, t, s, sd⟩ = true) :
    Calls Try.prog 40 #[.agg #[.int .u64 la, .int .u64 lb, .int .u64 lc, .int .u64 ld, .int .i64 t, .string s, .int .u64 sd]] w fun e w' => e = .returned (.tuple #[.int .u64 0, .int .i64 10]) ∧ Below w.heap.size w w' := by
  have HC := Lib.hid (fun W => rCheck05_any la lb lc ld t s sd W hok.2.2.1 hok.2.2.2)
  rw [check_bad hb] at HC
  clear hb
  go_enter Try.func40, Try.ntmps40
  go_wp2_with fail
  refine (HC.out _).mono ?_
  rintro e w1 ⟨rfl, hB1⟩
  go_wp2
  go_ret2
  exact ⟨rfl, below_then (below_new _) hB1⟩

set_option maxHeartbeats 4000000 in
theorem rSum_ok (la lb lc ld t : Int) (s : ByteArray) (sd : Int) (w : World) (hok : HshOk ⟨⟨la, lb, lc, ld⟩, t, s, sd⟩) (hb : badH ⟨⟨la, lb, lc, ld⟩, t, s, sd⟩ = false) :
    Calls Try.prog 40 #[.agg #[.int .u64 la, .int .u64 lb, .int .u64 lc, .int .u64 ld, .int .i64 t, .string s, .int .u64 sd]] w fun e w' => e = .returned (.tuple #[.int .u64 (sumV ⟨la, lb, lc, ld⟩ t s sd), .int .i64 0]) ∧ Below w.heap.size w w' := by
  have HC := Lib.hid (fun W => rCheck05_any la lb lc ld t s sd W hok.2.2.1 hok.2.2.2)
  rw [check_ok hb] at HC
  obtain ⟨ht0, hsz⟩ := badH_ok hb
  simp only at ht0 hsz
  clear hb hsz
  have hz := Hs.new w ⟨⟨la, lb, lc, ld⟩, t, s, sd⟩ 49
  have HA := Lib.hid (fun W => rend_any la lb lc ld t s sd W hok.1 (by omega) hok.2.2.2 hok.2.2.1)
  generalize sumV ⟨la, lb, lc, ld⟩ t s sd = m at *
  go_enter Try.func40, Try.ntmps40
  go_wp2_with fail
  refine (HC.out _).mono ?_
  rintro e w1 ⟨rfl, hB1⟩
  have hz1 := hz.keep' hB1
  have p0 := hz1.c0
  have p1 := hz1.c1
  have p2 := hz1.c2
  have p3 := hz1.c3
  have p4 := hz1.c4
  have p5 := hz1.c5
  have p6 := hz1.c6
  have z0 := hz1.fz 0
  have z1 := hz1.fz 1
  have z2 := hz1.fz 2
  have z3 := hz1.fz 3
  have z4 := hz1.fz 4
  have z5 := hz1.fz 5
  have z6 := hz1.fz 6
  simp only at p0 p1 p2 p3 p4 p5 p6
  have hBw := below_then (below_new (w := w) _) hB1
  go_wp2_with fail
  refine (HA.out _).mono ?_
  rintro e w2 ⟨rfl, hB2⟩
  go_wp2
  go_ret2
  exact ⟨rfl, below_then hBw hB2⟩

theorem rSum05_any (la lb lc ld t : Int) (s : ByteArray) (sd : Int) (w : World) (hok : HshOk ⟨⟨la, lb, lc, ld⟩, t, s, sd⟩) :
    Calls Try.prog 40 #[.agg #[.int .u64 la, .int .u64 lb, .int .u64 lc, .int .u64 ld, .int .i64 t, .string s, .int .u64 sd]] w fun e w' => e = .returned (.tuple #[.int .u64 (sumO ⟨⟨la, lb, lc, ld⟩, t, s, sd⟩), .int .i64 (checkH ⟨⟨la, lb, lc, ld⟩, t, s, sd⟩)]) ∧ Below w.heap.size w w' := by
  cases hb : badH ⟨⟨la, lb, lc, ld⟩, t, s, sd⟩
  · rw [check_ok hb, show sumO ⟨⟨la, lb, lc, ld⟩, t, s, sd⟩ = sumV ⟨la, lb, lc, ld⟩ t s sd by unfold sumO; rw [hb, if_neg (by simp)]]; exact rSum_ok la lb lc ld t s sd w hok hb
  · rw [check_bad hb, show sumO ⟨⟨la, lb, lc, ld⟩, t, s, sd⟩ = 0 by unfold sumO; rw [hb, if_pos rfl]]; exact rSum_bad la lb lc ld t s sd w hok hb


end Go.Proofs.Ytboajmnckldmiaa
