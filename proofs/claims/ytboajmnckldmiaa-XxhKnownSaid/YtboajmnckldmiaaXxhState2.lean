/-
  The walks of xxh.Add and Sum.
-/
import Derived.Test.YtboajmnckldmiaaXxhCheck
import Derived.Test.YtboajmnckldmiaaCurBytes
import Derived.Test.YtboajmnckldmiaaXxhSum
import Derived.Deep.RegionHeld3
import Derived.Deep.DrawnRows
namespace Go.Proofs.Ytboajmnckldmiaa
open Go.RowKit
set_option linter.unusedVariables false
set_option maxRecDepth 100000

attribute [local go_sem ↓] Go.wp_at_zero Go.wp_at_succ
theorem badH_ok {h : Hsh} (hb : badH h = false) : (0 ≤ h.t ∧ h.t ≤ 1099511627776) ∧ (h.s.size : Int) = h.t % 32 := by
  unfold badH at hb
  simp only [Bool.or_eq_false_iff, decide_eq_false_iff_not, bne_eq_false_iff_eq] at hb
  obtain ⟨⟨⟨h1, h2⟩, h3⟩, h4⟩ := hb
  exact ⟨⟨by omega, by omega⟩, h3⟩
theorem check_bad {h : Hsh} (hb : badH h = true) : checkH h = 10 := by unfold checkH; rw [hb]; rfl
theorem check_ok {h : Hsh} (hb : badH h = false) : checkH h = 0 := by unfold checkH; rw [hb]; rfl
theorem addE_bad {h : Hsh} {x : ByteArray} (hb : badH h = true) : addE h x = 10 ∧ addO h x = zeroH := by
  have : addE h x = 10 := by unfold addE; rw [hb]; rfl
  exact ⟨this, by unfold addO; rw [this]; rfl⟩
theorem addE_long {h : Hsh} {x : ByteArray} (hb : badH h = false) (hl : 1099511627776 - h.t < (x.size : Int)) : addE h x = 2 ∧ addO h x = zeroH := by
  have : addE h x = 2 := by unfold addE; rw [hb, if_neg (by simp), if_pos hl]
  exact ⟨this, by unfold addO; rw [this]; rfl⟩
theorem addE_ok {h : Hsh} {x : ByteArray} (hb : badH h = false) (hl : ¬ 1099511627776 - h.t < (x.size : Int)) : addE h x = 0 ∧ addO h x = addH h x := by
  have : addE h x = 0 := by unfold addE; rw [hb, if_neg (by simp), if_neg hl]
  exact ⟨this, by unfold addO; rw [this, if_pos rfl]⟩
theorem addH_ok {h : Hsh} (x : ByteArray) (hk : HshOk h) (h0 : 0 ≤ h.t) (h1 : h.t + x.size ≤ 1099511627776) : HshOk (addH h x) := by
  refine ⟨stripV_in _ _ hk.1, ?_, ?_, hk.2.2.2⟩
  · show _ ∧ _; constructor <;> (show _ ≤ _; simp only [addH]; omega)
  · show (stripV _ _).2.size ≤ _; rw [stripV_tail]; omega

set_option maxHeartbeats 4000000 in
theorem Add_bad (la lb lc ld t : Int) (s : ByteArray) (sd : Int) (x : ByteArray) (w : World) (hok : HshOk ⟨⟨la, lb, lc, ld⟩, t, s, sd⟩) (hx : x.size ≤ 9223372036854775807) (hb : badH ⟨⟨la, lb, lc, ld⟩, t, s, sd⟩ = true) :
    Calls Try.prog 37 #[.agg #[.int .u64 la, .int .u64 lb, .int .u64 lc, .int .u64 ld, .int .i64 t, .string s, .int .u64 sd], .string x] w fun e w' => e = .returned (.tuple #[zeroH.val, .int .i64 10]) ∧ Below w.heap.size w w' := by
  have HC := Lib.hid (fun W => Check05_any la lb lc ld t s sd W hok.2.2.1 hok.2.2.2)
  rw [check_bad hb] at HC
  clear hb
  have hz := (Hs.new w ⟨⟨la, lb, lc, ld⟩, t, s, sd⟩ 49).alloc (.cells #[.int .u64 0, .int .u64 0, .int .u64 0, .int .u64 0, .int .i64 0, .string ⟨#[]⟩, .int .u64 0] 49)
  have hr := Hs.new (w.alloc (.cells #[.int .u64 la, .int .u64 lb, .int .u64 lc, .int .u64 ld, .int .i64 t, .string s, .int .u64 sd] 49)) zeroH 49
  rw [World.size_alloc] at hr
  go_enter Try.func37, Try.ntmps37
  go_wp2_with fail
  refine (HC.out _).mono ?_
  rintro e w1 ⟨rfl, hB1⟩
  have hz1 := hz.keep' hB1
  have hr1 := hr.keep' hB1
  have hlt := hr1.lt
  have p0 := hz1.c0
  have p1 := hz1.c1
  have p2 := hz1.c2
  have p3 := hz1.c3
  have p4 := hz1.c4
  have p5 := hz1.c5
  have p6 := hz1.c6
  have z0 := hz1.fz 0
  have z1 := hz1.fz 1
  have z2 := hz1.fz 2
  have z3 := hz1.fz 3
  have z4 := hz1.fz 4
  have z5 := hz1.fz 5
  have z6 := hz1.fz 6
  simp only at p0 p1 p2 p3 p4 p5 p6
  have q0 := hr1.c0
  have q1 := hr1.c1
  have q2 := hr1.c2
  have q3 := hr1.c3
  have q4 := hr1.c4
  have q5 := hr1.c5
  have q6 := hr1.c6
  have y0 := hr1.fz 0
  have y1 := hr1.fz 1
  have y2 := hr1.fz 2
  have y3 := hr1.fz 3
  have y4 := hr1.fz 4
  have y5 := hr1.fz 5
  have y6 := hr1.fz 6
  simp only [zeroH] at q0 q1 q2 q3 q4 q5 q6
  have hst := ((((((hr1.set0 0).set1 0).set2 0).set3 0).set4 0).set5 ⟨#[]⟩).set6 0
  have j0 := hst.c0
  have j1 := hst.c1
  have j2 := hst.c2
  have j3 := hst.c3
  have j4 := hst.c4
  have j5 := hst.c5
  have j6 := hst.c6
  simp only at j0 j1 j2 j3 j4 j5 j6
  go_wp2
  refine bodyPost_ret (v := .tuple #[.agg #[.int .u64 0, .int .u64 0, .int .u64 0, .int .u64 0, .int .i64 0, .string ⟨#[]⟩, .int .u64 0], .int .i64 10]) (by simp [results, Try.results37, go_sem, j0, j1, j2, j3, j4, j5, j6]) rfl ⟨rfl, ?_⟩
  have hBw := below_then (below_alloc (below_new (w := w) _) _) hB1
  exact ((((((hBw.setCell (p := ⟨w.heap.size + 1, 0, none⟩) (by simp) _).setCell (p := ⟨w.heap.size + 1, 1, none⟩) (by simp) _).setCell (p := ⟨w.heap.size + 1, 2, none⟩) (by simp) _).setCell (p := ⟨w.heap.size + 1, 3, none⟩) (by simp) _).setCell (p := ⟨w.heap.size + 1, 4, none⟩) (by simp) _).setCell (p := ⟨w.heap.size + 1, 5, none⟩) (by simp) _).setCell (p := ⟨w.heap.size + 1, 6, none⟩) (by simp) _

set_option maxHeartbeats 4000000 in
theorem Add_long (la lb lc ld t : Int) (s : ByteArray) (sd : Int) (x : ByteArray) (w : World) (hok : HshOk ⟨⟨la, lb, lc, ld⟩, t, s, sd⟩) (hx : x.size ≤ 9223372036854775807) (hb : badH ⟨⟨la, lb, lc, ld⟩, t, s, sd⟩ = false) (hl : 1099511627776 - t < (x.size : Int)) :
    Calls Try.prog 37 #[.agg #[.int .u64 la, .int .u64 lb, .int .u64 lc, .int .u64 ld, .int .i64 t, .string s, .int .u64 sd], .string x] w fun e w' => e = .returned (.tuple #[zeroH.val, .int .i64 2]) ∧ Below w.heap.size w w' := by
  have HC := Lib.hid (fun W => Check05_any la lb lc ld t s sd W hok.2.2.1 hok.2.2.2)
  rw [check_ok hb] at HC
  obtain ⟨ht0, _⟩ := badH_ok hb
  simp only at ht0
  clear hb
  have hw : IntKind.i64.wrap (1099511627776 - t) = 1099511627776 - t := IntWalk.i64_in _ (by omega)
  have hw2 : decide (1099511627776 - t < (x.size : Int)) = true := by simpa using hl
  have HW := Lib.hid hw
  clear hw
  have hz := (Hs.new w ⟨⟨la, lb, lc, ld⟩, t, s, sd⟩ 49).alloc (.cells #[.int .u64 0, .int .u64 0, .int .u64 0, .int .u64 0, .int .i64 0, .string ⟨#[]⟩, .int .u64 0] 49)
  have hr := Hs.new (w.alloc (.cells #[.int .u64 la, .int .u64 lb, .int .u64 lc, .int .u64 ld, .int .i64 t, .string s, .int .u64 sd] 49)) zeroH 49
  rw [World.size_alloc] at hr
  go_enter Try.func37, Try.ntmps37
  go_wp2_with fail
  refine (HC.out _).mono ?_
  rintro e w1 ⟨rfl, hB1⟩
  have hz1 := hz.keep' hB1
  have hr1 := hr.keep' hB1
  have hlt := hr1.lt
  have p0 := hz1.c0
  have p1 := hz1.c1
  have p2 := hz1.c2
  have p3 := hz1.c3
  have p4 := hz1.c4
  have p5 := hz1.c5
  have p6 := hz1.c6
  have z0 := hz1.fz 0
  have z1 := hz1.fz 1
  have z2 := hz1.fz 2
  have z3 := hz1.fz 3
  have z4 := hz1.fz 4
  have z5 := hz1.fz 5
  have z6 := hz1.fz 6
  simp only at p0 p1 p2 p3 p4 p5 p6
  have q0 := hr1.c0
  have q1 := hr1.c1
  have q2 := hr1.c2
  have q3 := hr1.c3
  have q4 := hr1.c4
  have q5 := hr1.c5
  have q6 := hr1.c6
  have y0 := hr1.fz 0
  have y1 := hr1.fz 1
  have y2 := hr1.fz 2
  have y3 := hr1.fz 3
  have y4 := hr1.fz 4
  have y5 := hr1.fz 5
  have y6 := hr1.fz 6
  simp only [zeroH] at q0 q1 q2 q3 q4 q5 q6
  have hst := ((((((hr1.set0 0).set1 0).set2 0).set3 0).set4 0).set5 ⟨#[]⟩).set6 0
  have j0 := hst.c0
  have j1 := hst.c1
  have j2 := hst.c2
  have j3 := hst.c3
  have j4 := hst.c4
  have j5 := hst.c5
  have j6 := hst.c6
  simp only at j0 j1 j2 j3 j4 j5 j6
  go_wp2
  refine bodyPost_ret (v := .tuple #[.agg #[.int .u64 0, .int .u64 0, .int .u64 0, .int .u64 0, .int .i64 0, .string ⟨#[]⟩, .int .u64 0], .int .i64 2]) (by simp [results, Try.results37, go_sem, j0, j1, j2, j3, j4, j5, j6]) rfl ⟨rfl, ?_⟩
  have hBw := below_then (below_alloc (below_new (w := w) _) _) hB1
  exact ((((((hBw.setCell (p := ⟨w.heap.size + 1, 0, none⟩) (by simp) _).setCell (p := ⟨w.heap.size + 1, 1, none⟩) (by simp) _).setCell (p := ⟨w.heap.size + 1, 2, none⟩) (by simp) _).setCell (p := ⟨w.heap.size + 1, 3, none⟩) (by simp) _).setCell (p := ⟨w.heap.size + 1, 4, none⟩) (by simp) _).setCell (p := ⟨w.heap.size + 1, 5, none⟩) (by simp) _).setCell (p := ⟨w.heap.size + 1, 6, none⟩) (by simp) _

set_option maxHeartbeats 4000000 in
theorem Add_ok (la lb lc ld t : Int) (s : ByteArray) (sd : Int) (x : ByteArray) (w : World) (hok : HshOk ⟨⟨la, lb, lc, ld⟩, t, s, sd⟩) (hx : x.size ≤ 9223372036854775807) (hb : badH ⟨⟨la, lb, lc, ld⟩, t, s, sd⟩ = false) (hl : ¬ 1099511627776 - t < (x.size : Int)) :
    Calls Try.prog 37 #[.agg #[.int .u64 la, .int .u64 lb, .int .u64 lc, .int .u64 ld, .int .i64 t, .string s, .int .u64 sd], .string x] w fun e w' => e = .returned (.tuple #[(addH ⟨⟨la, lb, lc, ld⟩, t, s, sd⟩ x).val, .int .i64 0]) ∧ Below w.heap.size w w' := by
  have HC := Lib.hid (fun W => Check05_any la lb lc ld t s sd W hok.2.2.1 hok.2.2.2)
  rw [check_ok hb] at HC
  obtain ⟨ht0, hsz⟩ := badH_ok hb
  simp only at ht0 hsz
  have hs1 : s.size ≤ 1000 := by omega
  have hln := hok.1
  clear hb hsz
  have hw2 : decide (1099511627776 - t < (x.size : Int)) = false := by simpa using hl
  have hz := (Hs.new w ⟨⟨la, lb, lc, ld⟩, t, s, sd⟩ 49).alloc (.cells #[.int .u64 0, .int .u64 0, .int .u64 0, .int .u64 0, .int .i64 0, .string ⟨#[]⟩, .int .u64 0] 49)
  have hr := Hs.new (w.alloc (.cells #[.int .u64 la, .int .u64 lb, .int .u64 lc, .int .u64 ld, .int .i64 t, .string s, .int .u64 sd] 49)) zeroH 49
  rw [World.size_alloc] at hr
  have hxl : x.size ≤ 1099511627776 := by omega
  have HA := Lib.hid (fun W k (hk : Hs 79 W k ⟨⟨la, lb, lc, ld⟩, t, s, sd⟩) => add_any k la lb lc ld t s x sd W hln ht0 hs1 hxl hk)
  generalize addH ⟨⟨la, lb, lc, ld⟩, t, s, sd⟩ x = m at *
  obtain ⟨⟨ma, mb, mc, md⟩, mt, ms, me⟩ := m
  go_enter Try.func37, Try.ntmps37
  go_wp2_with fail
  refine (HC.out _).mono ?_
  rintro e w1 ⟨rfl, hB1⟩
  have hz1 := hz.keep' hB1
  have hr1 := hr.keep' hB1
  have hBw := below_then (below_alloc (below_new (w := w) _) _) hB1
  have hlt := hr1.lt
  have p0 := hz1.c0
  have p1 := hz1.c1
  have p2 := hz1.c2
  have p3 := hz1.c3
  have p4 := hz1.c4
  have p5 := hz1.c5
  have p6 := hz1.c6
  have z0 := hz1.fz 0
  have z1 := hz1.fz 1
  have z2 := hz1.fz 2
  have z3 := hz1.fz 3
  have z4 := hz1.fz 4
  have z5 := hz1.fz 5
  have z6 := hz1.fz 6
  simp only at p0 p1 p2 p3 p4 p5 p6
  go_wp2_with fail
  have hnew := Hs.new w1 ⟨⟨la, lb, lc, ld⟩, t, s, sd⟩ 79
  refine (HA.out _ w1.heap.size hnew).mono ?_
  rintro e w2 ⟨rfl, hg2, hU⟩
  have hB2 : Below w1.heap.size w1 w2 := hU.below (below_new _) (Nat.le_refl _) (by simp)
  have hr2 := hr1.keep' hB2
  have hlt2 := hB2.size
  clear p0 p1 p2 p3 p4 p5 p6 z0 z1 z2 z3 z4 z5 z6
  have p0 := hg2.c0
  have p1 := hg2.c1
  have p2 := hg2.c2
  have p3 := hg2.c3
  have p4 := hg2.c4
  have p5 := hg2.c5
  have p6 := hg2.c6
  have z0 := hg2.fz 0
  have z1 := hg2.fz 1
  have z2 := hg2.fz 2
  have z3 := hg2.fz 3
  have z4 := hg2.fz 4
  have z5 := hg2.fz 5
  have z6 := hg2.fz 6
  simp only at p0 p1 p2 p3 p4 p5 p6
  have q0 := hr2.c0
  have q1 := hr2.c1
  have q2 := hr2.c2
  have q3 := hr2.c3
  have q4 := hr2.c4
  have q5 := hr2.c5
  have q6 := hr2.c6
  have y0 := hr2.fz 0
  have y1 := hr2.fz 1
  have y2 := hr2.fz 2
  have y3 := hr2.fz 3
  have y4 := hr2.fz 4
  have y5 := hr2.fz 5
  have y6 := hr2.fz 6
  simp only [zeroH] at q0 q1 q2 q3 q4 q5 q6
  have hst := ((((((hr2.set0 ma).set1 mb).set2 mc).set3 md).set4 mt).set5 ms).set6 me
  have j0 := hst.c0
  have j1 := hst.c1
  have j2 := hst.c2
  have j3 := hst.c3
  have j4 := hst.c4
  have j5 := hst.c5
  have j6 := hst.c6
  simp only at j0 j1 j2 j3 j4 j5 j6
  clear hU hnew
  go_wp2
  refine bodyPost_ret (v := .tuple #[.agg #[.int .u64 ma, .int .u64 mb, .int .u64 mc, .int .u64 md, .int .i64 mt, .string ms, .int .u64 me], .int .i64 0]) (by simp [results, Try.results37, go_sem, j0, j1, j2, j3, j4, j5, j6]) rfl ⟨rfl, ?_⟩
  have hBx := below_then hBw hB2
  exact ((((((hBx.setCell (p := ⟨w.heap.size + 1, 0, none⟩) (by simp) _).setCell (p := ⟨w.heap.size + 1, 1, none⟩) (by simp) _).setCell (p := ⟨w.heap.size + 1, 2, none⟩) (by simp) _).setCell (p := ⟨w.heap.size + 1, 3, none⟩) (by simp) _).setCell (p := ⟨w.heap.size + 1, 4, none⟩) (by simp) _).setCell (p := ⟨w.heap.size + 1, 5, none⟩) (by simp) _).setCell (p := ⟨w.heap.size + 1, 6, none⟩) (by simp) _

theorem Add05_any (la lb lc ld t : Int) (s : ByteArray) (sd : Int) (x : ByteArray) (w : World) (hok : HshOk ⟨⟨la, lb, lc, ld⟩, t, s, sd⟩) (hx : x.size ≤ 9223372036854775807) :
    Calls Try.prog 37 #[.agg #[.int .u64 la, .int .u64 lb, .int .u64 lc, .int .u64 ld, .int .i64 t, .string s, .int .u64 sd], .string x] w fun e w' => e = .returned (.tuple #[(addO ⟨⟨la, lb, lc, ld⟩, t, s, sd⟩ x).val, .int .i64 (addE ⟨⟨la, lb, lc, ld⟩, t, s, sd⟩ x)]) ∧ Below w.heap.size w w' := by
  cases hb : badH ⟨⟨la, lb, lc, ld⟩, t, s, sd⟩
  · by_cases hl : 1099511627776 - t < (x.size : Int)
    · obtain ⟨e1, e2⟩ := addE_long (x := x) hb hl
      rw [e1, e2]; exact Add_long la lb lc ld t s sd x w hok hx hb hl
    · obtain ⟨e1, e2⟩ := addE_ok (x := x) hb hl
      rw [e1, e2]; exact Add_ok la lb lc ld t s sd x w hok hx hb hl
  · obtain ⟨e1, e2⟩ := addE_bad (x := x) hb
    rw [e1, e2]; exact Add_bad la lb lc ld t s sd x w hok hx hb

set_option maxHeartbeats 4000000 in
theorem Sum_bad (la lb lc ld t : Int) (s : ByteArray) (sd : Int) (w : World) (hok : HshOk ⟨⟨la, lb, lc, ld⟩, t, s, sd⟩) (hb : badH ⟨⟨la, lb, lc, ld⟩, t, s, sd⟩ = true) :
    Calls Try.prog 39 #[.agg #[.int .u64 la, .int .u64 lb, .int .u64 lc, .int .u64 ld, .int .i64 t, .string s, .int .u64 sd]] w fun e w' => e = .returned (.tuple #[.int .u64 0, .int .i64 10]) ∧ Below w.heap.size w w' := by
  have HC := Lib.hid (fun W => Check05_any la lb lc ld t s sd W hok.2.2.1 hok.2.2.2)
  rw [check_bad hb] at HC
  clear hb
  go_enter Try.func39, Try.ntmps39
  go_wp2_with fail
  refine (HC.out _).mono ?_
  rintro e w1 ⟨rfl, hB1⟩
  go_wp2
  go_ret2
  exact ⟨rfl, below_then (below_new _) hB1⟩

set_option maxHeartbeats 4000000 in
theorem Sum_ok (la lb lc ld t : Int) (s : ByteArray) (sd : Int) (w : World) (hok : HshOk ⟨⟨la, lb, lc, ld⟩, t, s, sd⟩) (hb : badH ⟨⟨la, lb, lc, ld⟩, t, s, sd⟩ = false) :
    Calls Try.prog 39 #[.agg #[.int .u64 la, .int .u64 lb, .int .u64 lc, .int .u64 ld, .int .i64 t, .string s, .int .u64 sd]] w fun e w' => e = .returned (.tuple #[.int .u64 (sumV ⟨la, lb, lc, ld⟩ t s sd), .int .i64 0]) ∧ Below w.heap.size w w' := by
  have HC := Lib.hid (fun W => Check05_any la lb lc ld t s sd W hok.2.2.1 hok.2.2.2)
  rw [check_ok hb] at HC
  obtain ⟨ht0, hsz⟩ := badH_ok hb
  simp only at ht0 hsz
  clear hb hsz
  have hz := Hs.new w ⟨⟨la, lb, lc, ld⟩, t, s, sd⟩ 49
  have HA := Lib.hid (fun W k (hk : Hs 79 W k ⟨⟨la, lb, lc, ld⟩, t, s, sd⟩) => sum_any k la lb lc ld t s sd W hok.1 hok.2.2.1 hok.2.2.2 hk (by omega))
  generalize sumV ⟨la, lb, lc, ld⟩ t s sd = m at *
  go_enter Try.func39, Try.ntmps39
  go_wp2_with fail
  refine (HC.out _).mono ?_
  rintro e w1 ⟨rfl, hB1⟩
  have hz1 := hz.keep' hB1
  have p0 := hz1.c0
  have p1 := hz1.c1
  have p2 := hz1.c2
  have p3 := hz1.c3
  have p4 := hz1.c4
  have p5 := hz1.c5
  have p6 := hz1.c6
  have z0 := hz1.fz 0
  have z1 := hz1.fz 1
  have z2 := hz1.fz 2
  have z3 := hz1.fz 3
  have z4 := hz1.fz 4
  have z5 := hz1.fz 5
  have z6 := hz1.fz 6
  simp only at p0 p1 p2 p3 p4 p5 p6
  have hBw := below_then (below_new (w := w) _) hB1
  go_wp2_with fail
  have hnew := Hs.new w1 ⟨⟨la, lb, lc, ld⟩, t, s, sd⟩ 79
  refine (HA.out _ w1.heap.size hnew).mono ?_
  rintro e w2 ⟨rfl, hB2⟩
  go_wp2
  go_ret2
  exact ⟨rfl, below_then (below_alloc hBw _) hB2⟩

theorem Sum05_any (la lb lc ld t : Int) (s : ByteArray) (sd : Int) (w : World) (hok : HshOk ⟨⟨la, lb, lc, ld⟩, t, s, sd⟩) :
    Calls Try.prog 39 #[.agg #[.int .u64 la, .int .u64 lb, .int .u64 lc, .int .u64 ld, .int .i64 t, .string s, .int .u64 sd]] w fun e w' => e = .returned (.tuple #[.int .u64 (sumO ⟨⟨la, lb, lc, ld⟩, t, s, sd⟩), .int .i64 (checkH ⟨⟨la, lb, lc, ld⟩, t, s, sd⟩)]) ∧ Below w.heap.size w w' := by
  cases hb : badH ⟨⟨la, lb, lc, ld⟩, t, s, sd⟩
  · rw [check_ok hb, show sumO ⟨⟨la, lb, lc, ld⟩, t, s, sd⟩ = sumV ⟨la, lb, lc, ld⟩ t s sd by unfold sumO; rw [hb, if_neg (by simp)]]; exact Sum_ok la lb lc ld t s sd w hok hb
  · rw [check_bad hb, show sumO ⟨⟨la, lb, lc, ld⟩, t, s, sd⟩ = 0 by unfold sumO; rw [hb, if_pos rfl]]; exact Sum_bad la lb lc ld t s sd w hok hb

end Go.Proofs.Ytboajmnckldmiaa
