/- The statement cheesepresslaw04.CursorReads holds: for every input the law returns true, and the arguments read as before. -/
import Derived.Test.YtboajmnckldmiaaOpenStructs
import Derived.Test.YtboajmnckldmiaaRegions
import Derived.Test.YtboajmnckldmiaaCurAwake
import Derived.Test.YtboajmnckldmiaaCurRef4
namespace Go.Proofs.Ytboajmnckldmiaa.cursorReads
open Go.ChangeShapes Go.WideShapes Go.ChangeAt Go.RowKit
open Go.ChangeMaps (open_string shut_string)
set_option linter.unusedVariables false
set_option maxRecDepth 100000

attribute [local go_sem ↓] Go.wp_at_zero Go.wp_at_succ
set_option maxHeartbeats 8000000 in
theorem walk (s : ByteArray) (a e f n : Int) (w : World) (hs : s.size ≤ maxLen) (ha : -9223372036854775808 ≤ a ∧ a ≤ 9223372036854775807) (he : -9223372036854775808 ≤ e ∧ e ≤ 9223372036854775807) (hf : -9223372036854775808 ≤ f ∧ f ≤ 9223372036854775807)
    (hn : -9223372036854775808 ≤ n ∧ n ≤ 9223372036854775807) :
    Calls Try.prog 6 #[.agg #[.string s, .int .i64 a, .int .i64 e, .int .i64 f], .int .i64 n] w fun r w' => r = .returned (.bool true) ∧ Below w.heap.size w w' := by
  have hs' : s.size ≤ 9223372036854775807 := hs
  clear hs ha he hf
  by_cases hl : 300 < s.size
  · go_enter Try.func6, Try.ntmps6
    go_wp2_with fail
    refine (awake04_any _).mono ?_
    rintro r w6 ⟨rfl, hB6⟩
    go_wp2
    go_ret
    exact ⟨rfl, below_then (below_new _) hB6⟩
  · have h1 := Lib.hid (fun W => Check04_any s a e f W hs')
    have h2 := Lib.hid (fun W => rCheck04_any s a e f W hs')
    have h3 := Lib.hid (fun W => Left_any s a e f W hs')
    have h4 := Lib.hid (fun W => rLeft_any s a e f W hs')
    have h5 := Lib.hid (fun W => Byte_any s a e f W hs')
    have h6 := Lib.hid (fun W => rByte_any s a e f W hs')
    have h7 := Lib.hid (fun W => Little_any s a e f n W hs' hn)
    have h8 := Lib.hid (fun W => rLittle_any s a e f n W hs' hn)
    have h9 := Lib.hid (fun W => Bytes_any s a e f n W hs' hn)
    have h10 := Lib.hid (fun W => rBytes_any s a e f n W hs' hn)
    have h11 := Lib.hid (fun W => Skip_any s a e f n W hs' hn)
    have h12 := Lib.hid (fun W => rSkip_any s a e f n W hs' hn)
    have h13 := Lib.hid (fun W => Inner_any s a e f n W hs' hn)
    have h14 := Lib.hid (fun W => rInner_any s a e f n W hs' hn)
    generalize checkV ⟨s, a, e, f⟩ = v1 at *
    generalize leftC (rightC ⟨s, a, e, f⟩) = v2 at *
    generalize byteV (rightC ⟨s, a, e, f⟩) = v3 at *
    generalize bytesC (rightC ⟨s, a, e, f⟩) 1 = c1 at *
    generalize littleC (rightC ⟨s, a, e, f⟩) n = c2 at *
    generalize littleV (rightC ⟨s, a, e, f⟩) n = v4 at *
    generalize innerC (rightC ⟨s, a, e, f⟩) n = c4 at *
    generalize bytesO (rightC ⟨s, a, e, f⟩) n = out at *
    generalize bytesC (rightC ⟨s, a, e, f⟩) n = c3 at *
    obtain ⟨b0, b1, b2, b3⟩ := c1
    obtain ⟨l0, l1, l2, l3⟩ := c2
    obtain ⟨y0, y1, y2, y3⟩ := c3
    obtain ⟨i0, i1, i2, i3⟩ := c4
    unfold Cur.val at h5 h6 h7 h8 h9 h10 h11 h12 h13 h14
    have hc := Cu.new w ⟨s, a, e, f⟩ 28
    have HP := Lib.hid (fun V (hV : Below (w.alloc (.cells #[.string s, .int .i64 a, .int .i64 e, .int .i64 f] 28)).heap.size (w.alloc (.cells #[.string s, .int .i64 a, .int .i64 e, .int .i64 f] 28)) V) => (show V.cell? ⟨w.heap.size, 0, none⟩ = some (.string s) ∧ V.cell? ⟨w.heap.size, 1, none⟩ = some (.int .i64 a) ∧ V.cell? ⟨w.heap.size, 2, none⟩ = some (.int .i64 e) ∧ V.cell? ⟨w.heap.size, 3, none⟩ = some (.int .i64 f) from ⟨(hc.keep' hV).c0, (hc.keep' hV).c1, (hc.keep' hV).c2, (hc.keep' hV).c3⟩))
    clear hc
    have hB0 := Below.refl (w.alloc (.cells #[.string s, .int .i64 a, .int .i64 e, .int .i64 f] 28)).heap.size (w.alloc (.cells #[.string s, .int .i64 a, .int .i64 e, .int .i64 f] 28))
    have hBw := below_new (w := w) (.cells #[.string s, .int .i64 a, .int .i64 e, .int .i64 f] 28)
    have HZ0 : Hid (w.heap.size < (w.alloc (.cells #[.string s, .int .i64 a, .int .i64 e, .int .i64 f] 28)).heap.size) := by simp [Hid]
    go_enter Try.func6, Try.ntmps6
    go_wp2_with fail
    generalize hW0 : w.alloc (.cells #[.string s, .int .i64 a, .int .i64 e, .int .i64 f] 28) = W0 at *
    clear hW0
    obtain ⟨p0, p1, p2, p3⟩ := HP.out _ hB0

    go_region_held3 (fun w' => Below W0.heap.size W0 w' ∧ w'.cell? ⟨w.heap.size, 0, none⟩ = some (.string s) ∧ w'.cell? ⟨w.heap.size, 1, none⟩ = some (.int .i64 a) ∧ w'.cell? ⟨w.heap.size, 2, none⟩ = some (.int .i64 e) ∧ w'.cell? ⟨w.heap.size, 3, none⟩ = some (.int .i64 f))
      ((refine ⟨?_, ?_, ?_, ?_, ?_⟩ <;> first | assumption | exact below_drew (by assumption)))
      (first
        | (go_at_call 26; refine (h1.out _).mono ?_; rintro r w5 ⟨rfl, hB5⟩; have hBn : Below W0.heap.size W0 w5 := below_then (by first | assumption | exact And.left (by assumption)) hB5; obtain ⟨q0, q1, q2, q3⟩ := HP.out _ hBn)
        | (go_at_call 27; refine (h2.out _).mono ?_; rintro r w5 ⟨rfl, hB5⟩; have hBn : Below W0.heap.size W0 w5 := below_then (by first | assumption | exact And.left (by assumption)) hB5; obtain ⟨q0, q1, q2, q3⟩ := HP.out _ hBn)
        | (go_at_call 20; refine (h3.out _).mono ?_; rintro r w5 ⟨rfl, hB5⟩; have hBn : Below W0.heap.size W0 w5 := below_then (by first | assumption | exact And.left (by assumption)) hB5; obtain ⟨q0, q1, q2, q3⟩ := HP.out _ hBn)
        | (go_at_call 28; refine (h4.out _).mono ?_; rintro r w5 ⟨rfl, hB5⟩; have hBn : Below W0.heap.size W0 w5 := below_then (by first | assumption | exact And.left (by assumption)) hB5; obtain ⟨q0, q1, q2, q3⟩ := HP.out _ hBn))
    rename_i hHeld
    clear hHeld q0 q1 q2 q3 p0 p1 p2 p3
    obtain ⟨p0, p1, p2, p3⟩ := HP.out _ hBn
    have hWz := hBw.size
    have bB := hBn
    have hWW : w.heap.size < W0.heap.size := HZ0.out
    go_wp2_with fail

    refine (h5.out _).mono ?_
    rintro r w10 ⟨rfl, hB10⟩
    clear p0 p1 p2 p3
    have bB10 := below_then bB hB10
    have sW10 := bB10.size
    have GA10 := Cu.new w10 ⟨b0, b1, b2, b3⟩ 28
    have bC10 := below_alloc (bB10) (.cells #[.string b0, .int .i64 b1, .int .i64 b2, .int .i64 b3] 28)
    obtain ⟨p0, p1, p2, p3⟩ := HP.out _ bC10
    have kA0 := GA10.c0
    have kA1 := GA10.c1
    have kA2 := GA10.c2
    have kA3 := GA10.c3
    have gA910 := GA10
    clear GA10
    go_wp2_with fail

    refine (h6.out _).mono ?_
    rintro r w11 ⟨rfl, hB11⟩
    clear p0 p1 p2 p3 kA0 kA1 kA2 kA3
    have gA11 := (gA910).keep' hB11
    clear gA910
    have bB11 := below_then bC10 hB11
    have sW11 := bB11.size
    have GA11 := (gA11).alloc (.cells #[.string b0, .int .i64 b1, .int .i64 b2, .int .i64 b3] 28)
    have GB11 := Cu.new w11 ⟨b0, b1, b2, b3⟩ 28
    have bC11 := below_alloc (bB11) (.cells #[.string b0, .int .i64 b1, .int .i64 b2, .int .i64 b3] 28)
    have nA11 := gA11.lt
    obtain ⟨p0, p1, p2, p3⟩ := HP.out _ bC11
    have kA0 := GA11.c0
    have kA1 := GA11.c1
    have kA2 := GA11.c2
    have kA3 := GA11.c3
    have kB0 := GB11.c0
    have kB1 := GB11.c1
    have kB2 := GB11.c2
    have kB3 := GB11.c3
    have gA911 := GA11
    clear GA11
    have gB911 := GB11
    clear GB11
    clear gA11
    go_wp2_with fail

    refine (h7.out _).mono ?_
    rintro r w12 ⟨rfl, hB12⟩
    clear p0 p1 p2 p3 kA0 kA1 kA2 kA3 kB0 kB1 kB2 kB3
    have gA12 := (gA911).keep' hB12
    have gB12 := (gB911).keep' hB12
    clear gA911
    clear gB911
    have bB12 := below_then bC11 hB12
    have sW12 := bB12.size
    have u0 := gA12.c0
    have u1 := gA12.c1
    have u2 := gA12.c2
    have u3 := gA12.c3
    have uz0 := gA12.fz 0
    have uz1 := gA12.fz 1
    have uz2 := gA12.fz 2
    have uz3 := gA12.fz 3
    have GA12 := gA12.store ⟨l0, l1, l2, l3⟩
    have GB12 := gB12.storeOther (k := w10.heap.size) (by omega) ⟨l0, l1, l2, l3⟩
    have bC12 := setCu_below bB12 (g := w10.heap.size) (by omega) ⟨l0, l1, l2, l3⟩
    obtain ⟨p0, p1, p2, p3⟩ := HP.out _ bC12
    have kA0 := GA12.c0
    have kA1 := GA12.c1
    have kA2 := GA12.c2
    have kA3 := GA12.c3
    simp only [World.setCu] at p0 p1 p2 p3 kA0 kA1 kA2 kA3
    have gA912 := GA12
    clear GA12
    have gB912 := GB12
    clear GB12
    clear gA12 gB12
    go_wp2_with fail

    refine (h8.out _).mono ?_
    rintro r w13 ⟨rfl, hB13⟩
    clear p0 p1 p2 p3 u0 u1 u2 u3 uz0 uz1 uz2 uz3 kA0 kA1 kA2 kA3
    have gA13 := (gA912).keep' hB13
    have gB13 := (gB912).keep' hB13
    clear gA912
    clear gB912
    have bB13 := below_then bC12 hB13
    have sW13 := bB13.size
    have u0 := gB13.c0
    have u1 := gB13.c1
    have u2 := gB13.c2
    have u3 := gB13.c3
    have uz0 := gB13.fz 0
    have uz1 := gB13.fz 1
    have uz2 := gB13.fz 2
    have uz3 := gB13.fz 3
    have GA13 := gA13.storeOther (k := w11.heap.size) (by omega) ⟨l0, l1, l2, l3⟩
    have GB13 := gB13.store ⟨l0, l1, l2, l3⟩
    have bC13 := setCu_below bB13 (g := w11.heap.size) (by omega) ⟨l0, l1, l2, l3⟩
    obtain ⟨p0, p1, p2, p3⟩ := HP.out _ bC13
    have kA0 := GA13.c0
    have kA1 := GA13.c1
    have kA2 := GA13.c2
    have kA3 := GA13.c3
    have kB0 := GB13.c0
    have kB1 := GB13.c1
    have kB2 := GB13.c2
    have kB3 := GB13.c3
    simp only [World.setCu] at p0 p1 p2 p3 kA0 kA1 kA2 kA3 kB0 kB1 kB2 kB3
    have gA913 := GA13
    clear GA13
    have gB913 := GB13
    clear GB13
    clear gA13 gB13
    go_wp2_with fail

    refine (h9.out _).mono ?_
    rintro r w14 ⟨rfl, hB14⟩
    clear p0 p1 p2 p3 u0 u1 u2 u3 uz0 uz1 uz2 uz3 kA0 kA1 kA2 kA3 kB0 kB1 kB2 kB3
    have gA14 := (gA913).keep' hB14
    have gB14 := (gB913).keep' hB14
    clear gA913
    clear gB913
    have bB14 := below_then bC13 hB14
    have sW14 := bB14.size
    have u0 := gA14.c0
    have u1 := gA14.c1
    have u2 := gA14.c2
    have u3 := gA14.c3
    have uz0 := gA14.fz 0
    have uz1 := gA14.fz 1
    have uz2 := gA14.fz 2
    have uz3 := gA14.fz 3
    have GA14 := gA14.store ⟨y0, y1, y2, y3⟩
    have GB14 := gB14.storeOther (k := w10.heap.size) (by omega) ⟨y0, y1, y2, y3⟩
    have bC14 := setCu_below bB14 (g := w10.heap.size) (by omega) ⟨y0, y1, y2, y3⟩
    obtain ⟨p0, p1, p2, p3⟩ := HP.out _ bC14
    have kA0 := GA14.c0
    have kA1 := GA14.c1
    have kA2 := GA14.c2
    have kA3 := GA14.c3
    simp only [World.setCu] at p0 p1 p2 p3 kA0 kA1 kA2 kA3
    have gA914 := GA14
    clear GA14
    have gB914 := GB14
    clear GB14
    clear gA14 gB14
    go_wp2_with fail

    refine (h10.out _).mono ?_
    rintro r w15 ⟨rfl, hB15⟩
    clear p0 p1 p2 p3 u0 u1 u2 u3 uz0 uz1 uz2 uz3 kA0 kA1 kA2 kA3
    have gA15 := (gA914).keep' hB15
    have gB15 := (gB914).keep' hB15
    clear gA914
    clear gB914
    have bB15 := below_then bC14 hB15
    have sW15 := bB15.size
    have u0 := gB15.c0
    have u1 := gB15.c1
    have u2 := gB15.c2
    have u3 := gB15.c3
    have uz0 := gB15.fz 0
    have uz1 := gB15.fz 1
    have uz2 := gB15.fz 2
    have uz3 := gB15.fz 3
    have GA15 := gA15.storeOther (k := w11.heap.size) (by omega) ⟨y0, y1, y2, y3⟩
    have GB15 := gB15.store ⟨y0, y1, y2, y3⟩
    have bC15 := setCu_below bB15 (g := w11.heap.size) (by omega) ⟨y0, y1, y2, y3⟩
    obtain ⟨p0, p1, p2, p3⟩ := HP.out _ bC15
    have kA0 := GA15.c0
    have kA1 := GA15.c1
    have kA2 := GA15.c2
    have kA3 := GA15.c3
    have kB0 := GB15.c0
    have kB1 := GB15.c1
    have kB2 := GB15.c2
    have kB3 := GB15.c3
    simp only [World.setCu] at p0 p1 p2 p3 kA0 kA1 kA2 kA3 kB0 kB1 kB2 kB3
    have gA915 := GA15
    clear GA15
    have gB915 := GB15
    clear GB15
    clear gA15 gB15
    go_wp2_with fail

    obtain ⟨W9, hW9⟩ : ∃ W9, World.setCu w15 w11.heap.size ⟨y0, y1, y2, y3⟩ = W9 := ⟨_, rfl⟩
    have hW9' := hW9
    simp only [World.setCu] at hW9' p0 p1 p2 p3
    rw [hW9'] at p0 p1 p2 p3 kA0 kA1 kA2 kA3 kB0 kB1 kB2 kB3 ⊢
    rw [hW9] at gA915 gB915 bC15
    clear hW9 hW9'
    have hRR := Below.refl W9.heap.size W9
    have HAB := Lib.hid (fun V (hV : Below W9.heap.size W9 V) => And.intro (HP.out V (below_then bC15 hV)) (And.intro (gA915.keep' hV) (gB915.keep' hV)))

    go_region_held3 (fun w' => Below W9.heap.size W9 w' ∧ w'.cell? ⟨w.heap.size, 0, none⟩ = some (.string s) ∧ w'.cell? ⟨w.heap.size, 1, none⟩ = some (.int .i64 a) ∧ w'.cell? ⟨w.heap.size, 2, none⟩ = some (.int .i64 e) ∧ w'.cell? ⟨w.heap.size, 3, none⟩ = some (.int .i64 f) ∧ w'.cell? ⟨w10.heap.size, 0, none⟩ = some (.string y0) ∧ w'.cell? ⟨w10.heap.size, 1, none⟩ = some (.int .i64 y1) ∧ w'.cell? ⟨w10.heap.size, 2, none⟩ = some (.int .i64 y2) ∧ w'.cell? ⟨w10.heap.size, 3, none⟩ = some (.int .i64 y3) ∧ w'.cell? ⟨w11.heap.size, 0, none⟩ = some (.string y0) ∧ w'.cell? ⟨w11.heap.size, 1, none⟩ = some (.int .i64 y1) ∧ w'.cell? ⟨w11.heap.size, 2, none⟩ = some (.int .i64 y2) ∧ w'.cell? ⟨w11.heap.size, 3, none⟩ = some (.int .i64 y3))
      ((refine ⟨?_, ?_, ?_, ?_, ?_, ?_, ?_, ?_, ?_, ?_, ?_, ?_, ?_⟩ <;> first | assumption | exact below_drew (by assumption)))
      (first
        | (go_at_call 33; refine (h11.out _).mono ?_; rintro r w5 ⟨rfl, hB5⟩; have hBm : Below W9.heap.size W9 w5 := below_then (by first | assumption | exact And.left (by assumption)) hB5; obtain ⟨⟨q0, q1, q2, q3⟩, qa, qb⟩ := HAB.out _ hBm; have qa0 := qa.c0; have qa1 := qa.c1; have qa2 := qa.c2; have qa3 := qa.c3; have qb0 := qb.c0; have qb1 := qb.c1; have qb2 := qb.c2; have qb3 := qb.c3; clear qa qb)
        | (go_at_call 34; refine (h12.out _).mono ?_; rintro r w5 ⟨rfl, hB5⟩; have hBm : Below W9.heap.size W9 w5 := below_then (by first | assumption | exact And.left (by assumption)) hB5; obtain ⟨⟨q0, q1, q2, q3⟩, qa, qb⟩ := HAB.out _ hBm; have qa0 := qa.c0; have qa1 := qa.c1; have qa2 := qa.c2; have qa3 := qa.c3; have qb0 := qb.c0; have qb1 := qb.c1; have qb2 := qb.c2; have qb3 := qb.c3; clear qa qb))
    rename_i hHeld
    clear hHeld q0 q1 q2 q3 qa0 qa1 qa2 qa3 qb0 qb1 qb2 qb3 p0 p1 p2 p3 kA0 kA1 kA2 kA3 kB0 kB1 kB2 kB3
    have bX := below_then bC15 hBm
    obtain ⟨p0, p1, p2, p3⟩ := HP.out _ bX
    go_wp2_with fail

    refine (h13.out _).mono ?_
    rintro r w16 ⟨rfl, hB16⟩
    clear p0 p1 p2 p3
    have bB16 := below_then bX hB16
    have sW16 := bB16.size
    have GI16 := (Cu.new w16 ⟨i0, i1, i2, i3⟩ 28).alloc (.cells #[.string y0, .int .i64 y1, .int .i64 y2, .int .i64 y3] 28)
    have GJ16 := Cu.new (w16.alloc (.cells #[.string i0, .int .i64 i1, .int .i64 i2, .int .i64 i3] 28)) ⟨y0, y1, y2, y3⟩ 28
    rw [World.size_alloc] at GJ16
    have bC16 := below_alloc (below_alloc (bB16) (.cells #[.string i0, .int .i64 i1, .int .i64 i2, .int .i64 i3] 28)) (.cells #[.string y0, .int .i64 y1, .int .i64 y2, .int .i64 y3] 28)
    obtain ⟨p0, p1, p2, p3⟩ := HP.out _ bC16
    have gI916 := GI16
    clear GI16
    have gJ916 := GJ16
    clear GJ16
    go_wp2_with fail

    refine (h14.out _).mono ?_
    rintro r w17 ⟨rfl, hB17⟩
    clear p0 p1 p2 p3
    have gI17 := (gI916).keep' hB17
    have gJ17 := (gJ916).keep' hB17
    clear gI916
    clear gJ916
    have bB17 := below_then bC16 hB17
    have sW17 := bB17.size
    have GI17 := ((gI17).alloc (.cells #[.string i0, .int .i64 i1, .int .i64 i2, .int .i64 i3] 28)).alloc (.cells #[.string y0, .int .i64 y1, .int .i64 y2, .int .i64 y3] 28)
    have GJ17 := ((gJ17).alloc (.cells #[.string i0, .int .i64 i1, .int .i64 i2, .int .i64 i3] 28)).alloc (.cells #[.string y0, .int .i64 y1, .int .i64 y2, .int .i64 y3] 28)
    have GK17 := (Cu.new w17 ⟨i0, i1, i2, i3⟩ 28).alloc (.cells #[.string y0, .int .i64 y1, .int .i64 y2, .int .i64 y3] 28)
    have GL17 := Cu.new (w17.alloc (.cells #[.string i0, .int .i64 i1, .int .i64 i2, .int .i64 i3] 28)) ⟨y0, y1, y2, y3⟩ 28
    rw [World.size_alloc] at GL17
    have bC17 := below_alloc (below_alloc (bB17) (.cells #[.string i0, .int .i64 i1, .int .i64 i2, .int .i64 i3] 28)) (.cells #[.string y0, .int .i64 y1, .int .i64 y2, .int .i64 y3] 28)
    have nI17 := gI17.lt
    have nJ17 := gJ17.lt
    obtain ⟨p0, p1, p2, p3⟩ := HP.out _ bC17
    have kI0 := GI17.c0
    have kI1 := GI17.c1
    have kI2 := GI17.c2
    have kI3 := GI17.c3
    have kJ0 := GJ17.c0
    have kJ1 := GJ17.c1
    have kJ2 := GJ17.c2
    have kJ3 := GJ17.c3
    have kK0 := GK17.c0
    have kK1 := GK17.c1
    have kK2 := GK17.c2
    have kK3 := GK17.c3
    have kL0 := GL17.c0
    have kL1 := GL17.c1
    have kL2 := GL17.c2
    have kL3 := GL17.c3
    have gI917 := GI17
    clear GI17
    have gJ917 := GJ17
    clear GJ17
    have gK917 := GK17
    clear GK17
    have gL917 := GL17
    clear GL17
    clear gI17 gJ17
    go_wp2_with fail
    refine (awake04_any _).mono ?_
    rintro r w99 ⟨rfl, hB99⟩
    go_wp2
    go_ret
    exact ⟨rfl, below_then hBw (below_then bC17 hB99)⟩


/-! The step from the walk to the statement: the shell's text. -/
set_option maxRecDepth 100000 in
theorem lifted (os : Os) (started : os.Started) (H : Type) (enc : TypeId × Value → H) :
    ReturnsInHanded {} Try.checked os 6 .any (Rows.cursorReadsSpec.pre6 enc Try.prog Try.f6 Rows.cursorReadsRow.domain false) (Rows.cursorReadsSpec.post enc Try.prog Try.f6 false true false false) := by
  refine returnsInHanded_of_change (C := Try.checked) own started (by kernel_rfl) Try.func6
    (ChangeSpec.witness6 (enc := enc) (C := Try.checked) false ⟨#[], #[.agg #[.string ByteArray.empty, .int .i64 0, .int .i64 0, .int .i64 0], .int .i64 0], []⟩ 8 (by kernel_rfl) (by kernel_rfl) (by kernel_rfl) (by kernel_rfl)) ?_
  intro W base args ds gs before hval0 hW hcnd _
  have hval : ∀ (j : Nat) t v, Try.f6.params[j]? = some t → args[j]? = some v → Value.okWide Try.prog W .any base t v := hval0
  have hW' := hW
  obtain ⟨p, q, hA0, hV, rfl, hfz, hnd⟩ := hW
  have hA : DataW.TrodAll enc Try.prog W 0 (fun _ => true) true Try.f6.params.toList args.toList ds p := hA0
  rw [Try.params6] at hA hval
  obtain ⟨v0, vs0, d0, ds0, p0, q0, hargs, rfl, rfl, h0, r0⟩ := trodAll_cons hA
  obtain ⟨v1, vs1, d1, ds1, p1, q1, rfl, rfl, rfl, h1, r1⟩ := trodAll_cons r0
  obtain ⟨rfl, rfl, rfl⟩ := trodAll_nil r1
  obtain rfl : args = #[v0, v1] := by cases args; simp_all
  obtain ⟨rfl, rfl⟩ := trodVars_none hV
  have k0 := h0
  have lt0 : ∀ x ∈ p0, x.block < W.heap.size := by obtain ⟨m, hm⟩ := k0; exact DataW.trod_lt m _ _ _ hm
  obtain ⟨cs0, ca0, ce0, cf0, rfl, wcs0, wca0, wce0, wcf0⟩ := open_cursor (hval 0 28 v0 rfl rfl) h0
  obtain ⟨a1, rfl, rfl, rfl, w1⟩ := open_int Try.underlying3 (hval 1 3 v1 rfl rfl) h1
  clear hA0 hval0
  refine (walk cs0 ca0 ce0 cf0 a1 W wcs0 (bounds_i64 wca0) (bounds_i64 wce0) (bounds_i64 wcf0) (bounds_i64 w1)).mono fun e W' ⟨he, bel⟩ => ?_
  subst he
  exact ⟨_, rfl, _, _, _, [], _, [], hW', trodAll_mk1 (shut_bool Try.underlying4 _), (trodAll_cons_mk (Below.trod laidOut (by kernel_rfl) (of_decide_eq_true (by kernel_rfl)) k0 bel lt0) (trodAll_cons_mk (shut_int Try.underlying3 w1) trodAll_mk0)), rfl, bel.frame _, fun h => by cases h⟩

theorem over : Rows.cursorReadsRow.holds Try.pinned (OpenSpec.ofChange Rows.cursorReadsSpec) :=
  OpenClaim.holds_of_wide 6 Try.f6 rfl rfl rfl rfl rfl rfl rfl ⟨rfl, rfl, rfl, rfl, rfl⟩ rfl rfl rfl rfl rfl (by kernel_rfl) Try.func6 (by kernel_rfl)
    (of_decide_eq_true (by kernel_rfl)) (by unfold Func.isWrapper; first | (rw [if_pos (by decide +kernel)]; kernel_rfl) | (rw [if_neg (by decide +kernel)]; exact ⟨rfl, rfl⟩))
    (fun os started H enc _ => lifted os started H enc)

/-- The statement. -/
theorem proved : Rows.CursorReadsSaid := over
#print axioms proved
end Go.Proofs.Ytboajmnckldmiaa.cursorReads
