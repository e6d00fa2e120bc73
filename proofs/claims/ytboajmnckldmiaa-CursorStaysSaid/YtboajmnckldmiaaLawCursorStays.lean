/- The statement cheesepresslaw04.CursorStays holds: for every input the law returns true, and the arguments read as before. -/
import Derived.Test.YtboajmnckldmiaaOpenStructs
import Derived.Test.YtboajmnckldmiaaRegions
import Derived.Test.YtboajmnckldmiaaCurAwake
import Derived.Test.YtboajmnckldmiaaCurProg4
import Derived.Deep.RegionHeld3
import Derived.Deep.DrawnRows
namespace Go.Proofs.Ytboajmnckldmiaa.cursorStays
open Go.ChangeShapes Go.WideShapes Go.ChangeAt Go.RowKit
open Go.ChangeMaps (open_string shut_string)
set_option linter.unusedVariables false
set_option maxRecDepth 100000

theorem fail_is {c : Cur} (er x : Int) (h : CurOk c) : CurOk (failC c er x) ∧ (failC c er x).e ≠ 0 ∧ (failC c er x).s = c.s := by
  by_cases he : c.e = 0
  · rw [fail_B er x he]
    have h1 : 1 ≤ errV er ∧ errV er ≤ 31 := by unfold errV; split <;> omega
    have h2 : 0 ≤ placeV c.s x ∧ placeV c.s x ≤ (c.s.size : Int) := by unfold placeV; omega
    exact ⟨⟨h.1, ⟨by simp only; omega, h1.2⟩, h2, fun h => by simp only at h; omega⟩, by simp only; omega, rfl⟩
  · rw [fail_A er x he]; exact ⟨h, he, rfl⟩

attribute [local go_sem ↓] Go.wp_at_zero Go.wp_at_succ
set_option maxHeartbeats 8000000 in
theorem walk (s : ByteArray) (a e f er n : Int) (w : World) (hs : s.size ≤ maxLen) (ha : -9223372036854775808 ≤ a ∧ a ≤ 9223372036854775807) (he : -9223372036854775808 ≤ e ∧ e ≤ 9223372036854775807) (hf : -9223372036854775808 ≤ f ∧ f ≤ 9223372036854775807)
    (her : -9223372036854775808 ≤ er ∧ er ≤ 9223372036854775807) (hn : -9223372036854775808 ≤ n ∧ n ≤ 9223372036854775807) :
    Calls Try.prog 13 #[.agg #[.string s, .int .i64 a, .int .i64 e, .int .i64 f], .int .i64 er, .int .i64 n] w fun r w' => r = .returned (.bool true) ∧ Below w.heap.size w w' := by
  have hs' : s.size ≤ 9223372036854775807 := hs
  clear hs ha he hf her
  by_cases hl : 100 < s.size
  · go_enter Try.func13, Try.ntmps13
    go_wp2_with fail
    refine (awake04_any _).mono ?_
    rintro r w6 ⟨rfl, hB6⟩
    go_wp2
    go_ret
    exact ⟨rfl, below_then (below_new _) hB6⟩
  · have h0 := Lib.hid (fun W => Fail_any s a e f er n W hs')
    obtain ⟨hok, hne, hfs⟩ := fail_is er n (rightC_ok ⟨s, a, e, f⟩)
    have hsz := rightC_size ⟨s, a, e, f⟩
    rw [← hfs] at hsz
    clear hfs
    generalize failC (rightC ⟨s, a, e, f⟩) er n = F at *
    have hr : rightC F = F := if_pos hok
    obtain ⟨f0, f1, f2, f3⟩ := F
    change f0.size ≤ s.size at hsz
    change f2 ≠ 0 at hne
    have b1 := bytes_A (c := ⟨f0, f1, f2, f3⟩) 1 hne
    have bn := bytes_A (c := ⟨f0, f1, f2, f3⟩) n hne
    have h1 := Lib.hid (fun W => Byte_any f0 f1 f2 f3 W (by omega))
    have h2 := Lib.hid (fun W => Bytes_any f0 f1 f2 f3 n W (by omega) hn)
    have h3 := Lib.hid (fun W => Little_any f0 f1 f2 f3 n W (by omega) hn)
    have h4 := Lib.hid (fun W => Inner_any f0 f1 f2 f3 n W (by omega) hn)
    have h5 := Lib.hid (fun W => Skip_any f0 f1 f2 f3 n W (by omega) hn)
    have h6 := Lib.hid (fun W => Fail_any f0 f1 f2 f3 13 0 W (by omega))
    have h7 := Lib.hid (fun W => Left_any f0 f1 f2 f3 W (by omega))
    have h8 := Lib.hid (fun W => End_any f0 f1 f2 f3 W (by omega))
    rw [hr] at h1 h2 h3 h4 h5 h6 h7 h8
    rw [b1.1, show byteV ⟨f0, f1, f2, f3⟩ = 0 from by unfold byteV; rw [b1.2, sb_empty]] at h1
    rw [bn.1, bn.2] at h2
    rw [(little_A n hne).1, (little_A n hne).2] at h3
    rw [show innerC ⟨f0, f1, f2, f3⟩ n = ⟨f0, f1, f2, f3⟩ from (if_pos (by rw [bn.1]; exact hne)).trans bn.1, bn.1] at h4
    rw [bn.1] at h5
    rw [fail_A 13 0 hne] at h6
    rw [show leftC ⟨f0, f1, f2, f3⟩ = 0 from if_neg hne] at h7
    rw [show endE ⟨f0, f1, f2, f3⟩ = f2 from if_neg (by simp only; omega), show endF ⟨f0, f1, f2, f3⟩ = f3 from if_neg (by simp only; omega)] at h8
    have tf : (f2 != 0) = true := by simp [hne]
    clear b1 bn hr hok hne
    unfold Cur.val at h0 h1 h2 h3 h4 h5 h6
    change Hid (∀ W, Calls _ _ _ _ fun r w' => r = .returned (.tuple #[_, .string ⟨#[]⟩]) ∧ _) at h2
    have hc := Cu.new w ⟨s, a, e, f⟩ 28
    have HP := Lib.hid (fun V (hV : Below (w.alloc (.cells #[.string s, .int .i64 a, .int .i64 e, .int .i64 f] 28)).heap.size (w.alloc (.cells #[.string s, .int .i64 a, .int .i64 e, .int .i64 f] 28)) V) => (show V.cell? ⟨w.heap.size, 0, none⟩ = some (.string s) ∧ V.cell? ⟨w.heap.size, 1, none⟩ = some (.int .i64 a) ∧ V.cell? ⟨w.heap.size, 2, none⟩ = some (.int .i64 e) ∧ V.cell? ⟨w.heap.size, 3, none⟩ = some (.int .i64 f) from ⟨(hc.keep' hV).c0, (hc.keep' hV).c1, (hc.keep' hV).c2, (hc.keep' hV).c3⟩))
    clear hc
    have bB := Below.refl (w.alloc (.cells #[.string s, .int .i64 a, .int .i64 e, .int .i64 f] 28)).heap.size (w.alloc (.cells #[.string s, .int .i64 a, .int .i64 e, .int .i64 f] 28))
    have hBw := below_new (w := w) (.cells #[.string s, .int .i64 a, .int .i64 e, .int .i64 f] 28)
    go_enter Try.func13, Try.ntmps13
    go_wp2_with fail
    generalize hW0 : w.alloc (.cells #[.string s, .int .i64 a, .int .i64 e, .int .i64 f] 28) = W0 at *
    clear hW0
    obtain ⟨p0, p1, p2, p3⟩ := HP.out _ bB

    refine (h0.out _).mono ?_
    rintro r w10 ⟨rfl, hB10⟩
    clear p0 p1 p2 p3
    have bB10 := below_then bB hB10
    have sW10 := bB10.size
    have GF10 := Cu.new w10 ⟨f0, f1, f2, f3⟩ 28
    have bC10 := below_alloc (bB10) (.cells #[.string f0, .int .i64 f1, .int .i64 f2, .int .i64 f3] 28)
    obtain ⟨p0, p1, p2, p3⟩ := HP.out _ bC10
    have kF0 := GF10.c0
    have kF1 := GF10.c1
    have kF2 := GF10.c2
    have kF3 := GF10.c3
    have gF910 := GF10
    clear GF10
    go_wp2_with fail

    refine (h1.out _).mono ?_
    rintro r w11 ⟨rfl, hB11⟩
    clear p0 p1 p2 p3 kF0 kF1 kF2 kF3
    have gF11 := (gF910).keep' hB11
    clear gF910
    have bB11 := below_then bC10 hB11
    have sW11 := bB11.size
    have GF11 := (gF11).alloc (.cells #[.string f0, .int .i64 f1, .int .i64 f2, .int .i64 f3] 28)
    have GA11 := Cu.new w11 ⟨f0, f1, f2, f3⟩ 28
    have bC11 := below_alloc (bB11) (.cells #[.string f0, .int .i64 f1, .int .i64 f2, .int .i64 f3] 28)
    have nF11 := gF11.lt
    obtain ⟨p0, p1, p2, p3⟩ := HP.out _ bC11
    have kF0 := GF11.c0
    have kF1 := GF11.c1
    have kF2 := GF11.c2
    have kF3 := GF11.c3
    have gF911 := GF11
    clear GF11
    have gA911 := GA11
    clear GA11
    clear gF11
    go_wp2_with fail

    refine (h2.out _).mono ?_
    rintro r w12 ⟨rfl, hB12⟩
    clear p0 p1 p2 p3 kF0 kF1 kF2 kF3
    have gF12 := (gF911).keep' hB12
    have gA12 := (gA911).keep' hB12
    clear gF911
    clear gA911
    have bB12 := below_then bC11 hB12
    have sW12 := bB12.size
    have GF12 := (gF12).alloc (.cells #[.string f0, .int .i64 f1, .int .i64 f2, .int .i64 f3] 28)
    have GA12 := (gA12).alloc (.cells #[.string f0, .int .i64 f1, .int .i64 f2, .int .i64 f3] 28)
    have GB12 := Cu.new w12 ⟨f0, f1, f2, f3⟩ 28
    have bC12 := below_alloc (bB12) (.cells #[.string f0, .int .i64 f1, .int .i64 f2, .int .i64 f3] 28)
    have nF12 := gF12.lt
    have nA12 := gA12.lt
    obtain ⟨p0, p1, p2, p3⟩ := HP.out _ bC12
    have kF0 := GF12.c0
    have kF1 := GF12.c1
    have kF2 := GF12.c2
    have kF3 := GF12.c3
    have gF912 := GF12
    clear GF12
    have gA912 := GA12
    clear GA12
    have gB912 := GB12
    clear GB12
    clear gF12 gA12
    go_wp2_with fail

    refine (h3.out _).mono ?_
    rintro r w13 ⟨rfl, hB13⟩
    clear p0 p1 p2 p3 kF0 kF1 kF2 kF3
    have gF13 := (gF912).keep' hB13
    have gA13 := (gA912).keep' hB13
    have gB13 := (gB912).keep' hB13
    clear gF912
    clear gA912
    clear gB912
    have bB13 := below_then bC12 hB13
    have sW13 := bB13.size
    have GF13 := (gF13).alloc (.cells #[.string f0, .int .i64 f1, .int .i64 f2, .int .i64 f3] 28)
    have GA13 := (gA13).alloc (.cells #[.string f0, .int .i64 f1, .int .i64 f2, .int .i64 f3] 28)
    have GB13 := (gB13).alloc (.cells #[.string f0, .int .i64 f1, .int .i64 f2, .int .i64 f3] 28)
    have GD13 := Cu.new w13 ⟨f0, f1, f2, f3⟩ 28
    have bC13 := below_alloc (bB13) (.cells #[.string f0, .int .i64 f1, .int .i64 f2, .int .i64 f3] 28)
    have nF13 := gF13.lt
    have nA13 := gA13.lt
    have nB13 := gB13.lt
    obtain ⟨p0, p1, p2, p3⟩ := HP.out _ bC13
    have kF0 := GF13.c0
    have kF1 := GF13.c1
    have kF2 := GF13.c2
    have kF3 := GF13.c3
    have gF913 := GF13
    clear GF13
    have gA913 := GA13
    clear GA13
    have gB913 := GB13
    clear GB13
    have gD913 := GD13
    clear GD13
    clear gF13 gA13 gB13
    go_wp2_with fail

    refine (h4.out _).mono ?_
    rintro r w14 ⟨rfl, hB14⟩
    clear p0 p1 p2 p3 kF0 kF1 kF2 kF3
    have gF14 := (gF913).keep' hB14
    have gA14 := (gA913).keep' hB14
    have gB14 := (gB913).keep' hB14
    have gD14 := (gD913).keep' hB14
    clear gF913
    clear gA913
    clear gB913
    clear gD913
    have bB14 := below_then bC13 hB14
    have sW14 := bB14.size
    have GF14 := ((gF14).alloc (.cells #[.string f0, .int .i64 f1, .int .i64 f2, .int .i64 f3] 28)).alloc (.cells #[.string f0, .int .i64 f1, .int .i64 f2, .int .i64 f3] 28)
    have GA14 := ((gA14).alloc (.cells #[.string f0, .int .i64 f1, .int .i64 f2, .int .i64 f3] 28)).alloc (.cells #[.string f0, .int .i64 f1, .int .i64 f2, .int .i64 f3] 28)
    have GB14 := ((gB14).alloc (.cells #[.string f0, .int .i64 f1, .int .i64 f2, .int .i64 f3] 28)).alloc (.cells #[.string f0, .int .i64 f1, .int .i64 f2, .int .i64 f3] 28)
    have GD14 := ((gD14).alloc (.cells #[.string f0, .int .i64 f1, .int .i64 f2, .int .i64 f3] 28)).alloc (.cells #[.string f0, .int .i64 f1, .int .i64 f2, .int .i64 f3] 28)
    have GI14 := (Cu.new w14 ⟨f0, f1, f2, f3⟩ 28).alloc (.cells #[.string f0, .int .i64 f1, .int .i64 f2, .int .i64 f3] 28)
    have GJ14 := Cu.new (w14.alloc (.cells #[.string f0, .int .i64 f1, .int .i64 f2, .int .i64 f3] 28)) ⟨f0, f1, f2, f3⟩ 28
    rw [World.size_alloc] at GJ14
    have bC14 := below_alloc (below_alloc (bB14) (.cells #[.string f0, .int .i64 f1, .int .i64 f2, .int .i64 f3] 28)) (.cells #[.string f0, .int .i64 f1, .int .i64 f2, .int .i64 f3] 28)
    have nF14 := gF14.lt
    have nA14 := gA14.lt
    have nB14 := gB14.lt
    have nD14 := gD14.lt
    obtain ⟨p0, p1, p2, p3⟩ := HP.out _ bC14
    have kF0 := GF14.c0
    have kF1 := GF14.c1
    have kF2 := GF14.c2
    have kF3 := GF14.c3
    have kA0 := GA14.c0
    have kA1 := GA14.c1
    have kA2 := GA14.c2
    have kA3 := GA14.c3
    have kB0 := GB14.c0
    have kB1 := GB14.c1
    have kB2 := GB14.c2
    have kB3 := GB14.c3
    have kD0 := GD14.c0
    have kD1 := GD14.c1
    have kD2 := GD14.c2
    have kD3 := GD14.c3
    have kI0 := GI14.c0
    have kI1 := GI14.c1
    have kI2 := GI14.c2
    have kI3 := GI14.c3
    have kJ0 := GJ14.c0
    have kJ1 := GJ14.c1
    have kJ2 := GJ14.c2
    have kJ3 := GJ14.c3
    have gF914 := GF14
    clear GF14
    have gA914 := GA14
    clear GA14
    have gB914 := GB14
    clear GB14
    have gD914 := GD14
    clear GD14
    have gI914 := GI14
    clear GI14
    have gJ914 := GJ14
    clear GJ14
    clear gF14 gA14 gB14 gD14

    clear p0 p1 p2 p3 kF0 kF1 kF2 kF3 kA0 kA1 kA2 kA3 kB0 kB1 kB2 kB3 kD0 kD1 kD2 kD3 kI0 kI1 kI2 kI3 kJ0 kJ1 kJ2 kJ3
    have HALL0 := fun V (hV : Below ((w14.alloc (.cells #[.string f0, .int .i64 f1, .int .i64 f2, .int .i64 f3] 28)).alloc (.cells #[.string f0, .int .i64 f1, .int .i64 f2, .int .i64 f3] 28)).heap.size ((w14.alloc (.cells #[.string f0, .int .i64 f1, .int .i64 f2, .int .i64 f3] 28)).alloc (.cells #[.string f0, .int .i64 f1, .int .i64 f2, .int .i64 f3] 28)) V) => And.intro (gF914.keep' hV) (And.intro (gA914.keep' hV) (And.intro (gB914.keep' hV) (And.intro (gD914.keep' hV) (And.intro (gI914.keep' hV) (gJ914.keep' hV)))))
    have HALL := Lib.hid HALL0
    clear HALL0
    have hRR := Below.refl ((w14.alloc (.cells #[.string f0, .int .i64 f1, .int .i64 f2, .int .i64 f3] 28)).alloc (.cells #[.string f0, .int .i64 f1, .int .i64 f2, .int .i64 f3] 28)).heap.size ((w14.alloc (.cells #[.string f0, .int .i64 f1, .int .i64 f2, .int .i64 f3] 28)).alloc (.cells #[.string f0, .int .i64 f1, .int .i64 f2, .int .i64 f3] 28))
    obtain ⟨eF, eA, eB, eD, eI, eJ⟩ := HALL.out _ hRR
    have kF0 := eF.c0
    have kF1 := eF.c1
    have kF2 := eF.c2
    have kF3 := eF.c3
    have kA0 := eA.c0
    have kA1 := eA.c1
    have kA2 := eA.c2
    have kA3 := eA.c3
    have kB0 := eB.c0
    have kB1 := eB.c1
    have kB2 := eB.c2
    have kB3 := eB.c3
    have kD0 := eD.c0
    have kD1 := eD.c1
    have kD2 := eD.c2
    have kD3 := eD.c3
    have kI0 := eI.c0
    have kI1 := eI.c1
    have kI2 := eI.c2
    have kI3 := eI.c3
    have kJ0 := eJ.c0
    have kJ1 := eJ.c1
    have kJ2 := eJ.c2
    have kJ3 := eJ.c3
    clear eF eA eB eD eI eJ
    go_wp2_with fail
    generalize hW9 : (w14.alloc (.cells #[.string f0, .int .i64 f1, .int .i64 f2, .int .i64 f3] 28)).alloc (.cells #[.string f0, .int .i64 f1, .int .i64 f2, .int .i64 f3] 28) = W9 at *
    clear hW9
    simp only [List.append_eq, List.cons_append, List.nil_append]
    go_region_held3 (fun w' => Below W9.heap.size W9 w' ∧ w'.cell? ⟨w10.heap.size, 0, none⟩ = some (.string f0) ∧ w'.cell? ⟨w10.heap.size, 1, none⟩ = some (.int .i64 f1) ∧ w'.cell? ⟨w10.heap.size, 2, none⟩ = some (.int .i64 f2) ∧ w'.cell? ⟨w10.heap.size, 3, none⟩ = some (.int .i64 f3) ∧ w'.cell? ⟨w11.heap.size, 0, none⟩ = some (.string f0) ∧ w'.cell? ⟨w11.heap.size, 1, none⟩ = some (.int .i64 f1) ∧ w'.cell? ⟨w11.heap.size, 2, none⟩ = some (.int .i64 f2) ∧ w'.cell? ⟨w11.heap.size, 3, none⟩ = some (.int .i64 f3) ∧ w'.cell? ⟨w12.heap.size, 0, none⟩ = some (.string f0) ∧ w'.cell? ⟨w12.heap.size, 1, none⟩ = some (.int .i64 f1) ∧ w'.cell? ⟨w12.heap.size, 2, none⟩ = some (.int .i64 f2) ∧ w'.cell? ⟨w12.heap.size, 3, none⟩ = some (.int .i64 f3) ∧ w'.cell? ⟨w13.heap.size, 0, none⟩ = some (.string f0) ∧ w'.cell? ⟨w13.heap.size, 1, none⟩ = some (.int .i64 f1) ∧ w'.cell? ⟨w13.heap.size, 2, none⟩ = some (.int .i64 f2) ∧ w'.cell? ⟨w13.heap.size, 3, none⟩ = some (.int .i64 f3) ∧ w'.cell? ⟨w14.heap.size, 0, none⟩ = some (.string f0) ∧ w'.cell? ⟨w14.heap.size, 1, none⟩ = some (.int .i64 f1) ∧ w'.cell? ⟨w14.heap.size, 2, none⟩ = some (.int .i64 f2) ∧ w'.cell? ⟨w14.heap.size, 3, none⟩ = some (.int .i64 f3) ∧ w'.cell? ⟨w14.heap.size + 1, 0, none⟩ = some (.string f0) ∧ w'.cell? ⟨w14.heap.size + 1, 1, none⟩ = some (.int .i64 f1) ∧ w'.cell? ⟨w14.heap.size + 1, 2, none⟩ = some (.int .i64 f2) ∧ w'.cell? ⟨w14.heap.size + 1, 3, none⟩ = some (.int .i64 f3))
      ((refine ⟨?_, ?_, ?_, ?_, ?_, ?_, ?_, ?_, ?_, ?_, ?_, ?_, ?_, ?_, ?_, ?_, ?_, ?_, ?_, ?_, ?_, ?_, ?_, ?_, ?_⟩ <;> first | assumption | exact below_drew (by assumption)))
      (first
        | (go_at_call 33; refine (h5.out _).mono ?_; rintro r w5 ⟨rfl, hB5⟩; have hBn : Below W9.heap.size W9 w5 := below_then (by first | assumption | exact And.left (by assumption)) hB5; obtain ⟨eF, eA, eB, eD, eI, eJ⟩ := HALL.out _ hBn; have qF0 := eF.c0; have qF1 := eF.c1; have qF2 := eF.c2; have qF3 := eF.c3; have qA0 := eA.c0; have qA1 := eA.c1; have qA2 := eA.c2; have qA3 := eA.c3; have qB0 := eB.c0; have qB1 := eB.c1; have qB2 := eB.c2; have qB3 := eB.c3; have qD0 := eD.c0; have qD1 := eD.c1; have qD2 := eD.c2; have qD3 := eD.c3; have qI0 := eI.c0; have qI1 := eI.c1; have qI2 := eI.c2; have qI3 := eI.c3; have qJ0 := eJ.c0; have qJ1 := eJ.c1; have qJ2 := eJ.c2; have qJ3 := eJ.c3; clear eF eA eB eD eI eJ)
        | (go_at_call 22; refine (h6.out _).mono ?_; rintro r w5 ⟨rfl, hB5⟩; have hBn : Below W9.heap.size W9 w5 := below_then (by first | assumption | exact And.left (by assumption)) hB5; obtain ⟨eF, eA, eB, eD, eI, eJ⟩ := HALL.out _ hBn; have qF0 := eF.c0; have qF1 := eF.c1; have qF2 := eF.c2; have qF3 := eF.c3; have qA0 := eA.c0; have qA1 := eA.c1; have qA2 := eA.c2; have qA3 := eA.c3; have qB0 := eB.c0; have qB1 := eB.c1; have qB2 := eB.c2; have qB3 := eB.c3; have qD0 := eD.c0; have qD1 := eD.c1; have qD2 := eD.c2; have qD3 := eD.c3; have qI0 := eI.c0; have qI1 := eI.c1; have qI2 := eI.c2; have qI3 := eI.c3; have qJ0 := eJ.c0; have qJ1 := eJ.c1; have qJ2 := eJ.c2; have qJ3 := eJ.c3; clear eF eA eB eD eI eJ)
        | (go_at_call 20; refine (h7.out _).mono ?_; rintro r w5 ⟨rfl, hB5⟩; have hBn : Below W9.heap.size W9 w5 := below_then (by first | assumption | exact And.left (by assumption)) hB5; obtain ⟨eF, eA, eB, eD, eI, eJ⟩ := HALL.out _ hBn; have qF0 := eF.c0; have qF1 := eF.c1; have qF2 := eF.c2; have qF3 := eF.c3; have qA0 := eA.c0; have qA1 := eA.c1; have qA2 := eA.c2; have qA3 := eA.c3; have qB0 := eB.c0; have qB1 := eB.c1; have qB2 := eB.c2; have qB3 := eB.c3; have qD0 := eD.c0; have qD1 := eD.c1; have qD2 := eD.c2; have qD3 := eD.c3; have qI0 := eI.c0; have qI1 := eI.c1; have qI2 := eI.c2; have qI3 := eI.c3; have qJ0 := eJ.c0; have qJ1 := eJ.c1; have qJ2 := eJ.c2; have qJ3 := eJ.c3; clear eF eA eB eD eI eJ)
        | (go_at_call 24; refine (h8.out _).mono ?_; rintro r w5 ⟨rfl, hB5⟩; have hBn : Below W9.heap.size W9 w5 := below_then (by first | assumption | exact And.left (by assumption)) hB5; obtain ⟨eF, eA, eB, eD, eI, eJ⟩ := HALL.out _ hBn; have qF0 := eF.c0; have qF1 := eF.c1; have qF2 := eF.c2; have qF3 := eF.c3; have qA0 := eA.c0; have qA1 := eA.c1; have qA2 := eA.c2; have qA3 := eA.c3; have qB0 := eB.c0; have qB1 := eB.c1; have qB2 := eB.c2; have qB3 := eB.c3; have qD0 := eD.c0; have qD1 := eD.c1; have qD2 := eD.c2; have qD3 := eD.c3; have qI0 := eI.c0; have qI1 := eI.c1; have qI2 := eI.c2; have qI3 := eI.c3; have qJ0 := eJ.c0; have qJ1 := eJ.c1; have qJ2 := eJ.c2; have qJ3 := eJ.c3; clear eF eA eB eD eI eJ)
        | (go_at_call 14; refine (awake04_any _).mono ?_; rintro r w5 ⟨rfl, hB5⟩; have hBn : Below W9.heap.size W9 w5 := below_then (by first | assumption | exact And.left (by assumption)) hB5; obtain ⟨eF, eA, eB, eD, eI, eJ⟩ := HALL.out _ hBn; have qF0 := eF.c0; have qF1 := eF.c1; have qF2 := eF.c2; have qF3 := eF.c3; have qA0 := eA.c0; have qA1 := eA.c1; have qA2 := eA.c2; have qA3 := eA.c3; have qB0 := eB.c0; have qB1 := eB.c1; have qB2 := eB.c2; have qB3 := eB.c3; have qD0 := eD.c0; have qD1 := eD.c1; have qD2 := eD.c2; have qD3 := eD.c3; have qI0 := eI.c0; have qI1 := eI.c1; have qI2 := eI.c2; have qI3 := eI.c3; have qJ0 := eJ.c0; have qJ1 := eJ.c1; have qJ2 := eJ.c2; have qJ3 := eJ.c3; clear eF eA eB eD eI eJ))
    go_wp2
    go_ret
    exact ⟨rfl, below_then hBw (below_then bC14 hBn)⟩

/-! The step from the walk to the statement: the shell's text. -/
set_option maxRecDepth 100000 in
theorem lifted (os : Os) (started : os.Started) (H : Type) (enc : TypeId × Value → H) :
    ReturnsInHanded {} Try.checked os 13 .any (Rows.cursorStaysSpec.pre6 enc Try.prog Try.f13 Rows.cursorStaysRow.domain false) (Rows.cursorStaysSpec.post enc Try.prog Try.f13 false true false false) := by
  refine returnsInHanded_of_change (C := Try.checked) own started (by kernel_rfl) Try.func13
    (ChangeSpec.witness6 (enc := enc) (C := Try.checked) false ⟨#[], #[.agg #[.string ByteArray.empty, .int .i64 0, .int .i64 0, .int .i64 0], .int .i64 0, .int .i64 0], []⟩ 8 (by kernel_rfl) (by kernel_rfl) (by kernel_rfl) (by kernel_rfl)) ?_
  intro W base args ds gs before hval0 hW hcnd _
  have hval : ∀ (j : Nat) t v, Try.f13.params[j]? = some t → args[j]? = some v → Value.okWide Try.prog W .any base t v := hval0
  have hW' := hW
  obtain ⟨p, q, hA0, hV, rfl, hfz, hnd⟩ := hW
  have hA : DataW.TrodAll enc Try.prog W 0 (fun _ => true) true Try.f13.params.toList args.toList ds p := hA0
  rw [Try.params13] at hA hval
  obtain ⟨v0, vs0, d0, ds0, p0, q0, hargs, rfl, rfl, h0, r0⟩ := trodAll_cons hA
  obtain ⟨v1, vs1, d1, ds1, p1, q1, rfl, rfl, rfl, h1, r1⟩ := trodAll_cons r0
  obtain ⟨v2, vs2, d2, ds2, p2, q2, rfl, rfl, rfl, h2, r2⟩ := trodAll_cons r1
  obtain ⟨rfl, rfl, rfl⟩ := trodAll_nil r2
  obtain rfl : args = #[v0, v1, v2] := by cases args; simp_all
  obtain ⟨rfl, rfl⟩ := trodVars_none hV
  have k0 := h0
  have lt0 : ∀ x ∈ p0, x.block < W.heap.size := by obtain ⟨m, hm⟩ := k0; exact DataW.trod_lt m _ _ _ hm
  obtain ⟨cs0, ca0, ce0, cf0, rfl, wcs0, wca0, wce0, wcf0⟩ := open_cursor (hval 0 28 v0 rfl rfl) h0
  obtain ⟨a1, rfl, rfl, rfl, w1⟩ := open_int Try.underlying24 (hval 1 24 v1 rfl rfl) h1
  obtain ⟨a2, rfl, rfl, rfl, w2⟩ := open_int Try.underlying3 (hval 2 3 v2 rfl rfl) h2
  clear hA0 hval0
  refine (walk cs0 ca0 ce0 cf0 a1 a2 W wcs0 (bounds_i64 wca0) (bounds_i64 wce0) (bounds_i64 wcf0) (bounds_i64 w1) (bounds_i64 w2)).mono fun e W' ⟨he, bel⟩ => ?_
  subst he
  exact ⟨_, rfl, _, _, _, [], _, [], hW', trodAll_mk1 (shut_bool Try.underlying4 _), (trodAll_cons_mk (Below.trod laidOut (by kernel_rfl) (of_decide_eq_true (by kernel_rfl)) k0 bel lt0) (trodAll_cons_mk (shut_int Try.underlying24 w1) (trodAll_cons_mk (shut_int Try.underlying3 w2) trodAll_mk0))), rfl, bel.frame _, fun h => by cases h⟩

theorem over : Rows.cursorStaysRow.holds Try.pinned (OpenSpec.ofChange Rows.cursorStaysSpec) :=
  OpenClaim.holds_of_wide 13 Try.f13 rfl rfl rfl rfl rfl rfl rfl ⟨rfl, rfl, rfl, rfl, rfl⟩ rfl rfl rfl rfl rfl (by kernel_rfl) Try.func13 (by kernel_rfl)
    (of_decide_eq_true (by kernel_rfl)) (by unfold Func.isWrapper; first | (rw [if_pos (by decide +kernel)]; kernel_rfl) | (rw [if_neg (by decide +kernel)]; exact ⟨rfl, rfl⟩))
    (fun os started H enc _ => lifted os started H enc)

/-- The statement. -/
theorem proved : Rows.CursorStaysSaid := over
#print axioms proved
end Go.Proofs.Ytboajmnckldmiaa.cursorStays
