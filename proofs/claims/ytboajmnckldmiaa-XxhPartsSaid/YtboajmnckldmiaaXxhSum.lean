/-
  The walks of the method sum of a state, and of xxh.Seeded, Of, Low.
-/
import Derived.Test.YtboajmnckldmiaaXxhCheck
import Derived.Test.YtboajmnckldmiaaCurBytes
import Derived.Test.YtboajmnckldmiaaXxhAdd
import Derived.Deep.RegionHeld3
import Derived.Deep.DrawnRows
namespace Go.Proofs.Ytboajmnckldmiaa
open Go.RowKit
set_option linter.unusedVariables false
set_option maxRecDepth 100000

attribute [local go_sem ↓] Go.wp_at_zero Go.wp_at_succ

set_option maxHeartbeats 4000000 in
theorem sum_A (g : Nat) (la lb lc ld t : Int) (u : ByteArray) (sd : Int) (w : World) (hl : LanIn ⟨la, lb, lc, ld⟩) (hu : u.size ≤ 9223372036854775807) (hsd : 0 ≤ sd ∧ sd ≤ 18446744073709551615) (hg : Hs 79 w g ⟨⟨la, lb, lc, ld⟩, t, u, sd⟩) (ht : 0 ≤ t ∧ t < 32) :
    Calls Try.prog 63 #[.pointer (some ⟨g, 0, none⟩)] w fun e w' => e = .returned (.int .u64 (sumV ⟨la, lb, lc, ld⟩ t u sd)) ∧ Below w.heap.size w w' := by
  have HSU : Hid (sumV ⟨la, lb, lc, ld⟩ t u sd = endV (IntKind.u64.wrap (IntKind.u64.wrap (sd + 2870177450012600261) + t)) u) := by show _ = _; unfold sumV; rw [if_neg (by omega)]; rfl
  have hct : IntKind.u64.wrap t = t := IntWalk.u64_in _ (by omega)
  have hbb := wrap_in (sd + 2870177450012600261)
  have HE := Lib.hid (fun W => ended_any (IntKind.u64.wrap (IntKind.u64.wrap (sd + 2870177450012600261) + t)) u W (wrap_in _) hu)
  have HCT := Lib.hid hct
  clear hct
  have HG := Lib.hid (fun V (hV : Below w.heap.size w V) => hg.keep' hV)
  have g32 : ¬ (32 : Int) ≤ t := by omega
  have p0 := hg.c0
  have p1 := hg.c1
  have p2 := hg.c2
  have p3 := hg.c3
  have p4 := hg.c4
  have p5 := hg.c5
  have p6 := hg.c6
  have z0 := hg.fz 0
  have z1 := hg.fz 1
  have z2 := hg.fz 2
  have z3 := hg.fz 3
  have z4 := hg.fz 4
  have z5 := hg.fz 5
  have z6 := hg.fz 6
  simp only at p0 p1 p2 p3 p4 p5 p6
  have hBr := Below.refl w.heap.size w
  go_enter Try.func63, Try.ntmps63
  go_wp2_with fail
  have hct := HCT.out
  go_region_held3 (fun w' => Below w.heap.size w w' ∧ w'.cell? ⟨g, 4, none⟩ = some (.int .i64 t) ∧ w'.cell? ⟨g, 5, none⟩ = some (.string u))
    ((refine ⟨?_, ?_, ?_⟩ <;> first | assumption | exact below_drew (by assumption) | go_keep))
    (first
      | (go_at_call 73; refine (HE.out _).mono ?_; rintro r w5 ⟨rfl, hB5⟩; have hBn := below_then (by first | assumption | exact And.left (by assumption)) hB5; have hn := HG.out _ hBn; have q4 := hn.c4; have q5 := hn.c5; simp only at q4 q5))
  all_goals (
    go_wp2
    go_ret
    exact ⟨ret_int HSU.out.symm, hBn⟩)

set_option maxHeartbeats 4000000 in
theorem sum_B (g : Nat) (la lb lc ld t : Int) (u : ByteArray) (sd : Int) (w : World) (hl : LanIn ⟨la, lb, lc, ld⟩) (hu : u.size ≤ 9223372036854775807) (hsd : 0 ≤ sd ∧ sd ≤ 18446744073709551615) (hg : Hs 79 w g ⟨⟨la, lb, lc, ld⟩, t, u, sd⟩) (ht : 32 ≤ t ∧ t ≤ 9223372036854775807) :
    Calls Try.prog 63 #[.pointer (some ⟨g, 0, none⟩)] w fun e w' => e = .returned (.int .u64 (sumV ⟨la, lb, lc, ld⟩ t u sd)) ∧ Below w.heap.size w w' := by
  have HSU : Hid (sumV ⟨la, lb, lc, ld⟩ t u sd = endV (IntKind.u64.wrap (mergedV ⟨la, lb, lc, ld⟩ + t)) u) := by show _ = _; unfold sumV; rw [if_pos (by omega)]; rfl
  have hct : IntKind.u64.wrap t = t := IntWalk.u64_in _ (by omega)
  have HM := Lib.hid (fun W => merged_any la lb lc ld W hl)
  have hbb := mergedV_in ⟨la, lb, lc, ld⟩
  generalize mergedV ⟨la, lb, lc, ld⟩ = h at *
  have HE := Lib.hid (fun W => ended_any (IntKind.u64.wrap (h + t)) u W (wrap_in _) hu)
  have HCT := Lib.hid hct
  clear hct
  have HG := Lib.hid (fun V (hV : Below w.heap.size w V) => hg.keep' hV)
  have g32 : (32 : Int) ≤ t := by omega
  have p0 := hg.c0
  have p1 := hg.c1
  have p2 := hg.c2
  have p3 := hg.c3
  have p4 := hg.c4
  have p5 := hg.c5
  have p6 := hg.c6
  have z0 := hg.fz 0
  have z1 := hg.fz 1
  have z2 := hg.fz 2
  have z3 := hg.fz 3
  have z4 := hg.fz 4
  have z5 := hg.fz 5
  have z6 := hg.fz 6
  simp only at p0 p1 p2 p3 p4 p5 p6
  have hBr := Below.refl w.heap.size w
  go_enter Try.func63, Try.ntmps63
  go_wp2_with fail
  refine (HM.out _).mono ?_
  rintro e w1 ⟨rfl, hB1⟩
  clear p0 p1 p2 p3 p4 p5 p6 z0 z1 z2 z3 z4 z5 z6
  have hg1 := HG.out _ hB1
  have p0 := hg1.c0
  have p1 := hg1.c1
  have p2 := hg1.c2
  have p3 := hg1.c3
  have p4 := hg1.c4
  have p5 := hg1.c5
  have p6 := hg1.c6
  have z0 := hg1.fz 0
  have z1 := hg1.fz 1
  have z2 := hg1.fz 2
  have z3 := hg1.fz 3
  have z4 := hg1.fz 4
  have z5 := hg1.fz 5
  have z6 := hg1.fz 6
  simp only at p0 p1 p2 p3 p4 p5 p6
  go_wp2_with fail
  have hct := HCT.out
  go_region_held3 (fun w' => Below w.heap.size w w' ∧ w'.cell? ⟨g, 4, none⟩ = some (.int .i64 t) ∧ w'.cell? ⟨g, 5, none⟩ = some (.string u))
    ((refine ⟨?_, ?_, ?_⟩ <;> first | assumption | exact below_drew (by assumption) | go_keep))
    (first
      | (go_at_call 73; refine (HE.out _).mono ?_; rintro r w5 ⟨rfl, hB5⟩; have hBn := below_then (by first | assumption | exact And.left (by assumption)) hB5; have hn := HG.out _ hBn; have q4 := hn.c4; have q5 := hn.c5; simp only at q4 q5))
  all_goals (
    go_wp2
    go_ret
    exact ⟨ret_int HSU.out.symm, hBn⟩)

theorem sum_any (g : Nat) (la lb lc ld t : Int) (u : ByteArray) (sd : Int) (w : World) (hl : LanIn ⟨la, lb, lc, ld⟩) (hu : u.size ≤ 9223372036854775807) (hsd : 0 ≤ sd ∧ sd ≤ 18446744073709551615) (hg : Hs 79 w g ⟨⟨la, lb, lc, ld⟩, t, u, sd⟩) (ht : 0 ≤ t ∧ t ≤ 9223372036854775807) :
    Calls Try.prog 63 #[.pointer (some ⟨g, 0, none⟩)] w fun e w' => e = .returned (.int .u64 (sumV ⟨la, lb, lc, ld⟩ t u sd)) ∧ Below w.heap.size w w' := by
  by_cases h : t < 32
  · exact sum_A g la lb lc ld t u sd w hl hu hsd hg ⟨ht.1, h⟩
  · exact sum_B g la lb lc ld t u sd w hl hu hsd hg ⟨by omega, ht.2⟩

theorem emp_app (s : ByteArray) : ByteArray.empty ++ s = s := by apply ByteArray.ext; simp

set_option maxHeartbeats 4000000 in
theorem Seeded_any (s : ByteArray) (sd : Int) (w : World) (hs : s.size ≤ 1099511627776) (hsd : 0 ≤ sd ∧ sd ≤ 18446744073709551615) :
    Calls Try.prog 48 #[.string s, .int .u64 sd] w fun e w' => e = .returned (.int .u64 (seededV s sd)) ∧ Below w.heap.size w w' := by
  have HN := Lib.hid (fun W => New05_any sd W hsd)
  have HV : Hid ((newH sd).val = .agg #[.int .u64 (startV sd).a, .int .u64 (startV sd).b, .int .u64 (startV sd).c, .int .u64 (startV sd).d, .int .i64 0, .string ByteArray.empty, .int .u64 sd]) := rfl
  rw [HV.out] at HN
  have hli := startV_in sd hsd
  have HQ : Hid (seededV s sd = sumV (stripV (startV sd) s).1 s.size (stripV (startV sd) s).2 sd) := rfl
  have hln := stripV_in (startV sd) s hli
  have htl := stripV_tail (startV sd) s
  have HA : Hid (addH ⟨startV sd, 0, ByteArray.empty, sd⟩ s = ⟨(stripV (startV sd) s).1, s.size, (stripV (startV sd) s).2, sd⟩) := by
    show _ = _; unfold addH; simp only [emp_app]; rw [Int.zero_add]
  have htl' : (stripV (startV sd) s).2.size ≤ 1000 := by omega
  clear htl HV
  generalize startV sd = l at *
  obtain ⟨la, lb, lc, ld⟩ := l
  simp only at HN
  generalize (stripV ⟨la, lb, lc, ld⟩ s).2 = u2 at *
  generalize (stripV ⟨la, lb, lc, ld⟩ s).1 = l2 at *
  obtain ⟨xa, xb, xc, xd⟩ := l2
  go_enter Try.func48, Try.ntmps48
  go_wp2_with fail
  refine (HN.out _).mono ?_
  rintro e w1 ⟨rfl, hB1⟩
  go_wp2_with fail
  have hnew := Hs.new w1 ⟨⟨la, lb, lc, ld⟩, 0, ByteArray.empty, sd⟩ 79
  refine (add_any w1.heap.size la lb lc ld 0 ByteArray.empty s sd _ hli (by omega) (by simp) hs hnew).mono ?_
  rintro e w2 ⟨rfl, hg2, hU⟩
  rw [HA.out] at hg2
  have hB2 : Below w.heap.size w w2 := hU.below (below_alloc hB1 _) hB1.size (by have := hB1.size; simp; omega)
  clear hU hnew
  go_wp2_with fail
  refine (sum_any w1.heap.size xa xb xc xd s.size u2 sd _ hln (by omega) hsd hg2 (by omega)).mono ?_
  rintro e w3 ⟨rfl, hB3⟩
  go_wp2
  go_ret
  exact ⟨ret_int HQ.out.symm, below_then hB2 hB3⟩

theorem Of05_any (s : ByteArray) (w : World) (hs : s.size ≤ 1099511627776) :
    Calls Try.prog 46 #[.string s] w fun e w' => e = .returned (.int .u64 (seededV s 0)) ∧ Below w.heap.size w w' := by
  have HS := Lib.hid (fun W => Seeded_any s 0 W hs (by omega))
  go_enter Try.func46, Try.ntmps46
  go_wp2_with fail
  refine (HS.out _).mono ?_
  rintro e w1 ⟨rfl, hB1⟩
  go_wp2
  go_ret
  exact ⟨rfl, hB1⟩

theorem Low05_any (s : ByteArray) (w : World) (hs : s.size ≤ 1099511627776) :
    Calls Try.prog 50 #[.string s] w fun e w' => e = .returned (.int .u32 (seededV s 0 % 4294967296)) ∧ Below w.heap.size w w' := by
  have HS := Lib.hid (fun W => Of05_any s W hs)
  have hb : 0 ≤ seededV s 0 ∧ seededV s 0 ≤ 18446744073709551615 := sumV_in _ _ _ _
  generalize seededV s 0 = x at *
  have HW : Hid (IntKind.u32.wrap x = x % 4294967296) := by show _ = _; rw [IntKind.wrap_u32]
  go_enter Try.func50, Try.ntmps50
  go_wp2_with fail
  refine (HS.out _).mono ?_
  rintro e w1 ⟨rfl, hB1⟩
  go_wp2
  go_ret
  exact ⟨ret_int HW.out, hB1⟩

end Go.Proofs.Ytboajmnckldmiaa
