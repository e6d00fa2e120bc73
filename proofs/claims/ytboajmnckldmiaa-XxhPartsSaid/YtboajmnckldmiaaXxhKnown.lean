/-
  The walk of cheesepresslaw05.XxhKnown.
-/
import Derived.Test.YtboajmnckldmiaaXxhAwake
import Derived.Deep.RegionHeld3
import Derived.Deep.DrawnRows
namespace Go.Proofs.Ytboajmnckldmiaa
open Go.RowKit
set_option linter.unusedVariables false
set_option maxRecDepth 100000

def sa1 : ByteArray := ⟨#[97]⟩
def sbc : ByteArray := ⟨#[98, 99]⟩
def sal : ByteArray := ⟨#[97, 98, 99, 100, 101, 102, 103, 104, 105, 106, 107, 108, 109, 110, 111, 112, 113, 114, 115, 116, 117, 118, 119, 120, 121, 122, 97, 98, 99, 100, 101, 102, 103]⟩
theorem sal_size : sal.size = 33 := rfl

set_option maxHeartbeats 8000000 in
theorem Known05_any (w : World) :
    Calls Try.prog 9 #[] w fun e w' => e = .returned (.bool true) ∧ Below w.heap.size w w' := by
  have HN := Lib.hid (fun W => New05_any 0 W (by omega))
  have HN5 := Lib.hid (fun W => New05_any 5 W (by omega))
  have ga := addH_good sa1 (new_good 0) (by decide +kernel)
  have oka := addNew_ok 0 sa1 (by decide +kernel) (by omega)
  have HA1 := Lib.hid (fun W => Add05_H (newH 0) sa1 W (newH_ok 0 (by omega)) (by decide +kernel))
  rw [(addO_new 0 sa1 (by decide +kernel)).1, (addO_new 0 sa1 (by decide +kernel)).2] at HA1
  have HA2 := Lib.hid (fun W => Add05_H (addH (newH 0) sa1) sbc W oka (by decide +kernel))
  rw [(addO_good sbc ga (by decide +kernel)).1, (addO_good sbc ga (by decide +kernel)).2, addH_addH, show sa1 ++ sbc = sabc from by decide +kernel] at HA2
  have HS2 := Lib.hid (fun W => Sum05_H (addH (newH 0) sabc) W (addNew_ok 0 sabc (by decide +kernel) (by omega)))
  rw [sum_new 0 sabc (by decide +kernel), check_new 0 sabc (by decide +kernel), show seededV sabc 0 = 0x44bc2cf5ad770999 from known_abc] at HS2
  have HA3 := Lib.hid (fun W => Add05_H (newH 0) sal W (newH_ok 0 (by omega)) (by decide +kernel))
  rw [(addO_new 0 sal (by decide +kernel)).1, (addO_new 0 sal (by decide +kernel)).2] at HA3
  have HK3 := Lib.hid (addH_new 0 sal)
  have htl := stripV_tail (startV 0) sal
  rw [sal_size] at HK3 htl
  have HL := Lib.hid (fun W => Low05_any ⟨#[]⟩ W (by decide +kernel))
  rw [known_empty] at HL
  have HO := Lib.hid (fun W => Of05_any sabc W (by decide +kernel))
  rw [show seededV sabc 0 = 0x44bc2cf5ad770999 from known_abc] at HO
  have HC5 := Lib.hid (fun W => Check05_H (newH 5) W (newH_ok 5 (by omega)))
  rw [check_ok (new_good 5)] at HC5
  have HCo := Lib.hid (fun W => Check05_H ⟨(newH 0).l, 1, (newH 0).s, (newH 0).e⟩ W ⟨(newH_ok 0 (by omega)).1, by simp only; omega, (newH_ok 0 (by omega)).2.2.1, (newH_ok 0 (by omega)).2.2.2⟩)
  rw [check_bad (by decide +kernel)] at HCo
  have HCb := Lib.hid (fun W => Check05_H ⟨(newH 0).l, -1, (newH 0).s, (newH 0).e⟩ W ⟨(newH_ok 0 (by omega)).1, by simp only; omega, (newH_ok 0 (by omega)).2.2.1, (newH_ok 0 (by omega)).2.2.2⟩)
  rw [check_bad (by decide +kernel)] at HCb
  generalize addH (newH 0) sal = k3 at *
  obtain rfl := HK3.out
  generalize (stripV (startV 0) sal).2 = t3 at *
  generalize (stripV (startV 0) sal).1 = l3 at *
  obtain ⟨c0, c1, c2, c3⟩ := l3
  have hts : ((t3.size : Int) == 1) = true := by simp; omega
  have htn : (t3.size == 1) = true := by simp; omega
  generalize addH (newH 0) sabc = k at *
  obtain ⟨⟨k0, k1, k2, k3⟩, k4, k5, k6⟩ := k
  generalize addH (newH 0) sa1 = a at *
  obtain ⟨⟨a0, a1, a2, a3⟩, a4, a5, a6⟩ := a
  generalize newH 0 = n at *
  obtain ⟨⟨n0, n1, n2, n3⟩, n4, n5, n6⟩ := n
  generalize newH 5 = m at *
  obtain ⟨⟨m0, m1, m2, m3⟩, m4, m5, m6⟩ := m
  unfold Hsh.val at HN HN5 HA1 HA2 HS2 HA3 HC5 HCo HCb
  simp only at HN HN5 HA1 HA2 HS2 HA3 HC5 HCo HCb
  unfold sabc at HO
  unfold sa1 at HA1
  unfold sbc at HA2
  unfold sal at HA3
  clear ga oka htl HK3
  go_enter Try.func9, Try.ntmps9
  go_wp2_with fail
  refine (HN.out _).mono ?_
  rintro e w1 ⟨rfl, hB1⟩
  go_wp2_with fail
  refine (HA1.out _).mono ?_
  rintro e w2 ⟨rfl, hB2⟩
  have bB2 := below_then hB1 hB2
  have G2 := Hs.new w2 ⟨⟨a0, a1, a2, a3⟩, a4, a5, a6⟩ 49
  have bC2 := below_alloc bB2 (.cells #[.int .u64 a0, .int .u64 a1, .int .u64 a2, .int .u64 a3, .int .i64 a4, .string a5, .int .u64 a6] 49)
  clear hB1 hB2
  go_wp2_with fail
  refine (HA2.out _).mono ?_
  rintro e w3 ⟨rfl, hB3⟩
  have G3 := G2.keep' hB3
  have bB3 := below_then bC2 hB3
  clear G2 hB3
  have p0 := G3.c0
  have z0 := G3.fz 0
  have p1 := G3.c1
  have z1 := G3.fz 1
  have p2 := G3.c2
  have z2 := G3.fz 2
  have p3 := G3.c3
  have z3 := G3.fz 3
  have p4 := G3.c4
  have z4 := G3.fz 4
  have p5 := G3.c5
  have z5 := G3.fz 5
  have p6 := G3.c6
  have z6 := G3.fz 6
  simp only at p0 p1 p2 p3 p4 p5 p6
  have G4 := ((((((G3.set0 k0).set1 k1).set2 k2).set3 k3).set4 k4).set5 k5).set6 k6
  have q0 := G4.c0
  have q1 := G4.c1
  have q2 := G4.c2
  have q3 := G4.c3
  have q4 := G4.c4
  have q5 := G4.c5
  have q6 := G4.c6
  simp only at q0 q1 q2 q3 q4 q5 q6
  have hw2 := bB2.size
  have bC3 := ((((((bB3.setCell (p := ⟨w2.heap.size, 0, none⟩) hw2 (.int .u64 k0)).setCell (p := ⟨w2.heap.size, 1, none⟩) hw2 (.int .u64 k1)).setCell (p := ⟨w2.heap.size, 2, none⟩) hw2 (.int .u64 k2)).setCell (p := ⟨w2.heap.size, 3, none⟩) hw2 (.int .u64 k3)).setCell (p := ⟨w2.heap.size, 4, none⟩) hw2 (.int .i64 k4)).setCell (p := ⟨w2.heap.size, 5, none⟩) hw2 (.string k5)).setCell (p := ⟨w2.heap.size, 6, none⟩) hw2 (.int .u64 k6)
  go_wp2_with fail
  refine (HS2.out _).mono ?_
  rintro e w4 ⟨rfl, hB4⟩
  have bB4 := below_then bC3 hB4
  clear q0 q1 q2 q3 q4 q5 q6 z0 z1 z2 z3 z4 z5 z6 p0 p1 p2 p3 p4 p5 p6 G3 G4 bC3 hB4 bB3
  go_wp2_with fail
  refine (HN.out _).mono ?_
  rintro e w5 ⟨rfl, hB5⟩
  go_wp2_with fail
  refine (HA3.out _).mono ?_
  rintro e w6 ⟨rfl, hB6⟩
  have bB6 := below_then (below_then bB4 hB5) hB6
  have GC6 := Hs.new w6 ⟨⟨c0, c1, c2, c3⟩, 33, t3, 0⟩ 49
  have bC6 := below_alloc bB6 (.cells #[.int .u64 c0, .int .u64 c1, .int .u64 c2, .int .u64 c3, .int .i64 33, .string t3, .int .u64 0] 49)
  clear hB5 hB6
  go_wp2_with fail
  refine (HN.out _).mono ?_
  rintro e w7 ⟨rfl, hB7⟩
  have bB7 := below_then bC6 hB7
  have GC7 := GC6.keep' hB7
  clear GC6 hB7
  go_wp2_with fail
  refine (HN.out _).mono ?_
  rintro e w8 ⟨rfl, hB8⟩
  have bB8 := below_then bB7 hB8
  have GC8 := GC7.keep' hB8
  clear GC7 hB8
  go_wp2_with fail
  have GC9 := (GC8.alloc (.cells #[.int .u64 n0, .int .u64 n1, .int .u64 n2, .int .u64 n3, .int .i64 1, .string n5, .int .u64 n6] 49)).alloc (.cells #[.int .u64 n0, .int .u64 n1, .int .u64 n2, .int .u64 n3, .int .i64 (-1), .string n5, .int .u64 n6] 49)
  have GO9 := (Hs.new w8 ⟨⟨n0, n1, n2, n3⟩, 1, n5, n6⟩ 49).alloc (.cells #[.int .u64 n0, .int .u64 n1, .int .u64 n2, .int .u64 n3, .int .i64 (-1), .string n5, .int .u64 n6] 49)
  have GB9 := Hs.new (w8.alloc (.cells #[.int .u64 n0, .int .u64 n1, .int .u64 n2, .int .u64 n3, .int .i64 1, .string n5, .int .u64 n6] 49)) ⟨⟨n0, n1, n2, n3⟩, -1, n5, n6⟩ 49
  rw [World.size_alloc] at GB9
  have bB9 := below_alloc (below_alloc bB8 (.cells #[.int .u64 n0, .int .u64 n1, .int .u64 n2, .int .u64 n3, .int .i64 1, .string n5, .int .u64 n6] 49)) (.cells #[.int .u64 n0, .int .u64 n1, .int .u64 n2, .int .u64 n3, .int .i64 (-1), .string n5, .int .u64 n6] 49)
  clear GC8
  refine (awake05_any _).mono ?_
  rintro e w9 ⟨rfl, hB9⟩
  have bB10 := below_then bB9 hB9
  have GC10 := GC9.keep' hB9
  have GO10 := GO9.keep' hB9
  have GB10 := GB9.keep' hB9
  clear GC9 GO9 GB9 hB9 bB9
  go_wp2_with fail
  refine (HL.out _).mono ?_
  rintro e w10 ⟨rfl, hB10⟩
  have bB11 := below_then bB10 hB10
  have GC11 := GC10.keep' hB10
  have GO11 := GO10.keep' hB10
  have GB11 := GB10.keep' hB10
  clear GC10 GO10 GB10 hB10 bB10
  go_wp2_with fail
  refine (HO.out _).mono ?_
  rintro e w11 ⟨rfl, hB11⟩
  have bB12 := below_then bB11 hB11
  have GC12 := GC11.keep' hB11
  have GO12 := GO11.keep' hB11
  have GB12 := GB11.keep' hB11
  clear GC11 GO11 GB11 hB11 bB11
  go_wp2_with fail
  refine (HO.out _).mono ?_
  rintro e w12 ⟨rfl, hB12⟩
  have bB13 := below_then bB12 hB12
  have GC13 := GC12.keep' hB12
  have GO13 := GO12.keep' hB12
  have GB13 := GB12.keep' hB12
  clear GC12 GO12 GB12 hB12 bB12
  have p4 := GC13.c4
  have p5 := GC13.c5
  simp only at p4 p5
  go_wp2_with fail
  refine (HN5.out _).mono ?_
  rintro e w13 ⟨rfl, hB13⟩
  have bB14 := below_then bB13 hB13
  have GO14 := GO13.keep' hB13
  have GB14 := GB13.keep' hB13
  clear GO13 GB13 GC13 hB13 bB13 p4 p5
  go_wp2_with fail
  refine (HC5.out _).mono ?_
  rintro e w14 ⟨rfl, hB14⟩
  have bB15 := below_then bB14 hB14
  have GO15 := GO14.keep' hB14
  have GB15 := GB14.keep' hB14
  clear GO14 GB14 hB14 bB14
  have p0 := GO15.c0
  have p1 := GO15.c1
  have p2 := GO15.c2
  have p3 := GO15.c3
  have p4 := GO15.c4
  have p5 := GO15.c5
  have p6 := GO15.c6
  simp only at p0 p1 p2 p3 p4 p5 p6
  go_wp2_with fail
  refine (HCo.out _).mono ?_
  rintro e w15 ⟨rfl, hB15⟩
  have bB16 := below_then bB15 hB15
  have GB16 := GB15.keep' hB15
  clear GB15 GO15 hB15 bB15 p0 p1 p2 p3 p4 p5 p6
  have p0 := GB16.c0
  have p1 := GB16.c1
  have p2 := GB16.c2
  have p3 := GB16.c3
  have p4 := GB16.c4
  have p5 := GB16.c5
  have p6 := GB16.c6
  simp only at p0 p1 p2 p3 p4 p5 p6
  go_wp2_with fail
  refine (HCb.out _).mono ?_
  rintro e w16 ⟨rfl, hB16⟩
  go_wp2
  go_ret
  exact ⟨rfl, below_then bB16 hB16⟩

end Go.Proofs.Ytboajmnckldmiaa
