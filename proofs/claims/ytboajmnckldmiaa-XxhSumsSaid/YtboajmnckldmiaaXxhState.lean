/-
  Blocks that hold a state of XXH64; the walks of xxh.New, Check, Of, Low and of their references.
-/
import Derived.Test.YtboajmnckldmiaaXxhEnd2
import Derived.Test.YtboajmnckldmiaaXxhMerged
import Derived.Deep.RegionHeld3
import Derived.Deep.DrawnRows
namespace Go.Proofs.Ytboajmnckldmiaa
open Go.RowKit
set_option linter.unusedVariables false
set_option maxRecDepth 100000

/-- A block of whatever type that holds a state. -/
def Hs (T : TypeId) (W : World) (g : Nat) (h : Hsh) : Prop := W.heap[g]? = some (.cells #[.int .u64 h.l.a, .int .u64 h.l.b, .int .u64 h.l.c, .int .u64 h.l.d, .int .i64 h.t, .string h.s, .int .u64 h.e] T (0, 0))
section
variable {T : TypeId} {W W' : World} {g k B : Nat} {h h' : Hsh}
theorem Hs.c0 (H : Hs T W g h) : W.cell? ⟨g, 0, none⟩ = some (.int .u64 h.l.a) := (Joins.cell_of_block H 0).trans rfl
theorem Hs.c1 (H : Hs T W g h) : W.cell? ⟨g, 1, none⟩ = some (.int .u64 h.l.b) := (Joins.cell_of_block H 1).trans rfl
theorem Hs.c2 (H : Hs T W g h) : W.cell? ⟨g, 2, none⟩ = some (.int .u64 h.l.c) := (Joins.cell_of_block H 2).trans rfl
theorem Hs.c3 (H : Hs T W g h) : W.cell? ⟨g, 3, none⟩ = some (.int .u64 h.l.d) := (Joins.cell_of_block H 3).trans rfl
theorem Hs.c4 (H : Hs T W g h) : W.cell? ⟨g, 4, none⟩ = some (.int .i64 h.t) := (Joins.cell_of_block H 4).trans rfl
theorem Hs.c5 (H : Hs T W g h) : W.cell? ⟨g, 5, none⟩ = some (.string h.s) := (Joins.cell_of_block H 5).trans rfl
theorem Hs.c6 (H : Hs T W g h) : W.cell? ⟨g, 6, none⟩ = some (.int .u64 h.e) := (Joins.cell_of_block H 6).trans rfl
theorem Hs.fz (H : Hs T W g h) (i : Nat) : W.frozen? ⟨g, i, none⟩ = false := Joins.unfrozen_of_block H i
theorem Hs.lt (H : Hs T W g h) : g < W.heap.size := by
  rcases Nat.lt_or_ge g W.heap.size with h' | h'
  · exact h'
  · unfold Hs at H; rw [Array.getElem?_eq_none h'] at H; cases H
theorem Hs.keep (H : Hs T W g h) (hb : Below B W W') (hg : g < B) : Hs T W' g h := (hb.block g hg).trans H
theorem Hs.keep' (H : Hs T W g h) (hb : Below W.heap.size W W') : Hs T W' g h := (hb.block g H.lt).trans H
theorem Hs.new (W : World) (h : Hsh) (T : TypeId) : Hs T (W.alloc (.cells #[.int .u64 h.l.a, .int .u64 h.l.b, .int .u64 h.l.c, .int .u64 h.l.d, .int .i64 h.t, .string h.s, .int .u64 h.e] T)) W.heap.size h := heap_alloc_new _ _
theorem Hs.alloc (H : Hs T W g h) (o : Obj) : Hs T (W.alloc o) g h := H.keep (below_new o) H.lt
theorem Hs.drew (H : Hs T W g h) : Hs T W.drew g h := H
theorem Hs.drewN (H : Hs T W g h) (n : Nat) : Hs T (W.drewN n) g h := H
theorem Hs.set0 (H : Hs T W g h) (x : Int) : Hs T (W.setCell ⟨g, 0, none⟩ (.int .u64 x)) g ⟨⟨x, h.l.b, h.l.c, h.l.d⟩, h.t, h.s, h.e⟩ := (Joins.block_setCell H _).trans rfl
theorem Hs.set1 (H : Hs T W g h) (x : Int) : Hs T (W.setCell ⟨g, 1, none⟩ (.int .u64 x)) g ⟨⟨h.l.a, x, h.l.c, h.l.d⟩, h.t, h.s, h.e⟩ := (Joins.block_setCell H _).trans rfl
theorem Hs.set2 (H : Hs T W g h) (x : Int) : Hs T (W.setCell ⟨g, 2, none⟩ (.int .u64 x)) g ⟨⟨h.l.a, h.l.b, x, h.l.d⟩, h.t, h.s, h.e⟩ := (Joins.block_setCell H _).trans rfl
theorem Hs.set3 (H : Hs T W g h) (x : Int) : Hs T (W.setCell ⟨g, 3, none⟩ (.int .u64 x)) g ⟨⟨h.l.a, h.l.b, h.l.c, x⟩, h.t, h.s, h.e⟩ := (Joins.block_setCell H _).trans rfl
theorem Hs.set4 (H : Hs T W g h) (x : Int) : Hs T (W.setCell ⟨g, 4, none⟩ (.int .i64 x)) g ⟨h.l, x, h.s, h.e⟩ := (Joins.block_setCell H _).trans rfl
theorem Hs.set5 (H : Hs T W g h) (x : ByteArray) : Hs T (W.setCell ⟨g, 5, none⟩ (.string x)) g ⟨h.l, h.t, x, h.e⟩ := (Joins.block_setCell H _).trans rfl
theorem Hs.set6 (H : Hs T W g h) (x : Int) : Hs T (W.setCell ⟨g, 6, none⟩ (.int .u64 x)) g ⟨h.l, h.t, h.s, x⟩ := (Joins.block_setCell H _).trans rfl
theorem Hs.setOther (H : Hs T W g h) (p : Addr) (hp : g ≠ p.block) (v : Value) : Hs T (W.setCell p v) g h := (Below.heap_setCell _ _ _ _ hp).trans H
end

theorem newH_ok (sd : Int) (h : 0 ≤ sd ∧ sd ≤ 18446744073709551615) : HshOk (newH sd) := ⟨startV_in sd h, by simp [newH], by simp [newH], h⟩

set_option maxHeartbeats 1600000 in
theorem New05_any (sd : Int) (w : World) (h : 0 ≤ sd ∧ sd ≤ 18446744073709551615) :
    Calls Try.prog 43 #[.int .u64 sd] w fun e w' => e = .returned ((newH sd).val) ∧ Below w.heap.size w w' := by
  have HS := Lib.hid (fun W => start_any sd W h)
  have HN : Hid ((newH sd).val = .agg #[.int .u64 (startV sd).a, .int .u64 (startV sd).b, .int .u64 (startV sd).c, .int .u64 (startV sd).d, .int .i64 0, .string ByteArray.empty, .int .u64 sd]) := rfl
  unfold Lan.val at HS
  generalize startV sd = l at *
  obtain ⟨la, lb, lc, ld⟩ := l
  simp only at HS HN
  have hz := Hs.new w zeroH 49
  go_enter Try.func43, Try.ntmps43
  go_wp2_with fail
  refine (HS.out _).mono ?_
  rintro e w1 ⟨rfl, hB⟩
  have hz1 := hz.keep' hB
  have hlt := hz1.lt
  have z0 := hz1.fz 0
  have z1 := hz1.fz 1
  have z2 := hz1.fz 2
  have z3 := hz1.fz 3
  have z4 := hz1.fz 4
  have z5 := hz1.fz 5
  have z6 := hz1.fz 6
  have p0 := hz1.c0
  have p1 := hz1.c1
  have p2 := hz1.c2
  have p3 := hz1.c3
  have p4 := hz1.c4
  have p5 := hz1.c5
  have p6 := hz1.c6
  have hst := ((((((hz1.set0 la).set1 lb).set2 lc).set3 ld).set4 0).set5 ⟨#[]⟩).set6 sd
  have j0 := hst.c0
  have j1 := hst.c1
  have j2 := hst.c2
  have j3 := hst.c3
  have j4 := hst.c4
  have j5 := hst.c5
  have j6 := hst.c6
  simp only [zeroH] at p0 p1 p2 p3 p4 p5 p6 j0 j1 j2 j3 j4 j5 j6
  go_wp2
  refine bodyPost_ret (v := .agg #[.int .u64 la, .int .u64 lb, .int .u64 lc, .int .u64 ld, .int .i64 0, .string ⟨#[]⟩, .int .u64 sd]) (by simp [results, Try.results43, go_sem, j0, j1, j2, j3, j4, j5, j6]) rfl ⟨?_, ?_⟩
  · rw [HN.out]; rfl
  · have hBw := below_then (below_new _) hB
    exact ((((((hBw.setCell (p := ⟨w.heap.size, 0, none⟩) (Nat.le_refl _) _).setCell (p := ⟨w.heap.size, 1, none⟩) (Nat.le_refl _) _).setCell (p := ⟨w.heap.size, 2, none⟩) (Nat.le_refl _) _).setCell (p := ⟨w.heap.size, 3, none⟩) (Nat.le_refl _) _).setCell (p := ⟨w.heap.size, 4, none⟩) (Nat.le_refl _) _).setCell (p := ⟨w.heap.size, 5, none⟩) (Nat.le_refl _) _).setCell (p := ⟨w.heap.size, 6, none⟩) (Nat.le_refl _) _

set_option maxHeartbeats 1600000 in
theorem rNew05_any (sd : Int) (w : World) (h : 0 ≤ sd ∧ sd ≤ 18446744073709551615) :
    Calls Try.prog 44 #[.int .u64 sd] w fun e w' => e = .returned ((newH sd).val) ∧ Below w.heap.size w w' := by
  have HS := Lib.hid (fun W => rlanes_any sd W h)
  have HN : Hid ((newH sd).val = .agg #[.int .u64 (startV sd).a, .int .u64 (startV sd).b, .int .u64 (startV sd).c, .int .u64 (startV sd).d, .int .i64 0, .string ByteArray.empty, .int .u64 sd]) := rfl
  unfold Lan.val at HS
  generalize startV sd = l at *
  obtain ⟨la, lb, lc, ld⟩ := l
  simp only at HS HN
  have hz := Hs.new w zeroH 49
  go_enter Try.func44, Try.ntmps44
  go_wp2_with fail
  refine (HS.out _).mono ?_
  rintro e w1 ⟨rfl, hB⟩
  have hz1 := hz.keep' hB
  have hlt := hz1.lt
  have z0 := hz1.fz 0
  have z1 := hz1.fz 1
  have z2 := hz1.fz 2
  have z3 := hz1.fz 3
  have z4 := hz1.fz 4
  have z5 := hz1.fz 5
  have z6 := hz1.fz 6
  have p0 := hz1.c0
  have p1 := hz1.c1
  have p2 := hz1.c2
  have p3 := hz1.c3
  have p4 := hz1.c4
  have p5 := hz1.c5
  have p6 := hz1.c6
  have hst := ((((((hz1.set0 la).set1 lb).set2 lc).set3 ld).set4 0).set5 ⟨#[]⟩).set6 sd
  have j0 := hst.c0
  have j1 := hst.c1
  have j2 := hst.c2
  have j3 := hst.c3
  have j4 := hst.c4
  have j5 := hst.c5
  have j6 := hst.c6
  simp only [zeroH] at p0 p1 p2 p3 p4 p5 p6 j0 j1 j2 j3 j4 j5 j6
  go_wp2
  refine bodyPost_ret (v := .agg #[.int .u64 la, .int .u64 lb, .int .u64 lc, .int .u64 ld, .int .i64 0, .string ⟨#[]⟩, .int .u64 sd]) (by simp [results, Try.results44, go_sem, j0, j1, j2, j3, j4, j5, j6]) rfl ⟨?_, ?_⟩
  · rw [HN.out]; rfl
  · have hBw := below_then (below_new _) hB
    exact ((((((hBw.setCell (p := ⟨w.heap.size, 0, none⟩) (Nat.le_refl _) _).setCell (p := ⟨w.heap.size, 1, none⟩) (Nat.le_refl _) _).setCell (p := ⟨w.heap.size, 2, none⟩) (Nat.le_refl _) _).setCell (p := ⟨w.heap.size, 3, none⟩) (Nat.le_refl _) _).setCell (p := ⟨w.heap.size, 4, none⟩) (Nat.le_refl _) _).setCell (p := ⟨w.heap.size, 5, none⟩) (Nat.le_refl _) _).setCell (p := ⟨w.heap.size, 6, none⟩) (Nat.le_refl _) _

end Go.Proofs.Ytboajmnckldmiaa
