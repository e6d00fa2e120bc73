/-
  Blocks that hold a cursor; the walks of cursor.New, Check, Bytes, Skip, Left, End, Fail.
-/
import Derived.Test.YtfdbkpbgkpkckaaCurBytes
namespace Go.Proofs.Ytfdbkpbgkpkckaa
open Go.RowKit
set_option linter.unusedVariables false
set_option maxRecDepth 100000

/-- A block of whatever type that holds a cursor. -/
def Cu (T : TypeId) (W : World) (g : Nat) (c : Cur) : Prop := W.heap[g]? = some (.cells #[.string c.s, .int .i64 c.a, .int .i64 c.e, .int .i64 c.f] T (0, 0))
/-- A cursor stored into a block. -/
def World.setCu (W : World) (g : Nat) (c : Cur) : World := (((W.setCell ⟨g, 0, none⟩ (.string c.s)).setCell ⟨g, 1, none⟩ (.int .i64 c.a)).setCell ⟨g, 2, none⟩ (.int .i64 c.e)).setCell ⟨g, 3, none⟩ (.int .i64 c.f)
section
variable {T T' : TypeId} {W W' : World} {g k B : Nat} {c c' : Cur}
theorem Cu.c0 (h : Cu T W g c) : W.cell? ⟨g, 0, none⟩ = some (.string c.s) := (Joins.cell_of_block h 0).trans rfl
theorem Cu.c1 (h : Cu T W g c) : W.cell? ⟨g, 1, none⟩ = some (.int .i64 c.a) := (Joins.cell_of_block h 1).trans rfl
theorem Cu.c2 (h : Cu T W g c) : W.cell? ⟨g, 2, none⟩ = some (.int .i64 c.e) := (Joins.cell_of_block h 2).trans rfl
theorem Cu.c3 (h : Cu T W g c) : W.cell? ⟨g, 3, none⟩ = some (.int .i64 c.f) := (Joins.cell_of_block h 3).trans rfl
theorem Cu.fz (h : Cu T W g c) (i : Nat) : W.frozen? ⟨g, i, none⟩ = false := Joins.unfrozen_of_block h i
theorem Cu.lt (h : Cu T W g c) : g < W.heap.size := by
  rcases Nat.lt_or_ge g W.heap.size with h' | h'
  · exact h'
  · unfold Cu at h; rw [Array.getElem?_eq_none h'] at h; cases h
theorem Cu.keep (h : Cu T W g c) (hb : Below B W W') (hg : g < B) : Cu T W' g c := (hb.block g hg).trans h
theorem Cu.keep' (h : Cu T W g c) (hb : Below W.heap.size W W') : Cu T W' g c := (hb.block g h.lt).trans h
theorem Cu.but (h : Cu T W g c) (hb : But k W W') (hg : g ≠ k) : Cu T W' g c := (hb.block g h.lt hg).trans h
theorem Cu.new (W : World) (c : Cur) (T : TypeId) : Cu T (W.alloc (.cells #[.string c.s, .int .i64 c.a, .int .i64 c.e, .int .i64 c.f] T)) W.heap.size c := heap_alloc_new _ _
theorem Cu.alloc (h : Cu T W g c) (o : Obj) : Cu T (W.alloc o) g c := h.keep (below_new o) h.lt
theorem Cu.drewN (h : Cu T W g c) (n : Nat) : Cu T (W.drewN n) g c := h
theorem Cu.drew (h : Cu T W g c) : Cu T W.drew g c := h
theorem Cu.set1 (h : Cu T W g c) (x : Int) : Cu T (W.setCell ⟨g, 1, none⟩ (.int .i64 x)) g ⟨c.s, x, c.e, c.f⟩ := (Joins.block_setCell h _).trans rfl
theorem Cu.set2 (h : Cu T W g c) (x : Int) : Cu T (W.setCell ⟨g, 2, none⟩ (.int .i64 x)) g ⟨c.s, c.a, x, c.f⟩ := (Joins.block_setCell h _).trans rfl
theorem Cu.set3 (h : Cu T W g c) (x : Int) : Cu T (W.setCell ⟨g, 3, none⟩ (.int .i64 x)) g ⟨c.s, c.a, c.e, x⟩ := (Joins.block_setCell h _).trans rfl
theorem Cu.set0 (h : Cu T W g c) (x : ByteArray) : Cu T (W.setCell ⟨g, 0, none⟩ (.string x)) g ⟨x, c.a, c.e, c.f⟩ := (Joins.block_setCell h _).trans rfl
theorem Cu.store (h : Cu T W g c) (c' : Cur) : Cu T (World.setCu W g c') g c' := (((h.set0 c'.s).set1 c'.a).set2 c'.e).set3 c'.f
theorem Cu.setOther (h : Cu T W g c) (p : Addr) (hp : g ≠ p.block) (v : Value) : Cu T (W.setCell p v) g c := (Below.heap_setCell _ _ _ _ hp).trans h
theorem Cu.storeOther (h : Cu T W g c) (hk : g ≠ k) (c' : Cur) : Cu T (World.setCu W k c') g c := (((h.setOther _ hk _).setOther _ hk _).setOther _ hk _).setOther _ hk _
theorem setCu_below {w : World} (h : Below B w W) (hg : B ≤ g) (c : Cur) : Below B w (World.setCu W g c) := (((h.setCell (p := ⟨g, 0, none⟩) hg _).setCell (p := ⟨g, 1, none⟩) hg _).setCell (p := ⟨g, 2, none⟩) hg _).setCell (p := ⟨g, 3, none⟩) hg _
theorem setCu_size (W : World) (g : Nat) (c : Cur) : (World.setCu W g c).heap.size = W.heap.size := by simp [World.setCu, World.setCell]
end
def zeroCur : Cur := ⟨ByteArray.empty, 0, 0, 0⟩

theorem bytesC_s (c : Cur) (n : Int) : (bytesC c n).s = c.s := by
  unfold bytesC
  split
  · rfl
  · split
    · rfl
    · split <;> rfl
theorem bytesC_ok {c : Cur} (n : Int) (hc : CurOk c) : CurOk (bytesC c n) := by
  obtain ⟨h1, h2, h3, h4⟩ := hc
  unfold bytesC
  split
  · exact ⟨h1, h2, h3, h4⟩
  · split
    · refine ⟨h1, ⟨by simp only; omega, by simp only; omega⟩, h1, fun h => by simp at h⟩
    · split
      · exact ⟨h1, ⟨by simp only; omega, by simp only; omega⟩, ⟨by simp only; omega, by simp only; omega⟩, fun h => by simp at h⟩
      · exact ⟨⟨by simp only; omega, by simp only; omega⟩, h2, h3, h4⟩

set_option maxHeartbeats 1600000 in
theorem Bytes_any (s : ByteArray) (a e f n : Int) (w : World) (hs : s.size ≤ 9223372036854775807) (hn : -9223372036854775808 ≤ n ∧ n ≤ 9223372036854775807) :
    Calls Try.prog 106 #[.agg #[.string s, .int .i64 a, .int .i64 e, .int .i64 f], .int .i64 n] w fun r w' => r = .returned (.tuple #[(bytesC (rightC ⟨s, a, e, f⟩) n).val, .string (bytesO (rightC ⟨s, a, e, f⟩) n)]) ∧ Below w.heap.size w w' := by
  have HO := Lib.hid (fun W => of_any s a e f W hs)
  have hok := Lib.hid (rightC_ok ⟨s, a, e, f⟩)
  have hsz := rightC_size ⟨s, a, e, f⟩
  simp only at hsz
  unfold OfPost at HO
  generalize rightC ⟨s, a, e, f⟩ = c at *
  go_enter Try.func106, Try.ntmps106
  go_wp2_with fail
  refine (HO.out _).mono ?_
  rintro r w1 ⟨g, rfl, hr, hg, hB⟩
  have hz := (Cu.new (w.alloc (.cells #[.string s, .int .i64 a, .int .i64 e, .int .i64 f] 93)) zeroCur 93).keep' hB
  rw [World.size_alloc] at hz
  simp at hg
  go_wp2_with fail
  refine (bytes_any g c n _ hr hok.out (by omega) hn).mono ?_
  rintro r w2 ⟨rfl, hr2, hU⟩
  have hz2 := hz.but hU (by omega)
  have hBB := But.below (B := w.heap.size) (below_then (below_alloc (below_new _) _) hB) (by omega) (by have := hB.size; simp at this; omega) hU
  clear hz hr hU hB
  obtain ⟨⟨s2, a2, e2, f2⟩, hc2⟩ : ∃ c2, bytesC c n = c2 := ⟨_, rfl⟩
  rw [hc2] at hr2
  have HC2 := Lib.hid hc2
  clear hc2
  have p0 := hr2.c0
  have p1 := hr2.c1
  have p2 := hr2.c2
  have p3 := hr2.c3
  have q0 := hz2.c0
  have q1 := hz2.c1
  have q2 := hz2.c2
  have q3 := hz2.c3
  have z0 := hz2.fz 0
  have z1 := hz2.fz 1
  have z2 := hz2.fz 2
  have z3 := hz2.fz 3
  simp only at p0 p1 p2 p3
  have hst := hz2.store ⟨s2, a2, e2, f2⟩
  have r0 := hst.c0
  have r1 := hst.c1
  have r2 := hst.c2
  have r3 := hst.c3
  simp only [World.setCu] at r0 r1 r2 r3
  go_wp2
  refine bodyPost_ret (v := .tuple #[.agg #[.string s2, .int .i64 a2, .int .i64 e2, .int .i64 f2], .string (bytesO c n)]) (by simp [results, Try.results106, go_sem, r0, r1, r2, r3]) rfl ⟨?_, ?_⟩
  · rw [HC2.out]; rfl
  · exact setCu_below hBB (by omega) ⟨s2, a2, e2, f2⟩

end Go.Proofs.Ytfdbkpbgkpkckaa
