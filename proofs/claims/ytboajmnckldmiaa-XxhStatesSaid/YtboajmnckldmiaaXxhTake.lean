/-
  The walks of xxh.taken and of its reference.
-/
import Derived.Test.YtboajmnckldmiaaXxhLanes
import Derived.Lib.SmallJoins
import Derived.Deep.RegionHeld3
import Derived.Deep.DrawnRows
namespace Go.Proofs.Ytboajmnckldmiaa
open Go.RowKit
set_option linter.unusedVariables false
set_option maxRecDepth 100000

/-- A block that holds four lanes. -/
def Lb (T : TypeId) (W : World) (g : Nat) (l : Lan) : Prop := W.heap[g]? = some (.cells #[.int .u64 l.a, .int .u64 l.b, .int .u64 l.c, .int .u64 l.d] T (0, 0))
section
variable {T : TypeId} {W W' : World} {g B : Nat} {l : Lan}
theorem Lb.c0 (h : Lb T W g l) : W.cell? ⟨g, 0, none⟩ = some (.int .u64 l.a) := (Joins.cell_of_block h 0).trans rfl
theorem Lb.c1 (h : Lb T W g l) : W.cell? ⟨g, 1, none⟩ = some (.int .u64 l.b) := (Joins.cell_of_block h 1).trans rfl
theorem Lb.c2 (h : Lb T W g l) : W.cell? ⟨g, 2, none⟩ = some (.int .u64 l.c) := (Joins.cell_of_block h 2).trans rfl
theorem Lb.c3 (h : Lb T W g l) : W.cell? ⟨g, 3, none⟩ = some (.int .u64 l.d) := (Joins.cell_of_block h 3).trans rfl
theorem Lb.fz (h : Lb T W g l) (i : Nat) : W.frozen? ⟨g, i, none⟩ = false := Joins.unfrozen_of_block h i
theorem Lb.lt (h : Lb T W g l) : g < W.heap.size := by
  rcases Nat.lt_or_ge g W.heap.size with h' | h'
  · exact h'
  · unfold Lb at h; rw [Array.getElem?_eq_none h'] at h; cases h
theorem Lb.keep' (h : Lb T W g l) (hb : Below W.heap.size W W') : Lb T W' g l := (hb.block g h.lt).trans h
theorem Lb.drew (h : Lb T W g l) : Lb T W.drew g l := h
theorem Lb.alloc (h : Lb T W g l) (o : Obj) : Lb T (W.alloc o) g l := h.keep' (below_new o)
theorem Lb.new (W : World) (l : Lan) (T : TypeId) : Lb T (W.alloc (.cells #[.int .u64 l.a, .int .u64 l.b, .int .u64 l.c, .int .u64 l.d] T)) W.heap.size l := heap_alloc_new _ _
theorem Lb.set0 (h : Lb T W g l) (x : Int) : Lb T (W.setCell ⟨g, 0, none⟩ (.int .u64 x)) g ⟨x, l.b, l.c, l.d⟩ := (Joins.block_setCell h _).trans rfl
theorem Lb.set1 (h : Lb T W g l) (x : Int) : Lb T (W.setCell ⟨g, 1, none⟩ (.int .u64 x)) g ⟨l.a, x, l.c, l.d⟩ := (Joins.block_setCell h _).trans rfl
theorem Lb.set2 (h : Lb T W g l) (x : Int) : Lb T (W.setCell ⟨g, 2, none⟩ (.int .u64 x)) g ⟨l.a, l.b, x, l.d⟩ := (Joins.block_setCell h _).trans rfl
theorem Lb.set3 (h : Lb T W g l) (x : Int) : Lb T (W.setCell ⟨g, 3, none⟩ (.int .u64 x)) g ⟨l.a, l.b, l.c, x⟩ := (Joins.block_setCell h _).trans rfl
theorem Lb.setOther (h : Lb T W g l) (p : Addr) (hp : g ≠ p.block) (v : Value) : Lb T (W.setCell p v) g l := (Below.heap_setCell _ _ _ _ hp).trans h
end
def zeroLan : Lan := ⟨0, 0, 0, 0⟩
/-- The lanes behind a stripe. -/
def takeV (l : Lan) (s : ByteArray) (p : Nat) : Lan := ⟨roundV l.a (rd s p 8), roundV l.b (rd s (p + 8) 8), roundV l.c (rd s (p + 16) 8), roundV l.d (rd s (p + 24) 8)⟩

attribute [local go_sem ↓] Go.wp_at_zero Go.wp_at_succ

set_option maxHeartbeats 4000000 in
theorem taken_any (la lb lc ld : Int) (s : ByteArray) (w : World) (hl : LanIn ⟨la, lb, lc, ld⟩) (h32 : 32 ≤ s.size) (hs9 : s.size ≤ 9223372036854775807) :
    Calls Try.prog 69 #[.agg #[.int .u64 la, .int .u64 lb, .int .u64 lc, .int .u64 ld], .string s] w fun e w' => e = .returned ((takeV ⟨la, lb, lc, ld⟩ s 0).val) ∧ Below w.heap.size w w' := by
  obtain ⟨ba, bb, bc, bd⟩ := hl
  simp only at ba bb bc bd
  have f0 := rd_lo s 0 8
  have f1 := rd_lo s 8 8
  have f2 := rd_lo s 16 8
  have f3 := rd_lo s 24 8
  obtain ⟨x0, hx0⟩ : ∃ x, rd s 0 8 = x := ⟨_, rfl⟩
  obtain ⟨x1, hx1⟩ : ∃ x, rd s 8 8 = x := ⟨_, rfl⟩
  obtain ⟨x2, hx2⟩ : ∃ x, rd s 16 8 = x := ⟨_, rfl⟩
  obtain ⟨x3, hx3⟩ : ∃ x, rd s 24 8 = x := ⟨_, rfl⟩
  have HF0 := Lib.hid (fun W => field_any s 8 W (by omega) (by omega) hs9)
  rw [hx0] at HF0
  have HF1 := Lib.hid (fun W => field_any (s.extract 8 s.size) 8 W (by omega) (by rw [ByteArray.size_extract]; omega) (by rw [ByteArray.size_extract]; omega))
  rw [rd_drop s 8 8 (by omega), hx1] at HF1
  have HF2 := Lib.hid (fun W => field_any (s.extract 16 s.size) 8 W (by omega) (by rw [ByteArray.size_extract]; omega) (by rw [ByteArray.size_extract]; omega))
  rw [rd_drop s 16 8 (by omega), hx2] at HF2
  have HF3 := Lib.hid (fun W => field_any (s.extract 24 s.size) 8 W (by omega) (by rw [ByteArray.size_extract]; omega) (by rw [ByteArray.size_extract]; omega))
  rw [rd_drop s 24 8 (by omega), hx3] at HF3
  rw [hx0] at f0
  rw [hx1] at f1
  rw [hx2] at f2
  rw [hx3] at f3
  have HG0 := Lib.hid (fun W => round_any la x0 W ba (by omega))
  have HG1 := Lib.hid (fun W => round_any lb x1 W bb (by omega))
  have HG2 := Lib.hid (fun W => round_any lc x2 W bc (by omega))
  have HG3 := Lib.hid (fun W => round_any ld x3 W bd (by omega))
  have HT : Hid (takeV ⟨la, lb, lc, ld⟩ s 0 = ⟨roundV la x0, roundV lb x1, roundV lc x2, roundV ld x3⟩) := by show _ = _; unfold takeV; rw [← hx0, ← hx1, ← hx2, ← hx3]
  clear hx0 hx1 hx2 hx3 f0 f1 f2 f3
  generalize roundV la x0 = r0 at *
  generalize roundV lb x1 = r1 at *
  generalize roundV lc x2 = r2 at *
  generalize roundV ld x3 = r3 at *
  have q0 : (0 : Int) ≤ (s.size : Int) := by omega
  have hsl0 : ∀ V, (Instr.slice 9 (.string s) (some (.int .i64 0)) none none).run Try.prog V = .ok (.string (s.extract 0 s.size)) V := fun V => by
    rw [run_slice_string_l (P := Try.prog) (w := V) 9 s Try.underlying9 .i64 0 (by omega) (by omega)]; rfl
  have mm0 : IntKind.i64.wrap ((8 : Int) * 0) = 0 := IntWalk.i64_in _ (by omega)
  have mn0 : IntKind.i64.wrap (0 : Int) = 0 := IntWalk.i64_in _ (by omega)
  have z0 : ¬ ((s.size : Int) < 0) := by omega
  have v0 : ¬ (s.size < 0) := by omega
  have q1 : (8 : Int) ≤ (s.size : Int) := by omega
  have hsl1 : ∀ V, (Instr.slice 9 (.string s) (some (.int .i64 8)) none none).run Try.prog V = .ok (.string (s.extract 8 s.size)) V := fun V => by
    rw [run_slice_string_l (P := Try.prog) (w := V) 9 s Try.underlying9 .i64 8 (by omega) (by omega)]; rfl
  have mm1 : IntKind.i64.wrap ((8 : Int) * 1) = 8 := IntWalk.i64_in _ (by omega)
  have mn1 : IntKind.i64.wrap (8 : Int) = 8 := IntWalk.i64_in _ (by omega)
  have z1 : ¬ ((s.size : Int) < 8) := by omega
  have v1 : ¬ (s.size < 8) := by omega
  have q2 : (16 : Int) ≤ (s.size : Int) := by omega
  have hsl2 : ∀ V, (Instr.slice 9 (.string s) (some (.int .i64 16)) none none).run Try.prog V = .ok (.string (s.extract 16 s.size)) V := fun V => by
    rw [run_slice_string_l (P := Try.prog) (w := V) 9 s Try.underlying9 .i64 16 (by omega) (by omega)]; rfl
  have mm2 : IntKind.i64.wrap ((8 : Int) * 2) = 16 := IntWalk.i64_in _ (by omega)
  have mn2 : IntKind.i64.wrap (16 : Int) = 16 := IntWalk.i64_in _ (by omega)
  have z2 : ¬ ((s.size : Int) < 16) := by omega
  have v2 : ¬ (s.size < 16) := by omega
  have q3 : (24 : Int) ≤ (s.size : Int) := by omega
  have hsl3 : ∀ V, (Instr.slice 9 (.string s) (some (.int .i64 24)) none none).run Try.prog V = .ok (.string (s.extract 24 s.size)) V := fun V => by
    rw [run_slice_string_l (P := Try.prog) (w := V) 9 s Try.underlying9 .i64 24 (by omega) (by omega)]; rfl
  have mm3 : IntKind.i64.wrap ((8 : Int) * 3) = 24 := IntWalk.i64_in _ (by omega)
  have mn3 : IntKind.i64.wrap (24 : Int) = 24 := IntWalk.i64_in _ (by omega)
  have z3 : ¬ ((s.size : Int) < 24) := by omega
  have v3 : ¬ (s.size < 24) := by omega
  go_enter Try.func69, Try.ntmps69
  go_wp2
  go_loopw [6] (fun i wr => ((i = .int .i64 0 ∧ Lb 84 wr w.heap.size ⟨la, lb, lc, ld⟩) ∨ (i = .int .i64 1 ∧ Lb 84 wr w.heap.size ⟨r0, lb, lc, ld⟩) ∨ (i = .int .i64 2 ∧ Lb 84 wr w.heap.size ⟨r0, r1, lc, ld⟩) ∨ (i = .int .i64 3 ∧ Lb 84 wr w.heap.size ⟨r0, r1, r2, ld⟩) ∨ (i = .int .i64 4 ∧ Lb 84 wr w.heap.size ⟨r0, r1, r2, r3⟩)) ∧ Lb 84 wr (w.heap.size + 1) zeroLan ∧ Below w.heap.size w wr) (fun i _ => (4 - intOf i).toNat)
  case atStart => exact ⟨.inl ⟨rfl, (Lb.new w ⟨la, lb, lc, ld⟩ 84).alloc _⟩, by have := Lb.new (w.alloc (.cells #[.int .u64 la, .int .u64 lb, .int .u64 lc, .int .u64 ld] 84)) zeroLan 84; rwa [World.size_alloc] at this, below_alloc (below_new _) _⟩
  case round =>
    obtain ⟨hrel, hz, hB⟩ := hrel
    rcases hrel with ⟨rfl, hb⟩ | ⟨rfl, hb⟩ | ⟨rfl, hb⟩ | ⟨rfl, hb⟩ | ⟨rfl, hb⟩
    · have p0 := hb.c0
      have HB := Lib.hid (fun V (hV : Below wr.heap.size wr V) => And.intro (hb.keep' hV) (hz.keep' hV))
      have hsz : w.heap.size < wr.heap.size := hb.lt
      simp only at p0
      go_wp2
      go_region_with
        (first
          | (go_at_call 78; refine (HF0.out _).mono ?_; rintro r w5 ⟨rfl, hB5⟩; have hB6 : Below wr.heap.size wr w5 := below_then (by first | exact Below.refl _ _ | exact below_drew (Below.refl _ _)) hB5; obtain ⟨e1, e2⟩ := HB.out _ hB6; have u1 := e1.c0; have u2 := e1.fz 0)
          | (go_at_call 77; refine (HG0.out _).mono ?_; rintro r w6 ⟨rfl, rfl⟩))
      all_goals (
        go_wp2
        go_roundw
        case rel => exact ⟨.inr (.inl ⟨rfl, e1.set0 r0⟩), e2.setOther ⟨w.heap.size, 0, none⟩ (by simp) _, (below_then hB hB6).setCell (p := ⟨w.heap.size, 0, none⟩) (Nat.le_refl _) _⟩
        case measure => simp [intOf])
    · have p1 := hb.c1
      have HB := Lib.hid (fun V (hV : Below wr.heap.size wr V) => And.intro (hb.keep' hV) (hz.keep' hV))
      have hsz : w.heap.size < wr.heap.size := hb.lt
      simp only at p1
      go_wp2
      go_region_with
        (first
          | (go_at_call 78; refine (HF1.out _).mono ?_; rintro r w5 ⟨rfl, hB5⟩; have hB6 : Below wr.heap.size wr w5 := below_then (by first | exact Below.refl _ _ | exact below_drew (Below.refl _ _)) hB5; obtain ⟨e1, e2⟩ := HB.out _ hB6; have u1 := e1.c1; have u2 := e1.fz 1)
          | (go_at_call 77; refine (HG1.out _).mono ?_; rintro r w6 ⟨rfl, rfl⟩))
      all_goals (
        go_wp2
        go_roundw
        case rel => exact ⟨.inr (.inr (.inl ⟨rfl, e1.set1 r1⟩)), e2.setOther ⟨w.heap.size, 1, none⟩ (by simp) _, (below_then hB hB6).setCell (p := ⟨w.heap.size, 1, none⟩) (Nat.le_refl _) _⟩
        case measure => simp [intOf])
    · have p2 := hb.c2
      have HB := Lib.hid (fun V (hV : Below wr.heap.size wr V) => And.intro (hb.keep' hV) (hz.keep' hV))
      have hsz : w.heap.size < wr.heap.size := hb.lt
      simp only at p2
      go_wp2
      go_region_with
        (first
          | (go_at_call 78; refine (HF2.out _).mono ?_; rintro r w5 ⟨rfl, hB5⟩; have hB6 : Below wr.heap.size wr w5 := below_then (by first | exact Below.refl _ _ | exact below_drew (Below.refl _ _)) hB5; obtain ⟨e1, e2⟩ := HB.out _ hB6; have u1 := e1.c2; have u2 := e1.fz 2)
          | (go_at_call 77; refine (HG2.out _).mono ?_; rintro r w6 ⟨rfl, rfl⟩))
      all_goals (
        go_wp2
        go_roundw
        case rel => exact ⟨.inr (.inr (.inr (.inl ⟨rfl, e1.set2 r2⟩))), e2.setOther ⟨w.heap.size, 2, none⟩ (by simp) _, (below_then hB hB6).setCell (p := ⟨w.heap.size, 2, none⟩) (Nat.le_refl _) _⟩
        case measure => simp [intOf])
    · have p3 := hb.c3
      have HB := Lib.hid (fun V (hV : Below wr.heap.size wr V) => And.intro (hb.keep' hV) (hz.keep' hV))
      have hsz : w.heap.size < wr.heap.size := hb.lt
      simp only at p3
      go_wp2
      go_region_with
        (first
          | (go_at_call 78; refine (HF3.out _).mono ?_; rintro r w5 ⟨rfl, hB5⟩; have hB6 : Below wr.heap.size wr w5 := below_then (by first | exact Below.refl _ _ | exact below_drew (Below.refl _ _)) hB5; obtain ⟨e1, e2⟩ := HB.out _ hB6; have u1 := e1.c3; have u2 := e1.fz 3)
          | (go_at_call 77; refine (HG3.out _).mono ?_; rintro r w6 ⟨rfl, rfl⟩))
      all_goals (
        go_wp2
        go_roundw
        case rel => exact ⟨.inr (.inr (.inr (.inr (⟨rfl, e1.set3 r3⟩)))), e2.setOther ⟨w.heap.size, 3, none⟩ (by simp) _, (below_then hB hB6).setCell (p := ⟨w.heap.size, 3, none⟩) (Nat.le_refl _) _⟩
        case measure => simp [intOf])
    · have p0 := hb.c0
      have p1 := hb.c1
      have p2 := hb.c2
      have p3 := hb.c3
      have q0 := hz.c0
      have q1 := hz.c1
      have q2 := hz.c2
      have q3 := hz.c3
      have z0 := hz.fz 0
      have z1 := hz.fz 1
      have z2 := hz.fz 2
      have z3 := hz.fz 3
      have hst := (((hz.set0 r0).set1 r1).set2 r2).set3 r3
      have j0 := hst.c0
      have j1 := hst.c1
      have j2 := hst.c2
      have j3 := hst.c3
      simp only at p0 p1 p2 p3 j0 j1 j2 j3
      go_wp2
      refine bodyPost_ret (v := .agg #[.int .u64 r0, .int .u64 r1, .int .u64 r2, .int .u64 r3]) (by simp [results, Try.results69, go_sem, j0, j1, j2, j3]) rfl ⟨?_, ?_⟩
      · rw [HT.out]; rfl
      · exact ((((hB.setCell (p := ⟨w.heap.size + 1, 0, none⟩) (by simp only; omega) _).setCell (p := ⟨w.heap.size + 1, 1, none⟩) (by simp only; omega) _).setCell (p := ⟨w.heap.size + 1, 2, none⟩) (by simp only; omega) _).setCell (p := ⟨w.heap.size + 1, 3, none⟩) (by simp only; omega) _)

set_option maxHeartbeats 4000000 in
theorem rtake_any (la lb lc ld : Int) (s : ByteArray) (w : World) (hl : LanIn ⟨la, lb, lc, ld⟩) (h32 : 32 ≤ s.size) (hs9 : s.size ≤ 9223372036854775807) :
    Calls Try.prog 62 #[.agg #[.int .u64 la, .int .u64 lb, .int .u64 lc, .int .u64 ld], .string s] w fun e w' => e = .returned ((takeV ⟨la, lb, lc, ld⟩ s 0).val) ∧ Below w.heap.size w w' := by
  obtain ⟨ba, bb, bc, bd⟩ := hl
  simp only at ba bb bc bd
  have f0 := rd_lo s 0 8
  have f1 := rd_lo s 8 8
  have f2 := rd_lo s 16 8
  have f3 := rd_lo s 24 8
  obtain ⟨x0, hx0⟩ : ∃ x, rd s 0 8 = x := ⟨_, rfl⟩
  obtain ⟨x1, hx1⟩ : ∃ x, rd s 8 8 = x := ⟨_, rfl⟩
  obtain ⟨x2, hx2⟩ : ∃ x, rd s 16 8 = x := ⟨_, rfl⟩
  obtain ⟨x3, hx3⟩ : ∃ x, rd s 24 8 = x := ⟨_, rfl⟩
  have HF0 := Lib.hid (fun W => rfield_any s 0 8 W (by omega) (by omega) hs9)
  rw [hx0] at HF0
  have HF1 := Lib.hid (fun W => rfield_any s 8 8 W (by omega) (by omega) hs9)
  rw [hx1] at HF1
  have HF2 := Lib.hid (fun W => rfield_any s 16 8 W (by omega) (by omega) hs9)
  rw [hx2] at HF2
  have HF3 := Lib.hid (fun W => rfield_any s 24 8 W (by omega) (by omega) hs9)
  rw [hx3] at HF3
  rw [hx0] at f0
  rw [hx1] at f1
  rw [hx2] at f2
  rw [hx3] at f3
  have HG0 := Lib.hid (fun W => rround_any la x0 W ba (by omega))
  have HG1 := Lib.hid (fun W => rround_any lb x1 W bb (by omega))
  have HG2 := Lib.hid (fun W => rround_any lc x2 W bc (by omega))
  have HG3 := Lib.hid (fun W => rround_any ld x3 W bd (by omega))
  have HT : Hid (takeV ⟨la, lb, lc, ld⟩ s 0 = ⟨roundV la x0, roundV lb x1, roundV lc x2, roundV ld x3⟩) := by show _ = _; unfold takeV; rw [← hx0, ← hx1, ← hx2, ← hx3]
  clear hx0 hx1 hx2 hx3 f0 f1 f2 f3
  generalize roundV la x0 = r0 at *
  generalize roundV lb x1 = r1 at *
  generalize roundV lc x2 = r2 at *
  generalize roundV ld x3 = r3 at *
  go_enter Try.func62, Try.ntmps62
  go_wp2
  go_loopw [5] (fun i wr => ((i = .int .i64 0 ∧ Lb 47 wr w.heap.size ⟨la, lb, lc, ld⟩) ∨ (i = .int .i64 1 ∧ Lb 47 wr w.heap.size ⟨r0, lb, lc, ld⟩) ∨ (i = .int .i64 2 ∧ Lb 47 wr w.heap.size ⟨r0, r1, lc, ld⟩) ∨ (i = .int .i64 3 ∧ Lb 47 wr w.heap.size ⟨r0, r1, r2, ld⟩) ∨ (i = .int .i64 4 ∧ Lb 47 wr w.heap.size ⟨r0, r1, r2, r3⟩)) ∧ Lb 47 wr (w.heap.size + 1) zeroLan ∧ Below w.heap.size w wr) (fun i _ => (4 - intOf i).toNat)
  case atStart => exact ⟨.inl ⟨rfl, (Lb.new w ⟨la, lb, lc, ld⟩ 47).alloc _⟩, by have := Lb.new (w.alloc (.cells #[.int .u64 la, .int .u64 lb, .int .u64 lc, .int .u64 ld] 47)) zeroLan 47; rwa [World.size_alloc] at this, below_alloc (below_new _) _⟩
  case round =>
    obtain ⟨hrel, hz, hB⟩ := hrel
    rcases hrel with ⟨rfl, hb⟩ | ⟨rfl, hb⟩ | ⟨rfl, hb⟩ | ⟨rfl, hb⟩ | ⟨rfl, hb⟩
    · have p0 := hb.c0
      have HB := Lib.hid (fun V (hV : Below wr.heap.size wr V) => And.intro (hb.keep' hV) (hz.keep' hV))
      have hsz : w.heap.size < wr.heap.size := hb.lt
      simp only at p0
      go_wp2
      go_region_with
        (first
          | (go_at_call 71; refine (HF0.out _).mono ?_; rintro r w5 ⟨rfl, hB5⟩; have hB6 : Below wr.heap.size wr w5 := below_then (by first | exact Below.refl _ _ | exact below_drew (Below.refl _ _)) hB5; obtain ⟨e1, e2⟩ := HB.out _ hB6; have u1 := e1.c0; have u2 := e1.fz 0)
          | (go_at_call 70; refine (HG0.out _).mono ?_; rintro r w6 ⟨rfl, rfl⟩))
      all_goals (
        go_wp2
        go_roundw
        case rel => exact ⟨.inr (.inl ⟨rfl, e1.set0 r0⟩), e2.setOther ⟨w.heap.size, 0, none⟩ (by simp) _, (below_then hB hB6).setCell (p := ⟨w.heap.size, 0, none⟩) (Nat.le_refl _) _⟩
        case measure => simp [intOf])
    · have p1 := hb.c1
      have HB := Lib.hid (fun V (hV : Below wr.heap.size wr V) => And.intro (hb.keep' hV) (hz.keep' hV))
      have hsz : w.heap.size < wr.heap.size := hb.lt
      simp only at p1
      go_wp2
      go_region_with
        (first
          | (go_at_call 71; refine (HF1.out _).mono ?_; rintro r w5 ⟨rfl, hB5⟩; have hB6 : Below wr.heap.size wr w5 := below_then (by first | exact Below.refl _ _ | exact below_drew (Below.refl _ _)) hB5; obtain ⟨e1, e2⟩ := HB.out _ hB6; have u1 := e1.c1; have u2 := e1.fz 1)
          | (go_at_call 70; refine (HG1.out _).mono ?_; rintro r w6 ⟨rfl, rfl⟩))
      all_goals (
        go_wp2
        go_roundw
        case rel => exact ⟨.inr (.inr (.inl ⟨rfl, e1.set1 r1⟩)), e2.setOther ⟨w.heap.size, 1, none⟩ (by simp) _, (below_then hB hB6).setCell (p := ⟨w.heap.size, 1, none⟩) (Nat.le_refl _) _⟩
        case measure => simp [intOf])
    · have p2 := hb.c2
      have HB := Lib.hid (fun V (hV : Below wr.heap.size wr V) => And.intro (hb.keep' hV) (hz.keep' hV))
      have hsz : w.heap.size < wr.heap.size := hb.lt
      simp only at p2
      go_wp2
      go_region_with
        (first
          | (go_at_call 71; refine (HF2.out _).mono ?_; rintro r w5 ⟨rfl, hB5⟩; have hB6 : Below wr.heap.size wr w5 := below_then (by first | exact Below.refl _ _ | exact below_drew (Below.refl _ _)) hB5; obtain ⟨e1, e2⟩ := HB.out _ hB6; have u1 := e1.c2; have u2 := e1.fz 2)
          | (go_at_call 70; refine (HG2.out _).mono ?_; rintro r w6 ⟨rfl, rfl⟩))
      all_goals (
        go_wp2
        go_roundw
        case rel => exact ⟨.inr (.inr (.inr (.inl ⟨rfl, e1.set2 r2⟩))), e2.setOther ⟨w.heap.size, 2, none⟩ (by simp) _, (below_then hB hB6).setCell (p := ⟨w.heap.size, 2, none⟩) (Nat.le_refl _) _⟩
        case measure => simp [intOf])
    · have p3 := hb.c3
      have HB := Lib.hid (fun V (hV : Below wr.heap.size wr V) => And.intro (hb.keep' hV) (hz.keep' hV))
      have hsz : w.heap.size < wr.heap.size := hb.lt
      simp only at p3
      go_wp2
      go_region_with
        (first
          | (go_at_call 71; refine (HF3.out _).mono ?_; rintro r w5 ⟨rfl, hB5⟩; have hB6 : Below wr.heap.size wr w5 := below_then (by first | exact Below.refl _ _ | exact below_drew (Below.refl _ _)) hB5; obtain ⟨e1, e2⟩ := HB.out _ hB6; have u1 := e1.c3; have u2 := e1.fz 3)
          | (go_at_call 70; refine (HG3.out _).mono ?_; rintro r w6 ⟨rfl, rfl⟩))
      all_goals (
        go_wp2
        go_roundw
        case rel => exact ⟨.inr (.inr (.inr (.inr (⟨rfl, e1.set3 r3⟩)))), e2.setOther ⟨w.heap.size, 3, none⟩ (by simp) _, (below_then hB hB6).setCell (p := ⟨w.heap.size, 3, none⟩) (Nat.le_refl _) _⟩
        case measure => simp [intOf])
    · have p0 := hb.c0
      have p1 := hb.c1
      have p2 := hb.c2
      have p3 := hb.c3
      have q0 := hz.c0
      have q1 := hz.c1
      have q2 := hz.c2
      have q3 := hz.c3
      have z0 := hz.fz 0
      have z1 := hz.fz 1
      have z2 := hz.fz 2
      have z3 := hz.fz 3
      have hst := (((hz.set0 r0).set1 r1).set2 r2).set3 r3
      have j0 := hst.c0
      have j1 := hst.c1
      have j2 := hst.c2
      have j3 := hst.c3
      simp only at p0 p1 p2 p3 j0 j1 j2 j3
      go_wp2
      refine bodyPost_ret (v := .agg #[.int .u64 r0, .int .u64 r1, .int .u64 r2, .int .u64 r3]) (by simp [results, Try.results62, go_sem, j0, j1, j2, j3]) rfl ⟨?_, ?_⟩
      · rw [HT.out]; rfl
      · exact ((((hB.setCell (p := ⟨w.heap.size + 1, 0, none⟩) (by simp only; omega) _).setCell (p := ⟨w.heap.size + 1, 1, none⟩) (by simp only; omega) _).setCell (p := ⟨w.heap.size + 1, 2, none⟩) (by simp only; omega) _).setCell (p := ⟨w.heap.size + 1, 3, none⟩) (by simp only; omega) _)

end Go.Proofs.Ytboajmnckldmiaa
