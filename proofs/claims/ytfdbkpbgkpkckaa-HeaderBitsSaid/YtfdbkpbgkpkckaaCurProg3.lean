/-
  The walks of cursor.Little, Inner, Fail and End.
-/
import Derived.Test.YtfdbkpbgkpkckaaCurProg2
import Derived.Deep.RegionHeld3
import Derived.Deep.DrawnRows
namespace Go.Proofs.Ytfdbkpbgkpkckaa
open Go.RowKit
set_option linter.unusedVariables false
set_option maxRecDepth 100000

def littleC (c : Cur) (n : Int) : Cur := if c.e ≠ 0 then c else if n < 1 ∨ 8 < n then ⟨c.s, c.a, 2, c.a⟩ else bytesC c n
def littleV (c : Cur) (n : Int) : Int := if c.e ≠ 0 ∨ n < 1 ∨ 8 < n then 0 else rd (bytesO c n) 0 (bytesO c n).size
theorem little_A {c : Cur} (n : Int) (h : c.e ≠ 0) : littleC c n = c ∧ littleV c n = 0 := ⟨if_pos h, if_pos (.inl h)⟩
theorem little_B {c : Cur} {n : Int} (h : c.e = 0) (h1 : n < 1 ∨ 8 < n) : littleC c n = ⟨c.s, c.a, 2, c.a⟩ ∧ littleV c n = 0 := ⟨by unfold littleC; rw [if_neg (by omega), if_pos h1], if_pos (.inr h1)⟩
theorem little_D {c : Cur} {n : Int} (h : c.e = 0) (h1 : 1 ≤ n ∧ n ≤ 8) : littleC c n = bytesC c n ∧ littleV c n = rd (bytesO c n) 0 (bytesO c n).size := ⟨by unfold littleC; rw [if_neg (by omega), if_neg (by omega)], if_neg (by omega)⟩
theorem rd_empty : rd ByteArray.empty 0 ByteArray.empty.size = 0 := rfl

attribute [local go_sem ↓] Go.wp_at_zero Go.wp_at_succ

set_option maxHeartbeats 1600000 in
theorem Little_A (s : ByteArray) (a e f n : Int) (w : World) (hs : s.size ≤ 9223372036854775807) (hn : -9223372036854775808 ≤ n ∧ n ≤ 9223372036854775807) (he : (rightC ⟨s, a, e, f⟩).e ≠ 0) :
    Calls Try.prog 94 #[.agg #[.string s, .int .i64 a, .int .i64 e, .int .i64 f], .int .i64 n] w fun r w' => r = .returned (.tuple #[(littleC (rightC ⟨s, a, e, f⟩) n).val, .int .u64 (littleV (rightC ⟨s, a, e, f⟩) n)]) ∧ Below w.heap.size w w' := by
  have HO := Lib.hid (fun W => of_any s a e f W hs)
  have hok := Lib.hid (rightC_ok ⟨s, a, e, f⟩)
  have hsz := rightC_size ⟨s, a, e, f⟩
  simp only at hsz
  unfold OfPost at HO
  generalize rightC ⟨s, a, e, f⟩ = c at *
  have HR := Lib.hid (little_A n he)
  have ho1 := bytesO_size c n hok.out
  have hbo := bytesC_ok n hok.out
  obtain ⟨s1, a1, e1, f1⟩ := c
  simp only at he hsz
  have t0 : (e1 != 0) = true := by simp [he]
  clear he
  go_enter Try.func94, Try.ntmps94
  go_wp2_with fail
  refine (HO.out _).mono ?_
  rintro r w1 ⟨g, rfl, hr, hg, hB⟩
  have hz := (Cu.new (w.alloc (.cells #[.string s, .int .i64 a, .int .i64 e, .int .i64 f] 93)) zeroCur 93).keep' hB
  rw [World.size_alloc] at hz
  simp at hg
  have hgn : w.heap.size + 1 ≠ g := by omega
  have hb2 := hr.c2
  simp only at hb2
  go_wp2_with fail
  refine (bad_any g e1 _ hb2).mono ?_
  rintro r w2 ⟨rfl, rfl⟩
  rw [t0]
  have hBa := below_then (below_alloc (below_new (w := w) (.cells #[.string s, .int .i64 a, .int .i64 e, .int .i64 f] 93)) (.cells #[.string ByteArray.empty, .int .i64 0, .int .i64 0, .int .i64 0] 93)) hB
  have hsz1 : w.heap.size + 2 ≤ w1.heap.size := by have := hB.size; simp at this; omega
  go_wp2_with fail
  refine (bytes_any g ⟨s1, a1, e1, f1⟩ n _ hr hok.out (by simp only; omega) hn).mono ?_
  rintro r w2 ⟨rfl, hr2, hU⟩
  have hba := bytes_A (c := ⟨s1, a1, e1, f1⟩) n (by simpa using t0)
  rw [hba.1] at hr2
  rw [hba.2]
  have hz2 := hz.but hU hgn
  have hBB := But.below (B := w.heap.size) hBa (by omega) (by first | omega | (have := hBa.size; omega)) hU
  have p0 := hr2.c0
  have p1 := hr2.c1
  have p2 := hr2.c2
  have p3 := hr2.c3
  have q0 := hz2.c0
  have q1 := hz2.c1
  have q2 := hz2.c2
  have q3 := hz2.c3
  have z0 := hz2.fz 0
  have z1 := hz2.fz 1
  have z2 := hz2.fz 2
  have z3 := hz2.fz 3
  simp only at p0 p1 p2 p3
  have hgn2 : ¬ (g = w.heap.size + 1) := by omega
  have HNB := Lib.hid (fun W => number_any ByteArray.empty W (by first | decide | omega))
  have HNV : Hid (rd ByteArray.empty 0 (ByteArray.empty).size = 0) := rd_empty
  generalize rd ByteArray.empty 0 (ByteArray.empty).size = nv at *
  go_wp2_with fail
  go_region_held3 (fun w' => w'.cell? ⟨g, 0, none⟩ = some (.string s1) ∧ w'.cell? ⟨g, 1, none⟩ = some (.int .i64 a1) ∧ w'.cell? ⟨g, 2, none⟩ = some (.int .i64 e1) ∧ w'.cell? ⟨g, 3, none⟩ = some (.int .i64 f1)) (go_keep) ((go_at_call 109; refine (HNB.out _).mono ?_; rintro r w5 ⟨rfl, rfl⟩))
  have hst := (hz2.store ⟨s1, a1, e1, f1⟩).drew
  have r0 := hst.c0
  have r1 := hst.c1
  have r2 := hst.c2
  have r3 := hst.c3
  simp only [World.setCu] at r0 r1 r2 r3
  go_wp2
  refine bodyPost_ret (v := .tuple #[.agg #[.string s1, .int .i64 a1, .int .i64 e1, .int .i64 f1], .int .u64 nv]) (by simp [results, Try.results94, go_sem, r0, r1, r2, r3]) rfl ⟨?_, ?_⟩
  · rw [HR.out.1, HR.out.2, HNV.out]; rfl
  · exact below_drew (setCu_below hBB (by omega) ⟨s1, a1, e1, f1⟩)

set_option maxHeartbeats 1600000 in
theorem Little_B (s : ByteArray) (a e f n : Int) (w : World) (hs : s.size ≤ 9223372036854775807) (hn : -9223372036854775808 ≤ n ∧ n ≤ 9223372036854775807) (he : (rightC ⟨s, a, e, f⟩).e = 0) (h1 : n < 1) :
    Calls Try.prog 94 #[.agg #[.string s, .int .i64 a, .int .i64 e, .int .i64 f], .int .i64 n] w fun r w' => r = .returned (.tuple #[(littleC (rightC ⟨s, a, e, f⟩) n).val, .int .u64 (littleV (rightC ⟨s, a, e, f⟩) n)]) ∧ Below w.heap.size w w' := by
  have HO := Lib.hid (fun W => of_any s a e f W hs)
  have hok := Lib.hid (rightC_ok ⟨s, a, e, f⟩)
  have hsz := rightC_size ⟨s, a, e, f⟩
  simp only at hsz
  unfold OfPost at HO
  generalize rightC ⟨s, a, e, f⟩ = c at *
  have HR := Lib.hid (little_B (n := n) he (.inl h1))
  have ho1 := bytesO_size c n hok.out
  have hbo := bytesC_ok n hok.out
  obtain ⟨s1, a1, e1, f1⟩ := c
  simp only at he hsz
  have t0 : (e1 != 0) = false := by simp [he]
  subst he
  go_enter Try.func94, Try.ntmps94
  go_wp2_with fail
  refine (HO.out _).mono ?_
  rintro r w1 ⟨g, rfl, hr, hg, hB⟩
  have hz := (Cu.new (w.alloc (.cells #[.string s, .int .i64 a, .int .i64 e, .int .i64 f] 93)) zeroCur 93).keep' hB
  rw [World.size_alloc] at hz
  simp at hg
  have hgn : w.heap.size + 1 ≠ g := by omega
  have hb2 := hr.c2
  simp only at hb2
  go_wp2_with fail
  refine (bad_any g 0 _ hb2).mono ?_
  rintro r w2 ⟨rfl, rfl⟩
  rw [t0]
  have hBa := below_then (below_alloc (below_new (w := w) (.cells #[.string s, .int .i64 a, .int .i64 e, .int .i64 f] 93)) (.cells #[.string ByteArray.empty, .int .i64 0, .int .i64 0, .int .i64 0] 93)) hB
  have hsz1 : w.heap.size + 2 ≤ w1.heap.size := by have := hB.size; simp at this; omega
  have v1 := hr.c1
  have v3 := hr.c3
  have y2 := hr.fz 2
  have y3 := hr.fz 3
  simp only at v1 v3
  have hr1 := (hr.set2 2).set3 a1
  have hz1 := (hz.setOther ⟨g, 2, none⟩ hgn (.int .i64 2)).setOther ⟨g, 3, none⟩ hgn (.int .i64 a1)
  have hB1 := (hBa.setCell (p := ⟨g, 2, none⟩) (by simp only; omega) (.int .i64 2)).setCell (p := ⟨g, 3, none⟩) (by simp only; omega) (.int .i64 a1)
  go_wp2_with fail
  clear v1 v3 y2 y3
  generalize hw : (w1.setCell ⟨g, 2, none⟩ (.int .i64 2)).setCell ⟨g, 3, none⟩ (.int .i64 a1) = w4 at *
  clear hw
  refine (bytes_any g ⟨s1, a1, 2, a1⟩ n _ hr1 ⟨hok.out.1, ⟨by simp only; omega, by simp only; omega⟩, hok.out.1, fun h => by simp at h⟩ (by simp only; omega) hn).mono ?_
  rintro r w2 ⟨rfl, hr2, hU⟩
  have hba := bytes_A (c := ⟨s1, a1, 2, a1⟩) n (by simp)
  rw [hba.1] at hr2
  rw [hba.2]
  have hs4 : w.heap.size ≤ w4.heap.size := hB1.size
  have hz2 := hz1.but hU hgn
  have hBB := But.below (B := w.heap.size) hB1 (by omega) (by first | omega | (have := hB1.size; omega)) hU
  have p0 := hr2.c0
  have p1 := hr2.c1
  have p2 := hr2.c2
  have p3 := hr2.c3
  have q0 := hz2.c0
  have q1 := hz2.c1
  have q2 := hz2.c2
  have q3 := hz2.c3
  have z0 := hz2.fz 0
  have z1 := hz2.fz 1
  have z2 := hz2.fz 2
  have z3 := hz2.fz 3
  simp only at p0 p1 p2 p3
  have hgn2 : ¬ (g = w.heap.size + 1) := by omega
  have HNB := Lib.hid (fun W => number_any ByteArray.empty W (by first | decide | omega))
  have HNV : Hid (rd ByteArray.empty 0 (ByteArray.empty).size = 0) := rd_empty
  generalize rd ByteArray.empty 0 (ByteArray.empty).size = nv at *
  go_wp2_with fail
  go_region_held3 (fun w' => w'.cell? ⟨g, 0, none⟩ = some (.string s1) ∧ w'.cell? ⟨g, 1, none⟩ = some (.int .i64 a1) ∧ w'.cell? ⟨g, 2, none⟩ = some (.int .i64 2) ∧ w'.cell? ⟨g, 3, none⟩ = some (.int .i64 a1)) (go_keep) ((go_at_call 109; refine (HNB.out _).mono ?_; rintro r w5 ⟨rfl, rfl⟩))
  have hst := (hz2.store ⟨s1, a1, 2, a1⟩).drew
  have r0 := hst.c0
  have r1 := hst.c1
  have r2 := hst.c2
  have r3 := hst.c3
  simp only [World.setCu] at r0 r1 r2 r3
  go_wp2
  refine bodyPost_ret (v := .tuple #[.agg #[.string s1, .int .i64 a1, .int .i64 2, .int .i64 a1], .int .u64 nv]) (by simp [results, Try.results94, go_sem, r0, r1, r2, r3]) rfl ⟨?_, ?_⟩
  · rw [HR.out.1, HR.out.2, HNV.out]; rfl
  · exact below_drew (setCu_below hBB (by omega) ⟨s1, a1, 2, a1⟩)

set_option maxHeartbeats 1600000 in
theorem Little_C (s : ByteArray) (a e f n : Int) (w : World) (hs : s.size ≤ 9223372036854775807) (hn : -9223372036854775808 ≤ n ∧ n ≤ 9223372036854775807) (he : (rightC ⟨s, a, e, f⟩).e = 0) (h1 : 8 < n) :
    Calls Try.prog 94 #[.agg #[.string s, .int .i64 a, .int .i64 e, .int .i64 f], .int .i64 n] w fun r w' => r = .returned (.tuple #[(littleC (rightC ⟨s, a, e, f⟩) n).val, .int .u64 (littleV (rightC ⟨s, a, e, f⟩) n)]) ∧ Below w.heap.size w w' := by
  have HO := Lib.hid (fun W => of_any s a e f W hs)
  have hok := Lib.hid (rightC_ok ⟨s, a, e, f⟩)
  have hsz := rightC_size ⟨s, a, e, f⟩
  simp only at hsz
  unfold OfPost at HO
  generalize rightC ⟨s, a, e, f⟩ = c at *
  have HR := Lib.hid (little_B (n := n) he (.inr h1))
  have ho1 := bytesO_size c n hok.out
  have hbo := bytesC_ok n hok.out
  obtain ⟨s1, a1, e1, f1⟩ := c
  simp only at he hsz
  have t0 : (e1 != 0) = false := by simp [he]
  subst he
  have h2 : decide (n < 1) = false := by simp; omega
  go_enter Try.func94, Try.ntmps94
  go_wp2_with fail
  refine (HO.out _).mono ?_
  rintro r w1 ⟨g, rfl, hr, hg, hB⟩
  have hz := (Cu.new (w.alloc (.cells #[.string s, .int .i64 a, .int .i64 e, .int .i64 f] 93)) zeroCur 93).keep' hB
  rw [World.size_alloc] at hz
  simp at hg
  have hgn : w.heap.size + 1 ≠ g := by omega
  have hb2 := hr.c2
  simp only at hb2
  go_wp2_with fail
  refine (bad_any g 0 _ hb2).mono ?_
  rintro r w2 ⟨rfl, rfl⟩
  rw [t0]
  have hBa := below_then (below_alloc (below_new (w := w) (.cells #[.string s, .int .i64 a, .int .i64 e, .int .i64 f] 93)) (.cells #[.string ByteArray.empty, .int .i64 0, .int .i64 0, .int .i64 0] 93)) hB
  have hsz1 : w.heap.size + 2 ≤ w1.heap.size := by have := hB.size; simp at this; omega
  have v1 := hr.c1
  have v3 := hr.c3
  have y2 := hr.fz 2
  have y3 := hr.fz 3
  simp only at v1 v3
  have hr1 := (hr.set2 2).set3 a1
  have hz1 := (hz.setOther ⟨g, 2, none⟩ hgn (.int .i64 2)).setOther ⟨g, 3, none⟩ hgn (.int .i64 a1)
  have hB1 := (hBa.setCell (p := ⟨g, 2, none⟩) (by simp only; omega) (.int .i64 2)).setCell (p := ⟨g, 3, none⟩) (by simp only; omega) (.int .i64 a1)
  go_wp2_with fail
  clear v1 v3 y2 y3
  generalize hw : (w1.setCell ⟨g, 2, none⟩ (.int .i64 2)).setCell ⟨g, 3, none⟩ (.int .i64 a1) = w4 at *
  clear hw
  refine (bytes_any g ⟨s1, a1, 2, a1⟩ n _ hr1 ⟨hok.out.1, ⟨by simp only; omega, by simp only; omega⟩, hok.out.1, fun h => by simp at h⟩ (by simp only; omega) hn).mono ?_
  rintro r w2 ⟨rfl, hr2, hU⟩
  have hba := bytes_A (c := ⟨s1, a1, 2, a1⟩) n (by simp)
  rw [hba.1] at hr2
  rw [hba.2]
  have hs4 : w.heap.size ≤ w4.heap.size := hB1.size
  have hz2 := hz1.but hU hgn
  have hBB := But.below (B := w.heap.size) hB1 (by omega) (by first | omega | (have := hB1.size; omega)) hU
  have p0 := hr2.c0
  have p1 := hr2.c1
  have p2 := hr2.c2
  have p3 := hr2.c3
  have q0 := hz2.c0
  have q1 := hz2.c1
  have q2 := hz2.c2
  have q3 := hz2.c3
  have z0 := hz2.fz 0
  have z1 := hz2.fz 1
  have z2 := hz2.fz 2
  have z3 := hz2.fz 3
  simp only at p0 p1 p2 p3
  have hgn2 : ¬ (g = w.heap.size + 1) := by omega
  have HNB := Lib.hid (fun W => number_any ByteArray.empty W (by first | decide | omega))
  have HNV : Hid (rd ByteArray.empty 0 (ByteArray.empty).size = 0) := rd_empty
  generalize rd ByteArray.empty 0 (ByteArray.empty).size = nv at *
  go_wp2_with fail
  go_region_held3 (fun w' => w'.cell? ⟨g, 0, none⟩ = some (.string s1) ∧ w'.cell? ⟨g, 1, none⟩ = some (.int .i64 a1) ∧ w'.cell? ⟨g, 2, none⟩ = some (.int .i64 2) ∧ w'.cell? ⟨g, 3, none⟩ = some (.int .i64 a1)) (go_keep) ((go_at_call 109; refine (HNB.out _).mono ?_; rintro r w5 ⟨rfl, rfl⟩))
  have hst := (hz2.store ⟨s1, a1, 2, a1⟩).drew
  have r0 := hst.c0
  have r1 := hst.c1
  have r2 := hst.c2
  have r3 := hst.c3
  simp only [World.setCu] at r0 r1 r2 r3
  go_wp2
  refine bodyPost_ret (v := .tuple #[.agg #[.string s1, .int .i64 a1, .int .i64 2, .int .i64 a1], .int .u64 nv]) (by simp [results, Try.results94, go_sem, r0, r1, r2, r3]) rfl ⟨?_, ?_⟩
  · rw [HR.out.1, HR.out.2, HNV.out]; rfl
  · exact below_drew (setCu_below hBB (by omega) ⟨s1, a1, 2, a1⟩)

set_option maxHeartbeats 1600000 in
theorem Little_D (s : ByteArray) (a e f n : Int) (w : World) (hs : s.size ≤ 9223372036854775807) (hn : -9223372036854775808 ≤ n ∧ n ≤ 9223372036854775807) (he : (rightC ⟨s, a, e, f⟩).e = 0) (h1 : 1 ≤ n ∧ n ≤ 8) :
    Calls Try.prog 94 #[.agg #[.string s, .int .i64 a, .int .i64 e, .int .i64 f], .int .i64 n] w fun r w' => r = .returned (.tuple #[(littleC (rightC ⟨s, a, e, f⟩) n).val, .int .u64 (littleV (rightC ⟨s, a, e, f⟩) n)]) ∧ Below w.heap.size w w' := by
  have HO := Lib.hid (fun W => of_any s a e f W hs)
  have hok := Lib.hid (rightC_ok ⟨s, a, e, f⟩)
  have hsz := rightC_size ⟨s, a, e, f⟩
  simp only at hsz
  unfold OfPost at HO
  generalize rightC ⟨s, a, e, f⟩ = c at *
  have HR := Lib.hid (little_D (n := n) he h1)
  have ho1 := bytesO_size c n hok.out
  have hbo := bytesC_ok n hok.out
  obtain ⟨s1, a1, e1, f1⟩ := c
  simp only at he hsz
  have t0 : (e1 != 0) = false := by simp [he]
  subst he
  have h2 : decide (n < 1) = false := by simp; omega
  have h3 : decide (8 < n) = false := by simp; omega
  go_enter Try.func94, Try.ntmps94
  go_wp2_with fail
  refine (HO.out _).mono ?_
  rintro r w1 ⟨g, rfl, hr, hg, hB⟩
  have hz := (Cu.new (w.alloc (.cells #[.string s, .int .i64 a, .int .i64 e, .int .i64 f] 93)) zeroCur 93).keep' hB
  rw [World.size_alloc] at hz
  simp at hg
  have hgn : w.heap.size + 1 ≠ g := by omega
  have hb2 := hr.c2
  simp only at hb2
  go_wp2_with fail
  refine (bad_any g 0 _ hb2).mono ?_
  rintro r w2 ⟨rfl, rfl⟩
  rw [t0]
  have hBa := below_then (below_alloc (below_new (w := w) (.cells #[.string s, .int .i64 a, .int .i64 e, .int .i64 f] 93)) (.cells #[.string ByteArray.empty, .int .i64 0, .int .i64 0, .int .i64 0] 93)) hB
  have hsz1 : w.heap.size + 2 ≤ w1.heap.size := by have := hB.size; simp at this; omega
  go_wp2_with fail
  refine (bytes_any g ⟨s1, a1, 0, f1⟩ n _ hr hok.out (by simp only; omega) hn).mono ?_
  rintro r w2 ⟨rfl, hr2, hU⟩
  obtain ⟨⟨s2, a2, e2, f2⟩, hc2⟩ : ∃ c2, bytesC ⟨s1, a1, 0, f1⟩ n = c2 := ⟨_, rfl⟩
  rw [hc2] at hr2
  have HC2 := Lib.hid hc2
  clear hc2
  generalize hO : bytesO ⟨s1, a1, 0, f1⟩ n = out at *
  have HOo := Lib.hid hO
  clear hO
  have HV2 : Hid (littleV ⟨s1, a1, 0, f1⟩ n = rd out 0 out.size) := HR.out.2
  have hz2 := hz.but hU hgn
  have hBB := But.below (B := w.heap.size) hBa (by omega) (by first | omega | (have := hBa.size; omega)) hU
  have p0 := hr2.c0
  have p1 := hr2.c1
  have p2 := hr2.c2
  have p3 := hr2.c3
  have q0 := hz2.c0
  have q1 := hz2.c1
  have q2 := hz2.c2
  have q3 := hz2.c3
  have z0 := hz2.fz 0
  have z1 := hz2.fz 1
  have z2 := hz2.fz 2
  have z3 := hz2.fz 3
  simp only at p0 p1 p2 p3
  have hgn2 : ¬ (g = w.heap.size + 1) := by omega
  have HNB := Lib.hid (fun W => number_any out W (by first | decide | omega))
  have HNV : Hid (rd out 0 (out).size = (rd out 0 out.size)) := rfl
  generalize rd out 0 (out).size = nv at *
  go_wp2_with fail
  go_region_held3 (fun w' => w'.cell? ⟨g, 0, none⟩ = some (.string s2) ∧ w'.cell? ⟨g, 1, none⟩ = some (.int .i64 a2) ∧ w'.cell? ⟨g, 2, none⟩ = some (.int .i64 e2) ∧ w'.cell? ⟨g, 3, none⟩ = some (.int .i64 f2)) (go_keep) ((go_at_call 109; refine (HNB.out _).mono ?_; rintro r w5 ⟨rfl, rfl⟩))
  have hst := (hz2.store ⟨s2, a2, e2, f2⟩).drew
  have r0 := hst.c0
  have r1 := hst.c1
  have r2 := hst.c2
  have r3 := hst.c3
  simp only [World.setCu] at r0 r1 r2 r3
  go_wp2
  refine bodyPost_ret (v := .tuple #[.agg #[.string s2, .int .i64 a2, .int .i64 e2, .int .i64 f2], .int .u64 nv]) (by simp [results, Try.results94, go_sem, r0, r1, r2, r3]) rfl ⟨?_, ?_⟩
  · rw [HV2.out, HR.out.1, HC2.out]; rfl
  · exact below_drew (setCu_below hBB (by omega) ⟨s2, a2, e2, f2⟩)

theorem Little_any (s : ByteArray) (a e f n : Int) (w : World) (hs : s.size ≤ 9223372036854775807) (hn : -9223372036854775808 ≤ n ∧ n ≤ 9223372036854775807) :
    Calls Try.prog 94 #[.agg #[.string s, .int .i64 a, .int .i64 e, .int .i64 f], .int .i64 n] w fun r w' => r = .returned (.tuple #[(littleC (rightC ⟨s, a, e, f⟩) n).val, .int .u64 (littleV (rightC ⟨s, a, e, f⟩) n)]) ∧ Below w.heap.size w w' := by
  by_cases he : (rightC ⟨s, a, e, f⟩).e = 0
  · by_cases h1 : n < 1
    · exact Little_B s a e f n w hs hn he h1
    · by_cases h2 : 8 < n
      · exact Little_C s a e f n w hs hn he h2
      · exact Little_D s a e f n w hs hn he (by omega)
  · exact Little_A s a e f n w hs hn he

/-- A cursor of what is read, and the one behind it. -/
def innerC (c : Cur) (n : Int) : Cur := if (bytesC c n).e ≠ 0 then bytesC c n else ⟨c.s.extract 0 (bytesC c n).a.toNat, c.a, 0, 0⟩


end Go.Proofs.Ytfdbkpbgkpkckaa
