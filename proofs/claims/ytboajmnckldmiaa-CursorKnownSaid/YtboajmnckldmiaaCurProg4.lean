/-
  The walks of cursor.Fail and End.
-/
import Derived.Test.YtboajmnckldmiaaCurProg3
namespace Go.Proofs.Ytboajmnckldmiaa
open Go.RowKit
set_option linter.unusedVariables false
set_option maxRecDepth 100000

def errV (er : Int) : Int := if er < 1 ∨ 31 < er then 3 else er
def placeV (s : ByteArray) (x : Int) : Int := min (max x 0) (s.size : Int)
def failC (c : Cur) (er x : Int) : Cur := if c.e ≠ 0 then c else ⟨c.s, c.a, errV er, placeV c.s x⟩
theorem fail_A {c : Cur} (er x : Int) (h : c.e ≠ 0) : failC c er x = c := if_pos h
theorem fail_B {c : Cur} (er x : Int) (h : c.e = 0) : failC c er x = ⟨c.s, c.a, errV er, placeV c.s x⟩ := if_neg (by omega)
def endE (c : Cur) : Int := if c.e = 0 ∧ c.a < (c.s.size : Int) then 4 else c.e
def endF (c : Cur) : Int := if c.e = 0 ∧ c.a < (c.s.size : Int) then c.a else c.f

set_option maxHeartbeats 1600000 in
theorem Fail_A (s : ByteArray) (a e f er x : Int) (w : World) (hs : s.size ≤ 9223372036854775807) (he : (rightC ⟨s, a, e, f⟩).e ≠ 0) :
    Calls Try.prog 22 #[.agg #[.string s, .int .i64 a, .int .i64 e, .int .i64 f], .int .i64 er, .int .i64 x] w fun r w' => r = .returned ((failC (rightC ⟨s, a, e, f⟩) er x).val) ∧ Below w.heap.size w w' := by
  have HO := Lib.hid (fun W => of_any s a e f W hs)
  have hok := Lib.hid (rightC_ok ⟨s, a, e, f⟩)
  have hsz := rightC_size ⟨s, a, e, f⟩
  simp only at hsz
  unfold OfPost at HO
  generalize rightC ⟨s, a, e, f⟩ = c at *
  obtain ⟨s1, a1, e1, f1⟩ := c
  simp only at he hsz
  have HR := Lib.hid (fail_A (c := ⟨s1, a1, e1, f1⟩) er x he)
  have t0 : (e1 != 0) = true := by simp [he]
  clear he
  go_enter Try.func22, Try.ntmps22
  go_wp2_with fail
  refine (HO.out _).mono ?_
  rintro r w1 ⟨g, rfl, hr, hg, hB⟩
  have hz := (Cu.new (w.alloc (.cells #[.string s, .int .i64 a, .int .i64 e, .int .i64 f] 28)) zeroCur 28).keep' hB
  rw [World.size_alloc] at hz
  simp at hg
  have hgn : w.heap.size + 1 ≠ g := by omega
  have hgn2 : ¬ (g = w.heap.size + 1) := by omega
  have p0 := hr.c0
  have p1 := hr.c1
  have p2 := hr.c2
  have p3 := hr.c3
  simp only at p0 p1 p2 p3
  have hBa := below_then (below_alloc (below_new (w := w) (.cells #[.string s, .int .i64 a, .int .i64 e, .int .i64 f] 28)) (.cells #[.string ByteArray.empty, .int .i64 0, .int .i64 0, .int .i64 0] 28)) hB
  go_wp2_with fail
  refine (bad_any g e1 _ p2).mono ?_
  rintro r w2 ⟨rfl, rfl⟩
  rw [t0]
  have q0 := hz.c0
  have q1 := hz.c1
  have q2 := hz.c2
  have q3 := hz.c3
  have z0 := hz.fz 0
  have z1 := hz.fz 1
  have z2 := hz.fz 2
  have z3 := hz.fz 3
  have hst := hz.store ⟨s1, a1, e1, f1⟩
  have r0 := hst.c0
  have r1 := hst.c1
  have r2 := hst.c2
  have r3 := hst.c3
  simp only [World.setCu] at r0 r1 r2 r3
  go_wp2
  refine bodyPost_ret (v := .agg #[.string s1, .int .i64 a1, .int .i64 e1, .int .i64 f1]) (by simp [results, Try.results22, go_sem, r0, r1, r2, r3]) rfl ⟨?_, ?_⟩
  · rw [HR.out]; rfl
  · exact setCu_below hBa (by omega) ⟨s1, a1, e1, f1⟩

set_option maxHeartbeats 1600000 in
theorem Fail_lo_a (s : ByteArray) (a e f er x : Int) (w : World) (hs : s.size ≤ 9223372036854775807) (he : (rightC ⟨s, a, e, f⟩).e = 0) (hE : er < 1) (hX : x < 0) :
    Calls Try.prog 22 #[.agg #[.string s, .int .i64 a, .int .i64 e, .int .i64 f], .int .i64 er, .int .i64 x] w fun r w' => r = .returned ((failC (rightC ⟨s, a, e, f⟩) er x).val) ∧ Below w.heap.size w w' := by
  have HO := Lib.hid (fun W => of_any s a e f W hs)
  have hok := Lib.hid (rightC_ok ⟨s, a, e, f⟩)
  have hsz := rightC_size ⟨s, a, e, f⟩
  simp only at hsz
  unfold OfPost at HO
  have hE' := hE
  generalize rightC ⟨s, a, e, f⟩ = c at *
  obtain ⟨s1, a1, e1, f1⟩ := c
  simp only at he hsz hX
  have HR : Hid (failC ⟨s1, a1, e1, f1⟩ er x = ⟨s1, a1, 3, 0⟩) := by
    show _ = _
    rw [fail_B er x he]
    simp only [Cur.mk.injEq, true_and]
    unfold errV placeV
    refine ⟨?_, by omega⟩
    first | exact if_pos (by omega) | exact if_neg (by omega)
  have t0 : (e1 != 0) = false := by simp [he]
  have x1 : ¬ ((s1.size : Int) < 0) := by omega
  subst he
  go_enter Try.func22, Try.ntmps22
  go_wp2_with fail
  refine (HO.out _).mono ?_
  rintro r w1 ⟨g, rfl, hr, hg, hB⟩
  have hz := (Cu.new (w.alloc (.cells #[.string s, .int .i64 a, .int .i64 e, .int .i64 f] 28)) zeroCur 28).keep' hB
  rw [World.size_alloc] at hz
  simp at hg
  have hgn : w.heap.size + 1 ≠ g := by omega
  have hgn2 : ¬ (g = w.heap.size + 1) := by omega
  have p0 := hr.c0
  have p1 := hr.c1
  have p2 := hr.c2
  have p3 := hr.c3
  simp only at p0 p1 p2 p3
  have hBa := below_then (below_alloc (below_new (w := w) (.cells #[.string s, .int .i64 a, .int .i64 e, .int .i64 f] 28)) (.cells #[.string ByteArray.empty, .int .i64 0, .int .i64 0, .int .i64 0] 28)) hB
  go_wp2_with fail
  refine (bad_any g 0 _ p2).mono ?_
  rintro r w2 ⟨rfl, rfl⟩
  rw [t0]
  have y2 := hr.fz 2
  have y3 := hr.fz 3
  have hr1 := (hr.set2 3).set3 0
  have hz1 := (hz.setOther ⟨g, 2, none⟩ hgn (.int .i64 3)).setOther ⟨g, 3, none⟩ hgn (.int .i64 0)
  have hB1 := (hBa.setCell (p := ⟨g, 2, none⟩) (by simp only; omega) (.int .i64 3)).setCell (p := ⟨g, 3, none⟩) (by simp only; omega) (.int .i64 0)
  have k0 := hr1.c0
  have k1 := hr1.c1
  have k2 := hr1.c2
  have k3 := hr1.c3
  have q0 := hz1.c0
  have q1 := hz1.c1
  have q2 := hz1.c2
  have q3 := hz1.c3
  have z0 := hz1.fz 0
  have z1 := hz1.fz 1
  have z2 := hz1.fz 2
  have z3 := hz1.fz 3
  have hst := hz1.store ⟨s1, a1, 3, 0⟩
  have r0 := hst.c0
  have r1 := hst.c1
  have r2 := hst.c2
  have r3 := hst.c3
  simp only [World.setCu] at r0 r1 r2 r3
  go_wp2
  refine bodyPost_ret (v := .agg #[.string s1, .int .i64 a1, .int .i64 3, .int .i64 0]) (by simp [results, Try.results22, go_sem, r0, r1, r2, r3]) rfl ⟨?_, ?_⟩
  · rw [HR.out]; rfl
  · exact setCu_below hB1 (by omega) ⟨s1, a1, 3, 0⟩

set_option maxHeartbeats 1600000 in
theorem Fail_lo_b (s : ByteArray) (a e f er x : Int) (w : World) (hs : s.size ≤ 9223372036854775807) (he : (rightC ⟨s, a, e, f⟩).e = 0) (hE : er < 1) (hX : 0 ≤ x ∧ x ≤ ((rightC ⟨s, a, e, f⟩).s.size : Int)) :
    Calls Try.prog 22 #[.agg #[.string s, .int .i64 a, .int .i64 e, .int .i64 f], .int .i64 er, .int .i64 x] w fun r w' => r = .returned ((failC (rightC ⟨s, a, e, f⟩) er x).val) ∧ Below w.heap.size w w' := by
  have HO := Lib.hid (fun W => of_any s a e f W hs)
  have hok := Lib.hid (rightC_ok ⟨s, a, e, f⟩)
  have hsz := rightC_size ⟨s, a, e, f⟩
  simp only at hsz
  unfold OfPost at HO
  have hE' := hE
  generalize rightC ⟨s, a, e, f⟩ = c at *
  obtain ⟨s1, a1, e1, f1⟩ := c
  simp only at he hsz hX
  have HR : Hid (failC ⟨s1, a1, e1, f1⟩ er x = ⟨s1, a1, 3, x⟩) := by
    show _ = _
    rw [fail_B er x he]
    simp only [Cur.mk.injEq, true_and]
    unfold errV placeV
    refine ⟨?_, by omega⟩
    first | exact if_pos (by omega) | exact if_neg (by omega)
  have t0 : (e1 != 0) = false := by simp [he]
  have x1 : ¬ (x < 0) := by omega
  have x2 : ¬ ((s1.size : Int) < x) := by omega
  subst he
  go_enter Try.func22, Try.ntmps22
  go_wp2_with fail
  refine (HO.out _).mono ?_
  rintro r w1 ⟨g, rfl, hr, hg, hB⟩
  have hz := (Cu.new (w.alloc (.cells #[.string s, .int .i64 a, .int .i64 e, .int .i64 f] 28)) zeroCur 28).keep' hB
  rw [World.size_alloc] at hz
  simp at hg
  have hgn : w.heap.size + 1 ≠ g := by omega
  have hgn2 : ¬ (g = w.heap.size + 1) := by omega
  have p0 := hr.c0
  have p1 := hr.c1
  have p2 := hr.c2
  have p3 := hr.c3
  simp only at p0 p1 p2 p3
  have hBa := below_then (below_alloc (below_new (w := w) (.cells #[.string s, .int .i64 a, .int .i64 e, .int .i64 f] 28)) (.cells #[.string ByteArray.empty, .int .i64 0, .int .i64 0, .int .i64 0] 28)) hB
  go_wp2_with fail
  refine (bad_any g 0 _ p2).mono ?_
  rintro r w2 ⟨rfl, rfl⟩
  rw [t0]
  have y2 := hr.fz 2
  have y3 := hr.fz 3
  have hr1 := (hr.set2 3).set3 x
  have hz1 := (hz.setOther ⟨g, 2, none⟩ hgn (.int .i64 3)).setOther ⟨g, 3, none⟩ hgn (.int .i64 x)
  have hB1 := (hBa.setCell (p := ⟨g, 2, none⟩) (by simp only; omega) (.int .i64 3)).setCell (p := ⟨g, 3, none⟩) (by simp only; omega) (.int .i64 x)
  have k0 := hr1.c0
  have k1 := hr1.c1
  have k2 := hr1.c2
  have k3 := hr1.c3
  have q0 := hz1.c0
  have q1 := hz1.c1
  have q2 := hz1.c2
  have q3 := hz1.c3
  have z0 := hz1.fz 0
  have z1 := hz1.fz 1
  have z2 := hz1.fz 2
  have z3 := hz1.fz 3
  have hst := hz1.store ⟨s1, a1, 3, x⟩
  have r0 := hst.c0
  have r1 := hst.c1
  have r2 := hst.c2
  have r3 := hst.c3
  simp only [World.setCu] at r0 r1 r2 r3
  go_wp2
  refine bodyPost_ret (v := .agg #[.string s1, .int .i64 a1, .int .i64 3, .int .i64 x]) (by simp [results, Try.results22, go_sem, r0, r1, r2, r3]) rfl ⟨?_, ?_⟩
  · rw [HR.out]; rfl
  · exact setCu_below hB1 (by omega) ⟨s1, a1, 3, x⟩

set_option maxHeartbeats 1600000 in
theorem Fail_lo_c (s : ByteArray) (a e f er x : Int) (w : World) (hs : s.size ≤ 9223372036854775807) (he : (rightC ⟨s, a, e, f⟩).e = 0) (hE : er < 1) (hX : 0 ≤ x ∧ ((rightC ⟨s, a, e, f⟩).s.size : Int) < x) :
    Calls Try.prog 22 #[.agg #[.string s, .int .i64 a, .int .i64 e, .int .i64 f], .int .i64 er, .int .i64 x] w fun r w' => r = .returned ((failC (rightC ⟨s, a, e, f⟩) er x).val) ∧ Below w.heap.size w w' := by
  have HO := Lib.hid (fun W => of_any s a e f W hs)
  have hok := Lib.hid (rightC_ok ⟨s, a, e, f⟩)
  have hsz := rightC_size ⟨s, a, e, f⟩
  simp only at hsz
  unfold OfPost at HO
  have hE' := hE
  generalize rightC ⟨s, a, e, f⟩ = c at *
  obtain ⟨s1, a1, e1, f1⟩ := c
  simp only at he hsz hX
  have HR : Hid (failC ⟨s1, a1, e1, f1⟩ er x = ⟨s1, a1, 3, (s1.size : Int)⟩) := by
    show _ = _
    rw [fail_B er x he]
    simp only [Cur.mk.injEq, true_and]
    unfold errV placeV
    refine ⟨?_, by omega⟩
    first | exact if_pos (by omega) | exact if_neg (by omega)
  have t0 : (e1 != 0) = false := by simp [he]
  have x1 : ¬ (x < 0) := by omega
  have x2 : (s1.size : Int) < x := by omega
  subst he
  go_enter Try.func22, Try.ntmps22
  go_wp2_with fail
  refine (HO.out _).mono ?_
  rintro r w1 ⟨g, rfl, hr, hg, hB⟩
  have hz := (Cu.new (w.alloc (.cells #[.string s, .int .i64 a, .int .i64 e, .int .i64 f] 28)) zeroCur 28).keep' hB
  rw [World.size_alloc] at hz
  simp at hg
  have hgn : w.heap.size + 1 ≠ g := by omega
  have hgn2 : ¬ (g = w.heap.size + 1) := by omega
  have p0 := hr.c0
  have p1 := hr.c1
  have p2 := hr.c2
  have p3 := hr.c3
  simp only at p0 p1 p2 p3
  have hBa := below_then (below_alloc (below_new (w := w) (.cells #[.string s, .int .i64 a, .int .i64 e, .int .i64 f] 28)) (.cells #[.string ByteArray.empty, .int .i64 0, .int .i64 0, .int .i64 0] 28)) hB
  go_wp2_with fail
  refine (bad_any g 0 _ p2).mono ?_
  rintro r w2 ⟨rfl, rfl⟩
  rw [t0]
  have y2 := hr.fz 2
  have y3 := hr.fz 3
  have hr1 := (hr.set2 3).set3 (s1.size : Int)
  have hz1 := (hz.setOther ⟨g, 2, none⟩ hgn (.int .i64 3)).setOther ⟨g, 3, none⟩ hgn (.int .i64 (s1.size : Int))
  have hB1 := (hBa.setCell (p := ⟨g, 2, none⟩) (by simp only; omega) (.int .i64 3)).setCell (p := ⟨g, 3, none⟩) (by simp only; omega) (.int .i64 (s1.size : Int))
  have k0 := hr1.c0
  have k1 := hr1.c1
  have k2 := hr1.c2
  have k3 := hr1.c3
  have q0 := hz1.c0
  have q1 := hz1.c1
  have q2 := hz1.c2
  have q3 := hz1.c3
  have z0 := hz1.fz 0
  have z1 := hz1.fz 1
  have z2 := hz1.fz 2
  have z3 := hz1.fz 3
  have hst := hz1.store ⟨s1, a1, 3, (s1.size : Int)⟩
  have r0 := hst.c0
  have r1 := hst.c1
  have r2 := hst.c2
  have r3 := hst.c3
  simp only [World.setCu] at r0 r1 r2 r3
  go_wp2
  refine bodyPost_ret (v := .agg #[.string s1, .int .i64 a1, .int .i64 3, .int .i64 (s1.size : Int)]) (by simp [results, Try.results22, go_sem, r0, r1, r2, r3]) rfl ⟨?_, ?_⟩
  · rw [HR.out]; rfl
  · exact setCu_below hB1 (by omega) ⟨s1, a1, 3, (s1.size : Int)⟩

set_option maxHeartbeats 1600000 in
theorem Fail_hi_a (s : ByteArray) (a e f er x : Int) (w : World) (hs : s.size ≤ 9223372036854775807) (he : (rightC ⟨s, a, e, f⟩).e = 0) (hE : 31 < er) (hX : x < 0) :
    Calls Try.prog 22 #[.agg #[.string s, .int .i64 a, .int .i64 e, .int .i64 f], .int .i64 er, .int .i64 x] w fun r w' => r = .returned ((failC (rightC ⟨s, a, e, f⟩) er x).val) ∧ Below w.heap.size w w' := by
  have HO := Lib.hid (fun W => of_any s a e f W hs)
  have hok := Lib.hid (rightC_ok ⟨s, a, e, f⟩)
  have hsz := rightC_size ⟨s, a, e, f⟩
  simp only at hsz
  unfold OfPost at HO
  have hE' := hE
  generalize rightC ⟨s, a, e, f⟩ = c at *
  obtain ⟨s1, a1, e1, f1⟩ := c
  simp only at he hsz hX
  have HR : Hid (failC ⟨s1, a1, e1, f1⟩ er x = ⟨s1, a1, 3, 0⟩) := by
    show _ = _
    rw [fail_B er x he]
    simp only [Cur.mk.injEq, true_and]
    unfold errV placeV
    refine ⟨?_, by omega⟩
    first | exact if_pos (by omega) | exact if_neg (by omega)
  have t0 : (e1 != 0) = false := by simp [he]
  have h1 : decide (er < 1) = false := by simp; omega
  have x1 : ¬ ((s1.size : Int) < 0) := by omega
  subst he
  go_enter Try.func22, Try.ntmps22
  go_wp2_with fail
  refine (HO.out _).mono ?_
  rintro r w1 ⟨g, rfl, hr, hg, hB⟩
  have hz := (Cu.new (w.alloc (.cells #[.string s, .int .i64 a, .int .i64 e, .int .i64 f] 28)) zeroCur 28).keep' hB
  rw [World.size_alloc] at hz
  simp at hg
  have hgn : w.heap.size + 1 ≠ g := by omega
  have hgn2 : ¬ (g = w.heap.size + 1) := by omega
  have p0 := hr.c0
  have p1 := hr.c1
  have p2 := hr.c2
  have p3 := hr.c3
  simp only at p0 p1 p2 p3
  have hBa := below_then (below_alloc (below_new (w := w) (.cells #[.string s, .int .i64 a, .int .i64 e, .int .i64 f] 28)) (.cells #[.string ByteArray.empty, .int .i64 0, .int .i64 0, .int .i64 0] 28)) hB
  go_wp2_with fail
  refine (bad_any g 0 _ p2).mono ?_
  rintro r w2 ⟨rfl, rfl⟩
  rw [t0]
  have y2 := hr.fz 2
  have y3 := hr.fz 3
  have hr1 := (hr.set2 3).set3 0
  have hz1 := (hz.setOther ⟨g, 2, none⟩ hgn (.int .i64 3)).setOther ⟨g, 3, none⟩ hgn (.int .i64 0)
  have hB1 := (hBa.setCell (p := ⟨g, 2, none⟩) (by simp only; omega) (.int .i64 3)).setCell (p := ⟨g, 3, none⟩) (by simp only; omega) (.int .i64 0)
  have k0 := hr1.c0
  have k1 := hr1.c1
  have k2 := hr1.c2
  have k3 := hr1.c3
  have q0 := hz1.c0
  have q1 := hz1.c1
  have q2 := hz1.c2
  have q3 := hz1.c3
  have z0 := hz1.fz 0
  have z1 := hz1.fz 1
  have z2 := hz1.fz 2
  have z3 := hz1.fz 3
  have hst := hz1.store ⟨s1, a1, 3, 0⟩
  have r0 := hst.c0
  have r1 := hst.c1
  have r2 := hst.c2
  have r3 := hst.c3
  simp only [World.setCu] at r0 r1 r2 r3
  go_wp2
  refine bodyPost_ret (v := .agg #[.string s1, .int .i64 a1, .int .i64 3, .int .i64 0]) (by simp [results, Try.results22, go_sem, r0, r1, r2, r3]) rfl ⟨?_, ?_⟩
  · rw [HR.out]; rfl
  · exact setCu_below hB1 (by omega) ⟨s1, a1, 3, 0⟩

set_option maxHeartbeats 1600000 in
theorem Fail_hi_b (s : ByteArray) (a e f er x : Int) (w : World) (hs : s.size ≤ 9223372036854775807) (he : (rightC ⟨s, a, e, f⟩).e = 0) (hE : 31 < er) (hX : 0 ≤ x ∧ x ≤ ((rightC ⟨s, a, e, f⟩).s.size : Int)) :
    Calls Try.prog 22 #[.agg #[.string s, .int .i64 a, .int .i64 e, .int .i64 f], .int .i64 er, .int .i64 x] w fun r w' => r = .returned ((failC (rightC ⟨s, a, e, f⟩) er x).val) ∧ Below w.heap.size w w' := by
  have HO := Lib.hid (fun W => of_any s a e f W hs)
  have hok := Lib.hid (rightC_ok ⟨s, a, e, f⟩)
  have hsz := rightC_size ⟨s, a, e, f⟩
  simp only at hsz
  unfold OfPost at HO
  have hE' := hE
  generalize rightC ⟨s, a, e, f⟩ = c at *
  obtain ⟨s1, a1, e1, f1⟩ := c
  simp only at he hsz hX
  have HR : Hid (failC ⟨s1, a1, e1, f1⟩ er x = ⟨s1, a1, 3, x⟩) := by
    show _ = _
    rw [fail_B er x he]
    simp only [Cur.mk.injEq, true_and]
    unfold errV placeV
    refine ⟨?_, by omega⟩
    first | exact if_pos (by omega) | exact if_neg (by omega)
  have t0 : (e1 != 0) = false := by simp [he]
  have h1 : decide (er < 1) = false := by simp; omega
  have x1 : ¬ (x < 0) := by omega
  have x2 : ¬ ((s1.size : Int) < x) := by omega
  subst he
  go_enter Try.func22, Try.ntmps22
  go_wp2_with fail
  refine (HO.out _).mono ?_
  rintro r w1 ⟨g, rfl, hr, hg, hB⟩
  have hz := (Cu.new (w.alloc (.cells #[.string s, .int .i64 a, .int .i64 e, .int .i64 f] 28)) zeroCur 28).keep' hB
  rw [World.size_alloc] at hz
  simp at hg
  have hgn : w.heap.size + 1 ≠ g := by omega
  have hgn2 : ¬ (g = w.heap.size + 1) := by omega
  have p0 := hr.c0
  have p1 := hr.c1
  have p2 := hr.c2
  have p3 := hr.c3
  simp only at p0 p1 p2 p3
  have hBa := below_then (below_alloc (below_new (w := w) (.cells #[.string s, .int .i64 a, .int .i64 e, .int .i64 f] 28)) (.cells #[.string ByteArray.empty, .int .i64 0, .int .i64 0, .int .i64 0] 28)) hB
  go_wp2_with fail
  refine (bad_any g 0 _ p2).mono ?_
  rintro r w2 ⟨rfl, rfl⟩
  rw [t0]
  have y2 := hr.fz 2
  have y3 := hr.fz 3
  have hr1 := (hr.set2 3).set3 x
  have hz1 := (hz.setOther ⟨g, 2, none⟩ hgn (.int .i64 3)).setOther ⟨g, 3, none⟩ hgn (.int .i64 x)
  have hB1 := (hBa.setCell (p := ⟨g, 2, none⟩) (by simp only; omega) (.int .i64 3)).setCell (p := ⟨g, 3, none⟩) (by simp only; omega) (.int .i64 x)
  have k0 := hr1.c0
  have k1 := hr1.c1
  have k2 := hr1.c2
  have k3 := hr1.c3
  have q0 := hz1.c0
  have q1 := hz1.c1
  have q2 := hz1.c2
  have q3 := hz1.c3
  have z0 := hz1.fz 0
  have z1 := hz1.fz 1
  have z2 := hz1.fz 2
  have z3 := hz1.fz 3
  have hst := hz1.store ⟨s1, a1, 3, x⟩
  have r0 := hst.c0
  have r1 := hst.c1
  have r2 := hst.c2
  have r3 := hst.c3
  simp only [World.setCu] at r0 r1 r2 r3
  go_wp2
  refine bodyPost_ret (v := .agg #[.string s1, .int .i64 a1, .int .i64 3, .int .i64 x]) (by simp [results, Try.results22, go_sem, r0, r1, r2, r3]) rfl ⟨?_, ?_⟩
  · rw [HR.out]; rfl
  · exact setCu_below hB1 (by omega) ⟨s1, a1, 3, x⟩

set_option maxHeartbeats 1600000 in
theorem Fail_hi_c (s : ByteArray) (a e f er x : Int) (w : World) (hs : s.size ≤ 9223372036854775807) (he : (rightC ⟨s, a, e, f⟩).e = 0) (hE : 31 < er) (hX : 0 ≤ x ∧ ((rightC ⟨s, a, e, f⟩).s.size : Int) < x) :
    Calls Try.prog 22 #[.agg #[.string s, .int .i64 a, .int .i64 e, .int .i64 f], .int .i64 er, .int .i64 x] w fun r w' => r = .returned ((failC (rightC ⟨s, a, e, f⟩) er x).val) ∧ Below w.heap.size w w' := by
  have HO := Lib.hid (fun W => of_any s a e f W hs)
  have hok := Lib.hid (rightC_ok ⟨s, a, e, f⟩)
  have hsz := rightC_size ⟨s, a, e, f⟩
  simp only at hsz
  unfold OfPost at HO
  have hE' := hE
  generalize rightC ⟨s, a, e, f⟩ = c at *
  obtain ⟨s1, a1, e1, f1⟩ := c
  simp only at he hsz hX
  have HR : Hid (failC ⟨s1, a1, e1, f1⟩ er x = ⟨s1, a1, 3, (s1.size : Int)⟩) := by
    show _ = _
    rw [fail_B er x he]
    simp only [Cur.mk.injEq, true_and]
    unfold errV placeV
    refine ⟨?_, by omega⟩
    first | exact if_pos (by omega) | exact if_neg (by omega)
  have t0 : (e1 != 0) = false := by simp [he]
  have h1 : decide (er < 1) = false := by simp; omega
  have x1 : ¬ (x < 0) := by omega
  have x2 : (s1.size : Int) < x := by omega
  subst he
  go_enter Try.func22, Try.ntmps22
  go_wp2_with fail
  refine (HO.out _).mono ?_
  rintro r w1 ⟨g, rfl, hr, hg, hB⟩
  have hz := (Cu.new (w.alloc (.cells #[.string s, .int .i64 a, .int .i64 e, .int .i64 f] 28)) zeroCur 28).keep' hB
  rw [World.size_alloc] at hz
  simp at hg
  have hgn : w.heap.size + 1 ≠ g := by omega
  have hgn2 : ¬ (g = w.heap.size + 1) := by omega
  have p0 := hr.c0
  have p1 := hr.c1
  have p2 := hr.c2
  have p3 := hr.c3
  simp only at p0 p1 p2 p3
  have hBa := below_then (below_alloc (below_new (w := w) (.cells #[.string s, .int .i64 a, .int .i64 e, .int .i64 f] 28)) (.cells #[.string ByteArray.empty, .int .i64 0, .int .i64 0, .int .i64 0] 28)) hB
  go_wp2_with fail
  refine (bad_any g 0 _ p2).mono ?_
  rintro r w2 ⟨rfl, rfl⟩
  rw [t0]
  have y2 := hr.fz 2
  have y3 := hr.fz 3
  have hr1 := (hr.set2 3).set3 (s1.size : Int)
  have hz1 := (hz.setOther ⟨g, 2, none⟩ hgn (.int .i64 3)).setOther ⟨g, 3, none⟩ hgn (.int .i64 (s1.size : Int))
  have hB1 := (hBa.setCell (p := ⟨g, 2, none⟩) (by simp only; omega) (.int .i64 3)).setCell (p := ⟨g, 3, none⟩) (by simp only; omega) (.int .i64 (s1.size : Int))
  have k0 := hr1.c0
  have k1 := hr1.c1
  have k2 := hr1.c2
  have k3 := hr1.c3
  have q0 := hz1.c0
  have q1 := hz1.c1
  have q2 := hz1.c2
  have q3 := hz1.c3
  have z0 := hz1.fz 0
  have z1 := hz1.fz 1
  have z2 := hz1.fz 2
  have z3 := hz1.fz 3
  have hst := hz1.store ⟨s1, a1, 3, (s1.size : Int)⟩
  have r0 := hst.c0
  have r1 := hst.c1
  have r2 := hst.c2
  have r3 := hst.c3
  simp only [World.setCu] at r0 r1 r2 r3
  go_wp2
  refine bodyPost_ret (v := .agg #[.string s1, .int .i64 a1, .int .i64 3, .int .i64 (s1.size : Int)]) (by simp [results, Try.results22, go_sem, r0, r1, r2, r3]) rfl ⟨?_, ?_⟩
  · rw [HR.out]; rfl
  · exact setCu_below hB1 (by omega) ⟨s1, a1, 3, (s1.size : Int)⟩

set_option maxHeartbeats 1600000 in
theorem Fail_ok_a (s : ByteArray) (a e f er x : Int) (w : World) (hs : s.size ≤ 9223372036854775807) (he : (rightC ⟨s, a, e, f⟩).e = 0) (hE : 1 ≤ er ∧ er ≤ 31) (hX : x < 0) :
    Calls Try.prog 22 #[.agg #[.string s, .int .i64 a, .int .i64 e, .int .i64 f], .int .i64 er, .int .i64 x] w fun r w' => r = .returned ((failC (rightC ⟨s, a, e, f⟩) er x).val) ∧ Below w.heap.size w w' := by
  have HO := Lib.hid (fun W => of_any s a e f W hs)
  have hok := Lib.hid (rightC_ok ⟨s, a, e, f⟩)
  have hsz := rightC_size ⟨s, a, e, f⟩
  simp only at hsz
  unfold OfPost at HO
  have hE' := hE
  generalize rightC ⟨s, a, e, f⟩ = c at *
  obtain ⟨s1, a1, e1, f1⟩ := c
  simp only at he hsz hX
  have HR : Hid (failC ⟨s1, a1, e1, f1⟩ er x = ⟨s1, a1, er, 0⟩) := by
    show _ = _
    rw [fail_B er x he]
    simp only [Cur.mk.injEq, true_and]
    unfold errV placeV
    refine ⟨?_, by omega⟩
    first | exact if_pos (by omega) | exact if_neg (by omega)
  have t0 : (e1 != 0) = false := by simp [he]
  have h1 : decide (er < 1) = false := by simp; omega
  have h2 : decide (31 < er) = false := by simp; omega
  have x1 : ¬ ((s1.size : Int) < 0) := by omega
  subst he
  go_enter Try.func22, Try.ntmps22
  go_wp2_with fail
  refine (HO.out _).mono ?_
  rintro r w1 ⟨g, rfl, hr, hg, hB⟩
  have hz := (Cu.new (w.alloc (.cells #[.string s, .int .i64 a, .int .i64 e, .int .i64 f] 28)) zeroCur 28).keep' hB
  rw [World.size_alloc] at hz
  simp at hg
  have hgn : w.heap.size + 1 ≠ g := by omega
  have hgn2 : ¬ (g = w.heap.size + 1) := by omega
  have p0 := hr.c0
  have p1 := hr.c1
  have p2 := hr.c2
  have p3 := hr.c3
  simp only at p0 p1 p2 p3
  have hBa := below_then (below_alloc (below_new (w := w) (.cells #[.string s, .int .i64 a, .int .i64 e, .int .i64 f] 28)) (.cells #[.string ByteArray.empty, .int .i64 0, .int .i64 0, .int .i64 0] 28)) hB
  go_wp2_with fail
  refine (bad_any g 0 _ p2).mono ?_
  rintro r w2 ⟨rfl, rfl⟩
  rw [t0]
  have y2 := hr.fz 2
  have y3 := hr.fz 3
  have hr1 := (hr.set2 er).set3 0
  have hz1 := (hz.setOther ⟨g, 2, none⟩ hgn (.int .i64 er)).setOther ⟨g, 3, none⟩ hgn (.int .i64 0)
  have hB1 := (hBa.setCell (p := ⟨g, 2, none⟩) (by simp only; omega) (.int .i64 er)).setCell (p := ⟨g, 3, none⟩) (by simp only; omega) (.int .i64 0)
  have k0 := hr1.c0
  have k1 := hr1.c1
  have k2 := hr1.c2
  have k3 := hr1.c3
  have q0 := hz1.c0
  have q1 := hz1.c1
  have q2 := hz1.c2
  have q3 := hz1.c3
  have z0 := hz1.fz 0
  have z1 := hz1.fz 1
  have z2 := hz1.fz 2
  have z3 := hz1.fz 3
  have hst := hz1.store ⟨s1, a1, er, 0⟩
  have r0 := hst.c0
  have r1 := hst.c1
  have r2 := hst.c2
  have r3 := hst.c3
  simp only [World.setCu] at r0 r1 r2 r3
  go_wp2
  refine bodyPost_ret (v := .agg #[.string s1, .int .i64 a1, .int .i64 er, .int .i64 0]) (by simp [results, Try.results22, go_sem, r0, r1, r2, r3]) rfl ⟨?_, ?_⟩
  · rw [HR.out]; rfl
  · exact setCu_below hB1 (by omega) ⟨s1, a1, er, 0⟩

set_option maxHeartbeats 1600000 in
theorem Fail_ok_b (s : ByteArray) (a e f er x : Int) (w : World) (hs : s.size ≤ 9223372036854775807) (he : (rightC ⟨s, a, e, f⟩).e = 0) (hE : 1 ≤ er ∧ er ≤ 31) (hX : 0 ≤ x ∧ x ≤ ((rightC ⟨s, a, e, f⟩).s.size : Int)) :
    Calls Try.prog 22 #[.agg #[.string s, .int .i64 a, .int .i64 e, .int .i64 f], .int .i64 er, .int .i64 x] w fun r w' => r = .returned ((failC (rightC ⟨s, a, e, f⟩) er x).val) ∧ Below w.heap.size w w' := by
  have HO := Lib.hid (fun W => of_any s a e f W hs)
  have hok := Lib.hid (rightC_ok ⟨s, a, e, f⟩)
  have hsz := rightC_size ⟨s, a, e, f⟩
  simp only at hsz
  unfold OfPost at HO
  have hE' := hE
  generalize rightC ⟨s, a, e, f⟩ = c at *
  obtain ⟨s1, a1, e1, f1⟩ := c
  simp only at he hsz hX
  have HR : Hid (failC ⟨s1, a1, e1, f1⟩ er x = ⟨s1, a1, er, x⟩) := by
    show _ = _
    rw [fail_B er x he]
    simp only [Cur.mk.injEq, true_and]
    unfold errV placeV
    refine ⟨?_, by omega⟩
    first | exact if_pos (by omega) | exact if_neg (by omega)
  have t0 : (e1 != 0) = false := by simp [he]
  have h1 : decide (er < 1) = false := by simp; omega
  have h2 : decide (31 < er) = false := by simp; omega
  have x1 : ¬ (x < 0) := by omega
  have x2 : ¬ ((s1.size : Int) < x) := by omega
  subst he
  go_enter Try.func22, Try.ntmps22
  go_wp2_with fail
  refine (HO.out _).mono ?_
  rintro r w1 ⟨g, rfl, hr, hg, hB⟩
  have hz := (Cu.new (w.alloc (.cells #[.string s, .int .i64 a, .int .i64 e, .int .i64 f] 28)) zeroCur 28).keep' hB
  rw [World.size_alloc] at hz
  simp at hg
  have hgn : w.heap.size + 1 ≠ g := by omega
  have hgn2 : ¬ (g = w.heap.size + 1) := by omega
  have p0 := hr.c0
  have p1 := hr.c1
  have p2 := hr.c2
  have p3 := hr.c3
  simp only at p0 p1 p2 p3
  have hBa := below_then (below_alloc (below_new (w := w) (.cells #[.string s, .int .i64 a, .int .i64 e, .int .i64 f] 28)) (.cells #[.string ByteArray.empty, .int .i64 0, .int .i64 0, .int .i64 0] 28)) hB
  go_wp2_with fail
  refine (bad_any g 0 _ p2).mono ?_
  rintro r w2 ⟨rfl, rfl⟩
  rw [t0]
  have y2 := hr.fz 2
  have y3 := hr.fz 3
  have hr1 := (hr.set2 er).set3 x
  have hz1 := (hz.setOther ⟨g, 2, none⟩ hgn (.int .i64 er)).setOther ⟨g, 3, none⟩ hgn (.int .i64 x)
  have hB1 := (hBa.setCell (p := ⟨g, 2, none⟩) (by simp only; omega) (.int .i64 er)).setCell (p := ⟨g, 3, none⟩) (by simp only; omega) (.int .i64 x)
  have k0 := hr1.c0
  have k1 := hr1.c1
  have k2 := hr1.c2
  have k3 := hr1.c3
  have q0 := hz1.c0
  have q1 := hz1.c1
  have q2 := hz1.c2
  have q3 := hz1.c3
  have z0 := hz1.fz 0
  have z1 := hz1.fz 1
  have z2 := hz1.fz 2
  have z3 := hz1.fz 3
  have hst := hz1.store ⟨s1, a1, er, x⟩
  have r0 := hst.c0
  have r1 := hst.c1
  have r2 := hst.c2
  have r3 := hst.c3
  simp only [World.setCu] at r0 r1 r2 r3
  go_wp2
  refine bodyPost_ret (v := .agg #[.string s1, .int .i64 a1, .int .i64 er, .int .i64 x]) (by simp [results, Try.results22, go_sem, r0, r1, r2, r3]) rfl ⟨?_, ?_⟩
  · rw [HR.out]; rfl
  · exact setCu_below hB1 (by omega) ⟨s1, a1, er, x⟩

set_option maxHeartbeats 1600000 in
theorem Fail_ok_c (s : ByteArray) (a e f er x : Int) (w : World) (hs : s.size ≤ 9223372036854775807) (he : (rightC ⟨s, a, e, f⟩).e = 0) (hE : 1 ≤ er ∧ er ≤ 31) (hX : 0 ≤ x ∧ ((rightC ⟨s, a, e, f⟩).s.size : Int) < x) :
    Calls Try.prog 22 #[.agg #[.string s, .int .i64 a, .int .i64 e, .int .i64 f], .int .i64 er, .int .i64 x] w fun r w' => r = .returned ((failC (rightC ⟨s, a, e, f⟩) er x).val) ∧ Below w.heap.size w w' := by
  have HO := Lib.hid (fun W => of_any s a e f W hs)
  have hok := Lib.hid (rightC_ok ⟨s, a, e, f⟩)
  have hsz := rightC_size ⟨s, a, e, f⟩
  simp only at hsz
  unfold OfPost at HO
  have hE' := hE
  generalize rightC ⟨s, a, e, f⟩ = c at *
  obtain ⟨s1, a1, e1, f1⟩ := c
  simp only at he hsz hX
  have HR : Hid (failC ⟨s1, a1, e1, f1⟩ er x = ⟨s1, a1, er, (s1.size : Int)⟩) := by
    show _ = _
    rw [fail_B er x he]
    simp only [Cur.mk.injEq, true_and]
    unfold errV placeV
    refine ⟨?_, by omega⟩
    first | exact if_pos (by omega) | exact if_neg (by omega)
  have t0 : (e1 != 0) = false := by simp [he]
  have h1 : decide (er < 1) = false := by simp; omega
  have h2 : decide (31 < er) = false := by simp; omega
  have x1 : ¬ (x < 0) := by omega
  have x2 : (s1.size : Int) < x := by omega
  subst he
  go_enter Try.func22, Try.ntmps22
  go_wp2_with fail
  refine (HO.out _).mono ?_
  rintro r w1 ⟨g, rfl, hr, hg, hB⟩
  have hz := (Cu.new (w.alloc (.cells #[.string s, .int .i64 a, .int .i64 e, .int .i64 f] 28)) zeroCur 28).keep' hB
  rw [World.size_alloc] at hz
  simp at hg
  have hgn : w.heap.size + 1 ≠ g := by omega
  have hgn2 : ¬ (g = w.heap.size + 1) := by omega
  have p0 := hr.c0
  have p1 := hr.c1
  have p2 := hr.c2
  have p3 := hr.c3
  simp only at p0 p1 p2 p3
  have hBa := below_then (below_alloc (below_new (w := w) (.cells #[.string s, .int .i64 a, .int .i64 e, .int .i64 f] 28)) (.cells #[.string ByteArray.empty, .int .i64 0, .int .i64 0, .int .i64 0] 28)) hB
  go_wp2_with fail
  refine (bad_any g 0 _ p2).mono ?_
  rintro r w2 ⟨rfl, rfl⟩
  rw [t0]
  have y2 := hr.fz 2
  have y3 := hr.fz 3
  have hr1 := (hr.set2 er).set3 (s1.size : Int)
  have hz1 := (hz.setOther ⟨g, 2, none⟩ hgn (.int .i64 er)).setOther ⟨g, 3, none⟩ hgn (.int .i64 (s1.size : Int))
  have hB1 := (hBa.setCell (p := ⟨g, 2, none⟩) (by simp only; omega) (.int .i64 er)).setCell (p := ⟨g, 3, none⟩) (by simp only; omega) (.int .i64 (s1.size : Int))
  have k0 := hr1.c0
  have k1 := hr1.c1
  have k2 := hr1.c2
  have k3 := hr1.c3
  have q0 := hz1.c0
  have q1 := hz1.c1
  have q2 := hz1.c2
  have q3 := hz1.c3
  have z0 := hz1.fz 0
  have z1 := hz1.fz 1
  have z2 := hz1.fz 2
  have z3 := hz1.fz 3
  have hst := hz1.store ⟨s1, a1, er, (s1.size : Int)⟩
  have r0 := hst.c0
  have r1 := hst.c1
  have r2 := hst.c2
  have r3 := hst.c3
  simp only [World.setCu] at r0 r1 r2 r3
  go_wp2
  refine bodyPost_ret (v := .agg #[.string s1, .int .i64 a1, .int .i64 er, .int .i64 (s1.size : Int)]) (by simp [results, Try.results22, go_sem, r0, r1, r2, r3]) rfl ⟨?_, ?_⟩
  · rw [HR.out]; rfl
  · exact setCu_below hB1 (by omega) ⟨s1, a1, er, (s1.size : Int)⟩

theorem Fail_any (s : ByteArray) (a e f er x : Int) (w : World) (hs : s.size ≤ 9223372036854775807) :
    Calls Try.prog 22 #[.agg #[.string s, .int .i64 a, .int .i64 e, .int .i64 f], .int .i64 er, .int .i64 x] w fun r w' => r = .returned ((failC (rightC ⟨s, a, e, f⟩) er x).val) ∧ Below w.heap.size w w' := by
  by_cases he : (rightC ⟨s, a, e, f⟩).e = 0
  · by_cases x0 : x < 0
    · by_cases h1 : er < 1
      · exact Fail_lo_a s a e f er x w hs he h1 x0
      · by_cases h2 : 31 < er
        · exact Fail_hi_a s a e f er x w hs he h2 x0
        · exact Fail_ok_a s a e f er x w hs he (by omega) x0
    · by_cases x1 : ((rightC ⟨s, a, e, f⟩).s.size : Int) < x
      · by_cases h1 : er < 1
        · exact Fail_lo_c s a e f er x w hs he h1 (by omega)
        · by_cases h2 : 31 < er
          · exact Fail_hi_c s a e f er x w hs he h2 (by omega)
          · exact Fail_ok_c s a e f er x w hs he (by omega) (by omega)
      · by_cases h1 : er < 1
        · exact Fail_lo_b s a e f er x w hs he h1 (by omega)
        · by_cases h2 : 31 < er
          · exact Fail_hi_b s a e f er x w hs he h2 (by omega)
          · exact Fail_ok_b s a e f er x w hs he (by omega) (by omega)
  · exact Fail_A s a e f er x w hs he

/-- A block that holds a fault. -/
def Fb (W : World) (g : Nat) (x y : Int) : Prop := W.heap[g]? = some (.cells #[.int .i64 x, .int .i64 y] 26 (0, 0))
section
variable {W W' : World} {g k : Nat} {x y : Int}
theorem Fb.c0 (h : Fb W g x y) : W.cell? ⟨g, 0, none⟩ = some (.int .i64 x) := (Joins.cell_of_block h 0).trans rfl
theorem Fb.c1 (h : Fb W g x y) : W.cell? ⟨g, 1, none⟩ = some (.int .i64 y) := (Joins.cell_of_block h 1).trans rfl
theorem Fb.fz (h : Fb W g x y) (i : Nat) : W.frozen? ⟨g, i, none⟩ = false := Joins.unfrozen_of_block h i
theorem Fb.lt (h : Fb W g x y) : g < W.heap.size := by
  rcases Nat.lt_or_ge g W.heap.size with h' | h'
  · exact h'
  · unfold Fb at h; rw [Array.getElem?_eq_none h'] at h; cases h
theorem Fb.keep' (h : Fb W g x y) (hb : Below W.heap.size W W') : Fb W' g x y := (hb.block g h.lt).trans h
theorem Fb.new (W : World) (x y : Int) : Fb (W.alloc (.cells #[.int .i64 x, .int .i64 y] 26)) W.heap.size x y := heap_alloc_new _ _
theorem Fb.drewN (h : Fb W g x y) (n : Nat) : Fb (W.drewN n) g x y := h
theorem Fb.store (h : Fb W g x y) (u v : Int) : Fb ((W.setCell ⟨g, 0, none⟩ (.int .i64 u)).setCell ⟨g, 1, none⟩ (.int .i64 v)) g u v := (Joins.block_setCell (i := 1) ((Joins.block_setCell (i := 0) h (.int .i64 u)).trans rfl) (.int .i64 v)).trans rfl
end

set_option maxHeartbeats 1600000 in
theorem End_A (s : ByteArray) (a e f : Int) (w : World) (hs : s.size ≤ 9223372036854775807) (he : (rightC ⟨s, a, e, f⟩).e ≠ 0) :
    Calls Try.prog 24 #[.agg #[.string s, .int .i64 a, .int .i64 e, .int .i64 f]] w fun r w' => r = .returned (.agg #[.int .i64 (endE (rightC ⟨s, a, e, f⟩)), .int .i64 (endF (rightC ⟨s, a, e, f⟩))]) ∧ Below w.heap.size w w' := by
  have HO := Lib.hid (fun W => of_any s a e f W hs)
  have hok := Lib.hid (rightC_ok ⟨s, a, e, f⟩)
  have hsz := rightC_size ⟨s, a, e, f⟩
  simp only at hsz
  unfold OfPost at HO
  generalize rightC ⟨s, a, e, f⟩ = c at *
  obtain ⟨s1, a1, e1, f1⟩ := c
  simp only at he hsz
  have HE : Hid (endE ⟨s1, a1, e1, f1⟩ = e1) := by show (if _ then _ else _) = _; rw [if_neg (by simp only; omega)]
  have HF : Hid (endF ⟨s1, a1, e1, f1⟩ = f1) := by show (if _ then _ else _) = _; rw [if_neg (by simp only; omega)]
  have HL : Hid (leftC ⟨s1, a1, 0, f1⟩ = (s1.size : Int) - a1) := if_pos rfl
  have hba := hok.out.1
  simp only at hba
  have t0 : (e1 != 0) = true := by simp [he]
  clear he
  go_enter Try.func24, Try.ntmps24
  go_wp2_with fail
  refine (HO.out _).mono ?_
  rintro r w1 ⟨g, rfl, hr, hg, hB⟩
  have hz := (Fb.new (w.alloc (.cells #[.string s, .int .i64 a, .int .i64 e, .int .i64 f] 28)) 0 0).keep' hB
  rw [World.size_alloc] at hz
  simp at hg
  have hgn : w.heap.size + 1 ≠ g := by omega
  have p0 := hr.c0
  have p1 := hr.c1
  have p2 := hr.c2
  have p3 := hr.c3
  simp only at p0 p1 p2 p3
  have hBa := below_then (below_alloc (below_new (w := w) (.cells #[.string s, .int .i64 a, .int .i64 e, .int .i64 f] 28)) (.cells #[.int .i64 0, .int .i64 0] 26)) hB
  go_wp2_with fail
  refine (bad_any g e1 _ p2).mono ?_
  rintro r w2 ⟨rfl, rfl⟩
  rw [t0]
  have hz2 := hz
  have q0 := hz2.c0
  have q1 := hz2.c1
  have z0 := hz2.fz 0
  have z1 := hz2.fz 1
  have hst := hz2.store e1 f1
  have r0 := hst.c0
  have r1 := hst.c1
  go_wp2
  refine bodyPost_ret (v := .agg #[.int .i64 e1, .int .i64 f1]) (by simp [results, Try.results24, go_sem, r0, r1]) rfl ⟨?_, ?_⟩
  · rw [HE.out, HF.out]
  · exact (((hBa).setCell (p := ⟨w.heap.size + 1, 0, none⟩) (by simp only; omega) _).setCell (p := ⟨w.heap.size + 1, 1, none⟩) (by simp only; omega) _)

set_option maxHeartbeats 1600000 in
theorem End_B (s : ByteArray) (a e f : Int) (w : World) (hs : s.size ≤ 9223372036854775807) (he : (rightC ⟨s, a, e, f⟩).e = 0) (hA : (rightC ⟨s, a, e, f⟩).a < ((rightC ⟨s, a, e, f⟩).s.size : Int)) :
    Calls Try.prog 24 #[.agg #[.string s, .int .i64 a, .int .i64 e, .int .i64 f]] w fun r w' => r = .returned (.agg #[.int .i64 (endE (rightC ⟨s, a, e, f⟩)), .int .i64 (endF (rightC ⟨s, a, e, f⟩))]) ∧ Below w.heap.size w w' := by
  have HO := Lib.hid (fun W => of_any s a e f W hs)
  have hok := Lib.hid (rightC_ok ⟨s, a, e, f⟩)
  have hsz := rightC_size ⟨s, a, e, f⟩
  simp only at hsz
  unfold OfPost at HO
  generalize rightC ⟨s, a, e, f⟩ = c at *
  obtain ⟨s1, a1, e1, f1⟩ := c
  simp only at he hA hsz
  have HE : Hid (endE ⟨s1, a1, e1, f1⟩ = 4) := by show (if _ then _ else _) = _; rw [if_pos ⟨he, hA⟩]
  have HF : Hid (endF ⟨s1, a1, e1, f1⟩ = a1) := by show (if _ then _ else _) = _; rw [if_pos ⟨he, hA⟩]
  have HL : Hid (leftC ⟨s1, a1, 0, f1⟩ = (s1.size : Int) - a1) := if_pos rfl
  have hba := hok.out.1
  simp only at hba
  have t0 : (e1 != 0) = false := by simp [he]
  have t1 : decide ((0 : Int) < (s1.size : Int) - a1) = true := by simp; omega
  subst he
  go_enter Try.func24, Try.ntmps24
  go_wp2_with fail
  refine (HO.out _).mono ?_
  rintro r w1 ⟨g, rfl, hr, hg, hB⟩
  have hz := (Fb.new (w.alloc (.cells #[.string s, .int .i64 a, .int .i64 e, .int .i64 f] 28)) 0 0).keep' hB
  rw [World.size_alloc] at hz
  simp at hg
  have hgn : w.heap.size + 1 ≠ g := by omega
  have p0 := hr.c0
  have p1 := hr.c1
  have p2 := hr.c2
  have p3 := hr.c3
  simp only at p0 p1 p2 p3
  have hBa := below_then (below_alloc (below_new (w := w) (.cells #[.string s, .int .i64 a, .int .i64 e, .int .i64 f] 28)) (.cells #[.int .i64 0, .int .i64 0] 26)) hB
  go_wp2_with fail
  refine (bad_any g 0 _ p2).mono ?_
  rintro r w2 ⟨rfl, rfl⟩
  rw [t0]
  go_wp2_with fail
  refine (left_any g ⟨s1, a1, 0, f1⟩ _ hr hok.out (by simp only; omega)).mono ?_
  rintro r w2 ⟨rfl, kq, rfl⟩
  rw [HL.out]
  have hz2 := hz.drewN kq
  have q0 := hz2.c0
  have q1 := hz2.c1
  have z0 := hz2.fz 0
  have z1 := hz2.fz 1
  have hst := hz2.store 4 a1
  have r0 := hst.c0
  have r1 := hst.c1
  go_wp2
  refine bodyPost_ret (v := .agg #[.int .i64 4, .int .i64 a1]) (by simp [results, Try.results24, go_sem, r0, r1]) rfl ⟨?_, ?_⟩
  · rw [HE.out, HF.out]
  · exact (((below_drewN hBa kq).setCell (p := ⟨w.heap.size + 1, 0, none⟩) (by simp only; omega) _).setCell (p := ⟨w.heap.size + 1, 1, none⟩) (by simp only; omega) _)

set_option maxHeartbeats 1600000 in
theorem End_C (s : ByteArray) (a e f : Int) (w : World) (hs : s.size ≤ 9223372036854775807) (he : (rightC ⟨s, a, e, f⟩).e = 0) (hA : ¬ (rightC ⟨s, a, e, f⟩).a < ((rightC ⟨s, a, e, f⟩).s.size : Int)) :
    Calls Try.prog 24 #[.agg #[.string s, .int .i64 a, .int .i64 e, .int .i64 f]] w fun r w' => r = .returned (.agg #[.int .i64 (endE (rightC ⟨s, a, e, f⟩)), .int .i64 (endF (rightC ⟨s, a, e, f⟩))]) ∧ Below w.heap.size w w' := by
  have HO := Lib.hid (fun W => of_any s a e f W hs)
  have hok := Lib.hid (rightC_ok ⟨s, a, e, f⟩)
  have hsz := rightC_size ⟨s, a, e, f⟩
  simp only at hsz
  unfold OfPost at HO
  generalize rightC ⟨s, a, e, f⟩ = c at *
  obtain ⟨s1, a1, e1, f1⟩ := c
  simp only at he hA hsz
  have HE : Hid (endE ⟨s1, a1, e1, f1⟩ = e1) := by show (if _ then _ else _) = _; rw [if_neg (by simp only; omega)]
  have HF : Hid (endF ⟨s1, a1, e1, f1⟩ = f1) := by show (if _ then _ else _) = _; rw [if_neg (by simp only; omega)]
  have HL : Hid (leftC ⟨s1, a1, 0, f1⟩ = (s1.size : Int) - a1) := if_pos rfl
  have hba := hok.out.1
  simp only at hba
  have t0 : (e1 != 0) = false := by simp [he]
  have t1 : decide ((0 : Int) < (s1.size : Int) - a1) = false := by simp; omega
  subst he
  go_enter Try.func24, Try.ntmps24
  go_wp2_with fail
  refine (HO.out _).mono ?_
  rintro r w1 ⟨g, rfl, hr, hg, hB⟩
  have hz := (Fb.new (w.alloc (.cells #[.string s, .int .i64 a, .int .i64 e, .int .i64 f] 28)) 0 0).keep' hB
  rw [World.size_alloc] at hz
  simp at hg
  have hgn : w.heap.size + 1 ≠ g := by omega
  have p0 := hr.c0
  have p1 := hr.c1
  have p2 := hr.c2
  have p3 := hr.c3
  simp only at p0 p1 p2 p3
  have hBa := below_then (below_alloc (below_new (w := w) (.cells #[.string s, .int .i64 a, .int .i64 e, .int .i64 f] 28)) (.cells #[.int .i64 0, .int .i64 0] 26)) hB
  go_wp2_with fail
  refine (bad_any g 0 _ p2).mono ?_
  rintro r w2 ⟨rfl, rfl⟩
  rw [t0]
  go_wp2_with fail
  refine (left_any g ⟨s1, a1, 0, f1⟩ _ hr hok.out (by simp only; omega)).mono ?_
  rintro r w2 ⟨rfl, kq, rfl⟩
  rw [HL.out]
  have hz2 := hz.drewN kq
  have q0 := hz2.c0
  have q1 := hz2.c1
  have z0 := hz2.fz 0
  have z1 := hz2.fz 1
  have hst := hz2.store 0 f1
  have r0 := hst.c0
  have r1 := hst.c1
  go_wp2
  refine bodyPost_ret (v := .agg #[.int .i64 0, .int .i64 f1]) (by simp [results, Try.results24, go_sem, r0, r1]) rfl ⟨?_, ?_⟩
  · rw [HE.out, HF.out]
  · exact (((below_drewN hBa kq).setCell (p := ⟨w.heap.size + 1, 0, none⟩) (by simp only; omega) _).setCell (p := ⟨w.heap.size + 1, 1, none⟩) (by simp only; omega) _)

theorem End_any (s : ByteArray) (a e f : Int) (w : World) (hs : s.size ≤ 9223372036854775807) :
    Calls Try.prog 24 #[.agg #[.string s, .int .i64 a, .int .i64 e, .int .i64 f]] w fun r w' => r = .returned (.agg #[.int .i64 (endE (rightC ⟨s, a, e, f⟩)), .int .i64 (endF (rightC ⟨s, a, e, f⟩))]) ∧ Below w.heap.size w w' := by
  by_cases he : (rightC ⟨s, a, e, f⟩).e = 0
  · by_cases hA : (rightC ⟨s, a, e, f⟩).a < ((rightC ⟨s, a, e, f⟩).s.size : Int)
    · exact End_B s a e f w hs he hA
    · exact End_C s a e f w hs he hA
  · exact End_A s a e f w hs he

end Go.Proofs.Ytboajmnckldmiaa
