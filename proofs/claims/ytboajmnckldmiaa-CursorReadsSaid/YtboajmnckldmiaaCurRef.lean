/-
  The walks of the references of Check, New, Left, and of right and fail.
-/
import Derived.Test.YtboajmnckldmiaaCurProg4
namespace Go.Proofs.Ytboajmnckldmiaa
open Go.RowKit
set_option linter.unusedVariables false
set_option maxRecDepth 100000

set_option maxHeartbeats 1600000 in
theorem rCheck04_c0 (s : ByteArray) (a e f : Int) (w : World) (hs : s.size ≤ 9223372036854775807)  (h0 : a < 0) :
    Calls Try.prog 27 #[.agg #[.string s, .int .i64 a, .int .i64 e, .int .i64 f]] w fun r w' => r = .returned (.int .i64 (checkV ⟨s, a, e, f⟩)) ∧ Below w.heap.size w w' := by
  have HR : Hid (checkV ⟨s, a, e, f⟩ = 10) := by show (if _ then _ else _) = _; exact if_neg (by unfold CurOk; simp only; omega)
  go_enter Try.func27, Try.ntmps27
  go_wp2
  go_ret
  exact ⟨ret_int HR.out.symm, (((Below.refl _ _).alloc (Nat.le_refl _) _).alloc (by simp) _)⟩

set_option maxHeartbeats 1600000 in
theorem rCheck04_c1 (s : ByteArray) (a e f : Int) (w : World) (hs : s.size ≤ 9223372036854775807) (h0 : ¬ (a < 0)) (h1 : (s.size : Int) < a) :
    Calls Try.prog 27 #[.agg #[.string s, .int .i64 a, .int .i64 e, .int .i64 f]] w fun r w' => r = .returned (.int .i64 (checkV ⟨s, a, e, f⟩)) ∧ Below w.heap.size w w' := by
  have HR : Hid (checkV ⟨s, a, e, f⟩ = 10) := by show (if _ then _ else _) = _; exact if_neg (by unfold CurOk; simp only; omega)
  have t0 : decide (a < 0) = false := by simp; omega
  go_enter Try.func27, Try.ntmps27
  go_wp2
  go_ret
  exact ⟨ret_int HR.out.symm, (((Below.refl _ _).alloc (Nat.le_refl _) _).alloc (by simp) _)⟩

set_option maxHeartbeats 1600000 in
theorem rCheck04_c2 (s : ByteArray) (a e f : Int) (w : World) (hs : s.size ≤ 9223372036854775807) (h0 : ¬ (a < 0)) (h1 : ¬ ((s.size : Int) < a)) (h2 : e < 0) :
    Calls Try.prog 27 #[.agg #[.string s, .int .i64 a, .int .i64 e, .int .i64 f]] w fun r w' => r = .returned (.int .i64 (checkV ⟨s, a, e, f⟩)) ∧ Below w.heap.size w w' := by
  have HR : Hid (checkV ⟨s, a, e, f⟩ = 10) := by show (if _ then _ else _) = _; exact if_neg (by unfold CurOk; simp only; omega)
  have t0 : decide (a < 0) = false := by simp; omega
  have t1 : decide ((s.size : Int) < a) = false := by simp; omega
  go_enter Try.func27, Try.ntmps27
  go_wp2
  go_ret
  exact ⟨ret_int HR.out.symm, (((Below.refl _ _).alloc (Nat.le_refl _) _).alloc (by simp) _)⟩

set_option maxHeartbeats 1600000 in
theorem rCheck04_c3 (s : ByteArray) (a e f : Int) (w : World) (hs : s.size ≤ 9223372036854775807) (h0 : ¬ (a < 0)) (h1 : ¬ ((s.size : Int) < a)) (h2 : ¬ (e < 0)) (h3 : 31 < e) :
    Calls Try.prog 27 #[.agg #[.string s, .int .i64 a, .int .i64 e, .int .i64 f]] w fun r w' => r = .returned (.int .i64 (checkV ⟨s, a, e, f⟩)) ∧ Below w.heap.size w w' := by
  have HR : Hid (checkV ⟨s, a, e, f⟩ = 10) := by show (if _ then _ else _) = _; exact if_neg (by unfold CurOk; simp only; omega)
  have t0 : decide (a < 0) = false := by simp; omega
  have t1 : decide ((s.size : Int) < a) = false := by simp; omega
  have t2 : decide (e < 0) = false := by simp; omega
  go_enter Try.func27, Try.ntmps27
  go_wp2
  go_ret
  exact ⟨ret_int HR.out.symm, (((Below.refl _ _).alloc (Nat.le_refl _) _).alloc (by simp) _)⟩

set_option maxHeartbeats 1600000 in
theorem rCheck04_c4 (s : ByteArray) (a e f : Int) (w : World) (hs : s.size ≤ 9223372036854775807) (h0 : ¬ (a < 0)) (h1 : ¬ ((s.size : Int) < a)) (h2 : ¬ (e < 0)) (h3 : ¬ (31 < e)) (h4 : f < 0) :
    Calls Try.prog 27 #[.agg #[.string s, .int .i64 a, .int .i64 e, .int .i64 f]] w fun r w' => r = .returned (.int .i64 (checkV ⟨s, a, e, f⟩)) ∧ Below w.heap.size w w' := by
  have HR : Hid (checkV ⟨s, a, e, f⟩ = 10) := by show (if _ then _ else _) = _; exact if_neg (by unfold CurOk; simp only; omega)
  have t0 : decide (a < 0) = false := by simp; omega
  have t1 : decide ((s.size : Int) < a) = false := by simp; omega
  have t2 : decide (e < 0) = false := by simp; omega
  have t3 : decide (31 < e) = false := by simp; omega
  go_enter Try.func27, Try.ntmps27
  go_wp2
  go_ret
  exact ⟨ret_int HR.out.symm, (((Below.refl _ _).alloc (Nat.le_refl _) _).alloc (by simp) _)⟩

set_option maxHeartbeats 1600000 in
theorem rCheck04_c5 (s : ByteArray) (a e f : Int) (w : World) (hs : s.size ≤ 9223372036854775807) (h0 : ¬ (a < 0)) (h1 : ¬ ((s.size : Int) < a)) (h2 : ¬ (e < 0)) (h3 : ¬ (31 < e)) (h4 : ¬ (f < 0)) (h5 : (s.size : Int) < f) :
    Calls Try.prog 27 #[.agg #[.string s, .int .i64 a, .int .i64 e, .int .i64 f]] w fun r w' => r = .returned (.int .i64 (checkV ⟨s, a, e, f⟩)) ∧ Below w.heap.size w w' := by
  have HR : Hid (checkV ⟨s, a, e, f⟩ = 10) := by show (if _ then _ else _) = _; exact if_neg (by unfold CurOk; simp only; omega)
  have t0 : decide (a < 0) = false := by simp; omega
  have t1 : decide ((s.size : Int) < a) = false := by simp; omega
  have t2 : decide (e < 0) = false := by simp; omega
  have t3 : decide (31 < e) = false := by simp; omega
  have t4 : decide (f < 0) = false := by simp; omega
  go_enter Try.func27, Try.ntmps27
  go_wp2
  go_ret
  exact ⟨ret_int HR.out.symm, (((Below.refl _ _).alloc (Nat.le_refl _) _).alloc (by simp) _)⟩

set_option maxHeartbeats 1600000 in
theorem rCheck04_c6 (s : ByteArray) (a e f : Int) (w : World) (hs : s.size ≤ 9223372036854775807) (h0 : ¬ (a < 0)) (h1 : ¬ ((s.size : Int) < a)) (h2 : ¬ (e < 0)) (h3 : ¬ (31 < e)) (h4 : ¬ (f < 0)) (h5 : ¬ ((s.size : Int) < f)) (h6 : e = 0) (h7 : f ≠ 0) :
    Calls Try.prog 27 #[.agg #[.string s, .int .i64 a, .int .i64 e, .int .i64 f]] w fun r w' => r = .returned (.int .i64 (checkV ⟨s, a, e, f⟩)) ∧ Below w.heap.size w w' := by
  have HR : Hid (checkV ⟨s, a, e, f⟩ = 10) := by show (if _ then _ else _) = _; exact if_neg (by unfold CurOk; simp only; omega)
  have t0 : decide (a < 0) = false := by simp; omega
  have t1 : decide ((s.size : Int) < a) = false := by simp; omega
  have t2 : decide (e < 0) = false := by simp; omega
  have t3 : decide (31 < e) = false := by simp; omega
  have t4 : decide (f < 0) = false := by simp; omega
  have t5 : decide ((s.size : Int) < f) = false := by simp; omega
  have t6 : (e == 0) = true := by simp [h6]
  have t7 : (f != 0) = true := by simp [h7]
  clear h6 h7
  go_enter Try.func27, Try.ntmps27
  go_wp2
  go_ret
  exact ⟨ret_int HR.out.symm, (((Below.refl _ _).alloc (Nat.le_refl _) _).alloc (by simp) _)⟩

set_option maxHeartbeats 1600000 in
theorem rCheck04_c7 (s : ByteArray) (a e f : Int) (w : World) (hs : s.size ≤ 9223372036854775807) (h0 : ¬ (a < 0)) (h1 : ¬ ((s.size : Int) < a)) (h2 : ¬ (e < 0)) (h3 : ¬ (31 < e)) (h4 : ¬ (f < 0)) (h5 : ¬ ((s.size : Int) < f)) (h6 : e = 0) (h7 : f = 0) :
    Calls Try.prog 27 #[.agg #[.string s, .int .i64 a, .int .i64 e, .int .i64 f]] w fun r w' => r = .returned (.int .i64 (checkV ⟨s, a, e, f⟩)) ∧ Below w.heap.size w w' := by
  have HR : Hid (checkV ⟨s, a, e, f⟩ = 0) := by show (if _ then _ else _) = _; exact if_pos (by unfold CurOk; simp only; omega)
  have t0 : decide (a < 0) = false := by simp; omega
  have t1 : decide ((s.size : Int) < a) = false := by simp; omega
  have t2 : decide (e < 0) = false := by simp; omega
  have t3 : decide (31 < e) = false := by simp; omega
  have t4 : decide (f < 0) = false := by simp; omega
  have t5 : decide ((s.size : Int) < f) = false := by simp; omega
  have t6 : (e == 0) = true := by simp [h6]
  have t7 : (f != 0) = false := by simp [h7]
  clear h6 h7
  go_enter Try.func27, Try.ntmps27
  go_wp2
  go_ret
  exact ⟨ret_int HR.out.symm, (((Below.refl _ _).alloc (Nat.le_refl _) _).alloc (by simp) _)⟩

set_option maxHeartbeats 1600000 in
theorem rCheck04_c8 (s : ByteArray) (a e f : Int) (w : World) (hs : s.size ≤ 9223372036854775807) (h0 : ¬ (a < 0)) (h1 : ¬ ((s.size : Int) < a)) (h2 : ¬ (e < 0)) (h3 : ¬ (31 < e)) (h4 : ¬ (f < 0)) (h5 : ¬ ((s.size : Int) < f)) (h6 : e ≠ 0) :
    Calls Try.prog 27 #[.agg #[.string s, .int .i64 a, .int .i64 e, .int .i64 f]] w fun r w' => r = .returned (.int .i64 (checkV ⟨s, a, e, f⟩)) ∧ Below w.heap.size w w' := by
  have HR : Hid (checkV ⟨s, a, e, f⟩ = 0) := by show (if _ then _ else _) = _; exact if_pos (by unfold CurOk; simp only; omega)
  have t0 : decide (a < 0) = false := by simp; omega
  have t1 : decide ((s.size : Int) < a) = false := by simp; omega
  have t2 : decide (e < 0) = false := by simp; omega
  have t3 : decide (31 < e) = false := by simp; omega
  have t4 : decide (f < 0) = false := by simp; omega
  have t5 : decide ((s.size : Int) < f) = false := by simp; omega
  have t6 : (e == 0) = false := by simp [h6]
  clear h6
  go_enter Try.func27, Try.ntmps27
  go_wp2
  go_ret
  exact ⟨ret_int HR.out.symm, (((Below.refl _ _).alloc (Nat.le_refl _) _).alloc (by simp) _)⟩

set_option maxHeartbeats 1600000 in
theorem rCheck04_any (s : ByteArray) (a e f : Int) (w : World) (hs : s.size ≤ 9223372036854775807)  :
    Calls Try.prog 27 #[.agg #[.string s, .int .i64 a, .int .i64 e, .int .i64 f]] w fun r w' => r = .returned (.int .i64 (checkV ⟨s, a, e, f⟩)) ∧ Below w.heap.size w w' := by
  by_cases h0 : a < 0
  · exact rCheck04_c0 s a e f w hs h0
  by_cases h1 : (s.size : Int) < a
  · exact rCheck04_c1 s a e f w hs h0 h1
  by_cases h2 : e < 0
  · exact rCheck04_c2 s a e f w hs h0 h1 h2
  by_cases h3 : 31 < e
  · exact rCheck04_c3 s a e f w hs h0 h1 h2 h3
  by_cases h4 : f < 0
  · exact rCheck04_c4 s a e f w hs h0 h1 h2 h3 h4
  by_cases h5 : (s.size : Int) < f
  · exact rCheck04_c5 s a e f w hs h0 h1 h2 h3 h4 h5
  by_cases h6 : e = 0
  · by_cases h7 : f = 0
    · exact rCheck04_c7 s a e f w hs h0 h1 h2 h3 h4 h5 h6 h7
    · exact rCheck04_c6 s a e f w hs h0 h1 h2 h3 h4 h5 h6 h7
  · exact rCheck04_c8 s a e f w hs h0 h1 h2 h3 h4 h5 h6

set_option maxHeartbeats 1600000 in
theorem right_ok (s : ByteArray) (a e f : Int) (w : World) (hs : s.size ≤ 9223372036854775807) (h : CurOk ⟨s, a, e, f⟩) :
    Calls Try.prog 57 #[.agg #[.string s, .int .i64 a, .int .i64 e, .int .i64 f]] w fun r w' => r = .returned ((rightC ⟨s, a, e, f⟩).val) ∧ Below w.heap.size w w' := by
  have HV := Lib.hid (fun W => rCheck04_any s a e f W hs)
  have HB : Hid (checkV ⟨s, a, e, f⟩ = 0) := if_pos h
  have HR : Hid (rightC ⟨s, a, e, f⟩ = ⟨s, a, e, f⟩) := if_pos h
  clear h
  go_enter Try.func57, Try.ntmps57
  go_wp2_with fail
  refine (HV.out _).mono ?_
  rintro r w1 ⟨rfl, hB⟩
  rw [HB.out]
  have hb := ((Cu.new w ⟨s, a, e, f⟩ 28).alloc (.cells #[.string ByteArray.empty, .int .i64 0, .int .i64 0, .int .i64 0] 28)).keep' hB
  have hz := (Cu.new (w.alloc (.cells #[.string s, .int .i64 a, .int .i64 e, .int .i64 f] 28)) zeroCur 28).keep' hB
  rw [World.size_alloc] at hz
  have b0 := hb.c0
  have b1 := hb.c1
  have b2 := hb.c2
  have b3 := hb.c3
  have q0 := hz.c0
  have q1 := hz.c1
  have q2 := hz.c2
  have q3 := hz.c3
  have z0 := hz.fz 0
  have z1 := hz.fz 1
  have z2 := hz.fz 2
  have z3 := hz.fz 3
  have hst := hz.store ⟨s, a, e, f⟩
  have r0 := hst.c0
  have r1 := hst.c1
  have r2 := hst.c2
  have r3 := hst.c3
  simp only [World.setCu] at r0 r1 r2 r3
  go_wp2
  refine bodyPost_ret (v := .agg #[.string s, .int .i64 a, .int .i64 e, .int .i64 f]) (by first | simp [results, Try.results57, go_sem, r0, r1, r2, r3] | (simp [ByteArray.empty, ByteArray.emptyWithCapacity] at r0; simp [results, Try.results57, go_sem, r0, r1, r2, r3])) rfl ⟨?_, ?_⟩
  · rw [HR.out]; rfl
  · exact setCu_below (below_then (below_alloc (below_new _) _) hB) (by omega) ⟨s, a, e, f⟩

set_option maxHeartbeats 1600000 in
theorem right_bad (s : ByteArray) (a e f : Int) (w : World) (hs : s.size ≤ 9223372036854775807) (h : ¬ CurOk ⟨s, a, e, f⟩) :
    Calls Try.prog 57 #[.agg #[.string s, .int .i64 a, .int .i64 e, .int .i64 f]] w fun r w' => r = .returned ((rightC ⟨s, a, e, f⟩).val) ∧ Below w.heap.size w w' := by
  have HV := Lib.hid (fun W => rCheck04_any s a e f W hs)
  have HB : Hid (checkV ⟨s, a, e, f⟩ = 10) := if_neg h
  have HR : Hid (rightC ⟨s, a, e, f⟩ = emptyCur) := if_neg h
  clear h
  go_enter Try.func57, Try.ntmps57
  go_wp2_with fail
  refine (HV.out _).mono ?_
  rintro r w1 ⟨rfl, hB⟩
  rw [HB.out]
  have hb := ((Cu.new w ⟨s, a, e, f⟩ 28).alloc (.cells #[.string ByteArray.empty, .int .i64 0, .int .i64 0, .int .i64 0] 28)).keep' hB
  have hz := (Cu.new (w.alloc (.cells #[.string s, .int .i64 a, .int .i64 e, .int .i64 f] 28)) zeroCur 28).keep' hB
  rw [World.size_alloc] at hz
  have b0 := hb.c0
  have b1 := hb.c1
  have b2 := hb.c2
  have b3 := hb.c3
  have q0 := hz.c0
  have q1 := hz.c1
  have q2 := hz.c2
  have q3 := hz.c3
  have z0 := hz.fz 0
  have z1 := hz.fz 1
  have z2 := hz.fz 2
  have z3 := hz.fz 3
  have hst := hz.store ⟨⟨#[]⟩, 0, 10, 0⟩
  have r0 := hst.c0
  have r1 := hst.c1
  have r2 := hst.c2
  have r3 := hst.c3
  simp only [World.setCu] at r0 r1 r2 r3
  go_wp2
  refine bodyPost_ret (v := .agg #[.string ⟨#[]⟩, .int .i64 0, .int .i64 10, .int .i64 0]) (by first | simp [results, Try.results57, go_sem, r0, r1, r2, r3] | (simp [ByteArray.empty, ByteArray.emptyWithCapacity] at r0; simp [results, Try.results57, go_sem, r0, r1, r2, r3])) rfl ⟨?_, ?_⟩
  · rw [HR.out]; rfl
  · exact setCu_below (below_then (below_alloc (below_new _) _) hB) (by omega) ⟨⟨#[]⟩, 0, 10, 0⟩

theorem right_any (s : ByteArray) (a e f : Int) (w : World) (hs : s.size ≤ 9223372036854775807) :
    Calls Try.prog 57 #[.agg #[.string s, .int .i64 a, .int .i64 e, .int .i64 f]] w fun r w' => r = .returned ((rightC ⟨s, a, e, f⟩).val) ∧ Below w.heap.size w w' := by
  by_cases h : CurOk ⟨s, a, e, f⟩
  · exact right_ok s a e f w hs h
  · exact right_bad s a e f w hs h

/-- A fault given to a cursor that has none. -/
def keepC (c : Cur) (er x : Int) : Cur := if c.e = 0 then ⟨c.s, c.a, er, x⟩ else c

set_option maxHeartbeats 1600000 in
theorem rfail_no (s : ByteArray) (a e f er x : Int) (w : World) (hs : s.size ≤ 9223372036854775807) (h : e ≠ 0) :
    Calls Try.prog 58 #[.agg #[.string s, .int .i64 a, .int .i64 e, .int .i64 f], .int .i64 er, .int .i64 x] w fun r w' => r = .returned ((keepC ⟨s, a, e, f⟩ er x).val) ∧ Below w.heap.size w w' := by
  have HR : Hid (keepC ⟨s, a, e, f⟩ er x = ⟨s, a, e, f⟩) := if_neg h
  have t0 : (e == 0) = false := by simp [h]
  clear h
  go_enter Try.func58, Try.ntmps58
  go_wp2
  refine bodyPost_ret (v := .agg #[.string s, .int .i64 a, .int .i64 e, .int .i64 f]) (by simp [results, Try.results58, go_sem]) rfl ⟨by rw [HR.out]; rfl, (((Below.refl _ _).alloc (Nat.le_refl _) _).alloc (by simp) _)⟩

set_option maxHeartbeats 1600000 in
theorem rfail_yes (s : ByteArray) (a e f er x : Int) (w : World) (hs : s.size ≤ 9223372036854775807) (h : e = 0) :
    Calls Try.prog 58 #[.agg #[.string s, .int .i64 a, .int .i64 e, .int .i64 f], .int .i64 er, .int .i64 x] w fun r w' => r = .returned ((keepC ⟨s, a, e, f⟩ er x).val) ∧ Below w.heap.size w w' := by
  have HR : Hid (keepC ⟨s, a, e, f⟩ er x = ⟨s, a, er, x⟩) := if_pos h
  subst h
  go_enter Try.func58, Try.ntmps58
  go_wp2
  refine bodyPost_ret (v := .agg #[.string s, .int .i64 a, .int .i64 er, .int .i64 x]) (by simp [results, Try.results58, go_sem]) rfl ⟨by rw [HR.out]; rfl, (((Below.refl _ _).alloc (Nat.le_refl _) _).alloc (by simp) _)⟩

theorem rfail_any (s : ByteArray) (a e f er x : Int) (w : World) (hs : s.size ≤ 9223372036854775807) :
    Calls Try.prog 58 #[.agg #[.string s, .int .i64 a, .int .i64 e, .int .i64 f], .int .i64 er, .int .i64 x] w fun r w' => r = .returned ((keepC ⟨s, a, e, f⟩ er x).val) ∧ Below w.heap.size w w' := by
  by_cases h : e = 0
  · exact rfail_yes s a e f er x w hs h
  · exact rfail_no s a e f er x w hs h

theorem rNew_any (s : ByteArray) (x : Int) (w : World) (hs : s.size ≤ 9223372036854775807) :
    Calls Try.prog 21 #[.string s, .int .i64 x] w fun r w' => r = .returned ((newV s x).val) ∧ Below w.heap.size w w' := by
  by_cases h0 : x < 0
  · have HR : Hid (newV s x = ⟨s, 0, 2, 0⟩) := if_neg (by omega)
    go_enter Try.func21, Try.ntmps21
    go_wp2
    exact bodyPost_ret (v := .agg #[.string s, .int .i64 0, .int .i64 2, .int .i64 0]) (by simp [results, Try.results21, go_sem]) rfl ⟨by rw [HR.out]; rfl, (Below.refl _ _).alloc (Nat.le_refl _) _⟩
  · have h0' : decide (x < 0) = false := by simpa using h0
    by_cases h1 : (s.size : Int) < x
    · have HR : Hid (newV s x = ⟨s, 0, 2, 0⟩) := if_neg (by omega)
      go_enter Try.func21, Try.ntmps21
      go_wp2
      exact bodyPost_ret (v := .agg #[.string s, .int .i64 0, .int .i64 2, .int .i64 0]) (by simp [results, Try.results21, go_sem]) rfl ⟨by rw [HR.out]; rfl, (Below.refl _ _).alloc (Nat.le_refl _) _⟩
    · have h1' : decide ((s.size : Int) < x) = false := by simpa using h1
      have HR : Hid (newV s x = ⟨s, x, 0, 0⟩) := if_pos (by omega)
      go_enter Try.func21, Try.ntmps21
      go_wp2
      exact bodyPost_ret (v := .agg #[.string s, .int .i64 x, .int .i64 0, .int .i64 0]) (by simp [results, Try.results21, go_sem]) rfl ⟨by rw [HR.out]; rfl, (Below.refl _ _).alloc (Nat.le_refl _) _⟩

set_option maxHeartbeats 1600000 in
theorem rLeft_no (s : ByteArray) (a e f : Int) (w : World) (hs : s.size ≤ 9223372036854775807) (he : (rightC ⟨s, a, e, f⟩).e ≠ 0) :
    Calls Try.prog 28 #[.agg #[.string s, .int .i64 a, .int .i64 e, .int .i64 f]] w fun r w' => r = .returned (.int .i64 (leftC (rightC ⟨s, a, e, f⟩))) ∧ Below w.heap.size w w' := by
  have HO := Lib.hid (fun W => right_any s a e f W hs)
  have hok := Lib.hid (rightC_ok ⟨s, a, e, f⟩)
  have hsz := rightC_size ⟨s, a, e, f⟩
  simp only at hsz
  generalize rightC ⟨s, a, e, f⟩ = c at *
  obtain ⟨s1, a1, e1, f1⟩ := c
  simp only at he hsz
  have hba := hok.out.1
  simp only at hba
  have HL : Hid (leftC ⟨s1, a1, e1, f1⟩ = 0) := if_neg he
  have t0 : (e1 != 0) = true := by simp [he]
  clear he
  go_enter Try.func28, Try.ntmps28
  go_wp2_with fail
  refine (HO.out _).mono ?_
  rintro r w1 ⟨rfl, hB⟩
  unfold Cur.val
  have hb := (Cu.new w ⟨s, a, e, f⟩ 28).keep' hB
  have b0 := hb.c0
  have b1 := hb.c1
  have b2 := hb.c2
  have b3 := hb.c3
  have y0 := hb.fz 0
  have y1 := hb.fz 1
  have y2 := hb.fz 2
  have y3 := hb.fz 3
  have hb2 := hb.store ⟨s1, a1, e1, f1⟩
  have k0 := hb2.c0
  have k1 := hb2.c1
  have k2 := hb2.c2
  have k3 := hb2.c3
  simp only [World.setCu] at k0 k1 k2 k3
  go_wp2
  go_ret
  exact ⟨ret_int HL.out.symm, setCu_below (below_then (below_new _) hB) (Nat.le_refl _) ⟨s1, a1, e1, f1⟩⟩

set_option maxHeartbeats 1600000 in
theorem rLeft_yes (s : ByteArray) (a e f : Int) (w : World) (hs : s.size ≤ 9223372036854775807) (he : (rightC ⟨s, a, e, f⟩).e = 0) :
    Calls Try.prog 28 #[.agg #[.string s, .int .i64 a, .int .i64 e, .int .i64 f]] w fun r w' => r = .returned (.int .i64 (leftC (rightC ⟨s, a, e, f⟩))) ∧ Below w.heap.size w w' := by
  have HO := Lib.hid (fun W => right_any s a e f W hs)
  have hok := Lib.hid (rightC_ok ⟨s, a, e, f⟩)
  have hsz := rightC_size ⟨s, a, e, f⟩
  simp only at hsz
  generalize rightC ⟨s, a, e, f⟩ = c at *
  obtain ⟨s1, a1, e1, f1⟩ := c
  simp only at he hsz
  have hba := hok.out.1
  simp only at hba
  have HL : Hid (leftC ⟨s1, a1, e1, f1⟩ = (s1.size : Int) - a1) := if_pos he
  subst he
  go_enter Try.func28, Try.ntmps28
  go_wp2_with fail
  refine (HO.out _).mono ?_
  rintro r w1 ⟨rfl, hB⟩
  unfold Cur.val
  have hb := (Cu.new w ⟨s, a, e, f⟩ 28).keep' hB
  have b0 := hb.c0
  have b1 := hb.c1
  have b2 := hb.c2
  have b3 := hb.c3
  have y0 := hb.fz 0
  have y1 := hb.fz 1
  have y2 := hb.fz 2
  have y3 := hb.fz 3
  have hb2 := hb.store ⟨s1, a1, 0, f1⟩
  have k0 := hb2.c0
  have k1 := hb2.c1
  have k2 := hb2.c2
  have k3 := hb2.c3
  simp only [World.setCu] at k0 k1 k2 k3
  go_wp2
  go_ret
  exact ⟨ret_int HL.out.symm, setCu_below (below_then (below_new _) hB) (Nat.le_refl _) ⟨s1, a1, 0, f1⟩⟩

theorem rLeft_any (s : ByteArray) (a e f : Int) (w : World) (hs : s.size ≤ 9223372036854775807) :
    Calls Try.prog 28 #[.agg #[.string s, .int .i64 a, .int .i64 e, .int .i64 f]] w fun r w' => r = .returned (.int .i64 (leftC (rightC ⟨s, a, e, f⟩))) ∧ Below w.heap.size w w' := by
  by_cases h : (rightC ⟨s, a, e, f⟩).e = 0
  · exact rLeft_yes s a e f w hs h
  · exact rLeft_no s a e f w hs h

end Go.Proofs.Ytboajmnckldmiaa
