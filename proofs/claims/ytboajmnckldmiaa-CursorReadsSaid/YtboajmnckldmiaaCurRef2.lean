/-
  The walks of the references of Bytes, Skip, Byte and Little.
-/
import Derived.Test.YtboajmnckldmiaaCurRef
import Derived.Deep.QuietTactic
import Derived.BigQuiet
import Derived.Deep.RegionHeld3
import Derived.Deep.DrawnRows
import Derived.Lib.Bytes
namespace Go.Proofs.Ytboajmnckldmiaa
open Go.RowKit
set_option linter.unusedVariables false
set_option maxRecDepth 100000

theorem keep_yes (s : ByteArray) (a f er x : Int) : keepC ⟨s, a, 0, f⟩ er x = ⟨s, a, er, x⟩ := if_pos rfl
theorem keep_no {c : Cur} (er x : Int) (h : c.e ≠ 0) : keepC c er x = c := if_neg h

set_option maxHeartbeats 1600000 in
theorem rBytes_A (s : ByteArray) (a e f n : Int) (w : World) (hs : s.size ≤ 9223372036854775807) (hn : -9223372036854775808 ≤ n ∧ n ≤ 9223372036854775807) (he : (rightC ⟨s, a, e, f⟩).e ≠ 0) :
    Calls Try.prog 32 #[.agg #[.string s, .int .i64 a, .int .i64 e, .int .i64 f], .int .i64 n] w fun r w' => r = .returned (.tuple #[(bytesC (rightC ⟨s, a, e, f⟩) n).val, .string (bytesO (rightC ⟨s, a, e, f⟩) n)]) ∧ Below w.heap.size w w' := by
  have HO := Lib.hid (fun W => right_any s a e f W hs)
  have hok := Lib.hid (rightC_ok ⟨s, a, e, f⟩)
  have hsz := rightC_size ⟨s, a, e, f⟩
  simp only at hsz
  generalize rightC ⟨s, a, e, f⟩ = c at *
  obtain ⟨s1, a1, e1, f1⟩ := c
  have HR := Lib.hid (bytes_A n he)
  have hba := hok.out.1
  simp only at he hsz hba
  have t0 : (e1 != 0) = true := by simp [he]
  clear he
  go_enter Try.func32, Try.ntmps32
  go_wp2_with fail
  refine (HO.out _).mono ?_
  rintro r w1 ⟨rfl, hB⟩
  unfold Cur.val
  have hb := ((Cu.new w ⟨s, a, e, f⟩ 28).alloc (.cells #[.string ByteArray.empty, .int .i64 0, .int .i64 0, .int .i64 0] 28)).keep' hB
  have hz := (Cu.new (w.alloc (.cells #[.string s, .int .i64 a, .int .i64 e, .int .i64 f] 28)) zeroCur 28).keep' hB
  rw [World.size_alloc] at hz
  have hsz1 : w.heap.size + 2 ≤ w1.heap.size := by have := hB.size; simp at this; omega
  have hBa := below_then (below_alloc (below_new (w := w) (.cells #[.string s, .int .i64 a, .int .i64 e, .int .i64 f] 28)) (.cells #[.string ByteArray.empty, .int .i64 0, .int .i64 0, .int .i64 0] 28)) hB
  have b0 := hb.c0
  have b1 := hb.c1
  have b2 := hb.c2
  have b3 := hb.c3
  have y0 := hb.fz 0
  have y1 := hb.fz 1
  have y2 := hb.fz 2
  have y3 := hb.fz 3
  have hb2 := hb.store ⟨s1, a1, e1, f1⟩
  have hz2 := hz.storeOther (k := w.heap.size) (by omega) ⟨s1, a1, e1, f1⟩
  have hB2 := setCu_below hBa (Nat.le_refl _) ⟨s1, a1, e1, f1⟩
  have k0 := hb2.c0
  have k1 := hb2.c1
  have k2 := hb2.c2
  have k3 := hb2.c3
  have l0 := hb2.fz 0
  have l1 := hb2.fz 1
  have l2 := hb2.fz 2
  have l3 := hb2.fz 3
  have q0 := hz2.c0
  have q1 := hz2.c1
  have q2 := hz2.c2
  have q3 := hz2.c3
  have z0 := hz2.fz 0
  have z1 := hz2.fz 1
  have z2 := hz2.fz 2
  have z3 := hz2.fz 3
  simp only [World.setCu] at k0 k1 k2 k3 l0 l1 l2 l3 q0 q1 q2 q3 z0 z1 z2 z3
  have hst := (hz2.store ⟨s1, a1, e1, f1⟩)
  have r0 := hst.c0
  have r1 := hst.c1
  have r2 := hst.c2
  have r3 := hst.c3
  simp only [World.setCu] at r0 r1 r2 r3
  go_wp2
  refine bodyPost_ret (v := .tuple #[.agg #[.string s1, .int .i64 a1, .int .i64 e1, .int .i64 f1], .string ⟨#[]⟩]) (by simp [results, Try.results32, go_sem, r0, r1, r2, r3]) rfl ⟨?_, ?_⟩
  · rw [HR.out.1, HR.out.2]; rfl
  · exact (setCu_below hB2 (by omega) ⟨s1, a1, e1, f1⟩)

set_option maxHeartbeats 1600000 in
theorem rBytes_B (s : ByteArray) (a e f n : Int) (w : World) (hs : s.size ≤ 9223372036854775807) (hn : -9223372036854775808 ≤ n ∧ n ≤ 9223372036854775807) (he : (rightC ⟨s, a, e, f⟩).e = 0) (h1 : n < 0) :
    Calls Try.prog 32 #[.agg #[.string s, .int .i64 a, .int .i64 e, .int .i64 f], .int .i64 n] w fun r w' => r = .returned (.tuple #[(bytesC (rightC ⟨s, a, e, f⟩) n).val, .string (bytesO (rightC ⟨s, a, e, f⟩) n)]) ∧ Below w.heap.size w w' := by
  have HO := Lib.hid (fun W => right_any s a e f W hs)
  have hok := Lib.hid (rightC_ok ⟨s, a, e, f⟩)
  have hsz := rightC_size ⟨s, a, e, f⟩
  simp only at hsz
  generalize rightC ⟨s, a, e, f⟩ = c at *
  obtain ⟨s1, a1, e1, f1⟩ := c
  have HR := Lib.hid (bytes_B (n := n) he h1)
  have hba := hok.out.1
  simp only at he hsz hba
  subst he
  go_enter Try.func32, Try.ntmps32
  go_wp2_with fail
  refine (HO.out _).mono ?_
  rintro r w1 ⟨rfl, hB⟩
  unfold Cur.val
  have hb := ((Cu.new w ⟨s, a, e, f⟩ 28).alloc (.cells #[.string ByteArray.empty, .int .i64 0, .int .i64 0, .int .i64 0] 28)).keep' hB
  have hz := (Cu.new (w.alloc (.cells #[.string s, .int .i64 a, .int .i64 e, .int .i64 f] 28)) zeroCur 28).keep' hB
  rw [World.size_alloc] at hz
  have hsz1 : w.heap.size + 2 ≤ w1.heap.size := by have := hB.size; simp at this; omega
  have hBa := below_then (below_alloc (below_new (w := w) (.cells #[.string s, .int .i64 a, .int .i64 e, .int .i64 f] 28)) (.cells #[.string ByteArray.empty, .int .i64 0, .int .i64 0, .int .i64 0] 28)) hB
  have b0 := hb.c0
  have b1 := hb.c1
  have b2 := hb.c2
  have b3 := hb.c3
  have y0 := hb.fz 0
  have y1 := hb.fz 1
  have y2 := hb.fz 2
  have y3 := hb.fz 3
  have hb2 := hb.store ⟨s1, a1, 0, f1⟩
  have hz2 := hz.storeOther (k := w.heap.size) (by omega) ⟨s1, a1, 0, f1⟩
  have hB2 := setCu_below hBa (Nat.le_refl _) ⟨s1, a1, 0, f1⟩
  have k0 := hb2.c0
  have k1 := hb2.c1
  have k2 := hb2.c2
  have k3 := hb2.c3
  have l0 := hb2.fz 0
  have l1 := hb2.fz 1
  have l2 := hb2.fz 2
  have l3 := hb2.fz 3
  have q0 := hz2.c0
  have q1 := hz2.c1
  have q2 := hz2.c2
  have q3 := hz2.c3
  have z0 := hz2.fz 0
  have z1 := hz2.fz 1
  have z2 := hz2.fz 2
  have z3 := hz2.fz 3
  simp only [World.setCu] at k0 k1 k2 k3 l0 l1 l2 l3 q0 q1 q2 q3 z0 z1 z2 z3
  go_wp2_with fail
  refine (rfail_any s1 a1 0 f1 2 a1 _ (by omega)).mono ?_
  rintro r w4 ⟨rfl, hB4⟩
  rw [keep_yes]
  unfold Cur.val
  clear q0 q1 q2 q3 z0 z1 z2 z3
  have hz4 := hz2.keep' hB4
  have hB5 := below_then hB2 hB4
  have q0 := hz4.c0
  have q1 := hz4.c1
  have q2 := hz4.c2
  have q3 := hz4.c3
  have z0 := hz4.fz 0
  have z1 := hz4.fz 1
  have z2 := hz4.fz 2
  have z3 := hz4.fz 3
  have hst := (hz4.store ⟨s1, a1, 2, a1⟩)
  have r0 := hst.c0
  have r1 := hst.c1
  have r2 := hst.c2
  have r3 := hst.c3
  simp only [World.setCu] at r0 r1 r2 r3
  go_wp2
  refine bodyPost_ret (v := .tuple #[.agg #[.string s1, .int .i64 a1, .int .i64 2, .int .i64 a1], .string ⟨#[]⟩]) (by simp [results, Try.results32, go_sem, r0, r1, r2, r3]) rfl ⟨?_, ?_⟩
  · rw [HR.out.1, HR.out.2]; rfl
  · exact (setCu_below hB5 (by omega) ⟨s1, a1, 2, a1⟩)

set_option maxHeartbeats 1600000 in
theorem rBytes_C (s : ByteArray) (a e f n : Int) (w : World) (hs : s.size ≤ 9223372036854775807) (hn : -9223372036854775808 ≤ n ∧ n ≤ 9223372036854775807) (he : (rightC ⟨s, a, e, f⟩).e = 0) (h1 : 0 ≤ n) (h2 : ((rightC ⟨s, a, e, f⟩).s.size : Int) - (rightC ⟨s, a, e, f⟩).a < n) :
    Calls Try.prog 32 #[.agg #[.string s, .int .i64 a, .int .i64 e, .int .i64 f], .int .i64 n] w fun r w' => r = .returned (.tuple #[(bytesC (rightC ⟨s, a, e, f⟩) n).val, .string (bytesO (rightC ⟨s, a, e, f⟩) n)]) ∧ Below w.heap.size w w' := by
  have HO := Lib.hid (fun W => right_any s a e f W hs)
  have hok := Lib.hid (rightC_ok ⟨s, a, e, f⟩)
  have hsz := rightC_size ⟨s, a, e, f⟩
  simp only at hsz
  generalize rightC ⟨s, a, e, f⟩ = c at *
  obtain ⟨s1, a1, e1, f1⟩ := c
  have HR := Lib.hid (bytes_C (n := n) he h1 h2)
  have hba := hok.out.1
  simp only at he h2 hsz hba
  have h1' : decide (n < 0) = false := by simp; omega
  subst he
  go_enter Try.func32, Try.ntmps32
  go_wp2_with fail
  refine (HO.out _).mono ?_
  rintro r w1 ⟨rfl, hB⟩
  unfold Cur.val
  have hb := ((Cu.new w ⟨s, a, e, f⟩ 28).alloc (.cells #[.string ByteArray.empty, .int .i64 0, .int .i64 0, .int .i64 0] 28)).keep' hB
  have hz := (Cu.new (w.alloc (.cells #[.string s, .int .i64 a, .int .i64 e, .int .i64 f] 28)) zeroCur 28).keep' hB
  rw [World.size_alloc] at hz
  have hsz1 : w.heap.size + 2 ≤ w1.heap.size := by have := hB.size; simp at this; omega
  have hBa := below_then (below_alloc (below_new (w := w) (.cells #[.string s, .int .i64 a, .int .i64 e, .int .i64 f] 28)) (.cells #[.string ByteArray.empty, .int .i64 0, .int .i64 0, .int .i64 0] 28)) hB
  have b0 := hb.c0
  have b1 := hb.c1
  have b2 := hb.c2
  have b3 := hb.c3
  have y0 := hb.fz 0
  have y1 := hb.fz 1
  have y2 := hb.fz 2
  have y3 := hb.fz 3
  have hb2 := hb.store ⟨s1, a1, 0, f1⟩
  have hz2 := hz.storeOther (k := w.heap.size) (by omega) ⟨s1, a1, 0, f1⟩
  have hB2 := setCu_below hBa (Nat.le_refl _) ⟨s1, a1, 0, f1⟩
  have k0 := hb2.c0
  have k1 := hb2.c1
  have k2 := hb2.c2
  have k3 := hb2.c3
  have l0 := hb2.fz 0
  have l1 := hb2.fz 1
  have l2 := hb2.fz 2
  have l3 := hb2.fz 3
  have q0 := hz2.c0
  have q1 := hz2.c1
  have q2 := hz2.c2
  have q3 := hz2.c3
  have z0 := hz2.fz 0
  have z1 := hz2.fz 1
  have z2 := hz2.fz 2
  have z3 := hz2.fz 3
  simp only [World.setCu] at k0 k1 k2 k3 l0 l1 l2 l3 q0 q1 q2 q3 z0 z1 z2 z3
  go_wp2_with fail
  refine (rfail_any s1 a1 0 f1 5 (s1.size : Int) _ (by omega)).mono ?_
  rintro r w4 ⟨rfl, hB4⟩
  rw [keep_yes]
  unfold Cur.val
  clear q0 q1 q2 q3 z0 z1 z2 z3
  have hz4 := hz2.keep' hB4
  have hB5 := below_then hB2 hB4
  have q0 := hz4.c0
  have q1 := hz4.c1
  have q2 := hz4.c2
  have q3 := hz4.c3
  have z0 := hz4.fz 0
  have z1 := hz4.fz 1
  have z2 := hz4.fz 2
  have z3 := hz4.fz 3
  have hst := (hz4.store ⟨s1, a1, 5, (s1.size : Int)⟩)
  have r0 := hst.c0
  have r1 := hst.c1
  have r2 := hst.c2
  have r3 := hst.c3
  simp only [World.setCu] at r0 r1 r2 r3
  go_wp2
  refine bodyPost_ret (v := .tuple #[.agg #[.string s1, .int .i64 a1, .int .i64 5, .int .i64 (s1.size : Int)], .string ⟨#[]⟩]) (by simp [results, Try.results32, go_sem, r0, r1, r2, r3]) rfl ⟨?_, ?_⟩
  · rw [HR.out.1, HR.out.2]; rfl
  · exact (setCu_below hB5 (by omega) ⟨s1, a1, 5, (s1.size : Int)⟩)

set_option maxHeartbeats 1600000 in
theorem rBytes_D (s : ByteArray) (a e f n : Int) (w : World) (hs : s.size ≤ 9223372036854775807) (hn : -9223372036854775808 ≤ n ∧ n ≤ 9223372036854775807) (he : (rightC ⟨s, a, e, f⟩).e = 0) (h1 : 0 ≤ n) (h2 : n ≤ ((rightC ⟨s, a, e, f⟩).s.size : Int) - (rightC ⟨s, a, e, f⟩).a) :
    Calls Try.prog 32 #[.agg #[.string s, .int .i64 a, .int .i64 e, .int .i64 f], .int .i64 n] w fun r w' => r = .returned (.tuple #[(bytesC (rightC ⟨s, a, e, f⟩) n).val, .string (bytesO (rightC ⟨s, a, e, f⟩) n)]) ∧ Below w.heap.size w w' := by
  have HO := Lib.hid (fun W => right_any s a e f W hs)
  have hok := Lib.hid (rightC_ok ⟨s, a, e, f⟩)
  have hsz := rightC_size ⟨s, a, e, f⟩
  simp only at hsz
  generalize rightC ⟨s, a, e, f⟩ = c at *
  obtain ⟨s1, a1, e1, f1⟩ := c
  have HR := Lib.hid (bytes_D (n := n) he h1 h2)
  have hba := hok.out.1
  simp only at he h2 hsz hba
  have h1' : decide (n < 0) = false := by simp; omega
  have h2' : decide ((s1.size : Int) - a1 < n) = false := by simp; omega
  subst he
  have hsl : ∀ V, (Instr.slice 9 (.string s1) (some (.int .i64 a1)) (some (.int .i64 (a1 + n))) none).run Try.prog V = .ok (.string (s1.extract a1.toNat (a1 + n).toNat)) V := fun V => by
    rw [run_slice_string (P := Try.prog) (w := V) 9 s1 .i64 .i64 a1 (a1 + n) Try.underlying9 (by omega) (by omega) (by omega)]
  go_enter Try.func32, Try.ntmps32
  go_wp2_with fail
  refine (HO.out _).mono ?_
  rintro r w1 ⟨rfl, hB⟩
  unfold Cur.val
  have hb := ((Cu.new w ⟨s, a, e, f⟩ 28).alloc (.cells #[.string ByteArray.empty, .int .i64 0, .int .i64 0, .int .i64 0] 28)).keep' hB
  have hz := (Cu.new (w.alloc (.cells #[.string s, .int .i64 a, .int .i64 e, .int .i64 f] 28)) zeroCur 28).keep' hB
  rw [World.size_alloc] at hz
  have hsz1 : w.heap.size + 2 ≤ w1.heap.size := by have := hB.size; simp at this; omega
  have hBa := below_then (below_alloc (below_new (w := w) (.cells #[.string s, .int .i64 a, .int .i64 e, .int .i64 f] 28)) (.cells #[.string ByteArray.empty, .int .i64 0, .int .i64 0, .int .i64 0] 28)) hB
  have b0 := hb.c0
  have b1 := hb.c1
  have b2 := hb.c2
  have b3 := hb.c3
  have y0 := hb.fz 0
  have y1 := hb.fz 1
  have y2 := hb.fz 2
  have y3 := hb.fz 3
  have hb2 := hb.store ⟨s1, a1, 0, f1⟩
  have hz2 := hz.storeOther (k := w.heap.size) (by omega) ⟨s1, a1, 0, f1⟩
  have hB2 := setCu_below hBa (Nat.le_refl _) ⟨s1, a1, 0, f1⟩
  have k0 := hb2.c0
  have k1 := hb2.c1
  have k2 := hb2.c2
  have k3 := hb2.c3
  have l0 := hb2.fz 0
  have l1 := hb2.fz 1
  have l2 := hb2.fz 2
  have l3 := hb2.fz 3
  have q0 := hz2.c0
  have q1 := hz2.c1
  have q2 := hz2.c2
  have q3 := hz2.c3
  have z0 := hz2.fz 0
  have z1 := hz2.fz 1
  have z2 := hz2.fz 2
  have z3 := hz2.fz 3
  simp only [World.setCu] at k0 k1 k2 k3 l0 l1 l2 l3 q0 q1 q2 q3 z0 z1 z2 z3
  have hb3 := hb2.set1 (a1 + n)
  have hz3 := hz2.setOther ⟨w.heap.size, 1, none⟩ (by simp) (.int .i64 (a1 + n))
  have hB3 := hB2.setCell (p := ⟨w.heap.size, 1, none⟩) (Nat.le_refl _) (.int .i64 (a1 + n))
  have m0 := hb3.c0
  have m1 := hb3.c1
  have m2 := hb3.c2
  have m3 := hb3.c3
  have i0 := hz3.c0
  have i1 := hz3.c1
  have i2 := hz3.c2
  have i3 := hz3.c3
  have j0 := hz3.fz 0
  have j1 := hz3.fz 1
  have j2 := hz3.fz 2
  have j3 := hz3.fz 3
  simp only [World.setCu] at m0 m1 m2 m3 i0 i1 i2 i3 j0 j1 j2 j3
  have hst := (hz3.store ⟨s1, (a1 + n), 0, f1⟩)
  have r0 := hst.c0
  have r1 := hst.c1
  have r2 := hst.c2
  have r3 := hst.c3
  simp only [World.setCu] at r0 r1 r2 r3
  go_wp2
  refine bodyPost_ret (v := .tuple #[.agg #[.string s1, .int .i64 (a1 + n), .int .i64 0, .int .i64 f1], .string (s1.extract a1.toNat (a1 + n).toNat)]) (by simp [results, Try.results32, go_sem, r0, r1, r2, r3]) rfl ⟨?_, ?_⟩
  · rw [HR.out.1, HR.out.2]; rfl
  · exact (setCu_below hB3 (by omega) ⟨s1, (a1 + n), 0, f1⟩)

theorem rBytes_any (s : ByteArray) (a e f n : Int) (w : World) (hs : s.size ≤ 9223372036854775807) (hn : -9223372036854775808 ≤ n ∧ n ≤ 9223372036854775807) :
    Calls Try.prog 32 #[.agg #[.string s, .int .i64 a, .int .i64 e, .int .i64 f], .int .i64 n] w fun r w' => r = .returned (.tuple #[(bytesC (rightC ⟨s, a, e, f⟩) n).val, .string (bytesO (rightC ⟨s, a, e, f⟩) n)]) ∧ Below w.heap.size w w' := by
  by_cases he : (rightC ⟨s, a, e, f⟩).e = 0
  · by_cases h1 : n < 0
    · exact rBytes_B s a e f n w hs hn he h1
    · by_cases h2 : ((rightC ⟨s, a, e, f⟩).s.size : Int) - (rightC ⟨s, a, e, f⟩).a < n
      · exact rBytes_C s a e f n w hs hn he (by omega) h2
      · exact rBytes_D s a e f n w hs hn he (by omega) (by omega)
  · exact rBytes_A s a e f n w hs hn he

set_option maxHeartbeats 1600000 in
theorem rSkip_any (s : ByteArray) (a e f n : Int) (w : World) (hs : s.size ≤ 9223372036854775807) (hn : -9223372036854775808 ≤ n ∧ n ≤ 9223372036854775807)  :
    Calls Try.prog 34 #[.agg #[.string s, .int .i64 a, .int .i64 e, .int .i64 f], .int .i64 n] w fun r w' => r = .returned ((bytesC (rightC ⟨s, a, e, f⟩) n).val) ∧ Below w.heap.size w w' := by
  have HBY := Lib.hid (fun W => rBytes_any s a e f n W hs hn)
  generalize rightC ⟨s, a, e, f⟩ = c at *
  generalize bytesO c n = out at *
  obtain ⟨⟨s1, a1, e1, f1⟩, hc2⟩ : ∃ c2, bytesC c n = c2 := ⟨_, rfl⟩
  rw [hc2] at HBY
  have HC2 := Lib.hid hc2
  clear hc2
  go_enter Try.func34, Try.ntmps34
  go_wp2_with fail
  refine (HBY.out _).mono ?_
  rintro r w1 ⟨rfl, hB⟩
  unfold Cur.val
  have hb := ((Cu.new w ⟨s, a, e, f⟩ 28).alloc (.cells #[.string ByteArray.empty, .int .i64 0, .int .i64 0, .int .i64 0] 28)).keep' hB
  have hz := (Cu.new (w.alloc (.cells #[.string s, .int .i64 a, .int .i64 e, .int .i64 f] 28)) zeroCur 28).keep' hB
  rw [World.size_alloc] at hz
  have hsz1 : w.heap.size + 2 ≤ w1.heap.size := by have := hB.size; simp at this; omega
  have hBa := below_then (below_alloc (below_new (w := w) (.cells #[.string s, .int .i64 a, .int .i64 e, .int .i64 f] 28)) (.cells #[.string ByteArray.empty, .int .i64 0, .int .i64 0, .int .i64 0] 28)) hB
  have b0 := hb.c0
  have b1 := hb.c1
  have b2 := hb.c2
  have b3 := hb.c3
  have y0 := hb.fz 0
  have y1 := hb.fz 1
  have y2 := hb.fz 2
  have y3 := hb.fz 3
  have hb2 := hb.store ⟨s1, a1, e1, f1⟩
  have hz2 := hz.storeOther (k := w.heap.size) (by omega) ⟨s1, a1, e1, f1⟩
  have hB2 := setCu_below hBa (Nat.le_refl _) ⟨s1, a1, e1, f1⟩
  have k0 := hb2.c0
  have k1 := hb2.c1
  have k2 := hb2.c2
  have k3 := hb2.c3
  have l0 := hb2.fz 0
  have l1 := hb2.fz 1
  have l2 := hb2.fz 2
  have l3 := hb2.fz 3
  have q0 := hz2.c0
  have q1 := hz2.c1
  have q2 := hz2.c2
  have q3 := hz2.c3
  have z0 := hz2.fz 0
  have z1 := hz2.fz 1
  have z2 := hz2.fz 2
  have z3 := hz2.fz 3
  simp only [World.setCu] at k0 k1 k2 k3 l0 l1 l2 l3 q0 q1 q2 q3 z0 z1 z2 z3
  have hst := (hz2.store ⟨s1, a1, e1, f1⟩)
  have r0 := hst.c0
  have r1 := hst.c1
  have r2 := hst.c2
  have r3 := hst.c3
  simp only [World.setCu] at r0 r1 r2 r3
  go_wp2
  refine bodyPost_ret (v := .agg #[.string s1, .int .i64 a1, .int .i64 e1, .int .i64 f1]) (by simp [results, Try.results34, go_sem, r0, r1, r2, r3]) rfl ⟨?_, ?_⟩
  · rw [HC2.out]; rfl
  · exact (setCu_below hB2 (by omega) ⟨s1, a1, e1, f1⟩)

set_option maxHeartbeats 1600000 in
theorem rByte_no (s : ByteArray) (a e f : Int) (w : World) (hs : s.size ≤ 9223372036854775807) (ho : bytesO (rightC ⟨s, a, e, f⟩) 1 = ByteArray.empty) :
    Calls Try.prog 30 #[.agg #[.string s, .int .i64 a, .int .i64 e, .int .i64 f]] w fun r w' => r = .returned (.tuple #[(bytesC (rightC ⟨s, a, e, f⟩) 1).val, .int .i64 (byteV (rightC ⟨s, a, e, f⟩))]) ∧ Below w.heap.size w w' := by
  have HBY := Lib.hid (fun W => rBytes_any s a e f 1 W hs (by omega))
  have HBV : Hid (byteV (rightC ⟨s, a, e, f⟩) = sb (bytesO (rightC ⟨s, a, e, f⟩) 1) 0) := rfl
  generalize rightC ⟨s, a, e, f⟩ = c at *
  generalize bytesO c 1 = out at *
  obtain ⟨⟨s1, a1, e1, f1⟩, hc2⟩ : ∃ c2, bytesC c 1 = c2 := ⟨_, rfl⟩
  rw [hc2] at HBY
  have HC2 := Lib.hid hc2
  clear hc2
  subst ho
  go_enter Try.func30, Try.ntmps30
  go_wp2_with fail
  refine (HBY.out _).mono ?_
  rintro r w1 ⟨rfl, hB⟩
  unfold Cur.val
  have hb := ((Cu.new w ⟨s, a, e, f⟩ 28).alloc (.cells #[.string ByteArray.empty, .int .i64 0, .int .i64 0, .int .i64 0] 28)).keep' hB
  have hz := (Cu.new (w.alloc (.cells #[.string s, .int .i64 a, .int .i64 e, .int .i64 f] 28)) zeroCur 28).keep' hB
  rw [World.size_alloc] at hz
  have hsz1 : w.heap.size + 2 ≤ w1.heap.size := by have := hB.size; simp at this; omega
  have hBa := below_then (below_alloc (below_new (w := w) (.cells #[.string s, .int .i64 a, .int .i64 e, .int .i64 f] 28)) (.cells #[.string ByteArray.empty, .int .i64 0, .int .i64 0, .int .i64 0] 28)) hB
  have b0 := hb.c0
  have b1 := hb.c1
  have b2 := hb.c2
  have b3 := hb.c3
  have y0 := hb.fz 0
  have y1 := hb.fz 1
  have y2 := hb.fz 2
  have y3 := hb.fz 3
  have hb2 := hb.store ⟨s1, a1, e1, f1⟩
  have hz2 := hz.storeOther (k := w.heap.size) (by omega) ⟨s1, a1, e1, f1⟩
  have hB2 := setCu_below hBa (Nat.le_refl _) ⟨s1, a1, e1, f1⟩
  have k0 := hb2.c0
  have k1 := hb2.c1
  have k2 := hb2.c2
  have k3 := hb2.c3
  have l0 := hb2.fz 0
  have l1 := hb2.fz 1
  have l2 := hb2.fz 2
  have l3 := hb2.fz 3
  have q0 := hz2.c0
  have q1 := hz2.c1
  have q2 := hz2.c2
  have q3 := hz2.c3
  have z0 := hz2.fz 0
  have z1 := hz2.fz 1
  have z2 := hz2.fz 2
  have z3 := hz2.fz 3
  simp only [World.setCu] at k0 k1 k2 k3 l0 l1 l2 l3 q0 q1 q2 q3 z0 z1 z2 z3
  have hst := (hz2.store ⟨s1, a1, e1, f1⟩)
  have r0 := hst.c0
  have r1 := hst.c1
  have r2 := hst.c2
  have r3 := hst.c3
  simp only [World.setCu] at r0 r1 r2 r3
  go_wp2
  refine bodyPost_ret (v := .tuple #[.agg #[.string s1, .int .i64 a1, .int .i64 e1, .int .i64 f1], .int .i64 0]) (by simp [results, Try.results30, go_sem, r0, r1, r2, r3]) rfl ⟨?_, ?_⟩
  · rw [HC2.out, HBV.out, sb_empty]; rfl
  · exact (setCu_below hB2 (by omega) ⟨s1, a1, e1, f1⟩)

set_option maxHeartbeats 1600000 in
theorem rByte_yes (s : ByteArray) (a e f : Int) (w : World) (hs : s.size ≤ 9223372036854775807) (ho : (bytesO (rightC ⟨s, a, e, f⟩) 1).size = 1) :
    Calls Try.prog 30 #[.agg #[.string s, .int .i64 a, .int .i64 e, .int .i64 f]] w fun r w' => r = .returned (.tuple #[(bytesC (rightC ⟨s, a, e, f⟩) 1).val, .int .i64 (byteV (rightC ⟨s, a, e, f⟩))]) ∧ Below w.heap.size w w' := by
  have HBY := Lib.hid (fun W => rBytes_any s a e f 1 W hs (by omega))
  have HBV : Hid (byteV (rightC ⟨s, a, e, f⟩) = sb (bytesO (rightC ⟨s, a, e, f⟩) 1) 0) := rfl
  generalize rightC ⟨s, a, e, f⟩ = c at *
  generalize bytesO c 1 = out at *
  obtain ⟨⟨s1, a1, e1, f1⟩, hc2⟩ : ∃ c2, bytesC c 1 = c2 := ⟨_, rfl⟩
  rw [hc2] at HBY
  have HC2 := Lib.hid hc2
  clear hc2
  have hsb := sb_lo out 0
  have h0 : 0 < out.size := by omega
  have HG := Lib.hid (sb_get out 0 h0)
  have G0 : (0 : Int) < (out.size : Int) := by omega
  have te : out.toList.isEmpty = false := by
    have : out.toList.length = 1 := by rw [ByteArray.toList_eq]; simpa using ho
    cases h : out.toList with
    | nil => rw [h] at this; simp at this
    | cons => rfl
  have hs1 : out.size ≤ 1 := by omega
  clear ho
  go_enter Try.func30, Try.ntmps30
  go_wp2_with fail
  refine (HBY.out _).mono ?_
  rintro r w1 ⟨rfl, hB⟩
  unfold Cur.val
  have hb := ((Cu.new w ⟨s, a, e, f⟩ 28).alloc (.cells #[.string ByteArray.empty, .int .i64 0, .int .i64 0, .int .i64 0] 28)).keep' hB
  have hz := (Cu.new (w.alloc (.cells #[.string s, .int .i64 a, .int .i64 e, .int .i64 f] 28)) zeroCur 28).keep' hB
  rw [World.size_alloc] at hz
  have hsz1 : w.heap.size + 2 ≤ w1.heap.size := by have := hB.size; simp at this; omega
  have hBa := below_then (below_alloc (below_new (w := w) (.cells #[.string s, .int .i64 a, .int .i64 e, .int .i64 f] 28)) (.cells #[.string ByteArray.empty, .int .i64 0, .int .i64 0, .int .i64 0] 28)) hB
  have b0 := hb.c0
  have b1 := hb.c1
  have b2 := hb.c2
  have b3 := hb.c3
  have y0 := hb.fz 0
  have y1 := hb.fz 1
  have y2 := hb.fz 2
  have y3 := hb.fz 3
  have hb2 := hb.store ⟨s1, a1, e1, f1⟩
  have hz2 := hz.storeOther (k := w.heap.size) (by omega) ⟨s1, a1, e1, f1⟩
  have hB2 := setCu_below hBa (Nat.le_refl _) ⟨s1, a1, e1, f1⟩
  have k0 := hb2.c0
  have k1 := hb2.c1
  have k2 := hb2.c2
  have k3 := hb2.c3
  have l0 := hb2.fz 0
  have l1 := hb2.fz 1
  have l2 := hb2.fz 2
  have l3 := hb2.fz 3
  have q0 := hz2.c0
  have q1 := hz2.c1
  have q2 := hz2.c2
  have q3 := hz2.c3
  have z0 := hz2.fz 0
  have z1 := hz2.fz 1
  have z2 := hz2.fz 2
  have z3 := hz2.fz 3
  simp only [World.setCu] at k0 k1 k2 k3 l0 l1 l2 l3 q0 q1 q2 q3 z0 z1 z2 z3
  have HX : Hid (IntKind.i64.wrap ((out[0]'h0).toNat : Int) = sb out 0) := by show _ = _; rw [HG.out]; exact IntWalk.i64_in _ (by omega)
  go_wp2_with fail
  go_region_held3 (fun w' => w'.cell? ⟨w.heap.size, 0, none⟩ = some (.string s1) ∧ w'.cell? ⟨w.heap.size, 1, none⟩ = some (.int .i64 a1) ∧ w'.cell? ⟨w.heap.size, 2, none⟩ = some (.int .i64 e1) ∧ w'.cell? ⟨w.heap.size, 3, none⟩ = some (.int .i64 f1)) (go_keep) (fail)
  all_goals (
    rw [HX.out]
    have hst := (hz2.store ⟨s1, a1, e1, f1⟩).drew
    have r0 := hst.c0
    have r1 := hst.c1
    have r2 := hst.c2
    have r3 := hst.c3
    simp only [World.setCu] at r0 r1 r2 r3
    go_wp2
    refine bodyPost_ret (v := .tuple #[.agg #[.string s1, .int .i64 a1, .int .i64 e1, .int .i64 f1], .int .i64 (sb out 0)]) (by simp [results, Try.results30, go_sem, r0, r1, r2, r3]) rfl ⟨?_, ?_⟩
    · rw [HC2.out, HBV.out]; rfl
    · exact below_drew (setCu_below hB2 (by omega) ⟨s1, a1, e1, f1⟩))

theorem rByte_any (s : ByteArray) (a e f : Int) (w : World) (hs : s.size ≤ 9223372036854775807) :
    Calls Try.prog 30 #[.agg #[.string s, .int .i64 a, .int .i64 e, .int .i64 f]] w fun r w' => r = .returned (.tuple #[(bytesC (rightC ⟨s, a, e, f⟩) 1).val, .int .i64 (byteV (rightC ⟨s, a, e, f⟩))]) ∧ Below w.heap.size w w' := by
  have h1 := bytesO_size (rightC ⟨s, a, e, f⟩) 1 (rightC_ok _)
  by_cases h : (bytesO (rightC ⟨s, a, e, f⟩) 1).size = 1
  · exact rByte_yes s a e f w hs h
  · refine rByte_no s a e f w hs ?_
    have h2 : (bytesO (rightC ⟨s, a, e, f⟩) 1).size = 0 := by omega
    generalize bytesO (rightC ⟨s, a, e, f⟩) 1 = u at *
    cases u with | mk d => cases d with | mk l => cases l with | nil => rfl | cons x l => simp [ByteArray.size] at h2

end Go.Proofs.Ytboajmnckldmiaa
