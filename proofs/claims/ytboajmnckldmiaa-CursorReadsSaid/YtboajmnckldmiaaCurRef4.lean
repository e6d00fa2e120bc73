/-
  The walks of the references of Inner, Fail and End.
-/
import Derived.Test.YtboajmnckldmiaaCurRef3
namespace Go.Proofs.Ytboajmnckldmiaa
open Go.RowKit
set_option linter.unusedVariables false
set_option maxRecDepth 100000

attribute [local go_sem ↓] Go.wp_at_zero Go.wp_at_succ
theorem inner_ok {c : Cur} {n : Int} (h : (bytesC (rightC c) n).e = 0) : rightC c = c := by
  unfold rightC at h ⊢
  split
  · rfl
  · rename_i hc
    rw [if_neg hc, (bytes_A (c := emptyCur) n (by decide)).1] at h
    exact absurd h (by decide)
theorem fail_keep (c : Cur) (er x : Int) : failC c er x = keepC c (errV er) (placeV c.s x) := by
  by_cases h : c.e = 0
  · rw [fail_B er x h]; exact (if_pos h).symm
  · rw [fail_A er x h]; exact (if_neg h).symm

set_option maxHeartbeats 4000000 in
theorem rInner_no (s : ByteArray) (a e f n : Int) (w : World) (hs : s.size ≤ 9223372036854775807) (hn : -9223372036854775808 ≤ n ∧ n ≤ 9223372036854775807) (he : (bytesC (rightC ⟨s, a, e, f⟩) n).e ≠ 0) :
    Calls Try.prog 35 #[.agg #[.string s, .int .i64 a, .int .i64 e, .int .i64 f], .int .i64 n] w fun r w' => r = .returned (.tuple #[(innerC (rightC ⟨s, a, e, f⟩) n).val, (bytesC (rightC ⟨s, a, e, f⟩) n).val]) ∧ Below w.heap.size w w' := by
  have HBY := Lib.hid (fun W => rBytes_any s a e f n W hs hn)
  have HI : Hid (innerC (rightC ⟨s, a, e, f⟩) n = bytesC (rightC ⟨s, a, e, f⟩) n) := if_pos he
  generalize bytesO (rightC ⟨s, a, e, f⟩) n = out at *
  obtain ⟨⟨s2, a2, e2, f2⟩, hk⟩ : ∃ k, bytesC (rightC ⟨s, a, e, f⟩) n = k := ⟨_, rfl⟩
  rw [hk] at HBY HI he
  have HK := Lib.hid hk
  clear hk
  simp only at he
  have t0 : (e2 != 0) = true := by simp [he]
  clear he
  go_enter Try.func35, Try.ntmps35
  go_wp2_with fail
  refine (HBY.out _).mono ?_
  rintro r w1 ⟨rfl, hB⟩
  unfold Cur.val
  have hb := (((Cu.new w ⟨s, a, e, f⟩ 28).alloc (.cells #[.string ByteArray.empty, .int .i64 0, .int .i64 0, .int .i64 0] 28)).alloc (.cells #[.string ByteArray.empty, .int .i64 0, .int .i64 0, .int .i64 0] 28)).keep' hB
  have hz := ((Cu.new (w.alloc (.cells #[.string s, .int .i64 a, .int .i64 e, .int .i64 f] 28)) zeroCur 28).alloc (.cells #[.string ByteArray.empty, .int .i64 0, .int .i64 0, .int .i64 0] 28)).keep' hB
  have hy := (Cu.new ((w.alloc (.cells #[.string s, .int .i64 a, .int .i64 e, .int .i64 f] 28)).alloc (.cells #[.string ByteArray.empty, .int .i64 0, .int .i64 0, .int .i64 0] 28)) zeroCur 28).keep' hB
  rw [World.size_alloc] at hz
  rw [World.size_alloc, World.size_alloc] at hy
  have hsz1 : w.heap.size + 3 ≤ w1.heap.size := by have := hB.size; simp at this; omega
  have hBa := below_alloc (below_then (below_alloc (below_alloc (below_new (w := w) (.cells #[.string s, .int .i64 a, .int .i64 e, .int .i64 f] 28)) (.cells #[.string ByteArray.empty, .int .i64 0, .int .i64 0, .int .i64 0] 28)) (.cells #[.string ByteArray.empty, .int .i64 0, .int .i64 0, .int .i64 0] 28)) hB) (.cells #[.string s2, .int .i64 a2, .int .i64 e2, .int .i64 f2] 28)
  have hb2 := hb.alloc (.cells #[.string s2, .int .i64 a2, .int .i64 e2, .int .i64 f2] 28)
  have hz2 := hz.alloc (.cells #[.string s2, .int .i64 a2, .int .i64 e2, .int .i64 f2] 28)
  have hy2 := hy.alloc (.cells #[.string s2, .int .i64 a2, .int .i64 e2, .int .i64 f2] 28)
  have hx2 := Cu.new w1 ⟨s2, a2, e2, f2⟩ 28
  have hgn1 : ¬ (w1.heap.size = w.heap.size + 1) := by omega
  have hgn2 : ¬ (w1.heap.size = w.heap.size + 1 + 1) := by omega
  have b0 := hb2.c0
  have b1 := hb2.c1
  have b2 := hb2.c2
  have b3 := hb2.c3
  have q0 := hz2.c0
  have q1 := hz2.c1
  have q2 := hz2.c2
  have q3 := hz2.c3
  have z0 := hz2.fz 0
  have z1 := hz2.fz 1
  have z2 := hz2.fz 2
  have z3 := hz2.fz 3
  have m0 := hy2.c0
  have m1 := hy2.c1
  have m2 := hy2.c2
  have m3 := hy2.c3
  have n0 := hy2.fz 0
  have n1 := hy2.fz 1
  have n2 := hy2.fz 2
  have n3 := hy2.fz 3
  have p0 := hx2.c0
  have p1 := hx2.c1
  have p2 := hx2.c2
  have p3 := hx2.c3
  have kxA := (hx2.storeOther (k := w.heap.size + 1) hgn1 ⟨s2, a2, e2, f2⟩).drew
  have kxB := ((hx2.storeOther (k := w.heap.size + 1) hgn1 ⟨s2, a2, e2, f2⟩).storeOther (k := w.heap.size + 1 + 1) hgn2 ⟨s2, a2, e2, f2⟩).drew
  have kbA := (hb2.storeOther (k := w.heap.size + 1) (by omega) ⟨s2, a2, e2, f2⟩).drew
  have kbB := ((hb2.storeOther (k := w.heap.size + 1) (by omega) ⟨s2, a2, e2, f2⟩).storeOther (k := w.heap.size + 1 + 1) (by omega) ⟨s2, a2, e2, f2⟩).drew
  have kxA0 := kxA.c0
  have kxA1 := kxA.c1
  have kxA2 := kxA.c2
  have kxA3 := kxA.c3
  have kxB0 := kxB.c0
  have kxB1 := kxB.c1
  have kxB2 := kxB.c2
  have kxB3 := kxB.c3
  have kbA0 := kbA.c0
  have kbA1 := kbA.c1
  have kbA2 := kbA.c2
  have kbA3 := kbA.c3
  have kbB0 := kbB.c0
  have kbB1 := kbB.c1
  have kbB2 := kbB.c2
  have kbB3 := kbB.c3
  simp only [World.setCu] at kxA0 kxA1 kxA2 kxA3 kxB0 kxB1 kxB2 kxB3 kbA0 kbA1 kbA2 kbA3 kbB0 kbB1 kbB2 kbB3
  clear kxA kxB kbA kbB
  have hR1 := ((hz2.store ⟨s2, a2, e2, f2⟩).storeOther (k := w.heap.size + 1 + 1) (by omega) ⟨s2, a2, e2, f2⟩).drew
  have hR2 := ((hy2.storeOther (k := w.heap.size + 1) (by omega) ⟨s2, a2, e2, f2⟩).store ⟨s2, a2, e2, f2⟩).drew
  go_wp2_with fail
  go_region_held3 (fun w' => w'.cell? ⟨w1.heap.size, 0, none⟩ = some (.string s2) ∧ w'.cell? ⟨w1.heap.size, 1, none⟩ = some (.int .i64 a2) ∧ w'.cell? ⟨w1.heap.size, 2, none⟩ = some (.int .i64 e2) ∧ w'.cell? ⟨w1.heap.size, 3, none⟩ = some (.int .i64 f2)) (go_keep) (fail)
  all_goals (
    have r0 := hR1.c0
    have u0 := hR2.c0
    have r1 := hR1.c1
    have u1 := hR2.c1
    have r2 := hR1.c2
    have u2 := hR2.c2
    have r3 := hR1.c3
    have u3 := hR2.c3
    simp only [World.setCu] at r0 r1 r2 r3 u0 u1 u2 u3
    go_wp2
    refine bodyPost_ret (v := .tuple #[.agg #[.string s2, .int .i64 a2, .int .i64 e2, .int .i64 f2], .agg #[.string s2, .int .i64 a2, .int .i64 e2, .int .i64 f2]]) (by simp [results, Try.results35, go_sem, r0, r1, r2, r3, u0, u1, u2, u3]) rfl ⟨?_, ?_⟩
    · rw [HI.out, HK.out]; rfl
    · exact below_drew (setCu_below (setCu_below hBa (by omega) ⟨s2, a2, e2, f2⟩) (by omega) ⟨s2, a2, e2, f2⟩))

set_option maxHeartbeats 4000000 in
theorem rInner_yes (s : ByteArray) (a e f n : Int) (w : World) (hs : s.size ≤ 9223372036854775807) (hn : -9223372036854775808 ≤ n ∧ n ≤ 9223372036854775807) (he : (bytesC (rightC ⟨s, a, e, f⟩) n).e = 0) :
    Calls Try.prog 35 #[.agg #[.string s, .int .i64 a, .int .i64 e, .int .i64 f], .int .i64 n] w fun r w' => r = .returned (.tuple #[(innerC (rightC ⟨s, a, e, f⟩) n).val, (bytesC (rightC ⟨s, a, e, f⟩) n).val]) ∧ Below w.heap.size w w' := by
  have HBY := Lib.hid (fun W => rBytes_any s a e f n W hs hn)
  have hro := inner_ok he
  have HI : Hid (innerC (rightC ⟨s, a, e, f⟩) n = ⟨s.extract 0 (bytesC (rightC ⟨s, a, e, f⟩) n).a.toNat, a, 0, 0⟩) := (if_neg (by rw [he]; simp)).trans (by rw [hro])
  have hbo := (bytesC_ok n (rightC_ok ⟨s, a, e, f⟩)).1
  have hbs : (bytesC (rightC ⟨s, a, e, f⟩) n).s.size ≤ s.size := by rw [bytesC_s]; exact rightC_size _
  clear hro
  generalize bytesO (rightC ⟨s, a, e, f⟩) n = out at *
  obtain ⟨⟨s2, a2, e2, f2⟩, hk⟩ : ∃ k, bytesC (rightC ⟨s, a, e, f⟩) n = k := ⟨_, rfl⟩
  rw [hk] at HBY HI he hbo hbs
  have HK := Lib.hid hk
  clear hk
  simp only at he hbo hbs
  subst he
  have hsl : ∀ V, (Instr.slice 9 (.string s) none (some (.int .i64 a2)) none).run Try.prog V = .ok (.string (s.extract 0 a2.toNat)) V := fun V => by
    rw [run_slice_string_h (P := Try.prog) (w := V) 9 s Try.underlying9 .i64 a2 (by omega) (by omega)]
  go_enter Try.func35, Try.ntmps35
  go_wp2_with fail
  refine (HBY.out _).mono ?_
  rintro r w1 ⟨rfl, hB⟩
  unfold Cur.val
  have hb := (((Cu.new w ⟨s, a, e, f⟩ 28).alloc (.cells #[.string ByteArray.empty, .int .i64 0, .int .i64 0, .int .i64 0] 28)).alloc (.cells #[.string ByteArray.empty, .int .i64 0, .int .i64 0, .int .i64 0] 28)).keep' hB
  have hz := ((Cu.new (w.alloc (.cells #[.string s, .int .i64 a, .int .i64 e, .int .i64 f] 28)) zeroCur 28).alloc (.cells #[.string ByteArray.empty, .int .i64 0, .int .i64 0, .int .i64 0] 28)).keep' hB
  have hy := (Cu.new ((w.alloc (.cells #[.string s, .int .i64 a, .int .i64 e, .int .i64 f] 28)).alloc (.cells #[.string ByteArray.empty, .int .i64 0, .int .i64 0, .int .i64 0] 28)) zeroCur 28).keep' hB
  rw [World.size_alloc] at hz
  rw [World.size_alloc, World.size_alloc] at hy
  have hsz1 : w.heap.size + 3 ≤ w1.heap.size := by have := hB.size; simp at this; omega
  have hBa := below_alloc (below_then (below_alloc (below_alloc (below_new (w := w) (.cells #[.string s, .int .i64 a, .int .i64 e, .int .i64 f] 28)) (.cells #[.string ByteArray.empty, .int .i64 0, .int .i64 0, .int .i64 0] 28)) (.cells #[.string ByteArray.empty, .int .i64 0, .int .i64 0, .int .i64 0] 28)) hB) (.cells #[.string s2, .int .i64 a2, .int .i64 0, .int .i64 f2] 28)
  have hb2 := hb.alloc (.cells #[.string s2, .int .i64 a2, .int .i64 0, .int .i64 f2] 28)
  have hz2 := hz.alloc (.cells #[.string s2, .int .i64 a2, .int .i64 0, .int .i64 f2] 28)
  have hy2 := hy.alloc (.cells #[.string s2, .int .i64 a2, .int .i64 0, .int .i64 f2] 28)
  have hx2 := Cu.new w1 ⟨s2, a2, 0, f2⟩ 28
  have hgn1 : ¬ (w1.heap.size = w.heap.size + 1) := by omega
  have hgn2 : ¬ (w1.heap.size = w.heap.size + 1 + 1) := by omega
  have b0 := hb2.c0
  have b1 := hb2.c1
  have b2 := hb2.c2
  have b3 := hb2.c3
  have q0 := hz2.c0
  have q1 := hz2.c1
  have q2 := hz2.c2
  have q3 := hz2.c3
  have z0 := hz2.fz 0
  have z1 := hz2.fz 1
  have z2 := hz2.fz 2
  have z3 := hz2.fz 3
  have m0 := hy2.c0
  have m1 := hy2.c1
  have m2 := hy2.c2
  have m3 := hy2.c3
  have n0 := hy2.fz 0
  have n1 := hy2.fz 1
  have n2 := hy2.fz 2
  have n3 := hy2.fz 3
  have p0 := hx2.c0
  have p1 := hx2.c1
  have p2 := hx2.c2
  have p3 := hx2.c3
  have kxA := (hx2.storeOther (k := w.heap.size + 1) hgn1 ⟨(s.extract 0 a2.toNat), a, 0, 0⟩).drew
  have kxB := ((hx2.storeOther (k := w.heap.size + 1) hgn1 ⟨(s.extract 0 a2.toNat), a, 0, 0⟩).storeOther (k := w.heap.size + 1 + 1) hgn2 ⟨s2, a2, 0, f2⟩).drew
  have kbA := (hb2.storeOther (k := w.heap.size + 1) (by omega) ⟨(s.extract 0 a2.toNat), a, 0, 0⟩).drew
  have kbB := ((hb2.storeOther (k := w.heap.size + 1) (by omega) ⟨(s.extract 0 a2.toNat), a, 0, 0⟩).storeOther (k := w.heap.size + 1 + 1) (by omega) ⟨s2, a2, 0, f2⟩).drew
  have kxA0 := kxA.c0
  have kxA1 := kxA.c1
  have kxA2 := kxA.c2
  have kxA3 := kxA.c3
  have kxB0 := kxB.c0
  have kxB1 := kxB.c1
  have kxB2 := kxB.c2
  have kxB3 := kxB.c3
  have kbA0 := kbA.c0
  have kbA1 := kbA.c1
  have kbA2 := kbA.c2
  have kbA3 := kbA.c3
  have kbB0 := kbB.c0
  have kbB1 := kbB.c1
  have kbB2 := kbB.c2
  have kbB3 := kbB.c3
  simp only [World.setCu] at kxA0 kxA1 kxA2 kxA3 kxB0 kxB1 kxB2 kxB3 kbA0 kbA1 kbA2 kbA3 kbB0 kbB1 kbB2 kbB3
  clear kxA kxB kbA kbB
  have hR1 := ((hz2.store ⟨(s.extract 0 a2.toNat), a, 0, 0⟩).storeOther (k := w.heap.size + 1 + 1) (by omega) ⟨s2, a2, 0, f2⟩).drew
  have hR2 := ((hy2.storeOther (k := w.heap.size + 1) (by omega) ⟨(s.extract 0 a2.toNat), a, 0, 0⟩).store ⟨s2, a2, 0, f2⟩).drew
  go_wp2_with fail
  go_region_held3 (fun w' => w'.cell? ⟨w1.heap.size, 0, none⟩ = some (.string s2) ∧ w'.cell? ⟨w1.heap.size, 1, none⟩ = some (.int .i64 a2) ∧ w'.cell? ⟨w1.heap.size, 2, none⟩ = some (.int .i64 0) ∧ w'.cell? ⟨w1.heap.size, 3, none⟩ = some (.int .i64 f2) ∧ w'.cell? ⟨w.heap.size, 0, none⟩ = some (.string s) ∧ w'.cell? ⟨w.heap.size, 1, none⟩ = some (.int .i64 a)) (go_keep) (fail)
  all_goals (
    have r0 := hR1.c0
    have u0 := hR2.c0
    have r1 := hR1.c1
    have u1 := hR2.c1
    have r2 := hR1.c2
    have u2 := hR2.c2
    have r3 := hR1.c3
    have u3 := hR2.c3
    simp only [World.setCu] at r0 r1 r2 r3 u0 u1 u2 u3
    go_wp2
    refine bodyPost_ret (v := .tuple #[.agg #[.string (s.extract 0 a2.toNat), .int .i64 a, .int .i64 0, .int .i64 0], .agg #[.string s2, .int .i64 a2, .int .i64 0, .int .i64 f2]]) (by simp [results, Try.results35, go_sem, r0, r1, r2, r3, u0, u1, u2, u3]) rfl ⟨?_, ?_⟩
    · rw [HI.out, HK.out]; rfl
    · exact below_drew (setCu_below (setCu_below hBa (by omega) ⟨(s.extract 0 a2.toNat), a, 0, 0⟩) (by omega) ⟨s2, a2, 0, f2⟩))

theorem rInner_any (s : ByteArray) (a e f n : Int) (w : World) (hs : s.size ≤ 9223372036854775807) (hn : -9223372036854775808 ≤ n ∧ n ≤ 9223372036854775807) :
    Calls Try.prog 35 #[.agg #[.string s, .int .i64 a, .int .i64 e, .int .i64 f], .int .i64 n] w fun r w' => r = .returned (.tuple #[(innerC (rightC ⟨s, a, e, f⟩) n).val, (bytesC (rightC ⟨s, a, e, f⟩) n).val]) ∧ Below w.heap.size w w' := by
  by_cases he : (bytesC (rightC ⟨s, a, e, f⟩) n).e = 0
  · exact rInner_yes s a e f n w hs hn he
  · exact rInner_no s a e f n w hs hn he

set_option maxHeartbeats 1600000 in
theorem rFail_lo_a (s : ByteArray) (a e f er x : Int) (w : World) (hs : s.size ≤ 9223372036854775807) (hE : er < 1) (hX : x < 0) :
    Calls Try.prog 23 #[.agg #[.string s, .int .i64 a, .int .i64 e, .int .i64 f], .int .i64 er, .int .i64 x] w fun r w' => r = .returned ((failC (rightC ⟨s, a, e, f⟩) er x).val) ∧ Below w.heap.size w w' := by
  have HO := Lib.hid (fun W => right_any s a e f W hs)
  have hok := Lib.hid (rightC_ok ⟨s, a, e, f⟩)
  have hsz := rightC_size ⟨s, a, e, f⟩
  simp only at hsz
  generalize rightC ⟨s, a, e, f⟩ = c at *
  obtain ⟨s1, a1, e1, f1⟩ := c
  change s1.size ≤ s.size at hsz
  have HR : Hid (failC ⟨s1, a1, e1, f1⟩ er x = keepC ⟨s1, a1, e1, f1⟩ 3 0) := by
    show _ = _
    rw [fail_keep, show errV er = 3 from by unfold errV; first | exact if_pos (by omega) | exact if_neg (by omega), show placeV s1 x = 0 from by unfold placeV; omega]
  obtain ⟨⟨s2, a2, e2, f2⟩, hk⟩ : ∃ k, keepC ⟨s1, a1, e1, f1⟩ 3 0 = k := ⟨_, rfl⟩
  have HK := Lib.hid hk
  clear hk
  have x1 : ¬ ((s1.size : Int) < 0) := by omega
  go_enter Try.func23, Try.ntmps23
  go_wp2_with fail
  refine (HO.out _).mono ?_
  rintro r w1 ⟨rfl, hB⟩
  unfold Cur.val
  have hb := ((Cu.new w ⟨s, a, e, f⟩ 28).alloc (.cells #[.string ByteArray.empty, .int .i64 0, .int .i64 0, .int .i64 0] 28)).keep' hB
  have hz := (Cu.new (w.alloc (.cells #[.string s, .int .i64 a, .int .i64 e, .int .i64 f] 28)) zeroCur 28).keep' hB
  rw [World.size_alloc] at hz
  have hsz1 : w.heap.size + 2 ≤ w1.heap.size := by have := hB.size; simp at this; omega
  have hBa := below_then (below_alloc (below_new (w := w) (.cells #[.string s, .int .i64 a, .int .i64 e, .int .i64 f] 28)) (.cells #[.string ByteArray.empty, .int .i64 0, .int .i64 0, .int .i64 0] 28)) hB
  have b0 := hb.c0
  have b1 := hb.c1
  have b2 := hb.c2
  have b3 := hb.c3
  have y0 := hb.fz 0
  have y1 := hb.fz 1
  have y2 := hb.fz 2
  have y3 := hb.fz 3
  have hb2 := hb.store ⟨s1, a1, e1, f1⟩
  have hz2 := hz.storeOther (k := w.heap.size) (by omega) ⟨s1, a1, e1, f1⟩
  have hB2 := setCu_below hBa (Nat.le_refl _) ⟨s1, a1, e1, f1⟩
  have k0 := hb2.c0
  have k1 := hb2.c1
  have k2 := hb2.c2
  have k3 := hb2.c3
  have l0 := hb2.fz 0
  have l1 := hb2.fz 1
  have l2 := hb2.fz 2
  have l3 := hb2.fz 3
  have q0 := hz2.c0
  have q1 := hz2.c1
  have q2 := hz2.c2
  have q3 := hz2.c3
  have z0 := hz2.fz 0
  have z1 := hz2.fz 1
  have z2 := hz2.fz 2
  have z3 := hz2.fz 3
  simp only [World.setCu] at k0 k1 k2 k3 l0 l1 l2 l3 q0 q1 q2 q3 z0 z1 z2 z3
  go_wp2_with fail
  refine (rfail_any s1 a1 e1 f1 3 0 _ (by omega)).mono ?_
  rintro r w4 ⟨rfl, hB4⟩
  rw [HK.out]
  unfold Cur.val
  clear q0 q1 q2 q3 z0 z1 z2 z3
  have hz4 := hz2.keep' hB4
  have hB5 := below_then hB2 hB4
  have q0 := hz4.c0
  have q1 := hz4.c1
  have q2 := hz4.c2
  have q3 := hz4.c3
  have z0 := hz4.fz 0
  have z1 := hz4.fz 1
  have z2 := hz4.fz 2
  have z3 := hz4.fz 3
  have hst := (hz4.store ⟨s2, a2, e2, f2⟩)
  have r0 := hst.c0
  have r1 := hst.c1
  have r2 := hst.c2
  have r3 := hst.c3
  simp only [World.setCu] at r0 r1 r2 r3
  go_wp2
  refine bodyPost_ret (v := .agg #[.string s2, .int .i64 a2, .int .i64 e2, .int .i64 f2]) (by simp [results, Try.results23, go_sem, r0, r1, r2, r3]) rfl ⟨?_, ?_⟩
  · rw [HR.out, HK.out]; rfl
  · exact (setCu_below hB5 (by omega) ⟨s2, a2, e2, f2⟩)

set_option maxHeartbeats 1600000 in
theorem rFail_lo_b (s : ByteArray) (a e f er x : Int) (w : World) (hs : s.size ≤ 9223372036854775807) (hE : er < 1) (hX : 0 ≤ x ∧ x ≤ ((rightC ⟨s, a, e, f⟩).s.size : Int)) :
    Calls Try.prog 23 #[.agg #[.string s, .int .i64 a, .int .i64 e, .int .i64 f], .int .i64 er, .int .i64 x] w fun r w' => r = .returned ((failC (rightC ⟨s, a, e, f⟩) er x).val) ∧ Below w.heap.size w w' := by
  have HO := Lib.hid (fun W => right_any s a e f W hs)
  have hok := Lib.hid (rightC_ok ⟨s, a, e, f⟩)
  have hsz := rightC_size ⟨s, a, e, f⟩
  simp only at hsz
  generalize rightC ⟨s, a, e, f⟩ = c at *
  obtain ⟨s1, a1, e1, f1⟩ := c
  change s1.size ≤ s.size at hsz
  simp only at hX
  have HR : Hid (failC ⟨s1, a1, e1, f1⟩ er x = keepC ⟨s1, a1, e1, f1⟩ 3 x) := by
    show _ = _
    rw [fail_keep, show errV er = 3 from by unfold errV; first | exact if_pos (by omega) | exact if_neg (by omega), show placeV s1 x = x from by unfold placeV; omega]
  obtain ⟨⟨s2, a2, e2, f2⟩, hk⟩ : ∃ k, keepC ⟨s1, a1, e1, f1⟩ 3 x = k := ⟨_, rfl⟩
  have HK := Lib.hid hk
  clear hk
  have x1 : ¬ (x < 0) := by omega
  have x2 : ¬ ((s1.size : Int) < x) := by omega
  go_enter Try.func23, Try.ntmps23
  go_wp2_with fail
  refine (HO.out _).mono ?_
  rintro r w1 ⟨rfl, hB⟩
  unfold Cur.val
  have hb := ((Cu.new w ⟨s, a, e, f⟩ 28).alloc (.cells #[.string ByteArray.empty, .int .i64 0, .int .i64 0, .int .i64 0] 28)).keep' hB
  have hz := (Cu.new (w.alloc (.cells #[.string s, .int .i64 a, .int .i64 e, .int .i64 f] 28)) zeroCur 28).keep' hB
  rw [World.size_alloc] at hz
  have hsz1 : w.heap.size + 2 ≤ w1.heap.size := by have := hB.size; simp at this; omega
  have hBa := below_then (below_alloc (below_new (w := w) (.cells #[.string s, .int .i64 a, .int .i64 e, .int .i64 f] 28)) (.cells #[.string ByteArray.empty, .int .i64 0, .int .i64 0, .int .i64 0] 28)) hB
  have b0 := hb.c0
  have b1 := hb.c1
  have b2 := hb.c2
  have b3 := hb.c3
  have y0 := hb.fz 0
  have y1 := hb.fz 1
  have y2 := hb.fz 2
  have y3 := hb.fz 3
  have hb2 := hb.store ⟨s1, a1, e1, f1⟩
  have hz2 := hz.storeOther (k := w.heap.size) (by omega) ⟨s1, a1, e1, f1⟩
  have hB2 := setCu_below hBa (Nat.le_refl _) ⟨s1, a1, e1, f1⟩
  have k0 := hb2.c0
  have k1 := hb2.c1
  have k2 := hb2.c2
  have k3 := hb2.c3
  have l0 := hb2.fz 0
  have l1 := hb2.fz 1
  have l2 := hb2.fz 2
  have l3 := hb2.fz 3
  have q0 := hz2.c0
  have q1 := hz2.c1
  have q2 := hz2.c2
  have q3 := hz2.c3
  have z0 := hz2.fz 0
  have z1 := hz2.fz 1
  have z2 := hz2.fz 2
  have z3 := hz2.fz 3
  simp only [World.setCu] at k0 k1 k2 k3 l0 l1 l2 l3 q0 q1 q2 q3 z0 z1 z2 z3
  go_wp2_with fail
  refine (rfail_any s1 a1 e1 f1 3 x _ (by omega)).mono ?_
  rintro r w4 ⟨rfl, hB4⟩
  rw [HK.out]
  unfold Cur.val
  clear q0 q1 q2 q3 z0 z1 z2 z3
  have hz4 := hz2.keep' hB4
  have hB5 := below_then hB2 hB4
  have q0 := hz4.c0
  have q1 := hz4.c1
  have q2 := hz4.c2
  have q3 := hz4.c3
  have z0 := hz4.fz 0
  have z1 := hz4.fz 1
  have z2 := hz4.fz 2
  have z3 := hz4.fz 3
  have hst := (hz4.store ⟨s2, a2, e2, f2⟩)
  have r0 := hst.c0
  have r1 := hst.c1
  have r2 := hst.c2
  have r3 := hst.c3
  simp only [World.setCu] at r0 r1 r2 r3
  go_wp2
  refine bodyPost_ret (v := .agg #[.string s2, .int .i64 a2, .int .i64 e2, .int .i64 f2]) (by simp [results, Try.results23, go_sem, r0, r1, r2, r3]) rfl ⟨?_, ?_⟩
  · rw [HR.out, HK.out]; rfl
  · exact (setCu_below hB5 (by omega) ⟨s2, a2, e2, f2⟩)

set_option maxHeartbeats 1600000 in
theorem rFail_lo_c (s : ByteArray) (a e f er x : Int) (w : World) (hs : s.size ≤ 9223372036854775807) (hE : er < 1) (hX : 0 ≤ x ∧ ((rightC ⟨s, a, e, f⟩).s.size : Int) < x) :
    Calls Try.prog 23 #[.agg #[.string s, .int .i64 a, .int .i64 e, .int .i64 f], .int .i64 er, .int .i64 x] w fun r w' => r = .returned ((failC (rightC ⟨s, a, e, f⟩) er x).val) ∧ Below w.heap.size w w' := by
  have HO := Lib.hid (fun W => right_any s a e f W hs)
  have hok := Lib.hid (rightC_ok ⟨s, a, e, f⟩)
  have hsz := rightC_size ⟨s, a, e, f⟩
  simp only at hsz
  generalize rightC ⟨s, a, e, f⟩ = c at *
  obtain ⟨s1, a1, e1, f1⟩ := c
  change s1.size ≤ s.size at hsz
  simp only at hX
  have HR : Hid (failC ⟨s1, a1, e1, f1⟩ er x = keepC ⟨s1, a1, e1, f1⟩ 3 (s1.size : Int)) := by
    show _ = _
    rw [fail_keep, show errV er = 3 from by unfold errV; first | exact if_pos (by omega) | exact if_neg (by omega), show placeV s1 x = (s1.size : Int) from by unfold placeV; omega]
  obtain ⟨⟨s2, a2, e2, f2⟩, hk⟩ : ∃ k, keepC ⟨s1, a1, e1, f1⟩ 3 (s1.size : Int) = k := ⟨_, rfl⟩
  have HK := Lib.hid hk
  clear hk
  have x1 : ¬ (x < 0) := by omega
  have x2 : (s1.size : Int) < x := by omega
  go_enter Try.func23, Try.ntmps23
  go_wp2_with fail
  refine (HO.out _).mono ?_
  rintro r w1 ⟨rfl, hB⟩
  unfold Cur.val
  have hb := ((Cu.new w ⟨s, a, e, f⟩ 28).alloc (.cells #[.string ByteArray.empty, .int .i64 0, .int .i64 0, .int .i64 0] 28)).keep' hB
  have hz := (Cu.new (w.alloc (.cells #[.string s, .int .i64 a, .int .i64 e, .int .i64 f] 28)) zeroCur 28).keep' hB
  rw [World.size_alloc] at hz
  have hsz1 : w.heap.size + 2 ≤ w1.heap.size := by have := hB.size; simp at this; omega
  have hBa := below_then (below_alloc (below_new (w := w) (.cells #[.string s, .int .i64 a, .int .i64 e, .int .i64 f] 28)) (.cells #[.string ByteArray.empty, .int .i64 0, .int .i64 0, .int .i64 0] 28)) hB
  have b0 := hb.c0
  have b1 := hb.c1
  have b2 := hb.c2
  have b3 := hb.c3
  have y0 := hb.fz 0
  have y1 := hb.fz 1
  have y2 := hb.fz 2
  have y3 := hb.fz 3
  have hb2 := hb.store ⟨s1, a1, e1, f1⟩
  have hz2 := hz.storeOther (k := w.heap.size) (by omega) ⟨s1, a1, e1, f1⟩
  have hB2 := setCu_below hBa (Nat.le_refl _) ⟨s1, a1, e1, f1⟩
  have k0 := hb2.c0
  have k1 := hb2.c1
  have k2 := hb2.c2
  have k3 := hb2.c3
  have l0 := hb2.fz 0
  have l1 := hb2.fz 1
  have l2 := hb2.fz 2
  have l3 := hb2.fz 3
  have q0 := hz2.c0
  have q1 := hz2.c1
  have q2 := hz2.c2
  have q3 := hz2.c3
  have z0 := hz2.fz 0
  have z1 := hz2.fz 1
  have z2 := hz2.fz 2
  have z3 := hz2.fz 3
  simp only [World.setCu] at k0 k1 k2 k3 l0 l1 l2 l3 q0 q1 q2 q3 z0 z1 z2 z3
  go_wp2_with fail
  refine (rfail_any s1 a1 e1 f1 3 (s1.size : Int) _ (by omega)).mono ?_
  rintro r w4 ⟨rfl, hB4⟩
  rw [HK.out]
  unfold Cur.val
  clear q0 q1 q2 q3 z0 z1 z2 z3
  have hz4 := hz2.keep' hB4
  have hB5 := below_then hB2 hB4
  have q0 := hz4.c0
  have q1 := hz4.c1
  have q2 := hz4.c2
  have q3 := hz4.c3
  have z0 := hz4.fz 0
  have z1 := hz4.fz 1
  have z2 := hz4.fz 2
  have z3 := hz4.fz 3
  have hst := (hz4.store ⟨s2, a2, e2, f2⟩)
  have r0 := hst.c0
  have r1 := hst.c1
  have r2 := hst.c2
  have r3 := hst.c3
  simp only [World.setCu] at r0 r1 r2 r3
  go_wp2
  refine bodyPost_ret (v := .agg #[.string s2, .int .i64 a2, .int .i64 e2, .int .i64 f2]) (by simp [results, Try.results23, go_sem, r0, r1, r2, r3]) rfl ⟨?_, ?_⟩
  · rw [HR.out, HK.out]; rfl
  · exact (setCu_below hB5 (by omega) ⟨s2, a2, e2, f2⟩)

set_option maxHeartbeats 1600000 in
theorem rFail_hi_a (s : ByteArray) (a e f er x : Int) (w : World) (hs : s.size ≤ 9223372036854775807) (hE : 31 < er) (hX : x < 0) :
    Calls Try.prog 23 #[.agg #[.string s, .int .i64 a, .int .i64 e, .int .i64 f], .int .i64 er, .int .i64 x] w fun r w' => r = .returned ((failC (rightC ⟨s, a, e, f⟩) er x).val) ∧ Below w.heap.size w w' := by
  have HO := Lib.hid (fun W => right_any s a e f W hs)
  have hok := Lib.hid (rightC_ok ⟨s, a, e, f⟩)
  have hsz := rightC_size ⟨s, a, e, f⟩
  simp only at hsz
  generalize rightC ⟨s, a, e, f⟩ = c at *
  obtain ⟨s1, a1, e1, f1⟩ := c
  change s1.size ≤ s.size at hsz
  have HR : Hid (failC ⟨s1, a1, e1, f1⟩ er x = keepC ⟨s1, a1, e1, f1⟩ 3 0) := by
    show _ = _
    rw [fail_keep, show errV er = 3 from by unfold errV; first | exact if_pos (by omega) | exact if_neg (by omega), show placeV s1 x = 0 from by unfold placeV; omega]
  obtain ⟨⟨s2, a2, e2, f2⟩, hk⟩ : ∃ k, keepC ⟨s1, a1, e1, f1⟩ 3 0 = k := ⟨_, rfl⟩
  have HK := Lib.hid hk
  clear hk
  have h1 : decide (er < 1) = false := by simp; omega
  have x1 : ¬ ((s1.size : Int) < 0) := by omega
  go_enter Try.func23, Try.ntmps23
  go_wp2_with fail
  refine (HO.out _).mono ?_
  rintro r w1 ⟨rfl, hB⟩
  unfold Cur.val
  have hb := ((Cu.new w ⟨s, a, e, f⟩ 28).alloc (.cells #[.string ByteArray.empty, .int .i64 0, .int .i64 0, .int .i64 0] 28)).keep' hB
  have hz := (Cu.new (w.alloc (.cells #[.string s, .int .i64 a, .int .i64 e, .int .i64 f] 28)) zeroCur 28).keep' hB
  rw [World.size_alloc] at hz
  have hsz1 : w.heap.size + 2 ≤ w1.heap.size := by have := hB.size; simp at this; omega
  have hBa := below_then (below_alloc (below_new (w := w) (.cells #[.string s, .int .i64 a, .int .i64 e, .int .i64 f] 28)) (.cells #[.string ByteArray.empty, .int .i64 0, .int .i64 0, .int .i64 0] 28)) hB
  have b0 := hb.c0
  have b1 := hb.c1
  have b2 := hb.c2
  have b3 := hb.c3
  have y0 := hb.fz 0
  have y1 := hb.fz 1
  have y2 := hb.fz 2
  have y3 := hb.fz 3
  have hb2 := hb.store ⟨s1, a1, e1, f1⟩
  have hz2 := hz.storeOther (k := w.heap.size) (by omega) ⟨s1, a1, e1, f1⟩
  have hB2 := setCu_below hBa (Nat.le_refl _) ⟨s1, a1, e1, f1⟩
  have k0 := hb2.c0
  have k1 := hb2.c1
  have k2 := hb2.c2
  have k3 := hb2.c3
  have l0 := hb2.fz 0
  have l1 := hb2.fz 1
  have l2 := hb2.fz 2
  have l3 := hb2.fz 3
  have q0 := hz2.c0
  have q1 := hz2.c1
  have q2 := hz2.c2
  have q3 := hz2.c3
  have z0 := hz2.fz 0
  have z1 := hz2.fz 1
  have z2 := hz2.fz 2
  have z3 := hz2.fz 3
  simp only [World.setCu] at k0 k1 k2 k3 l0 l1 l2 l3 q0 q1 q2 q3 z0 z1 z2 z3
  go_wp2_with fail
  refine (rfail_any s1 a1 e1 f1 3 0 _ (by omega)).mono ?_
  rintro r w4 ⟨rfl, hB4⟩
  rw [HK.out]
  unfold Cur.val
  clear q0 q1 q2 q3 z0 z1 z2 z3
  have hz4 := hz2.keep' hB4
  have hB5 := below_then hB2 hB4
  have q0 := hz4.c0
  have q1 := hz4.c1
  have q2 := hz4.c2
  have q3 := hz4.c3
  have z0 := hz4.fz 0
  have z1 := hz4.fz 1
  have z2 := hz4.fz 2
  have z3 := hz4.fz 3
  have hst := (hz4.store ⟨s2, a2, e2, f2⟩)
  have r0 := hst.c0
  have r1 := hst.c1
  have r2 := hst.c2
  have r3 := hst.c3
  simp only [World.setCu] at r0 r1 r2 r3
  go_wp2
  refine bodyPost_ret (v := .agg #[.string s2, .int .i64 a2, .int .i64 e2, .int .i64 f2]) (by simp [results, Try.results23, go_sem, r0, r1, r2, r3]) rfl ⟨?_, ?_⟩
  · rw [HR.out, HK.out]; rfl
  · exact (setCu_below hB5 (by omega) ⟨s2, a2, e2, f2⟩)

set_option maxHeartbeats 1600000 in
theorem rFail_hi_b (s : ByteArray) (a e f er x : Int) (w : World) (hs : s.size ≤ 9223372036854775807) (hE : 31 < er) (hX : 0 ≤ x ∧ x ≤ ((rightC ⟨s, a, e, f⟩).s.size : Int)) :
    Calls Try.prog 23 #[.agg #[.string s, .int .i64 a, .int .i64 e, .int .i64 f], .int .i64 er, .int .i64 x] w fun r w' => r = .returned ((failC (rightC ⟨s, a, e, f⟩) er x).val) ∧ Below w.heap.size w w' := by
  have HO := Lib.hid (fun W => right_any s a e f W hs)
  have hok := Lib.hid (rightC_ok ⟨s, a, e, f⟩)
  have hsz := rightC_size ⟨s, a, e, f⟩
  simp only at hsz
  generalize rightC ⟨s, a, e, f⟩ = c at *
  obtain ⟨s1, a1, e1, f1⟩ := c
  change s1.size ≤ s.size at hsz
  simp only at hX
  have HR : Hid (failC ⟨s1, a1, e1, f1⟩ er x = keepC ⟨s1, a1, e1, f1⟩ 3 x) := by
    show _ = _
    rw [fail_keep, show errV er = 3 from by unfold errV; first | exact if_pos (by omega) | exact if_neg (by omega), show placeV s1 x = x from by unfold placeV; omega]
  obtain ⟨⟨s2, a2, e2, f2⟩, hk⟩ : ∃ k, keepC ⟨s1, a1, e1, f1⟩ 3 x = k := ⟨_, rfl⟩
  have HK := Lib.hid hk
  clear hk
  have h1 : decide (er < 1) = false := by simp; omega
  have x1 : ¬ (x < 0) := by omega
  have x2 : ¬ ((s1.size : Int) < x) := by omega
  go_enter Try.func23, Try.ntmps23
  go_wp2_with fail
  refine (HO.out _).mono ?_
  rintro r w1 ⟨rfl, hB⟩
  unfold Cur.val
  have hb := ((Cu.new w ⟨s, a, e, f⟩ 28).alloc (.cells #[.string ByteArray.empty, .int .i64 0, .int .i64 0, .int .i64 0] 28)).keep' hB
  have hz := (Cu.new (w.alloc (.cells #[.string s, .int .i64 a, .int .i64 e, .int .i64 f] 28)) zeroCur 28).keep' hB
  rw [World.size_alloc] at hz
  have hsz1 : w.heap.size + 2 ≤ w1.heap.size := by have := hB.size; simp at this; omega
  have hBa := below_then (below_alloc (below_new (w := w) (.cells #[.string s, .int .i64 a, .int .i64 e, .int .i64 f] 28)) (.cells #[.string ByteArray.empty, .int .i64 0, .int .i64 0, .int .i64 0] 28)) hB
  have b0 := hb.c0
  have b1 := hb.c1
  have b2 := hb.c2
  have b3 := hb.c3
  have y0 := hb.fz 0
  have y1 := hb.fz 1
  have y2 := hb.fz 2
  have y3 := hb.fz 3
  have hb2 := hb.store ⟨s1, a1, e1, f1⟩
  have hz2 := hz.storeOther (k := w.heap.size) (by omega) ⟨s1, a1, e1, f1⟩
  have hB2 := setCu_below hBa (Nat.le_refl _) ⟨s1, a1, e1, f1⟩
  have k0 := hb2.c0
  have k1 := hb2.c1
  have k2 := hb2.c2
  have k3 := hb2.c3
  have l0 := hb2.fz 0
  have l1 := hb2.fz 1
  have l2 := hb2.fz 2
  have l3 := hb2.fz 3
  have q0 := hz2.c0
  have q1 := hz2.c1
  have q2 := hz2.c2
  have q3 := hz2.c3
  have z0 := hz2.fz 0
  have z1 := hz2.fz 1
  have z2 := hz2.fz 2
  have z3 := hz2.fz 3
  simp only [World.setCu] at k0 k1 k2 k3 l0 l1 l2 l3 q0 q1 q2 q3 z0 z1 z2 z3
  go_wp2_with fail
  refine (rfail_any s1 a1 e1 f1 3 x _ (by omega)).mono ?_
  rintro r w4 ⟨rfl, hB4⟩
  rw [HK.out]
  unfold Cur.val
  clear q0 q1 q2 q3 z0 z1 z2 z3
  have hz4 := hz2.keep' hB4
  have hB5 := below_then hB2 hB4
  have q0 := hz4.c0
  have q1 := hz4.c1
  have q2 := hz4.c2
  have q3 := hz4.c3
  have z0 := hz4.fz 0
  have z1 := hz4.fz 1
  have z2 := hz4.fz 2
  have z3 := hz4.fz 3
  have hst := (hz4.store ⟨s2, a2, e2, f2⟩)
  have r0 := hst.c0
  have r1 := hst.c1
  have r2 := hst.c2
  have r3 := hst.c3
  simp only [World.setCu] at r0 r1 r2 r3
  go_wp2
  refine bodyPost_ret (v := .agg #[.string s2, .int .i64 a2, .int .i64 e2, .int .i64 f2]) (by simp [results, Try.results23, go_sem, r0, r1, r2, r3]) rfl ⟨?_, ?_⟩
  · rw [HR.out, HK.out]; rfl
  · exact (setCu_below hB5 (by omega) ⟨s2, a2, e2, f2⟩)

set_option maxHeartbeats 1600000 in
theorem rFail_hi_c (s : ByteArray) (a e f er x : Int) (w : World) (hs : s.size ≤ 9223372036854775807) (hE : 31 < er) (hX : 0 ≤ x ∧ ((rightC ⟨s, a, e, f⟩).s.size : Int) < x) :
    Calls Try.prog 23 #[.agg #[.string s, .int .i64 a, .int .i64 e, .int .i64 f], .int .i64 er, .int .i64 x] w fun r w' => r = .returned ((failC (rightC ⟨s, a, e, f⟩) er x).val) ∧ Below w.heap.size w w' := by
  have HO := Lib.hid (fun W => right_any s a e f W hs)
  have hok := Lib.hid (rightC_ok ⟨s, a, e, f⟩)
  have hsz := rightC_size ⟨s, a, e, f⟩
  simp only at hsz
  generalize rightC ⟨s, a, e, f⟩ = c at *
  obtain ⟨s1, a1, e1, f1⟩ := c
  change s1.size ≤ s.size at hsz
  simp only at hX
  have HR : Hid (failC ⟨s1, a1, e1, f1⟩ er x = keepC ⟨s1, a1, e1, f1⟩ 3 (s1.size : Int)) := by
    show _ = _
    rw [fail_keep, show errV er = 3 from by unfold errV; first | exact if_pos (by omega) | exact if_neg (by omega), show placeV s1 x = (s1.size : Int) from by unfold placeV; omega]
  obtain ⟨⟨s2, a2, e2, f2⟩, hk⟩ : ∃ k, keepC ⟨s1, a1, e1, f1⟩ 3 (s1.size : Int) = k := ⟨_, rfl⟩
  have HK := Lib.hid hk
  clear hk
  have h1 : decide (er < 1) = false := by simp; omega
  have x1 : ¬ (x < 0) := by omega
  have x2 : (s1.size : Int) < x := by omega
  go_enter Try.func23, Try.ntmps23
  go_wp2_with fail
  refine (HO.out _).mono ?_
  rintro r w1 ⟨rfl, hB⟩
  unfold Cur.val
  have hb := ((Cu.new w ⟨s, a, e, f⟩ 28).alloc (.cells #[.string ByteArray.empty, .int .i64 0, .int .i64 0, .int .i64 0] 28)).keep' hB
  have hz := (Cu.new (w.alloc (.cells #[.string s, .int .i64 a, .int .i64 e, .int .i64 f] 28)) zeroCur 28).keep' hB
  rw [World.size_alloc] at hz
  have hsz1 : w.heap.size + 2 ≤ w1.heap.size := by have := hB.size; simp at this; omega
  have hBa := below_then (below_alloc (below_new (w := w) (.cells #[.string s, .int .i64 a, .int .i64 e, .int .i64 f] 28)) (.cells #[.string ByteArray.empty, .int .i64 0, .int .i64 0, .int .i64 0] 28)) hB
  have b0 := hb.c0
  have b1 := hb.c1
  have b2 := hb.c2
  have b3 := hb.c3
  have y0 := hb.fz 0
  have y1 := hb.fz 1
  have y2 := hb.fz 2
  have y3 := hb.fz 3
  have hb2 := hb.store ⟨s1, a1, e1, f1⟩
  have hz2 := hz.storeOther (k := w.heap.size) (by omega) ⟨s1, a1, e1, f1⟩
  have hB2 := setCu_below hBa (Nat.le_refl _) ⟨s1, a1, e1, f1⟩
  have k0 := hb2.c0
  have k1 := hb2.c1
  have k2 := hb2.c2
  have k3 := hb2.c3
  have l0 := hb2.fz 0
  have l1 := hb2.fz 1
  have l2 := hb2.fz 2
  have l3 := hb2.fz 3
  have q0 := hz2.c0
  have q1 := hz2.c1
  have q2 := hz2.c2
  have q3 := hz2.c3
  have z0 := hz2.fz 0
  have z1 := hz2.fz 1
  have z2 := hz2.fz 2
  have z3 := hz2.fz 3
  simp only [World.setCu] at k0 k1 k2 k3 l0 l1 l2 l3 q0 q1 q2 q3 z0 z1 z2 z3
  go_wp2_with fail
  refine (rfail_any s1 a1 e1 f1 3 (s1.size : Int) _ (by omega)).mono ?_
  rintro r w4 ⟨rfl, hB4⟩
  rw [HK.out]
  unfold Cur.val
  clear q0 q1 q2 q3 z0 z1 z2 z3
  have hz4 := hz2.keep' hB4
  have hB5 := below_then hB2 hB4
  have q0 := hz4.c0
  have q1 := hz4.c1
  have q2 := hz4.c2
  have q3 := hz4.c3
  have z0 := hz4.fz 0
  have z1 := hz4.fz 1
  have z2 := hz4.fz 2
  have z3 := hz4.fz 3
  have hst := (hz4.store ⟨s2, a2, e2, f2⟩)
  have r0 := hst.c0
  have r1 := hst.c1
  have r2 := hst.c2
  have r3 := hst.c3
  simp only [World.setCu] at r0 r1 r2 r3
  go_wp2
  refine bodyPost_ret (v := .agg #[.string s2, .int .i64 a2, .int .i64 e2, .int .i64 f2]) (by simp [results, Try.results23, go_sem, r0, r1, r2, r3]) rfl ⟨?_, ?_⟩
  · rw [HR.out, HK.out]; rfl
  · exact (setCu_below hB5 (by omega) ⟨s2, a2, e2, f2⟩)

set_option maxHeartbeats 1600000 in
theorem rFail_ok_a (s : ByteArray) (a e f er x : Int) (w : World) (hs : s.size ≤ 9223372036854775807) (hE : 1 ≤ er ∧ er ≤ 31) (hX : x < 0) :
    Calls Try.prog 23 #[.agg #[.string s, .int .i64 a, .int .i64 e, .int .i64 f], .int .i64 er, .int .i64 x] w fun r w' => r = .returned ((failC (rightC ⟨s, a, e, f⟩) er x).val) ∧ Below w.heap.size w w' := by
  have HO := Lib.hid (fun W => right_any s a e f W hs)
  have hok := Lib.hid (rightC_ok ⟨s, a, e, f⟩)
  have hsz := rightC_size ⟨s, a, e, f⟩
  simp only at hsz
  generalize rightC ⟨s, a, e, f⟩ = c at *
  obtain ⟨s1, a1, e1, f1⟩ := c
  change s1.size ≤ s.size at hsz
  have HR : Hid (failC ⟨s1, a1, e1, f1⟩ er x = keepC ⟨s1, a1, e1, f1⟩ er 0) := by
    show _ = _
    rw [fail_keep, show errV er = er from by unfold errV; first | exact if_pos (by omega) | exact if_neg (by omega), show placeV s1 x = 0 from by unfold placeV; omega]
  obtain ⟨⟨s2, a2, e2, f2⟩, hk⟩ : ∃ k, keepC ⟨s1, a1, e1, f1⟩ er 0 = k := ⟨_, rfl⟩
  have HK := Lib.hid hk
  clear hk
  have h1 : decide (er < 1) = false := by simp; omega
  have h2 : decide (31 < er) = false := by simp; omega
  have x1 : ¬ ((s1.size : Int) < 0) := by omega
  go_enter Try.func23, Try.ntmps23
  go_wp2_with fail
  refine (HO.out _).mono ?_
  rintro r w1 ⟨rfl, hB⟩
  unfold Cur.val
  have hb := ((Cu.new w ⟨s, a, e, f⟩ 28).alloc (.cells #[.string ByteArray.empty, .int .i64 0, .int .i64 0, .int .i64 0] 28)).keep' hB
  have hz := (Cu.new (w.alloc (.cells #[.string s, .int .i64 a, .int .i64 e, .int .i64 f] 28)) zeroCur 28).keep' hB
  rw [World.size_alloc] at hz
  have hsz1 : w.heap.size + 2 ≤ w1.heap.size := by have := hB.size; simp at this; omega
  have hBa := below_then (below_alloc (below_new (w := w) (.cells #[.string s, .int .i64 a, .int .i64 e, .int .i64 f] 28)) (.cells #[.string ByteArray.empty, .int .i64 0, .int .i64 0, .int .i64 0] 28)) hB
  have b0 := hb.c0
  have b1 := hb.c1
  have b2 := hb.c2
  have b3 := hb.c3
  have y0 := hb.fz 0
  have y1 := hb.fz 1
  have y2 := hb.fz 2
  have y3 := hb.fz 3
  have hb2 := hb.store ⟨s1, a1, e1, f1⟩
  have hz2 := hz.storeOther (k := w.heap.size) (by omega) ⟨s1, a1, e1, f1⟩
  have hB2 := setCu_below hBa (Nat.le_refl _) ⟨s1, a1, e1, f1⟩
  have k0 := hb2.c0
  have k1 := hb2.c1
  have k2 := hb2.c2
  have k3 := hb2.c3
  have l0 := hb2.fz 0
  have l1 := hb2.fz 1
  have l2 := hb2.fz 2
  have l3 := hb2.fz 3
  have q0 := hz2.c0
  have q1 := hz2.c1
  have q2 := hz2.c2
  have q3 := hz2.c3
  have z0 := hz2.fz 0
  have z1 := hz2.fz 1
  have z2 := hz2.fz 2
  have z3 := hz2.fz 3
  simp only [World.setCu] at k0 k1 k2 k3 l0 l1 l2 l3 q0 q1 q2 q3 z0 z1 z2 z3
  go_wp2_with fail
  refine (rfail_any s1 a1 e1 f1 er 0 _ (by omega)).mono ?_
  rintro r w4 ⟨rfl, hB4⟩
  rw [HK.out]
  unfold Cur.val
  clear q0 q1 q2 q3 z0 z1 z2 z3
  have hz4 := hz2.keep' hB4
  have hB5 := below_then hB2 hB4
  have q0 := hz4.c0
  have q1 := hz4.c1
  have q2 := hz4.c2
  have q3 := hz4.c3
  have z0 := hz4.fz 0
  have z1 := hz4.fz 1
  have z2 := hz4.fz 2
  have z3 := hz4.fz 3
  have hst := (hz4.store ⟨s2, a2, e2, f2⟩)
  have r0 := hst.c0
  have r1 := hst.c1
  have r2 := hst.c2
  have r3 := hst.c3
  simp only [World.setCu] at r0 r1 r2 r3
  go_wp2
  refine bodyPost_ret (v := .agg #[.string s2, .int .i64 a2, .int .i64 e2, .int .i64 f2]) (by simp [results, Try.results23, go_sem, r0, r1, r2, r3]) rfl ⟨?_, ?_⟩
  · rw [HR.out, HK.out]; rfl
  · exact (setCu_below hB5 (by omega) ⟨s2, a2, e2, f2⟩)

set_option maxHeartbeats 1600000 in
theorem rFail_ok_b (s : ByteArray) (a e f er x : Int) (w : World) (hs : s.size ≤ 9223372036854775807) (hE : 1 ≤ er ∧ er ≤ 31) (hX : 0 ≤ x ∧ x ≤ ((rightC ⟨s, a, e, f⟩).s.size : Int)) :
    Calls Try.prog 23 #[.agg #[.string s, .int .i64 a, .int .i64 e, .int .i64 f], .int .i64 er, .int .i64 x] w fun r w' => r = .returned ((failC (rightC ⟨s, a, e, f⟩) er x).val) ∧ Below w.heap.size w w' := by
  have HO := Lib.hid (fun W => right_any s a e f W hs)
  have hok := Lib.hid (rightC_ok ⟨s, a, e, f⟩)
  have hsz := rightC_size ⟨s, a, e, f⟩
  simp only at hsz
  generalize rightC ⟨s, a, e, f⟩ = c at *
  obtain ⟨s1, a1, e1, f1⟩ := c
  change s1.size ≤ s.size at hsz
  simp only at hX
  have HR : Hid (failC ⟨s1, a1, e1, f1⟩ er x = keepC ⟨s1, a1, e1, f1⟩ er x) := by
    show _ = _
    rw [fail_keep, show errV er = er from by unfold errV; first | exact if_pos (by omega) | exact if_neg (by omega), show placeV s1 x = x from by unfold placeV; omega]
  obtain ⟨⟨s2, a2, e2, f2⟩, hk⟩ : ∃ k, keepC ⟨s1, a1, e1, f1⟩ er x = k := ⟨_, rfl⟩
  have HK := Lib.hid hk
  clear hk
  have h1 : decide (er < 1) = false := by simp; omega
  have h2 : decide (31 < er) = false := by simp; omega
  have x1 : ¬ (x < 0) := by omega
  have x2 : ¬ ((s1.size : Int) < x) := by omega
  go_enter Try.func23, Try.ntmps23
  go_wp2_with fail
  refine (HO.out _).mono ?_
  rintro r w1 ⟨rfl, hB⟩
  unfold Cur.val
  have hb := ((Cu.new w ⟨s, a, e, f⟩ 28).alloc (.cells #[.string ByteArray.empty, .int .i64 0, .int .i64 0, .int .i64 0] 28)).keep' hB
  have hz := (Cu.new (w.alloc (.cells #[.string s, .int .i64 a, .int .i64 e, .int .i64 f] 28)) zeroCur 28).keep' hB
  rw [World.size_alloc] at hz
  have hsz1 : w.heap.size + 2 ≤ w1.heap.size := by have := hB.size; simp at this; omega
  have hBa := below_then (below_alloc (below_new (w := w) (.cells #[.string s, .int .i64 a, .int .i64 e, .int .i64 f] 28)) (.cells #[.string ByteArray.empty, .int .i64 0, .int .i64 0, .int .i64 0] 28)) hB
  have b0 := hb.c0
  have b1 := hb.c1
  have b2 := hb.c2
  have b3 := hb.c3
  have y0 := hb.fz 0
  have y1 := hb.fz 1
  have y2 := hb.fz 2
  have y3 := hb.fz 3
  have hb2 := hb.store ⟨s1, a1, e1, f1⟩
  have hz2 := hz.storeOther (k := w.heap.size) (by omega) ⟨s1, a1, e1, f1⟩
  have hB2 := setCu_below hBa (Nat.le_refl _) ⟨s1, a1, e1, f1⟩
  have k0 := hb2.c0
  have k1 := hb2.c1
  have k2 := hb2.c2
  have k3 := hb2.c3
  have l0 := hb2.fz 0
  have l1 := hb2.fz 1
  have l2 := hb2.fz 2
  have l3 := hb2.fz 3
  have q0 := hz2.c0
  have q1 := hz2.c1
  have q2 := hz2.c2
  have q3 := hz2.c3
  have z0 := hz2.fz 0
  have z1 := hz2.fz 1
  have z2 := hz2.fz 2
  have z3 := hz2.fz 3
  simp only [World.setCu] at k0 k1 k2 k3 l0 l1 l2 l3 q0 q1 q2 q3 z0 z1 z2 z3
  go_wp2_with fail
  refine (rfail_any s1 a1 e1 f1 er x _ (by omega)).mono ?_
  rintro r w4 ⟨rfl, hB4⟩
  rw [HK.out]
  unfold Cur.val
  clear q0 q1 q2 q3 z0 z1 z2 z3
  have hz4 := hz2.keep' hB4
  have hB5 := below_then hB2 hB4
  have q0 := hz4.c0
  have q1 := hz4.c1
  have q2 := hz4.c2
  have q3 := hz4.c3
  have z0 := hz4.fz 0
  have z1 := hz4.fz 1
  have z2 := hz4.fz 2
  have z3 := hz4.fz 3
  have hst := (hz4.store ⟨s2, a2, e2, f2⟩)
  have r0 := hst.c0
  have r1 := hst.c1
  have r2 := hst.c2
  have r3 := hst.c3
  simp only [World.setCu] at r0 r1 r2 r3
  go_wp2
  refine bodyPost_ret (v := .agg #[.string s2, .int .i64 a2, .int .i64 e2, .int .i64 f2]) (by simp [results, Try.results23, go_sem, r0, r1, r2, r3]) rfl ⟨?_, ?_⟩
  · rw [HR.out, HK.out]; rfl
  · exact (setCu_below hB5 (by omega) ⟨s2, a2, e2, f2⟩)

set_option maxHeartbeats 1600000 in
theorem rFail_ok_c (s : ByteArray) (a e f er x : Int) (w : World) (hs : s.size ≤ 9223372036854775807) (hE : 1 ≤ er ∧ er ≤ 31) (hX : 0 ≤ x ∧ ((rightC ⟨s, a, e, f⟩).s.size : Int) < x) :
    Calls Try.prog 23 #[.agg #[.string s, .int .i64 a, .int .i64 e, .int .i64 f], .int .i64 er, .int .i64 x] w fun r w' => r = .returned ((failC (rightC ⟨s, a, e, f⟩) er x).val) ∧ Below w.heap.size w w' := by
  have HO := Lib.hid (fun W => right_any s a e f W hs)
  have hok := Lib.hid (rightC_ok ⟨s, a, e, f⟩)
  have hsz := rightC_size ⟨s, a, e, f⟩
  simp only at hsz
  generalize rightC ⟨s, a, e, f⟩ = c at *
  obtain ⟨s1, a1, e1, f1⟩ := c
  change s1.size ≤ s.size at hsz
  simp only at hX
  have HR : Hid (failC ⟨s1, a1, e1, f1⟩ er x = keepC ⟨s1, a1, e1, f1⟩ er (s1.size : Int)) := by
    show _ = _
    rw [fail_keep, show errV er = er from by unfold errV; first | exact if_pos (by omega) | exact if_neg (by omega), show placeV s1 x = (s1.size : Int) from by unfold placeV; omega]
  obtain ⟨⟨s2, a2, e2, f2⟩, hk⟩ : ∃ k, keepC ⟨s1, a1, e1, f1⟩ er (s1.size : Int) = k := ⟨_, rfl⟩
  have HK := Lib.hid hk
  clear hk
  have h1 : decide (er < 1) = false := by simp; omega
  have h2 : decide (31 < er) = false := by simp; omega
  have x1 : ¬ (x < 0) := by omega
  have x2 : (s1.size : Int) < x := by omega
  go_enter Try.func23, Try.ntmps23
  go_wp2_with fail
  refine (HO.out _).mono ?_
  rintro r w1 ⟨rfl, hB⟩
  unfold Cur.val
  have hb := ((Cu.new w ⟨s, a, e, f⟩ 28).alloc (.cells #[.string ByteArray.empty, .int .i64 0, .int .i64 0, .int .i64 0] 28)).keep' hB
  have hz := (Cu.new (w.alloc (.cells #[.string s, .int .i64 a, .int .i64 e, .int .i64 f] 28)) zeroCur 28).keep' hB
  rw [World.size_alloc] at hz
  have hsz1 : w.heap.size + 2 ≤ w1.heap.size := by have := hB.size; simp at this; omega
  have hBa := below_then (below_alloc (below_new (w := w) (.cells #[.string s, .int .i64 a, .int .i64 e, .int .i64 f] 28)) (.cells #[.string ByteArray.empty, .int .i64 0, .int .i64 0, .int .i64 0] 28)) hB
  have b0 := hb.c0
  have b1 := hb.c1
  have b2 := hb.c2
  have b3 := hb.c3
  have y0 := hb.fz 0
  have y1 := hb.fz 1
  have y2 := hb.fz 2
  have y3 := hb.fz 3
  have hb2 := hb.store ⟨s1, a1, e1, f1⟩
  have hz2 := hz.storeOther (k := w.heap.size) (by omega) ⟨s1, a1, e1, f1⟩
  have hB2 := setCu_below hBa (Nat.le_refl _) ⟨s1, a1, e1, f1⟩
  have k0 := hb2.c0
  have k1 := hb2.c1
  have k2 := hb2.c2
  have k3 := hb2.c3
  have l0 := hb2.fz 0
  have l1 := hb2.fz 1
  have l2 := hb2.fz 2
  have l3 := hb2.fz 3
  have q0 := hz2.c0
  have q1 := hz2.c1
  have q2 := hz2.c2
  have q3 := hz2.c3
  have z0 := hz2.fz 0
  have z1 := hz2.fz 1
  have z2 := hz2.fz 2
  have z3 := hz2.fz 3
  simp only [World.setCu] at k0 k1 k2 k3 l0 l1 l2 l3 q0 q1 q2 q3 z0 z1 z2 z3
  go_wp2_with fail
  refine (rfail_any s1 a1 e1 f1 er (s1.size : Int) _ (by omega)).mono ?_
  rintro r w4 ⟨rfl, hB4⟩
  rw [HK.out]
  unfold Cur.val
  clear q0 q1 q2 q3 z0 z1 z2 z3
  have hz4 := hz2.keep' hB4
  have hB5 := below_then hB2 hB4
  have q0 := hz4.c0
  have q1 := hz4.c1
  have q2 := hz4.c2
  have q3 := hz4.c3
  have z0 := hz4.fz 0
  have z1 := hz4.fz 1
  have z2 := hz4.fz 2
  have z3 := hz4.fz 3
  have hst := (hz4.store ⟨s2, a2, e2, f2⟩)
  have r0 := hst.c0
  have r1 := hst.c1
  have r2 := hst.c2
  have r3 := hst.c3
  simp only [World.setCu] at r0 r1 r2 r3
  go_wp2
  refine bodyPost_ret (v := .agg #[.string s2, .int .i64 a2, .int .i64 e2, .int .i64 f2]) (by simp [results, Try.results23, go_sem, r0, r1, r2, r3]) rfl ⟨?_, ?_⟩
  · rw [HR.out, HK.out]; rfl
  · exact (setCu_below hB5 (by omega) ⟨s2, a2, e2, f2⟩)

theorem rFail_any (s : ByteArray) (a e f er x : Int) (w : World) (hs : s.size ≤ 9223372036854775807) :
    Calls Try.prog 23 #[.agg #[.string s, .int .i64 a, .int .i64 e, .int .i64 f], .int .i64 er, .int .i64 x] w fun r w' => r = .returned ((failC (rightC ⟨s, a, e, f⟩) er x).val) ∧ Below w.heap.size w w' := by
  by_cases x0 : x < 0
  · by_cases h1 : er < 1
    · exact rFail_lo_a s a e f er x w hs h1 x0
    · by_cases h2 : 31 < er
      · exact rFail_hi_a s a e f er x w hs h2 x0
      · exact rFail_ok_a s a e f er x w hs (by omega) x0
  · by_cases x1 : ((rightC ⟨s, a, e, f⟩).s.size : Int) < x
    · by_cases h1 : er < 1
      · exact rFail_lo_c s a e f er x w hs h1 (by omega)
      · by_cases h2 : 31 < er
        · exact rFail_hi_c s a e f er x w hs h2 (by omega)
        · exact rFail_ok_c s a e f er x w hs (by omega) (by omega)
    · by_cases h1 : er < 1
      · exact rFail_lo_b s a e f er x w hs h1 (by omega)
      · by_cases h2 : 31 < er
        · exact rFail_hi_b s a e f er x w hs h2 (by omega)
        · exact rFail_ok_b s a e f er x w hs (by omega) (by omega)

set_option maxHeartbeats 1600000 in
theorem rEnd_A (s : ByteArray) (a e f : Int) (w : World) (hs : s.size ≤ 9223372036854775807) (he : (rightC ⟨s, a, e, f⟩).e ≠ 0) :
    Calls Try.prog 25 #[.agg #[.string s, .int .i64 a, .int .i64 e, .int .i64 f]] w fun r w' => r = .returned (.agg #[.int .i64 (endE (rightC ⟨s, a, e, f⟩)), .int .i64 (endF (rightC ⟨s, a, e, f⟩))]) ∧ Below w.heap.size w w' := by
  have HO := Lib.hid (fun W => right_any s a e f W hs)
  have hok := Lib.hid (rightC_ok ⟨s, a, e, f⟩)
  have hsz := rightC_size ⟨s, a, e, f⟩
  simp only at hsz
  generalize rightC ⟨s, a, e, f⟩ = c at *
  obtain ⟨s1, a1, e1, f1⟩ := c
  change s1.size ≤ s.size at hsz
  simp only at he
  have HE : Hid (endE ⟨s1, a1, e1, f1⟩ = e1) := by show (if _ then _ else _) = _; rw [if_neg (by simp only; omega)]
  have HF : Hid (endF ⟨s1, a1, e1, f1⟩ = f1) := by show (if _ then _ else _) = _; rw [if_neg (by simp only; omega)]
  have t0 : (e1 == 0) = false := by simp [he]
  clear he
  go_enter Try.func25, Try.ntmps25
  go_wp2_with fail
  refine (HO.out _).mono ?_
  rintro r w1 ⟨rfl, hB⟩
  unfold Cur.val
  have hb := ((Cu.new w ⟨s, a, e, f⟩ 28).alloc (.cells #[.int .i64 0, .int .i64 0] 26)).keep' hB
  have hz := (Fb.new (w.alloc (.cells #[.string s, .int .i64 a, .int .i64 e, .int .i64 f] 28)) 0 0).keep' hB
  rw [World.size_alloc] at hz
  have hBa := below_then (below_alloc (below_new (w := w) (.cells #[.string s, .int .i64 a, .int .i64 e, .int .i64 f] 28)) (.cells #[.int .i64 0, .int .i64 0] 26)) hB
  have b0 := hb.c0
  have b1 := hb.c1
  have b2 := hb.c2
  have b3 := hb.c3
  have y0 := hb.fz 0
  have y1 := hb.fz 1
  have y2 := hb.fz 2
  have y3 := hb.fz 3
  have hb2 := hb.store ⟨s1, a1, e1, f1⟩
  have hz2 : Fb (World.setCu w1 w.heap.size ⟨s1, a1, e1, f1⟩) (w.heap.size + 1) 0 0 := ((((Below.heap_setCell _ _ _ _ (by simp)).trans (Below.heap_setCell _ _ _ _ (by simp))).trans (Below.heap_setCell _ _ _ _ (by simp))).trans (Below.heap_setCell _ _ _ _ (by simp))).trans hz
  have hB2 := setCu_below hBa (Nat.le_refl _) ⟨s1, a1, e1, f1⟩
  have k0 := hb2.c0
  have k1 := hb2.c1
  have k2 := hb2.c2
  have k3 := hb2.c3
  have q0 := hz2.c0
  have q1 := hz2.c1
  have z0 := hz2.fz 0
  have z1 := hz2.fz 1
  have hst := hz2.store e1 f1
  have r0 := hst.c0
  have r1 := hst.c1
  simp only [World.setCu] at k0 k1 k2 k3 q0 q1 z0 z1 r0 r1
  go_wp2
  refine bodyPost_ret (v := .agg #[.int .i64 e1, .int .i64 f1]) (by simp [results, Try.results25, go_sem, r0, r1]) rfl ⟨?_, ?_⟩
  · rw [HE.out, HF.out]
  · exact ((hB2.setCell (p := ⟨w.heap.size + 1, 0, none⟩) (by simp only; omega) _).setCell (p := ⟨w.heap.size + 1, 1, none⟩) (by simp only; omega) _)

set_option maxHeartbeats 1600000 in
theorem rEnd_B (s : ByteArray) (a e f : Int) (w : World) (hs : s.size ≤ 9223372036854775807) (he : (rightC ⟨s, a, e, f⟩).e = 0) (hA : (rightC ⟨s, a, e, f⟩).a < ((rightC ⟨s, a, e, f⟩).s.size : Int)) :
    Calls Try.prog 25 #[.agg #[.string s, .int .i64 a, .int .i64 e, .int .i64 f]] w fun r w' => r = .returned (.agg #[.int .i64 (endE (rightC ⟨s, a, e, f⟩)), .int .i64 (endF (rightC ⟨s, a, e, f⟩))]) ∧ Below w.heap.size w w' := by
  have HO := Lib.hid (fun W => right_any s a e f W hs)
  have hok := Lib.hid (rightC_ok ⟨s, a, e, f⟩)
  have hsz := rightC_size ⟨s, a, e, f⟩
  simp only at hsz
  generalize rightC ⟨s, a, e, f⟩ = c at *
  obtain ⟨s1, a1, e1, f1⟩ := c
  change s1.size ≤ s.size at hsz
  simp only at he hA
  have HE : Hid (endE ⟨s1, a1, e1, f1⟩ = 4) := by show (if _ then _ else _) = _; rw [if_pos ⟨he, hA⟩]
  have HF : Hid (endF ⟨s1, a1, e1, f1⟩ = a1) := by show (if _ then _ else _) = _; rw [if_pos ⟨he, hA⟩]
  have t1 : decide (a1 < (s1.size : Int)) = true := by simp; omega
  subst he
  go_enter Try.func25, Try.ntmps25
  go_wp2_with fail
  refine (HO.out _).mono ?_
  rintro r w1 ⟨rfl, hB⟩
  unfold Cur.val
  have hb := ((Cu.new w ⟨s, a, e, f⟩ 28).alloc (.cells #[.int .i64 0, .int .i64 0] 26)).keep' hB
  have hz := (Fb.new (w.alloc (.cells #[.string s, .int .i64 a, .int .i64 e, .int .i64 f] 28)) 0 0).keep' hB
  rw [World.size_alloc] at hz
  have hBa := below_then (below_alloc (below_new (w := w) (.cells #[.string s, .int .i64 a, .int .i64 e, .int .i64 f] 28)) (.cells #[.int .i64 0, .int .i64 0] 26)) hB
  have b0 := hb.c0
  have b1 := hb.c1
  have b2 := hb.c2
  have b3 := hb.c3
  have y0 := hb.fz 0
  have y1 := hb.fz 1
  have y2 := hb.fz 2
  have y3 := hb.fz 3
  have hb2 := hb.store ⟨s1, a1, 0, f1⟩
  have hz2 : Fb (World.setCu w1 w.heap.size ⟨s1, a1, 0, f1⟩) (w.heap.size + 1) 0 0 := ((((Below.heap_setCell _ _ _ _ (by simp)).trans (Below.heap_setCell _ _ _ _ (by simp))).trans (Below.heap_setCell _ _ _ _ (by simp))).trans (Below.heap_setCell _ _ _ _ (by simp))).trans hz
  have hB2 := setCu_below hBa (Nat.le_refl _) ⟨s1, a1, 0, f1⟩
  have k0 := hb2.c0
  have k1 := hb2.c1
  have k2 := hb2.c2
  have k3 := hb2.c3
  have q0 := hz2.c0
  have q1 := hz2.c1
  have z0 := hz2.fz 0
  have z1 := hz2.fz 1
  have hst := hz2.store 4 a1
  have r0 := hst.c0
  have r1 := hst.c1
  simp only [World.setCu] at k0 k1 k2 k3 q0 q1 z0 z1 r0 r1
  go_wp2
  refine bodyPost_ret (v := .agg #[.int .i64 4, .int .i64 a1]) (by simp [results, Try.results25, go_sem, r0, r1]) rfl ⟨?_, ?_⟩
  · rw [HE.out, HF.out]
  · exact ((hB2.setCell (p := ⟨w.heap.size + 1, 0, none⟩) (by simp only; omega) _).setCell (p := ⟨w.heap.size + 1, 1, none⟩) (by simp only; omega) _)

set_option maxHeartbeats 1600000 in
theorem rEnd_C (s : ByteArray) (a e f : Int) (w : World) (hs : s.size ≤ 9223372036854775807) (he : (rightC ⟨s, a, e, f⟩).e = 0) (hA : ¬ (rightC ⟨s, a, e, f⟩).a < ((rightC ⟨s, a, e, f⟩).s.size : Int)) :
    Calls Try.prog 25 #[.agg #[.string s, .int .i64 a, .int .i64 e, .int .i64 f]] w fun r w' => r = .returned (.agg #[.int .i64 (endE (rightC ⟨s, a, e, f⟩)), .int .i64 (endF (rightC ⟨s, a, e, f⟩))]) ∧ Below w.heap.size w w' := by
  have HO := Lib.hid (fun W => right_any s a e f W hs)
  have hok := Lib.hid (rightC_ok ⟨s, a, e, f⟩)
  have hsz := rightC_size ⟨s, a, e, f⟩
  simp only at hsz
  generalize rightC ⟨s, a, e, f⟩ = c at *
  obtain ⟨s1, a1, e1, f1⟩ := c
  change s1.size ≤ s.size at hsz
  simp only at he hA
  have HE : Hid (endE ⟨s1, a1, e1, f1⟩ = e1) := by show (if _ then _ else _) = _; rw [if_neg (by simp only; omega)]
  have HF : Hid (endF ⟨s1, a1, e1, f1⟩ = f1) := by show (if _ then _ else _) = _; rw [if_neg (by simp only; omega)]
  have t1 : decide (a1 < (s1.size : Int)) = false := by simp; omega
  subst he
  go_enter Try.func25, Try.ntmps25
  go_wp2_with fail
  refine (HO.out _).mono ?_
  rintro r w1 ⟨rfl, hB⟩
  unfold Cur.val
  have hb := ((Cu.new w ⟨s, a, e, f⟩ 28).alloc (.cells #[.int .i64 0, .int .i64 0] 26)).keep' hB
  have hz := (Fb.new (w.alloc (.cells #[.string s, .int .i64 a, .int .i64 e, .int .i64 f] 28)) 0 0).keep' hB
  rw [World.size_alloc] at hz
  have hBa := below_then (below_alloc (below_new (w := w) (.cells #[.string s, .int .i64 a, .int .i64 e, .int .i64 f] 28)) (.cells #[.int .i64 0, .int .i64 0] 26)) hB
  have b0 := hb.c0
  have b1 := hb.c1
  have b2 := hb.c2
  have b3 := hb.c3
  have y0 := hb.fz 0
  have y1 := hb.fz 1
  have y2 := hb.fz 2
  have y3 := hb.fz 3
  have hb2 := hb.store ⟨s1, a1, 0, f1⟩
  have hz2 : Fb (World.setCu w1 w.heap.size ⟨s1, a1, 0, f1⟩) (w.heap.size + 1) 0 0 := ((((Below.heap_setCell _ _ _ _ (by simp)).trans (Below.heap_setCell _ _ _ _ (by simp))).trans (Below.heap_setCell _ _ _ _ (by simp))).trans (Below.heap_setCell _ _ _ _ (by simp))).trans hz
  have hB2 := setCu_below hBa (Nat.le_refl _) ⟨s1, a1, 0, f1⟩
  have k0 := hb2.c0
  have k1 := hb2.c1
  have k2 := hb2.c2
  have k3 := hb2.c3
  have q0 := hz2.c0
  have q1 := hz2.c1
  have z0 := hz2.fz 0
  have z1 := hz2.fz 1
  have hst := hz2.store 0 f1
  have r0 := hst.c0
  have r1 := hst.c1
  simp only [World.setCu] at k0 k1 k2 k3 q0 q1 z0 z1 r0 r1
  go_wp2
  refine bodyPost_ret (v := .agg #[.int .i64 0, .int .i64 f1]) (by simp [results, Try.results25, go_sem, r0, r1]) rfl ⟨?_, ?_⟩
  · rw [HE.out, HF.out]
  · exact ((hB2.setCell (p := ⟨w.heap.size + 1, 0, none⟩) (by simp only; omega) _).setCell (p := ⟨w.heap.size + 1, 1, none⟩) (by simp only; omega) _)

theorem rEnd_any (s : ByteArray) (a e f : Int) (w : World) (hs : s.size ≤ 9223372036854775807) :
    Calls Try.prog 25 #[.agg #[.string s, .int .i64 a, .int .i64 e, .int .i64 f]] w fun r w' => r = .returned (.agg #[.int .i64 (endE (rightC ⟨s, a, e, f⟩)), .int .i64 (endF (rightC ⟨s, a, e, f⟩))]) ∧ Below w.heap.size w w' := by
  by_cases he : (rightC ⟨s, a, e, f⟩).e = 0
  · by_cases hA : (rightC ⟨s, a, e, f⟩).a < ((rightC ⟨s, a, e, f⟩).s.size : Int)
    · exact rEnd_B s a e f w hs he hA
    · exact rEnd_C s a e f w hs he hA
  · exact rEnd_A s a e f w hs he

end Go.Proofs.Ytboajmnckldmiaa
