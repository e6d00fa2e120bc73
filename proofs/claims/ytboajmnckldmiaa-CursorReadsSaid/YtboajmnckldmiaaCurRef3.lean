/-
  The walk of the reference of Little.
-/
import Derived.Test.YtboajmnckldmiaaCurRef2
namespace Go.Proofs.Ytboajmnckldmiaa
open Go.RowKit
set_option linter.unusedVariables false
set_option maxRecDepth 100000

theorem or_up (s : ByteArray) (p m : Nat) (h : p < s.size) (hm : m ≤ 7) :
    bits .or .u64 (IntKind.u64.wrap (upN s (p + 1) m * 256)) (IntKind.u64.wrap ((s[p]'h).toNat : Int)) = upN s p (m + 1) := by
  have hb := sb_lo s p
  have hu := upN_lo s m (p + 1)
  have hp : (256 : Int) ^ m ≤ 256 ^ 7 := pow256_le hm
  rw [sb_get, IntWalk.u64_in (sb s p) (by omega), IntWalk.u64_in _ (by omega), u64_or _ _ (by omega) (by omega) hb.1 (by omega), upN]
  obtain ⟨x, hx⟩ := Int.eq_ofNat_of_zero_le hu.1
  obtain ⟨b, hb'⟩ := Int.eq_ofNat_of_zero_le hb.1
  rw [hx, hb']
  have e : ((x : Int) * 256).toNat = x * 256 := by omega
  rw [e, Int.toNat_natCast, nat_join 8 (x * 256) b (by omega) (by omega)]
  omega
theorem little_bad {c : Cur} {n : Int} (h : n < 1 ∨ 8 < n) : littleC c n = keepC c 2 c.a ∧ littleV c n = 0 := by
  by_cases he : c.e = 0
  · exact ⟨(little_B he h).1.trans (by unfold keepC; rw [if_pos he]), (little_B he h).2⟩
  · exact ⟨(little_A n he).1.trans (by unfold keepC; rw [if_neg he]), (little_A n he).2⟩
theorem little_ok {c : Cur} {n : Int} (h : 1 ≤ n ∧ n ≤ 8) : littleC c n = bytesC c n ∧ littleV c n = rd (bytesO c n) 0 (bytesO c n).size := by
  by_cases he : c.e = 0
  · exact little_D he h
  · have := bytes_A n he
    exact ⟨(little_A n he).1.trans this.1.symm, (little_A n he).2.trans (by rw [this.2]; rfl)⟩

set_option maxHeartbeats 1600000 in
theorem rLittle_lo (s : ByteArray) (a e f n : Int) (w : World) (hs : s.size ≤ 9223372036854775807) (hn : -9223372036854775808 ≤ n ∧ n ≤ 9223372036854775807) (h1 : n < 1) :
    Calls Try.prog 31 #[.agg #[.string s, .int .i64 a, .int .i64 e, .int .i64 f], .int .i64 n] w fun r w' => r = .returned (.tuple #[(littleC (rightC ⟨s, a, e, f⟩) n).val, .int .u64 (littleV (rightC ⟨s, a, e, f⟩) n)]) ∧ Below w.heap.size w w' := by
  have HO := Lib.hid (fun W => right_any s a e f W hs)
  have hok := Lib.hid (rightC_ok ⟨s, a, e, f⟩)
  have hsz := rightC_size ⟨s, a, e, f⟩
  simp only at hsz
  generalize rightC ⟨s, a, e, f⟩ = c at *
  obtain ⟨s1, a1, e1, f1⟩ := c
  have HR := Lib.hid (little_bad (n := n) (.inl h1) : littleC ⟨s1, a1, e1, f1⟩ n = _ ∧ _)
  change s1.size ≤ s.size at hsz
  go_enter Try.func31, Try.ntmps31
  go_wp2_with fail
  refine (HO.out _).mono ?_
  rintro r w1 ⟨rfl, hB⟩
  unfold Cur.val
  have hb := ((Cu.new w ⟨s, a, e, f⟩ 28).alloc (.cells #[.string ByteArray.empty, .int .i64 0, .int .i64 0, .int .i64 0] 28)).keep' hB
  have hz := (Cu.new (w.alloc (.cells #[.string s, .int .i64 a, .int .i64 e, .int .i64 f] 28)) zeroCur 28).keep' hB
  rw [World.size_alloc] at hz
  have hsz1 : w.heap.size + 2 ≤ w1.heap.size := by have := hB.size; simp at this; omega
  have hBa := below_then (below_alloc (below_new (w := w) (.cells #[.string s, .int .i64 a, .int .i64 e, .int .i64 f] 28)) (.cells #[.string ByteArray.empty, .int .i64 0, .int .i64 0, .int .i64 0] 28)) hB
  have b0 := hb.c0
  have b1 := hb.c1
  have b2 := hb.c2
  have b3 := hb.c3
  have y0 := hb.fz 0
  have y1 := hb.fz 1
  have y2 := hb.fz 2
  have y3 := hb.fz 3
  have hb2 := hb.store ⟨s1, a1, e1, f1⟩
  have hz2 := hz.storeOther (k := w.heap.size) (by omega) ⟨s1, a1, e1, f1⟩
  have hB2 := setCu_below hBa (Nat.le_refl _) ⟨s1, a1, e1, f1⟩
  have k0 := hb2.c0
  have k1 := hb2.c1
  have k2 := hb2.c2
  have k3 := hb2.c3
  have l0 := hb2.fz 0
  have l1 := hb2.fz 1
  have l2 := hb2.fz 2
  have l3 := hb2.fz 3
  have q0 := hz2.c0
  have q1 := hz2.c1
  have q2 := hz2.c2
  have q3 := hz2.c3
  have z0 := hz2.fz 0
  have z1 := hz2.fz 1
  have z2 := hz2.fz 2
  have z3 := hz2.fz 3
  simp only [World.setCu] at k0 k1 k2 k3 l0 l1 l2 l3 q0 q1 q2 q3 z0 z1 z2 z3
  obtain ⟨⟨s2, a2, e2, f2⟩, hk⟩ : ∃ k, keepC ⟨s1, a1, e1, f1⟩ 2 a1 = k := ⟨_, rfl⟩
  have HK := Lib.hid hk
  clear hk
  go_wp2_with fail
  refine (rfail_any s1 a1 e1 f1 2 a1 _ (by omega)).mono ?_
  rintro r w4 ⟨rfl, hB4⟩
  rw [HK.out]
  unfold Cur.val
  clear q0 q1 q2 q3 z0 z1 z2 z3
  have hz4 := hz2.keep' hB4
  have hB5 := below_then hB2 hB4
  have q0 := hz4.c0
  have q1 := hz4.c1
  have q2 := hz4.c2
  have q3 := hz4.c3
  have z0 := hz4.fz 0
  have z1 := hz4.fz 1
  have z2 := hz4.fz 2
  have z3 := hz4.fz 3
  have hst := (hz4.store ⟨s2, a2, e2, f2⟩)
  have r0 := hst.c0
  have r1 := hst.c1
  have r2 := hst.c2
  have r3 := hst.c3
  simp only [World.setCu] at r0 r1 r2 r3
  go_wp2
  refine bodyPost_ret (v := .tuple #[.agg #[.string s2, .int .i64 a2, .int .i64 e2, .int .i64 f2], .int .u64 0]) (by simp [results, Try.results31, go_sem, r0, r1, r2, r3]) rfl ⟨?_, ?_⟩
  · rw [show littleC ⟨s1, a1, e1, f1⟩ n = ⟨s2, a2, e2, f2⟩ from HR.out.1.trans HK.out, HR.out.2]; rfl
  · exact (setCu_below hB5 (by omega) ⟨s2, a2, e2, f2⟩)

set_option maxHeartbeats 1600000 in
theorem rLittle_hi (s : ByteArray) (a e f n : Int) (w : World) (hs : s.size ≤ 9223372036854775807) (hn : -9223372036854775808 ≤ n ∧ n ≤ 9223372036854775807) (h1 : 8 < n) :
    Calls Try.prog 31 #[.agg #[.string s, .int .i64 a, .int .i64 e, .int .i64 f], .int .i64 n] w fun r w' => r = .returned (.tuple #[(littleC (rightC ⟨s, a, e, f⟩) n).val, .int .u64 (littleV (rightC ⟨s, a, e, f⟩) n)]) ∧ Below w.heap.size w w' := by
  have HO := Lib.hid (fun W => right_any s a e f W hs)
  have hok := Lib.hid (rightC_ok ⟨s, a, e, f⟩)
  have hsz := rightC_size ⟨s, a, e, f⟩
  simp only at hsz
  generalize rightC ⟨s, a, e, f⟩ = c at *
  obtain ⟨s1, a1, e1, f1⟩ := c
  have HR := Lib.hid (little_bad (n := n) (.inr h1) : littleC ⟨s1, a1, e1, f1⟩ n = _ ∧ _)
  change s1.size ≤ s.size at hsz
  have h0 : decide (n < 1) = false := by simp; omega
  go_enter Try.func31, Try.ntmps31
  go_wp2_with fail
  refine (HO.out _).mono ?_
  rintro r w1 ⟨rfl, hB⟩
  unfold Cur.val
  have hb := ((Cu.new w ⟨s, a, e, f⟩ 28).alloc (.cells #[.string ByteArray.empty, .int .i64 0, .int .i64 0, .int .i64 0] 28)).keep' hB
  have hz := (Cu.new (w.alloc (.cells #[.string s, .int .i64 a, .int .i64 e, .int .i64 f] 28)) zeroCur 28).keep' hB
  rw [World.size_alloc] at hz
  have hsz1 : w.heap.size + 2 ≤ w1.heap.size := by have := hB.size; simp at this; omega
  have hBa := below_then (below_alloc (below_new (w := w) (.cells #[.string s, .int .i64 a, .int .i64 e, .int .i64 f] 28)) (.cells #[.string ByteArray.empty, .int .i64 0, .int .i64 0, .int .i64 0] 28)) hB
  have b0 := hb.c0
  have b1 := hb.c1
  have b2 := hb.c2
  have b3 := hb.c3
  have y0 := hb.fz 0
  have y1 := hb.fz 1
  have y2 := hb.fz 2
  have y3 := hb.fz 3
  have hb2 := hb.store ⟨s1, a1, e1, f1⟩
  have hz2 := hz.storeOther (k := w.heap.size) (by omega) ⟨s1, a1, e1, f1⟩
  have hB2 := setCu_below hBa (Nat.le_refl _) ⟨s1, a1, e1, f1⟩
  have k0 := hb2.c0
  have k1 := hb2.c1
  have k2 := hb2.c2
  have k3 := hb2.c3
  have l0 := hb2.fz 0
  have l1 := hb2.fz 1
  have l2 := hb2.fz 2
  have l3 := hb2.fz 3
  have q0 := hz2.c0
  have q1 := hz2.c1
  have q2 := hz2.c2
  have q3 := hz2.c3
  have z0 := hz2.fz 0
  have z1 := hz2.fz 1
  have z2 := hz2.fz 2
  have z3 := hz2.fz 3
  simp only [World.setCu] at k0 k1 k2 k3 l0 l1 l2 l3 q0 q1 q2 q3 z0 z1 z2 z3
  obtain ⟨⟨s2, a2, e2, f2⟩, hk⟩ : ∃ k, keepC ⟨s1, a1, e1, f1⟩ 2 a1 = k := ⟨_, rfl⟩
  have HK := Lib.hid hk
  clear hk
  go_wp2_with fail
  refine (rfail_any s1 a1 e1 f1 2 a1 _ (by omega)).mono ?_
  rintro r w4 ⟨rfl, hB4⟩
  rw [HK.out]
  unfold Cur.val
  clear q0 q1 q2 q3 z0 z1 z2 z3
  have hz4 := hz2.keep' hB4
  have hB5 := below_then hB2 hB4
  have q0 := hz4.c0
  have q1 := hz4.c1
  have q2 := hz4.c2
  have q3 := hz4.c3
  have z0 := hz4.fz 0
  have z1 := hz4.fz 1
  have z2 := hz4.fz 2
  have z3 := hz4.fz 3
  have hst := (hz4.store ⟨s2, a2, e2, f2⟩)
  have r0 := hst.c0
  have r1 := hst.c1
  have r2 := hst.c2
  have r3 := hst.c3
  simp only [World.setCu] at r0 r1 r2 r3
  go_wp2
  refine bodyPost_ret (v := .tuple #[.agg #[.string s2, .int .i64 a2, .int .i64 e2, .int .i64 f2], .int .u64 0]) (by simp [results, Try.results31, go_sem, r0, r1, r2, r3]) rfl ⟨?_, ?_⟩
  · rw [show littleC ⟨s1, a1, e1, f1⟩ n = ⟨s2, a2, e2, f2⟩ from HR.out.1.trans HK.out, HR.out.2]; rfl
  · exact (setCu_below hB5 (by omega) ⟨s2, a2, e2, f2⟩)

set_option maxHeartbeats 4000000 in
theorem rLittle_ok (s : ByteArray) (a e f n : Int) (w : World) (hs : s.size ≤ 9223372036854775807) (hn : -9223372036854775808 ≤ n ∧ n ≤ 9223372036854775807) (h1 : 1 ≤ n ∧ n ≤ 8) :
    Calls Try.prog 31 #[.agg #[.string s, .int .i64 a, .int .i64 e, .int .i64 f], .int .i64 n] w fun r w' => r = .returned (.tuple #[(littleC (rightC ⟨s, a, e, f⟩) n).val, .int .u64 (littleV (rightC ⟨s, a, e, f⟩) n)]) ∧ Below w.heap.size w w' := by
  have HO := Lib.hid (fun W => right_any s a e f W hs)
  have hok := Lib.hid (rightC_ok ⟨s, a, e, f⟩)
  have hsz := rightC_size ⟨s, a, e, f⟩
  simp only at hsz
  generalize rightC ⟨s, a, e, f⟩ = c at *
  obtain ⟨s1, a1, e1, f1⟩ := c
  have HR := Lib.hid (little_ok h1 : littleC ⟨s1, a1, e1, f1⟩ n = _ ∧ _)
  change s1.size ≤ s.size at hsz
  have hrr : rightC ⟨s1, a1, e1, f1⟩ = ⟨s1, a1, e1, f1⟩ := if_pos hok.out
  have HBY := Lib.hid (fun W => rBytes_any s1 a1 e1 f1 n W (by omega) hn)
  rw [hrr] at HBY
  have ho1 := bytesO_size ⟨s1, a1, e1, f1⟩ n hok.out
  clear hrr
  have h0 : decide (n < 1) = false := by simp; omega
  have h8 : decide (8 < n) = false := by simp; omega
  obtain ⟨⟨s2, a2, e2, f2⟩, hk⟩ : ∃ k, bytesC ⟨s1, a1, e1, f1⟩ n = k := ⟨_, rfl⟩
  have HK := Lib.hid hk
  rw [hk] at HBY
  clear hk
  obtain ⟨out, hO⟩ : ∃ out, bytesO ⟨s1, a1, e1, f1⟩ n = out := ⟨_, rfl⟩
  rw [hO] at HBY ho1
  have HV : Hid (littleV ⟨s1, a1, e1, f1⟩ n = upN out 0 out.size) := by show _ = _; rw [HR.out.2, hO, upN_rd]
  clear hO
  have hL8 : out.size ≤ 8 := by omega
  clear ho1
  have HOR := Lib.hid (or_up out)
  go_enter Try.func31, Try.ntmps31
  go_wp2_with fail
  refine (HO.out _).mono ?_
  rintro r w1 ⟨rfl, hB⟩
  unfold Cur.val
  have hb := ((Cu.new w ⟨s, a, e, f⟩ 28).alloc (.cells #[.string ByteArray.empty, .int .i64 0, .int .i64 0, .int .i64 0] 28)).keep' hB
  have hz := (Cu.new (w.alloc (.cells #[.string s, .int .i64 a, .int .i64 e, .int .i64 f] 28)) zeroCur 28).keep' hB
  rw [World.size_alloc] at hz
  have hsz1 : w.heap.size + 2 ≤ w1.heap.size := by have := hB.size; simp at this; omega
  have hBa := below_then (below_alloc (below_new (w := w) (.cells #[.string s, .int .i64 a, .int .i64 e, .int .i64 f] 28)) (.cells #[.string ByteArray.empty, .int .i64 0, .int .i64 0, .int .i64 0] 28)) hB
  have b0 := hb.c0
  have b1 := hb.c1
  have b2 := hb.c2
  have b3 := hb.c3
  have y0 := hb.fz 0
  have y1 := hb.fz 1
  have y2 := hb.fz 2
  have y3 := hb.fz 3
  have hb2 := hb.store ⟨s1, a1, e1, f1⟩
  have hz2 := hz.storeOther (k := w.heap.size) (by omega) ⟨s1, a1, e1, f1⟩
  have hB2 := setCu_below hBa (Nat.le_refl _) ⟨s1, a1, e1, f1⟩
  have k0 := hb2.c0
  have k1 := hb2.c1
  have k2 := hb2.c2
  have k3 := hb2.c3
  have l0 := hb2.fz 0
  have l1 := hb2.fz 1
  have l2 := hb2.fz 2
  have l3 := hb2.fz 3
  have q0 := hz2.c0
  have q1 := hz2.c1
  have q2 := hz2.c2
  have q3 := hz2.c3
  have z0 := hz2.fz 0
  have z1 := hz2.fz 1
  have z2 := hz2.fz 2
  have z3 := hz2.fz 3
  simp only [World.setCu] at k0 k1 k2 k3 l0 l1 l2 l3 q0 q1 q2 q3 z0 z1 z2 z3
  go_wp2_with fail
  refine (HBY.out _).mono ?_
  rintro r w4 ⟨rfl, hB4⟩
  unfold Cur.val
  clear b0 b1 b2 b3 y0 y1 y2 y3 k0 k1 k2 k3 l0 l1 l2 l3 q0 q1 q2 q3 z0 z1 z2 z3
  have hb4 := hb2.keep' hB4
  have hz4 := hz2.keep' hB4
  have hB5 := below_then hB2 hB4
  have b0 := hb4.c0
  have b1 := hb4.c1
  have b2 := hb4.c2
  have b3 := hb4.c3
  have y0 := hb4.fz 0
  have y1 := hb4.fz 1
  have y2 := hb4.fz 2
  have y3 := hb4.fz 3
  have hb5 := hb4.store ⟨s2, a2, e2, f2⟩
  have hz5 := hz4.storeOther (k := w.heap.size) (by omega) ⟨s2, a2, e2, f2⟩
  have hB6 := setCu_below hB5 (Nat.le_refl _) ⟨s2, a2, e2, f2⟩
  have k0 := hb5.c0
  have k1 := hb5.c1
  have k2 := hb5.c2
  have k3 := hb5.c3
  have q0 := hz5.c0
  have q1 := hz5.c1
  have q2 := hz5.c2
  have q3 := hz5.c3
  have z0 := hz5.fz 0
  have z1 := hz5.fz 1
  have z2 := hz5.fz 2
  have z3 := hz5.fz 3
  simp only [World.setCu] at k0 k1 k2 k3 q0 q1 q2 q3 z0 z1 z2 z3
  go_wp2_with fail
  go_loop [7, 8] (fun xv iv => ∃ j : Nat, j ≤ out.size ∧ iv = .int .i64 ((j : Int) - 1) ∧ xv = .int .u64 (upN out j (out.size - j))) (fun _ iv => (intOf iv + 1).toNat)
  case atStart => exact ⟨out.size, Nat.le_refl _, rfl, by rw [Nat.sub_self]; rfl⟩
  case round =>
    obtain ⟨j, hj, rfl, rfl⟩ := hrel
    by_cases hj0 : j = 0
    · subst hj0
      rw [Nat.sub_zero]
      have HV2 := HV
      generalize upN out 0 out.size = V at *
      have hst := (hz5.store ⟨s2, a2, e2, f2⟩)
      have r0 := hst.c0
      have r1 := hst.c1
      have r2 := hst.c2
      have r3 := hst.c3
      simp only [World.setCu] at r0 r1 r2 r3
      go_wp2
      refine bodyPost_ret (v := .tuple #[.agg #[.string s2, .int .i64 a2, .int .i64 e2, .int .i64 f2], .int .u64 V]) (by simp [results, Try.results31, go_sem, r0, r1, r2, r3]) rfl ⟨?_, ?_⟩
      · rw [HR.out.1, HV2.out, HK.out]; rfl
      · exact (setCu_below hB6 (by omega) ⟨s2, a2, e2, f2⟩)
    · obtain ⟨p, rfl⟩ : ∃ p, j = p + 1 := ⟨j - 1, by omega⟩
      have hp : p < out.size := by omega
      have hor := Lib.hid (HOR.out p (out.size - (p + 1)) hp (by omega))
      have e1' : ((p + 1 : Nat) : Int) - 1 = (p : Int) := by omega
      have HE : Hid (out.size - (p + 1) + 1 = out.size - p) := by show _ = _; omega
      rw [e1']
      clear e1'
      have hu := upN_lo out (out.size - (p + 1)) (p + 1)
      go_wp2
      go_round
      case rel => exact ⟨p, by omega, by go_num, val_int (by rw [hor.out, HE.out])⟩
      case measure => simp [intOf] <;> omega

theorem rLittle_any (s : ByteArray) (a e f n : Int) (w : World) (hs : s.size ≤ 9223372036854775807) (hn : -9223372036854775808 ≤ n ∧ n ≤ 9223372036854775807) :
    Calls Try.prog 31 #[.agg #[.string s, .int .i64 a, .int .i64 e, .int .i64 f], .int .i64 n] w fun r w' => r = .returned (.tuple #[(littleC (rightC ⟨s, a, e, f⟩) n).val, .int .u64 (littleV (rightC ⟨s, a, e, f⟩) n)]) ∧ Below w.heap.size w w' := by
  by_cases h1 : n < 1
  · exact rLittle_lo s a e f n w hs hn h1
  · by_cases h2 : 8 < n
    · exact rLittle_hi s a e f n w hs hn h2
    · exact rLittle_ok s a e f n w hs hn (by omega)

end Go.Proofs.Ytboajmnckldmiaa
