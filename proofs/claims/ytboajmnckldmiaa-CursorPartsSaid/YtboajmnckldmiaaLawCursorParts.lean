/- The statement cheesepresslaw04.CursorParts holds: for every input the law returns true, and the arguments read as before. -/
import Derived.Test.YtboajmnckldmiaaShell
import Derived.Test.YtboajmnckldmiaaKit
import Derived.Test.YtboajmnckldmiaaCurAwake
namespace Go.Proofs.Ytboajmnckldmiaa.cursorParts
open Go.ChangeShapes Go.WideShapes Go.ChangeAt Go.RowKit
open Go.ChangeMaps (open_string shut_string)
set_option linter.unusedVariables false
set_option maxRecDepth 100000

theorem ok0 (s : ByteArray) (N : Nat) (h : N ≤ s.size) : CurOk ⟨s, N, 0, 0⟩ := ⟨⟨by simp only; omega, by simp only; omega⟩, ⟨by simp only; omega, by simp only; omega⟩, ⟨by simp only; omega, by simp only; omega⟩, fun _ => rfl⟩
theorem ok5 (s : ByteArray) (N : Nat) (h : N ≤ s.size) : CurOk ⟨s, N, 5, s.size⟩ := ⟨⟨by simp only; omega, by simp only; omega⟩, ⟨by simp only; omega, by simp only; omega⟩, ⟨by simp only; omega, by simp only; omega⟩, fun h => by simp at h⟩
theorem r0 (s : ByteArray) (N : Nat) (h : N ≤ s.size) : rightC ⟨s, N, 0, 0⟩ = ⟨s, N, 0, 0⟩ := if_pos (ok0 s N h)
theorem r5 (s : ByteArray) (N : Nat) (h : N ≤ s.size) : rightC ⟨s, N, 5, s.size⟩ = ⟨s, N, 5, s.size⟩ := if_pos (ok5 s N h)
theorem in_C (s : ByteArray) (N A : Nat) (h : N + A ≤ s.size) : bytesC (rightC ⟨s, N, 0, 0⟩) A = ⟨s, (N : Int) + A, 0, 0⟩ ∧ bytesO (rightC ⟨s, N, 0, 0⟩) A = s.extract N (N + A) := by
  rw [r0 s N (by omega)]
  have := bytes_D (c := ⟨s, N, 0, 0⟩) (n := A) rfl (by omega) (by simp only; omega)
  refine ⟨this.1, this.2.trans ?_⟩
  show s.extract (N : Int).toNat ((N : Int) + A).toNat = _
  rw [show ((N : Int) + A).toNat = N + A by omega, Int.toNat_natCast]
theorem out_C (s : ByteArray) (N A : Nat) (h0 : N ≤ s.size) (h : s.size < N + A) : bytesC (rightC ⟨s, N, 0, 0⟩) A = ⟨s, N, 5, s.size⟩ ∧ bytesO (rightC ⟨s, N, 0, 0⟩) A = ByteArray.empty := by
  rw [r0 s N h0]
  exact bytes_C (c := ⟨s, N, 0, 0⟩) (n := A) rfl (by omega) (by simp only; omega)
theorem bad_C (s : ByteArray) (N A : Nat) (h0 : N ≤ s.size) : bytesC (rightC ⟨s, N, 5, s.size⟩) A = ⟨s, N, 5, s.size⟩ ∧ bytesO (rightC ⟨s, N, 5, s.size⟩) A = ByteArray.empty := by
  rw [r5 s N h0]
  exact bytes_A (c := ⟨s, N, 5, s.size⟩) A (by simp)
theorem rd_extract (s : ByteArray) (N m k : Nat) (h : N + m ≤ s.size) (hk : k ≤ m) : rd (s.extract N (N + m)) 0 k = rd s N k := by
  induction k with
  | zero => rfl
  | succ k ih =>
    have e : sb (s.extract N (N + m)) k = sb s (N + k) := by
      have h1 : k < (s.extract N (N + m)).size := by rw [ByteArray.size_extract]; omega
      have h2 : N + k < s.size := by omega
      rw [← sb_get _ k h1, ← sb_get _ (N + k) h2, ByteArray.getElem_extract]
    simp only [rd, Nat.zero_add]
    rw [ih (by omega), e]
theorem lit_in (s : ByteArray) (N m : Nat) (h1 : 1 ≤ m) (h8 : m ≤ 8) (h : N + m ≤ s.size) : littleC (rightC ⟨s, N, 0, 0⟩) m = ⟨s, (N : Int) + m, 0, 0⟩ ∧ littleV (rightC ⟨s, N, 0, 0⟩) m = rd s N m := by
  have h0 : (rightC ⟨s, N, 0, 0⟩).e = 0 := by rw [r0 s N (by omega)]
  have := little_D (c := rightC ⟨s, N, 0, 0⟩) (n := m) h0 (by omega)
  have hb := in_C s N m h
  refine ⟨this.1.trans hb.1, this.2.trans ?_⟩
  rw [hb.2, show (s.extract N (N + m)).size = m by rw [ByteArray.size_extract]; omega]
  exact rd_extract s N m m h (Nat.le_refl _)
theorem lit_out (s : ByteArray) (N m : Nat) (h1 : 1 ≤ m) (h8 : m ≤ 8) (hN : N ≤ s.size) (h : s.size < N + m) : littleC (rightC ⟨s, N, 0, 0⟩) m = ⟨s, N, 5, s.size⟩ ∧ littleV (rightC ⟨s, N, 0, 0⟩) m = 0 := by
  have h0 : (rightC ⟨s, N, 0, 0⟩).e = 0 := by rw [r0 s N hN]
  have := little_D (c := rightC ⟨s, N, 0, 0⟩) (n := m) h0 (by omega)
  have hb := out_C s N m hN h
  refine ⟨this.1.trans hb.1, this.2.trans ?_⟩
  rw [hb.2]; rfl
theorem sum_step (s : ByteArray) (N k : Nat) (h : N + k < s.size) (hk : k ≤ 7) :
    IntKind.u64.wrap (rd s N k + IntKind.u64.wrap ((256 : Int) ^ k % 18446744073709551616 * IntKind.u64.wrap ((s[N + k]'h).toNat : Int))) = rd s N (k + 1) := by
  rw [sb_get]
  have hb := sb_lo s (N + k)
  have hr := rd_lo s N k
  have hp : (0 : Int) < 256 ^ k := Int.pow_pos (by decide)
  have hp7 : (256 : Int) ^ k ≤ 256 ^ 7 := pow256_le (by omega)
  have h0 : 0 ≤ 256 ^ k * sb s (N + k) := Int.mul_nonneg (by omega) hb.1
  have h1 : 256 ^ k * sb s (N + k) ≤ 256 ^ k * 255 := Int.mul_le_mul_of_nonneg_left hb.2 (by omega)
  rw [IntWalk.u64_in (sb s (N + k)) (by omega), Int.emod_eq_of_lt (by omega) (by omega), IntWalk.u64_in (256 ^ k * sb s (N + k)) (by omega), IntWalk.u64_in (rd s N k + 256 ^ k * sb s (N + k)) (by omega)]
  simp only [rd]
  rw [Int.mul_comm]
theorem by_step (k : Nat) : IntKind.u64.wrap ((256 : Int) ^ k % 18446744073709551616 * 256) = 256 ^ (k + 1) % 18446744073709551616 := by
  rw [Int.pow_succ, IntKind.wrap_u64]
  omega
theorem app_parts (s : ByteArray) (N A B : Nat) (h : N + A + B ≤ s.size) : s.extract N (N + A) ++ s.extract (N + A) (N + A + B) = s.extract N (N + A + B) := by
  rw [ByteArray.extract_append_extract, Nat.min_eq_left (by omega), Nat.max_eq_right (by omega)]

set_option maxHeartbeats 4000000 in
theorem walk1y (s : ByteArray) (at_ a b : Int) (N A B m : Nat) (w : World) (hs : s.size ≤ 100) (h1 : -9223372036854775808 ≤ at_ ∧ at_ ≤ 9223372036854775807) (h2 : -9223372036854775808 ≤ a ∧ a ≤ 9223372036854775807) (h3 : -9223372036854775808 ≤ b ∧ b ≤ 9223372036854775807)
    (eN : Hid (modI at_ ((s.size : Int) + 1) = N)) (eA : Hid (modI a ((s.size : Int) + 2) = A)) (eB : Hid (modI b ((s.size : Int) + 2) = B)) (em : Hid (modI A 8 + 1 = m)) (hN : N ≤ s.size) (hA : A ≤ s.size + 1) (hB : B ≤ s.size + 1) (hm : 1 ≤ m ∧ m ≤ 8) (hc : N + A + B ≤ s.size) (hf : N + m ≤ s.size) :
    Calls Try.prog 3 #[.string s, .int .i64 at_, .int .i64 a, .int .i64 b] w fun e w' => e = .returned (.bool true) ∧ Below w.heap.size w w' := by
  have E0 : Hid (newV s N = ⟨s, N, 0, 0⟩) := if_pos (by omega)
  have HX := Lib.hid (in_C s N A (by omega))
  have HY : Hid (bytesC (rightC ⟨s, (N : Int) + A, 0, 0⟩) B = ⟨s, (N : Int) + A + B, 0, 0⟩ ∧ bytesO (rightC ⟨s, (N : Int) + A, 0, 0⟩) B = s.extract (N + A) (N + A + B)) := by
    have := in_C s (N + A) B hc
    rwa [show ((N + A : Nat) : Int) = (N : Int) + A by omega] at this
  have HZ : Hid (bytesC (rightC ⟨s, (N : Int), 0, 0⟩) ((A : Int) + B) = ⟨s, (N : Int) + A + B, 0, 0⟩ ∧ bytesO (rightC ⟨s, (N : Int), 0, 0⟩) ((A : Int) + B) = s.extract N (N + A + B)) := by
    have := in_C s N (A + B) (by omega)
    rw [show ((A + B : Nat) : Int) = (A : Int) + B by omega] at this
    rw [← Nat.add_assoc, ← Int.add_assoc] at this
    exact this
  have HAP := app_parts s N A B hc
  have HP1 : (s.extract N (N + A)).size ≤ 100 := by rw [ByteArray.size_extract]; omega
  have HP2 : (s.extract (N + A) (N + A + B)).size ≤ 100 := by rw [ByteArray.size_extract]; omega
  have hsl : ∀ V, (Instr.slice 9 (.string s) (some (.int .i64 (N : Int))) (some (.int .i64 ((N : Int) + A + B))) none).run Try.prog V = .ok (.string (s.extract N (N + A + B))) V := fun V => by
    rw [run_slice_string (P := Try.prog) (w := V) 9 s .i64 .i64 (N : Int) ((N : Int) + A + B) Try.underlying9 (by omega) (by omega) (by omega)]
    rw [show ((N : Int) + A + B).toNat = N + A + B by omega, Int.toNat_natCast]
  have hadd : ∀ V, (Op.stringOp .add (s.extract N (N + A)) (s.extract (N + A) (N + A + B))).run Try.prog V = .ok (.string (s.extract N (N + A + B))) V := fun V => by rw [← HAP]; exact run_string_add_sum V _ _ (by omega)
  clear HAP HP1 HP2
  generalize s.extract N (N + A) = p at *
  generalize s.extract (N + A) (N + A + B) = q at *
  generalize s.extract N (N + A + B) = t at *
  have tt : (t.toList == t.toList) = true := by simp
  have te : ((N : Int) + A + B == (N : Int) + A + B) = true := by simp
  have HL := Lib.hid (lit_in s N m hm.1 hm.2 hf)
  have HRL := rd_lo s N m
  have HST := Lib.hid (fun k (h : N + k < s.size) (hk : k ≤ 7) => sum_step s N k h hk)
  have HBY := Lib.hid by_step
  have HFIN : Hid ((rd s N m == rd s N m) = true) := by simp [Hid]
  go_enter Try.func3, Try.ntmps3
  go_wp2_with fail
  refine (Mod_any at_ _ _ h1.1 h1.2 (by omega)).mono ?_
  rintro r w1 ⟨rfl, rfl⟩
  rw [eN.out]
  go_wp2_with fail
  refine (Mod_any a _ _ h2.1 h2.2 (by omega)).mono ?_
  rintro r w1 ⟨rfl, rfl⟩
  rw [eA.out]
  go_wp2_with fail
  refine (Mod_any b _ _ h3.1 h3.2 (by omega)).mono ?_
  rintro r w1 ⟨rfl, rfl⟩
  rw [eB.out]
  go_wp2_with fail
  refine (New_any s N _ (by omega)).mono ?_
  rintro r w1 ⟨rfl, hB1⟩
  rw [E0.out]
  unfold Cur.val
  have hC1 := Cu.new w1 ⟨s, (N : Int), 0, 0⟩ 28
  have bB1 := below_alloc hB1 (.cells #[.string s, .int .i64 (N : Int), .int .i64 0, .int .i64 0] 28)
  go_wp2_with fail
  refine (Bytes_any s N 0 0 A _ (by omega) (by omega)).mono ?_
  rintro r w2 ⟨rfl, hB2⟩
  rw [HX.out.1, HX.out.2]
  unfold Cur.val
  have hC2 := (hC1.keep' hB2).alloc (.cells #[.string s, .int .i64 ((N : Int) + A), .int .i64 0, .int .i64 0] 28)
  have hX2 := Cu.new w2 ⟨s, ((N : Int) + A), 0, 0⟩ 28
  have bB2 := below_alloc (below_then bB1 hB2) (.cells #[.string s, .int .i64 ((N : Int) + A), .int .i64 0, .int .i64 0] 28)
  have l2 := (hC1.keep' hB2).lt
  clear hC1 bB1
  go_wp2_with fail
  refine (Bytes_any s ((N : Int) + A) 0 0 B _ (by omega) (by omega)).mono ?_
  rintro r w3 ⟨rfl, hB3⟩
  rw [HY.out.1, HY.out.2]
  unfold Cur.val
  have hC3 := (hC2.keep' hB3)
  have hX3 := (hX2.keep' hB3)
  have bB3 := below_alloc (below_then bB2 hB3) (.cells #[.string s, .int .i64 ((N : Int) + A + B), .int .i64 0, .int .i64 0] 28)
  have hC3' := hC3.alloc (.cells #[.string s, .int .i64 ((N : Int) + A + B), .int .i64 0, .int .i64 0] 28)
  have hX3' := hX3.alloc (.cells #[.string s, .int .i64 ((N : Int) + A + B), .int .i64 0, .int .i64 0] 28)
  have hY3 := Cu.new w3 ⟨s, ((N : Int) + A + B), 0, 0⟩ 28
  have c0 := hC3'.c0
  have c1 := hC3'.c1
  have c2 := hC3'.c2
  have c3 := hC3'.c3
  clear hC2 hX2 bB2
  go_wp2_with fail
  clear c0 c1 c2 c3
  refine (Bytes_any s N 0 0 ((A : Int) + B) _ (by omega) (by omega)).mono ?_
  rintro r w4 ⟨rfl, hB4⟩
  rw [HZ.out.1, HZ.out.2]
  unfold Cur.val
  have hC4 := (hC3'.keep' hB4).alloc (.cells #[.string s, .int .i64 ((N : Int) + A + B), .int .i64 0, .int .i64 0] 28)
  have hX4 := (hX3'.keep' hB4).alloc (.cells #[.string s, .int .i64 ((N : Int) + A + B), .int .i64 0, .int .i64 0] 28)
  have hY4 := (hY3.keep' hB4).alloc (.cells #[.string s, .int .i64 ((N : Int) + A + B), .int .i64 0, .int .i64 0] 28)
  have hA4 := Cu.new w4 ⟨s, ((N : Int) + A + B), 0, 0⟩ 28
  have bB4 := below_alloc (below_then bB3 hB4) (.cells #[.string s, .int .i64 ((N : Int) + A + B), .int .i64 0, .int .i64 0] 28)
  clear hC3 hX3 hC3' hX3' hY3 bB3
  have c0 := hC4.c0
  have c1 := hC4.c1
  have c2 := hC4.c2
  have c3 := hC4.c3
  have x0 := hX4.c0
  have x1 := hX4.c1
  have x2 := hX4.c2
  have x3 := hX4.c3
  have y0 := hY4.c0
  have y1 := hY4.c1
  have y2 := hY4.c2
  have y3 := hY4.c3
  have a0 := hA4.c0
  have a1 := hA4.c1
  have a2 := hA4.c2
  have a3 := hA4.c3
  simp only at c0 c1 c2 c3 x0 x1 x2 x3 y0 y1 y2 y3 a0 a1 a2 a3
  go_wp2_with fail
  clear x0 x1 x2 x3 y0 y1 y2 y3 a0 a1 a2 a3 tt te hsl hadd
  refine (Mod_any A 8 _ (by omega) (by omega) (by omega)).mono ?_
  rintro r w5 ⟨rfl, rfl⟩
  have em8 := em.out
  have mlo := modI_lo (n := A) (m := 8) (by omega)
  generalize modI A 8 = mm at *
  obtain rfl : mm = (m : Int) - 1 := by omega
  clear em8 mlo
  have tm : (m : Int) - 1 + 1 = m := by omega
  go_wp2_with fail
  refine (Little_any s N 0 0 m _ (by omega) (by omega)).mono ?_
  rintro r w5 ⟨rfl, hB5⟩
  rw [HL.out.1, HL.out.2]
  unfold Cur.val
  have hZ5 := Cu.new w5 ⟨s, ((N : Int) + m), 0, 0⟩ 28
  have bB5 := below_alloc (below_then bB4 hB5) (.cells #[.string s, .int .i64 ((N : Int) + m), .int .i64 0, .int .i64 0] 28)
  clear hC4 hX4 hY4 hA4 c0 c1 c2 c3 tm
  have z0 := hZ5.c0
  have z1 := hZ5.c1
  have z2 := hZ5.c2
  have z3 := hZ5.c3
  simp only at z0 z1 z2 z3
  go_wp2_with fail
  go_loop [19, 20, 21] (fun sv bv iv => ∃ k : Nat, k ≤ m ∧ iv = .int .i64 k ∧ sv = .int .u64 (rd s N k) ∧ bv = .int .u64 (256 ^ k % 18446744073709551616)) (fun _ _ iv => m - (intOf iv).toNat)
  case atStart => exact ⟨0, Nat.zero_le _, rfl, rfl, rfl⟩
  case round =>
    obtain ⟨k, hk, rfl, rfl, rfl⟩ := hrel
    by_cases hlt : k < m
    · have gk : N + k < s.size := by omega
      have hst := Lib.hid (HST.out k gk (by omega))
      have hby := Lib.hid (HBY.out k)
      obtain ⟨bk, hbk⟩ : ∃ bk, (256 : Int) ^ k % 18446744073709551616 = bk := ⟨_, rfl⟩
      rw [hbk] at hst hby ⊢
      clear hbk
      have hrk := rd_lo s N k
      go_wp2
      go_round
      case rel => exact ⟨k + 1, by omega, by go_num, val_int hst.out, val_int hby.out⟩
      case measure => simp [intOf] <;> omega
    · obtain rfl : k = m := by omega
      have hf := HFIN.out
      go_wp2_with fail
      refine (awake04_any _).mono ?_
      rintro r w6 ⟨rfl, hB6⟩
      go_wp2
      go_ret
      exact ⟨rfl, below_then bB5 hB6⟩

set_option maxHeartbeats 4000000 in
theorem walk1n (s : ByteArray) (at_ a b : Int) (N A B m : Nat) (w : World) (hs : s.size ≤ 100) (h1 : -9223372036854775808 ≤ at_ ∧ at_ ≤ 9223372036854775807) (h2 : -9223372036854775808 ≤ a ∧ a ≤ 9223372036854775807) (h3 : -9223372036854775808 ≤ b ∧ b ≤ 9223372036854775807)
    (eN : Hid (modI at_ ((s.size : Int) + 1) = N)) (eA : Hid (modI a ((s.size : Int) + 2) = A)) (eB : Hid (modI b ((s.size : Int) + 2) = B)) (em : Hid (modI A 8 + 1 = m)) (hN : N ≤ s.size) (hA : A ≤ s.size + 1) (hB : B ≤ s.size + 1) (hm : 1 ≤ m ∧ m ≤ 8) (hc : N + A + B ≤ s.size) (hf : s.size < N + m) :
    Calls Try.prog 3 #[.string s, .int .i64 at_, .int .i64 a, .int .i64 b] w fun e w' => e = .returned (.bool true) ∧ Below w.heap.size w w' := by
  have E0 : Hid (newV s N = ⟨s, N, 0, 0⟩) := if_pos (by omega)
  have HX := Lib.hid (in_C s N A (by omega))
  have HY : Hid (bytesC (rightC ⟨s, (N : Int) + A, 0, 0⟩) B = ⟨s, (N : Int) + A + B, 0, 0⟩ ∧ bytesO (rightC ⟨s, (N : Int) + A, 0, 0⟩) B = s.extract (N + A) (N + A + B)) := by
    have := in_C s (N + A) B hc
    rwa [show ((N + A : Nat) : Int) = (N : Int) + A by omega] at this
  have HZ : Hid (bytesC (rightC ⟨s, (N : Int), 0, 0⟩) ((A : Int) + B) = ⟨s, (N : Int) + A + B, 0, 0⟩ ∧ bytesO (rightC ⟨s, (N : Int), 0, 0⟩) ((A : Int) + B) = s.extract N (N + A + B)) := by
    have := in_C s N (A + B) (by omega)
    rw [show ((A + B : Nat) : Int) = (A : Int) + B by omega] at this
    rw [← Nat.add_assoc, ← Int.add_assoc] at this
    exact this
  have HAP := app_parts s N A B hc
  have HP1 : (s.extract N (N + A)).size ≤ 100 := by rw [ByteArray.size_extract]; omega
  have HP2 : (s.extract (N + A) (N + A + B)).size ≤ 100 := by rw [ByteArray.size_extract]; omega
  have hsl : ∀ V, (Instr.slice 9 (.string s) (some (.int .i64 (N : Int))) (some (.int .i64 ((N : Int) + A + B))) none).run Try.prog V = .ok (.string (s.extract N (N + A + B))) V := fun V => by
    rw [run_slice_string (P := Try.prog) (w := V) 9 s .i64 .i64 (N : Int) ((N : Int) + A + B) Try.underlying9 (by omega) (by omega) (by omega)]
    rw [show ((N : Int) + A + B).toNat = N + A + B by omega, Int.toNat_natCast]
  have hadd : ∀ V, (Op.stringOp .add (s.extract N (N + A)) (s.extract (N + A) (N + A + B))).run Try.prog V = .ok (.string (s.extract N (N + A + B))) V := fun V => by rw [← HAP]; exact run_string_add_sum V _ _ (by omega)
  clear HAP HP1 HP2
  generalize s.extract N (N + A) = p at *
  generalize s.extract (N + A) (N + A + B) = q at *
  generalize s.extract N (N + A + B) = t at *
  have tt : (t.toList == t.toList) = true := by simp
  have te : ((N : Int) + A + B == (N : Int) + A + B) = true := by simp
  have HL := Lib.hid (lit_out s N m hm.1 hm.2 hN hf)
  have tf : decide ((s.size : Int) - N < m) = true := by simp; omega
  go_enter Try.func3, Try.ntmps3
  go_wp2_with fail
  refine (Mod_any at_ _ _ h1.1 h1.2 (by omega)).mono ?_
  rintro r w1 ⟨rfl, rfl⟩
  rw [eN.out]
  go_wp2_with fail
  refine (Mod_any a _ _ h2.1 h2.2 (by omega)).mono ?_
  rintro r w1 ⟨rfl, rfl⟩
  rw [eA.out]
  go_wp2_with fail
  refine (Mod_any b _ _ h3.1 h3.2 (by omega)).mono ?_
  rintro r w1 ⟨rfl, rfl⟩
  rw [eB.out]
  go_wp2_with fail
  refine (New_any s N _ (by omega)).mono ?_
  rintro r w1 ⟨rfl, hB1⟩
  rw [E0.out]
  unfold Cur.val
  have hC1 := Cu.new w1 ⟨s, (N : Int), 0, 0⟩ 28
  have bB1 := below_alloc hB1 (.cells #[.string s, .int .i64 (N : Int), .int .i64 0, .int .i64 0] 28)
  go_wp2_with fail
  refine (Bytes_any s N 0 0 A _ (by omega) (by omega)).mono ?_
  rintro r w2 ⟨rfl, hB2⟩
  rw [HX.out.1, HX.out.2]
  unfold Cur.val
  have hC2 := (hC1.keep' hB2).alloc (.cells #[.string s, .int .i64 ((N : Int) + A), .int .i64 0, .int .i64 0] 28)
  have hX2 := Cu.new w2 ⟨s, ((N : Int) + A), 0, 0⟩ 28
  have bB2 := below_alloc (below_then bB1 hB2) (.cells #[.string s, .int .i64 ((N : Int) + A), .int .i64 0, .int .i64 0] 28)
  have l2 := (hC1.keep' hB2).lt
  clear hC1 bB1
  go_wp2_with fail
  refine (Bytes_any s ((N : Int) + A) 0 0 B _ (by omega) (by omega)).mono ?_
  rintro r w3 ⟨rfl, hB3⟩
  rw [HY.out.1, HY.out.2]
  unfold Cur.val
  have hC3 := (hC2.keep' hB3)
  have hX3 := (hX2.keep' hB3)
  have bB3 := below_alloc (below_then bB2 hB3) (.cells #[.string s, .int .i64 ((N : Int) + A + B), .int .i64 0, .int .i64 0] 28)
  have hC3' := hC3.alloc (.cells #[.string s, .int .i64 ((N : Int) + A + B), .int .i64 0, .int .i64 0] 28)
  have hX3' := hX3.alloc (.cells #[.string s, .int .i64 ((N : Int) + A + B), .int .i64 0, .int .i64 0] 28)
  have hY3 := Cu.new w3 ⟨s, ((N : Int) + A + B), 0, 0⟩ 28
  have c0 := hC3'.c0
  have c1 := hC3'.c1
  have c2 := hC3'.c2
  have c3 := hC3'.c3
  clear hC2 hX2 bB2
  go_wp2_with fail
  clear c0 c1 c2 c3
  refine (Bytes_any s N 0 0 ((A : Int) + B) _ (by omega) (by omega)).mono ?_
  rintro r w4 ⟨rfl, hB4⟩
  rw [HZ.out.1, HZ.out.2]
  unfold Cur.val
  have hC4 := (hC3'.keep' hB4).alloc (.cells #[.string s, .int .i64 ((N : Int) + A + B), .int .i64 0, .int .i64 0] 28)
  have hX4 := (hX3'.keep' hB4).alloc (.cells #[.string s, .int .i64 ((N : Int) + A + B), .int .i64 0, .int .i64 0] 28)
  have hY4 := (hY3.keep' hB4).alloc (.cells #[.string s, .int .i64 ((N : Int) + A + B), .int .i64 0, .int .i64 0] 28)
  have hA4 := Cu.new w4 ⟨s, ((N : Int) + A + B), 0, 0⟩ 28
  have bB4 := below_alloc (below_then bB3 hB4) (.cells #[.string s, .int .i64 ((N : Int) + A + B), .int .i64 0, .int .i64 0] 28)
  clear hC3 hX3 hC3' hX3' hY3 bB3
  have c0 := hC4.c0
  have c1 := hC4.c1
  have c2 := hC4.c2
  have c3 := hC4.c3
  have x0 := hX4.c0
  have x1 := hX4.c1
  have x2 := hX4.c2
  have x3 := hX4.c3
  have y0 := hY4.c0
  have y1 := hY4.c1
  have y2 := hY4.c2
  have y3 := hY4.c3
  have a0 := hA4.c0
  have a1 := hA4.c1
  have a2 := hA4.c2
  have a3 := hA4.c3
  simp only at c0 c1 c2 c3 x0 x1 x2 x3 y0 y1 y2 y3 a0 a1 a2 a3
  go_wp2_with fail
  clear x0 x1 x2 x3 y0 y1 y2 y3 a0 a1 a2 a3 tt te hsl hadd
  refine (Mod_any A 8 _ (by omega) (by omega) (by omega)).mono ?_
  rintro r w5 ⟨rfl, rfl⟩
  have em8 := em.out
  have mlo := modI_lo (n := A) (m := 8) (by omega)
  generalize modI A 8 = mm at *
  obtain rfl : mm = (m : Int) - 1 := by omega
  clear em8 mlo
  have tm : (m : Int) - 1 + 1 = m := by omega
  go_wp2_with fail
  refine (Little_any s N 0 0 m _ (by omega) (by omega)).mono ?_
  rintro r w5 ⟨rfl, hB5⟩
  rw [HL.out.1, HL.out.2]
  unfold Cur.val
  have hZ5 := Cu.new w5 ⟨s, (N : Int), 5, (s.size : Int)⟩ 28
  have bB5 := below_alloc (below_then bB4 hB5) (.cells #[.string s, .int .i64 (N : Int), .int .i64 5, .int .i64 (s.size : Int)] 28)
  clear hC4 hX4 hY4 hA4 c0 c1 c2 c3 tm
  have z0 := hZ5.c0
  have z1 := hZ5.c1
  have z2 := hZ5.c2
  have z3 := hZ5.c3
  simp only at z0 z1 z2 z3
  go_wp2_with fail
  refine (awake04_any _).mono ?_
  rintro r w6 ⟨rfl, hB6⟩
  go_wp2
  go_ret
  exact ⟨rfl, below_then bB5 hB6⟩

set_option maxHeartbeats 4000000 in
theorem walk2y (s : ByteArray) (at_ a b : Int) (N A B m : Nat) (w : World) (hs : s.size ≤ 100) (h1 : -9223372036854775808 ≤ at_ ∧ at_ ≤ 9223372036854775807) (h2 : -9223372036854775808 ≤ a ∧ a ≤ 9223372036854775807) (h3 : -9223372036854775808 ≤ b ∧ b ≤ 9223372036854775807)
    (eN : Hid (modI at_ ((s.size : Int) + 1) = N)) (eA : Hid (modI a ((s.size : Int) + 2) = A)) (eB : Hid (modI b ((s.size : Int) + 2) = B)) (em : Hid (modI A 8 + 1 = m)) (hN : N ≤ s.size) (hA : A ≤ s.size + 1) (hB : B ≤ s.size + 1) (hm : 1 ≤ m ∧ m ≤ 8) (hc1 : N + A ≤ s.size) (hc : s.size < N + A + B) (hf : N + m ≤ s.size) :
    Calls Try.prog 3 #[.string s, .int .i64 at_, .int .i64 a, .int .i64 b] w fun e w' => e = .returned (.bool true) ∧ Below w.heap.size w w' := by
  have E0 : Hid (newV s N = ⟨s, N, 0, 0⟩) := if_pos (by omega)
  have HX := Lib.hid (in_C s N A (by omega))
  have HY : Hid (bytesC (rightC ⟨s, (N : Int) + A, 0, 0⟩) B = ⟨s, (N : Int) + A, 5, s.size⟩ ∧ bytesO (rightC ⟨s, (N : Int) + A, 0, 0⟩) B = ByteArray.empty) := by
    have := out_C s (N + A) B hc1 hc
    rwa [show ((N + A : Nat) : Int) = (N : Int) + A by omega] at this
  have HZ : Hid (bytesC (rightC ⟨s, (N : Int), 0, 0⟩) ((A : Int) + B) = ⟨s, (N : Int), 5, s.size⟩ ∧ bytesO (rightC ⟨s, (N : Int), 0, 0⟩) ((A : Int) + B) = ByteArray.empty) := by
    have := out_C s N (A + B) hN (by omega)
    rwa [show ((A + B : Nat) : Int) = (A : Int) + B by omega] at this
  generalize s.extract N (N + A) = p at *
  generalize hq : ByteArray.empty = q at *
  clear hq
  have t9 : decide ((N : Int) + A + B ≤ (s.size : Int)) = false := by simp; omega
  have tz : ((s.size : Int) == (s.size : Int)) = true := by simp
  have HL := Lib.hid (lit_in s N m hm.1 hm.2 hf)
  have HRL := rd_lo s N m
  have HST := Lib.hid (fun k (h : N + k < s.size) (hk : k ≤ 7) => sum_step s N k h hk)
  have HBY := Lib.hid by_step
  have HFIN : Hid ((rd s N m == rd s N m) = true) := by simp [Hid]
  go_enter Try.func3, Try.ntmps3
  go_wp2_with fail
  refine (Mod_any at_ _ _ h1.1 h1.2 (by omega)).mono ?_
  rintro r w1 ⟨rfl, rfl⟩
  rw [eN.out]
  go_wp2_with fail
  refine (Mod_any a _ _ h2.1 h2.2 (by omega)).mono ?_
  rintro r w1 ⟨rfl, rfl⟩
  rw [eA.out]
  go_wp2_with fail
  refine (Mod_any b _ _ h3.1 h3.2 (by omega)).mono ?_
  rintro r w1 ⟨rfl, rfl⟩
  rw [eB.out]
  go_wp2_with fail
  refine (New_any s N _ (by omega)).mono ?_
  rintro r w1 ⟨rfl, hB1⟩
  rw [E0.out]
  unfold Cur.val
  have hC1 := Cu.new w1 ⟨s, (N : Int), 0, 0⟩ 28
  have bB1 := below_alloc hB1 (.cells #[.string s, .int .i64 (N : Int), .int .i64 0, .int .i64 0] 28)
  go_wp2_with fail
  refine (Bytes_any s N 0 0 A _ (by omega) (by omega)).mono ?_
  rintro r w2 ⟨rfl, hB2⟩
  rw [HX.out.1, HX.out.2]
  unfold Cur.val
  have hC2 := (hC1.keep' hB2).alloc (.cells #[.string s, .int .i64 ((N : Int) + A), .int .i64 0, .int .i64 0] 28)
  have hX2 := Cu.new w2 ⟨s, ((N : Int) + A), 0, 0⟩ 28
  have bB2 := below_alloc (below_then bB1 hB2) (.cells #[.string s, .int .i64 ((N : Int) + A), .int .i64 0, .int .i64 0] 28)
  have l2 := (hC1.keep' hB2).lt
  clear hC1 bB1
  go_wp2_with fail
  refine (Bytes_any s ((N : Int) + A) 0 0 B _ (by omega) (by omega)).mono ?_
  rintro r w3 ⟨rfl, hB3⟩
  rw [HY.out.1, HY.out.2]
  unfold Cur.val
  have hC3 := (hC2.keep' hB3)
  have hX3 := (hX2.keep' hB3)
  have bB3 := below_alloc (below_then bB2 hB3) (.cells #[.string s, .int .i64 ((N : Int) + A), .int .i64 5, .int .i64 (s.size : Int)] 28)
  have hC3' := hC3.alloc (.cells #[.string s, .int .i64 ((N : Int) + A), .int .i64 5, .int .i64 (s.size : Int)] 28)
  have hX3' := hX3.alloc (.cells #[.string s, .int .i64 ((N : Int) + A), .int .i64 5, .int .i64 (s.size : Int)] 28)
  have hY3 := Cu.new w3 ⟨s, ((N : Int) + A), 5, (s.size : Int)⟩ 28
  have c0 := hC3'.c0
  have c1 := hC3'.c1
  have c2 := hC3'.c2
  have c3 := hC3'.c3
  clear hC2 hX2 bB2
  go_wp2_with fail
  clear c0 c1 c2 c3
  refine (Bytes_any s N 0 0 ((A : Int) + B) _ (by omega) (by omega)).mono ?_
  rintro r w4 ⟨rfl, hB4⟩
  rw [HZ.out.1, HZ.out.2]
  unfold Cur.val
  have hC4 := (hC3'.keep' hB4).alloc (.cells #[.string s, .int .i64 (N : Int), .int .i64 5, .int .i64 (s.size : Int)] 28)
  have hX4 := (hX3'.keep' hB4).alloc (.cells #[.string s, .int .i64 (N : Int), .int .i64 5, .int .i64 (s.size : Int)] 28)
  have hY4 := (hY3.keep' hB4).alloc (.cells #[.string s, .int .i64 (N : Int), .int .i64 5, .int .i64 (s.size : Int)] 28)
  have hA4 := Cu.new w4 ⟨s, (N : Int), 5, (s.size : Int)⟩ 28
  have bB4 := below_alloc (below_then bB3 hB4) (.cells #[.string s, .int .i64 (N : Int), .int .i64 5, .int .i64 (s.size : Int)] 28)
  clear hC3 hX3 hC3' hX3' hY3 bB3
  have c0 := hC4.c0
  have c1 := hC4.c1
  have c2 := hC4.c2
  have c3 := hC4.c3
  have x0 := hX4.c0
  have x1 := hX4.c1
  have x2 := hX4.c2
  have x3 := hX4.c3
  have y0 := hY4.c0
  have y1 := hY4.c1
  have y2 := hY4.c2
  have y3 := hY4.c3
  have a0 := hA4.c0
  have a1 := hA4.c1
  have a2 := hA4.c2
  have a3 := hA4.c3
  simp only at c0 c1 c2 c3 x0 x1 x2 x3 y0 y1 y2 y3 a0 a1 a2 a3
  go_wp2_with fail
  clear x0 x1 x2 x3 y0 y1 y2 y3 a0 a1 a2 a3 t9 tz
  refine (Mod_any A 8 _ (by omega) (by omega) (by omega)).mono ?_
  rintro r w5 ⟨rfl, rfl⟩
  have em8 := em.out
  have mlo := modI_lo (n := A) (m := 8) (by omega)
  generalize modI A 8 = mm at *
  obtain rfl : mm = (m : Int) - 1 := by omega
  clear em8 mlo
  have tm : (m : Int) - 1 + 1 = m := by omega
  go_wp2_with fail
  refine (Little_any s N 0 0 m _ (by omega) (by omega)).mono ?_
  rintro r w5 ⟨rfl, hB5⟩
  rw [HL.out.1, HL.out.2]
  unfold Cur.val
  have hZ5 := Cu.new w5 ⟨s, ((N : Int) + m), 0, 0⟩ 28
  have bB5 := below_alloc (below_then bB4 hB5) (.cells #[.string s, .int .i64 ((N : Int) + m), .int .i64 0, .int .i64 0] 28)
  clear hC4 hX4 hY4 hA4 c0 c1 c2 c3 tm
  have z0 := hZ5.c0
  have z1 := hZ5.c1
  have z2 := hZ5.c2
  have z3 := hZ5.c3
  simp only at z0 z1 z2 z3
  go_wp2_with fail
  go_loop [19, 20, 21] (fun sv bv iv => ∃ k : Nat, k ≤ m ∧ iv = .int .i64 k ∧ sv = .int .u64 (rd s N k) ∧ bv = .int .u64 (256 ^ k % 18446744073709551616)) (fun _ _ iv => m - (intOf iv).toNat)
  case atStart => exact ⟨0, Nat.zero_le _, rfl, rfl, rfl⟩
  case round =>
    obtain ⟨k, hk, rfl, rfl, rfl⟩ := hrel
    by_cases hlt : k < m
    · have gk : N + k < s.size := by omega
      have hst := Lib.hid (HST.out k gk (by omega))
      have hby := Lib.hid (HBY.out k)
      obtain ⟨bk, hbk⟩ : ∃ bk, (256 : Int) ^ k % 18446744073709551616 = bk := ⟨_, rfl⟩
      rw [hbk] at hst hby ⊢
      clear hbk
      have hrk := rd_lo s N k
      go_wp2
      go_round
      case rel => exact ⟨k + 1, by omega, by go_num, val_int hst.out, val_int hby.out⟩
      case measure => simp [intOf] <;> omega
    · obtain rfl : k = m := by omega
      have hf := HFIN.out
      go_wp2_with fail
      refine (awake04_any _).mono ?_
      rintro r w6 ⟨rfl, hB6⟩
      go_wp2
      go_ret
      exact ⟨rfl, below_then bB5 hB6⟩

set_option maxHeartbeats 4000000 in
theorem walk2n (s : ByteArray) (at_ a b : Int) (N A B m : Nat) (w : World) (hs : s.size ≤ 100) (h1 : -9223372036854775808 ≤ at_ ∧ at_ ≤ 9223372036854775807) (h2 : -9223372036854775808 ≤ a ∧ a ≤ 9223372036854775807) (h3 : -9223372036854775808 ≤ b ∧ b ≤ 9223372036854775807)
    (eN : Hid (modI at_ ((s.size : Int) + 1) = N)) (eA : Hid (modI a ((s.size : Int) + 2) = A)) (eB : Hid (modI b ((s.size : Int) + 2) = B)) (em : Hid (modI A 8 + 1 = m)) (hN : N ≤ s.size) (hA : A ≤ s.size + 1) (hB : B ≤ s.size + 1) (hm : 1 ≤ m ∧ m ≤ 8) (hc1 : N + A ≤ s.size) (hc : s.size < N + A + B) (hf : s.size < N + m) :
    Calls Try.prog 3 #[.string s, .int .i64 at_, .int .i64 a, .int .i64 b] w fun e w' => e = .returned (.bool true) ∧ Below w.heap.size w w' := by
  have E0 : Hid (newV s N = ⟨s, N, 0, 0⟩) := if_pos (by omega)
  have HX := Lib.hid (in_C s N A (by omega))
  have HY : Hid (bytesC (rightC ⟨s, (N : Int) + A, 0, 0⟩) B = ⟨s, (N : Int) + A, 5, s.size⟩ ∧ bytesO (rightC ⟨s, (N : Int) + A, 0, 0⟩) B = ByteArray.empty) := by
    have := out_C s (N + A) B hc1 hc
    rwa [show ((N + A : Nat) : Int) = (N : Int) + A by omega] at this
  have HZ : Hid (bytesC (rightC ⟨s, (N : Int), 0, 0⟩) ((A : Int) + B) = ⟨s, (N : Int), 5, s.size⟩ ∧ bytesO (rightC ⟨s, (N : Int), 0, 0⟩) ((A : Int) + B) = ByteArray.empty) := by
    have := out_C s N (A + B) hN (by omega)
    rwa [show ((A + B : Nat) : Int) = (A : Int) + B by omega] at this
  generalize s.extract N (N + A) = p at *
  generalize hq : ByteArray.empty = q at *
  clear hq
  have t9 : decide ((N : Int) + A + B ≤ (s.size : Int)) = false := by simp; omega
  have tz : ((s.size : Int) == (s.size : Int)) = true := by simp
  have HL := Lib.hid (lit_out s N m hm.1 hm.2 hN hf)
  have tf : decide ((s.size : Int) - N < m) = true := by simp; omega
  go_enter Try.func3, Try.ntmps3
  go_wp2_with fail
  refine (Mod_any at_ _ _ h1.1 h1.2 (by omega)).mono ?_
  rintro r w1 ⟨rfl, rfl⟩
  rw [eN.out]
  go_wp2_with fail
  refine (Mod_any a _ _ h2.1 h2.2 (by omega)).mono ?_
  rintro r w1 ⟨rfl, rfl⟩
  rw [eA.out]
  go_wp2_with fail
  refine (Mod_any b _ _ h3.1 h3.2 (by omega)).mono ?_
  rintro r w1 ⟨rfl, rfl⟩
  rw [eB.out]
  go_wp2_with fail
  refine (New_any s N _ (by omega)).mono ?_
  rintro r w1 ⟨rfl, hB1⟩
  rw [E0.out]
  unfold Cur.val
  have hC1 := Cu.new w1 ⟨s, (N : Int), 0, 0⟩ 28
  have bB1 := below_alloc hB1 (.cells #[.string s, .int .i64 (N : Int), .int .i64 0, .int .i64 0] 28)
  go_wp2_with fail
  refine (Bytes_any s N 0 0 A _ (by omega) (by omega)).mono ?_
  rintro r w2 ⟨rfl, hB2⟩
  rw [HX.out.1, HX.out.2]
  unfold Cur.val
  have hC2 := (hC1.keep' hB2).alloc (.cells #[.string s, .int .i64 ((N : Int) + A), .int .i64 0, .int .i64 0] 28)
  have hX2 := Cu.new w2 ⟨s, ((N : Int) + A), 0, 0⟩ 28
  have bB2 := below_alloc (below_then bB1 hB2) (.cells #[.string s, .int .i64 ((N : Int) + A), .int .i64 0, .int .i64 0] 28)
  have l2 := (hC1.keep' hB2).lt
  clear hC1 bB1
  go_wp2_with fail
  refine (Bytes_any s ((N : Int) + A) 0 0 B _ (by omega) (by omega)).mono ?_
  rintro r w3 ⟨rfl, hB3⟩
  rw [HY.out.1, HY.out.2]
  unfold Cur.val
  have hC3 := (hC2.keep' hB3)
  have hX3 := (hX2.keep' hB3)
  have bB3 := below_alloc (below_then bB2 hB3) (.cells #[.string s, .int .i64 ((N : Int) + A), .int .i64 5, .int .i64 (s.size : Int)] 28)
  have hC3' := hC3.alloc (.cells #[.string s, .int .i64 ((N : Int) + A), .int .i64 5, .int .i64 (s.size : Int)] 28)
  have hX3' := hX3.alloc (.cells #[.string s, .int .i64 ((N : Int) + A), .int .i64 5, .int .i64 (s.size : Int)] 28)
  have hY3 := Cu.new w3 ⟨s, ((N : Int) + A), 5, (s.size : Int)⟩ 28
  have c0 := hC3'.c0
  have c1 := hC3'.c1
  have c2 := hC3'.c2
  have c3 := hC3'.c3
  clear hC2 hX2 bB2
  go_wp2_with fail
  clear c0 c1 c2 c3
  refine (Bytes_any s N 0 0 ((A : Int) + B) _ (by omega) (by omega)).mono ?_
  rintro r w4 ⟨rfl, hB4⟩
  rw [HZ.out.1, HZ.out.2]
  unfold Cur.val
  have hC4 := (hC3'.keep' hB4).alloc (.cells #[.string s, .int .i64 (N : Int), .int .i64 5, .int .i64 (s.size : Int)] 28)
  have hX4 := (hX3'.keep' hB4).alloc (.cells #[.string s, .int .i64 (N : Int), .int .i64 5, .int .i64 (s.size : Int)] 28)
  have hY4 := (hY3.keep' hB4).alloc (.cells #[.string s, .int .i64 (N : Int), .int .i64 5, .int .i64 (s.size : Int)] 28)
  have hA4 := Cu.new w4 ⟨s, (N : Int), 5, (s.size : Int)⟩ 28
  have bB4 := below_alloc (below_then bB3 hB4) (.cells #[.string s, .int .i64 (N : Int), .int .i64 5, .int .i64 (s.size : Int)] 28)
  clear hC3 hX3 hC3' hX3' hY3 bB3
  have c0 := hC4.c0
  have c1 := hC4.c1
  have c2 := hC4.c2
  have c3 := hC4.c3
  have x0 := hX4.c0
  have x1 := hX4.c1
  have x2 := hX4.c2
  have x3 := hX4.c3
  have y0 := hY4.c0
  have y1 := hY4.c1
  have y2 := hY4.c2
  have y3 := hY4.c3
  have a0 := hA4.c0
  have a1 := hA4.c1
  have a2 := hA4.c2
  have a3 := hA4.c3
  simp only at c0 c1 c2 c3 x0 x1 x2 x3 y0 y1 y2 y3 a0 a1 a2 a3
  go_wp2_with fail
  clear x0 x1 x2 x3 y0 y1 y2 y3 a0 a1 a2 a3 t9 tz
  refine (Mod_any A 8 _ (by omega) (by omega) (by omega)).mono ?_
  rintro r w5 ⟨rfl, rfl⟩
  have em8 := em.out
  have mlo := modI_lo (n := A) (m := 8) (by omega)
  generalize modI A 8 = mm at *
  obtain rfl : mm = (m : Int) - 1 := by omega
  clear em8 mlo
  have tm : (m : Int) - 1 + 1 = m := by omega
  go_wp2_with fail
  refine (Little_any s N 0 0 m _ (by omega) (by omega)).mono ?_
  rintro r w5 ⟨rfl, hB5⟩
  rw [HL.out.1, HL.out.2]
  unfold Cur.val
  have hZ5 := Cu.new w5 ⟨s, (N : Int), 5, (s.size : Int)⟩ 28
  have bB5 := below_alloc (below_then bB4 hB5) (.cells #[.string s, .int .i64 (N : Int), .int .i64 5, .int .i64 (s.size : Int)] 28)
  clear hC4 hX4 hY4 hA4 c0 c1 c2 c3 tm
  have z0 := hZ5.c0
  have z1 := hZ5.c1
  have z2 := hZ5.c2
  have z3 := hZ5.c3
  simp only at z0 z1 z2 z3
  go_wp2_with fail
  refine (awake04_any _).mono ?_
  rintro r w6 ⟨rfl, hB6⟩
  go_wp2
  go_ret
  exact ⟨rfl, below_then bB5 hB6⟩

set_option maxHeartbeats 4000000 in
theorem walk3y (s : ByteArray) (at_ a b : Int) (N A B m : Nat) (w : World) (hs : s.size ≤ 100) (h1 : -9223372036854775808 ≤ at_ ∧ at_ ≤ 9223372036854775807) (h2 : -9223372036854775808 ≤ a ∧ a ≤ 9223372036854775807) (h3 : -9223372036854775808 ≤ b ∧ b ≤ 9223372036854775807)
    (eN : Hid (modI at_ ((s.size : Int) + 1) = N)) (eA : Hid (modI a ((s.size : Int) + 2) = A)) (eB : Hid (modI b ((s.size : Int) + 2) = B)) (em : Hid (modI A 8 + 1 = m)) (hN : N ≤ s.size) (hA : A ≤ s.size + 1) (hB : B ≤ s.size + 1) (hm : 1 ≤ m ∧ m ≤ 8) (hc : s.size < N + A) (hf : N + m ≤ s.size) :
    Calls Try.prog 3 #[.string s, .int .i64 at_, .int .i64 a, .int .i64 b] w fun e w' => e = .returned (.bool true) ∧ Below w.heap.size w w' := by
  have E0 : Hid (newV s N = ⟨s, N, 0, 0⟩) := if_pos (by omega)
  have HX := Lib.hid (out_C s N A hN hc)
  have HY := Lib.hid (bad_C s N B hN)
  have HZ : Hid (bytesC (rightC ⟨s, (N : Int), 0, 0⟩) ((A : Int) + B) = ⟨s, (N : Int), 5, s.size⟩ ∧ bytesO (rightC ⟨s, (N : Int), 0, 0⟩) ((A : Int) + B) = ByteArray.empty) := by
    have := out_C s N (A + B) hN (by omega)
    rwa [show ((A + B : Nat) : Int) = (A : Int) + B by omega] at this
  generalize hq : ByteArray.empty = q at *
  clear hq
  have t9 : decide ((N : Int) + A + B ≤ (s.size : Int)) = false := by simp; omega
  have tz : ((s.size : Int) == (s.size : Int)) = true := by simp
  have HL := Lib.hid (lit_in s N m hm.1 hm.2 hf)
  have HRL := rd_lo s N m
  have HST := Lib.hid (fun k (h : N + k < s.size) (hk : k ≤ 7) => sum_step s N k h hk)
  have HBY := Lib.hid by_step
  have HFIN : Hid ((rd s N m == rd s N m) = true) := by simp [Hid]
  go_enter Try.func3, Try.ntmps3
  go_wp2_with fail
  refine (Mod_any at_ _ _ h1.1 h1.2 (by omega)).mono ?_
  rintro r w1 ⟨rfl, rfl⟩
  rw [eN.out]
  go_wp2_with fail
  refine (Mod_any a _ _ h2.1 h2.2 (by omega)).mono ?_
  rintro r w1 ⟨rfl, rfl⟩
  rw [eA.out]
  go_wp2_with fail
  refine (Mod_any b _ _ h3.1 h3.2 (by omega)).mono ?_
  rintro r w1 ⟨rfl, rfl⟩
  rw [eB.out]
  go_wp2_with fail
  refine (New_any s N _ (by omega)).mono ?_
  rintro r w1 ⟨rfl, hB1⟩
  rw [E0.out]
  unfold Cur.val
  have hC1 := Cu.new w1 ⟨s, (N : Int), 0, 0⟩ 28
  have bB1 := below_alloc hB1 (.cells #[.string s, .int .i64 (N : Int), .int .i64 0, .int .i64 0] 28)
  go_wp2_with fail
  refine (Bytes_any s N 0 0 A _ (by omega) (by omega)).mono ?_
  rintro r w2 ⟨rfl, hB2⟩
  rw [HX.out.1, HX.out.2]
  unfold Cur.val
  have hC2 := (hC1.keep' hB2).alloc (.cells #[.string s, .int .i64 (N : Int), .int .i64 5, .int .i64 (s.size : Int)] 28)
  have hX2 := Cu.new w2 ⟨s, (N : Int), 5, (s.size : Int)⟩ 28
  have bB2 := below_alloc (below_then bB1 hB2) (.cells #[.string s, .int .i64 (N : Int), .int .i64 5, .int .i64 (s.size : Int)] 28)
  have l2 := (hC1.keep' hB2).lt
  clear hC1 bB1
  go_wp2_with fail
  refine (Bytes_any s (N : Int) 5 (s.size : Int) B _ (by omega) (by omega)).mono ?_
  rintro r w3 ⟨rfl, hB3⟩
  rw [HY.out.1, HY.out.2]
  unfold Cur.val
  have hC3 := (hC2.keep' hB3)
  have hX3 := (hX2.keep' hB3)
  have bB3 := below_alloc (below_then bB2 hB3) (.cells #[.string s, .int .i64 (N : Int), .int .i64 5, .int .i64 (s.size : Int)] 28)
  have hC3' := hC3.alloc (.cells #[.string s, .int .i64 (N : Int), .int .i64 5, .int .i64 (s.size : Int)] 28)
  have hX3' := hX3.alloc (.cells #[.string s, .int .i64 (N : Int), .int .i64 5, .int .i64 (s.size : Int)] 28)
  have hY3 := Cu.new w3 ⟨s, (N : Int), 5, (s.size : Int)⟩ 28
  have c0 := hC3'.c0
  have c1 := hC3'.c1
  have c2 := hC3'.c2
  have c3 := hC3'.c3
  clear hC2 hX2 bB2
  go_wp2_with fail
  clear c0 c1 c2 c3
  refine (Bytes_any s N 0 0 ((A : Int) + B) _ (by omega) (by omega)).mono ?_
  rintro r w4 ⟨rfl, hB4⟩
  rw [HZ.out.1, HZ.out.2]
  unfold Cur.val
  have hC4 := (hC3'.keep' hB4).alloc (.cells #[.string s, .int .i64 (N : Int), .int .i64 5, .int .i64 (s.size : Int)] 28)
  have hX4 := (hX3'.keep' hB4).alloc (.cells #[.string s, .int .i64 (N : Int), .int .i64 5, .int .i64 (s.size : Int)] 28)
  have hY4 := (hY3.keep' hB4).alloc (.cells #[.string s, .int .i64 (N : Int), .int .i64 5, .int .i64 (s.size : Int)] 28)
  have hA4 := Cu.new w4 ⟨s, (N : Int), 5, (s.size : Int)⟩ 28
  have bB4 := below_alloc (below_then bB3 hB4) (.cells #[.string s, .int .i64 (N : Int), .int .i64 5, .int .i64 (s.size : Int)] 28)
  clear hC3 hX3 hC3' hX3' hY3 bB3
  have c0 := hC4.c0
  have c1 := hC4.c1
  have c2 := hC4.c2
  have c3 := hC4.c3
  have x0 := hX4.c0
  have x1 := hX4.c1
  have x2 := hX4.c2
  have x3 := hX4.c3
  have y0 := hY4.c0
  have y1 := hY4.c1
  have y2 := hY4.c2
  have y3 := hY4.c3
  have a0 := hA4.c0
  have a1 := hA4.c1
  have a2 := hA4.c2
  have a3 := hA4.c3
  simp only at c0 c1 c2 c3 x0 x1 x2 x3 y0 y1 y2 y3 a0 a1 a2 a3
  go_wp2_with fail
  clear x0 x1 x2 x3 y0 y1 y2 y3 a0 a1 a2 a3 t9 tz
  refine (Mod_any A 8 _ (by omega) (by omega) (by omega)).mono ?_
  rintro r w5 ⟨rfl, rfl⟩
  have em8 := em.out
  have mlo := modI_lo (n := A) (m := 8) (by omega)
  generalize modI A 8 = mm at *
  obtain rfl : mm = (m : Int) - 1 := by omega
  clear em8 mlo
  have tm : (m : Int) - 1 + 1 = m := by omega
  go_wp2_with fail
  refine (Little_any s N 0 0 m _ (by omega) (by omega)).mono ?_
  rintro r w5 ⟨rfl, hB5⟩
  rw [HL.out.1, HL.out.2]
  unfold Cur.val
  have hZ5 := Cu.new w5 ⟨s, ((N : Int) + m), 0, 0⟩ 28
  have bB5 := below_alloc (below_then bB4 hB5) (.cells #[.string s, .int .i64 ((N : Int) + m), .int .i64 0, .int .i64 0] 28)
  clear hC4 hX4 hY4 hA4 c0 c1 c2 c3 tm
  have z0 := hZ5.c0
  have z1 := hZ5.c1
  have z2 := hZ5.c2
  have z3 := hZ5.c3
  simp only at z0 z1 z2 z3
  go_wp2_with fail
  go_loop [19, 20, 21] (fun sv bv iv => ∃ k : Nat, k ≤ m ∧ iv = .int .i64 k ∧ sv = .int .u64 (rd s N k) ∧ bv = .int .u64 (256 ^ k % 18446744073709551616)) (fun _ _ iv => m - (intOf iv).toNat)
  case atStart => exact ⟨0, Nat.zero_le _, rfl, rfl, rfl⟩
  case round =>
    obtain ⟨k, hk, rfl, rfl, rfl⟩ := hrel
    by_cases hlt : k < m
    · have gk : N + k < s.size := by omega
      have hst := Lib.hid (HST.out k gk (by omega))
      have hby := Lib.hid (HBY.out k)
      obtain ⟨bk, hbk⟩ : ∃ bk, (256 : Int) ^ k % 18446744073709551616 = bk := ⟨_, rfl⟩
      rw [hbk] at hst hby ⊢
      clear hbk
      have hrk := rd_lo s N k
      go_wp2
      go_round
      case rel => exact ⟨k + 1, by omega, by go_num, val_int hst.out, val_int hby.out⟩
      case measure => simp [intOf] <;> omega
    · obtain rfl : k = m := by omega
      have hf := HFIN.out
      go_wp2_with fail
      refine (awake04_any _).mono ?_
      rintro r w6 ⟨rfl, hB6⟩
      go_wp2
      go_ret
      exact ⟨rfl, below_then bB5 hB6⟩

set_option maxHeartbeats 4000000 in
theorem walk3n (s : ByteArray) (at_ a b : Int) (N A B m : Nat) (w : World) (hs : s.size ≤ 100) (h1 : -9223372036854775808 ≤ at_ ∧ at_ ≤ 9223372036854775807) (h2 : -9223372036854775808 ≤ a ∧ a ≤ 9223372036854775807) (h3 : -9223372036854775808 ≤ b ∧ b ≤ 9223372036854775807)
    (eN : Hid (modI at_ ((s.size : Int) + 1) = N)) (eA : Hid (modI a ((s.size : Int) + 2) = A)) (eB : Hid (modI b ((s.size : Int) + 2) = B)) (em : Hid (modI A 8 + 1 = m)) (hN : N ≤ s.size) (hA : A ≤ s.size + 1) (hB : B ≤ s.size + 1) (hm : 1 ≤ m ∧ m ≤ 8) (hc : s.size < N + A) (hf : s.size < N + m) :
    Calls Try.prog 3 #[.string s, .int .i64 at_, .int .i64 a, .int .i64 b] w fun e w' => e = .returned (.bool true) ∧ Below w.heap.size w w' := by
  have E0 : Hid (newV s N = ⟨s, N, 0, 0⟩) := if_pos (by omega)
  have HX := Lib.hid (out_C s N A hN hc)
  have HY := Lib.hid (bad_C s N B hN)
  have HZ : Hid (bytesC (rightC ⟨s, (N : Int), 0, 0⟩) ((A : Int) + B) = ⟨s, (N : Int), 5, s.size⟩ ∧ bytesO (rightC ⟨s, (N : Int), 0, 0⟩) ((A : Int) + B) = ByteArray.empty) := by
    have := out_C s N (A + B) hN (by omega)
    rwa [show ((A + B : Nat) : Int) = (A : Int) + B by omega] at this
  generalize hq : ByteArray.empty = q at *
  clear hq
  have t9 : decide ((N : Int) + A + B ≤ (s.size : Int)) = false := by simp; omega
  have tz : ((s.size : Int) == (s.size : Int)) = true := by simp
  have HL := Lib.hid (lit_out s N m hm.1 hm.2 hN hf)
  have tf : decide ((s.size : Int) - N < m) = true := by simp; omega
  go_enter Try.func3, Try.ntmps3
  go_wp2_with fail
  refine (Mod_any at_ _ _ h1.1 h1.2 (by omega)).mono ?_
  rintro r w1 ⟨rfl, rfl⟩
  rw [eN.out]
  go_wp2_with fail
  refine (Mod_any a _ _ h2.1 h2.2 (by omega)).mono ?_
  rintro r w1 ⟨rfl, rfl⟩
  rw [eA.out]
  go_wp2_with fail
  refine (Mod_any b _ _ h3.1 h3.2 (by omega)).mono ?_
  rintro r w1 ⟨rfl, rfl⟩
  rw [eB.out]
  go_wp2_with fail
  refine (New_any s N _ (by omega)).mono ?_
  rintro r w1 ⟨rfl, hB1⟩
  rw [E0.out]
  unfold Cur.val
  have hC1 := Cu.new w1 ⟨s, (N : Int), 0, 0⟩ 28
  have bB1 := below_alloc hB1 (.cells #[.string s, .int .i64 (N : Int), .int .i64 0, .int .i64 0] 28)
  go_wp2_with fail
  refine (Bytes_any s N 0 0 A _ (by omega) (by omega)).mono ?_
  rintro r w2 ⟨rfl, hB2⟩
  rw [HX.out.1, HX.out.2]
  unfold Cur.val
  have hC2 := (hC1.keep' hB2).alloc (.cells #[.string s, .int .i64 (N : Int), .int .i64 5, .int .i64 (s.size : Int)] 28)
  have hX2 := Cu.new w2 ⟨s, (N : Int), 5, (s.size : Int)⟩ 28
  have bB2 := below_alloc (below_then bB1 hB2) (.cells #[.string s, .int .i64 (N : Int), .int .i64 5, .int .i64 (s.size : Int)] 28)
  have l2 := (hC1.keep' hB2).lt
  clear hC1 bB1
  go_wp2_with fail
  refine (Bytes_any s (N : Int) 5 (s.size : Int) B _ (by omega) (by omega)).mono ?_
  rintro r w3 ⟨rfl, hB3⟩
  rw [HY.out.1, HY.out.2]
  unfold Cur.val
  have hC3 := (hC2.keep' hB3)
  have hX3 := (hX2.keep' hB3)
  have bB3 := below_alloc (below_then bB2 hB3) (.cells #[.string s, .int .i64 (N : Int), .int .i64 5, .int .i64 (s.size : Int)] 28)
  have hC3' := hC3.alloc (.cells #[.string s, .int .i64 (N : Int), .int .i64 5, .int .i64 (s.size : Int)] 28)
  have hX3' := hX3.alloc (.cells #[.string s, .int .i64 (N : Int), .int .i64 5, .int .i64 (s.size : Int)] 28)
  have hY3 := Cu.new w3 ⟨s, (N : Int), 5, (s.size : Int)⟩ 28
  have c0 := hC3'.c0
  have c1 := hC3'.c1
  have c2 := hC3'.c2
  have c3 := hC3'.c3
  clear hC2 hX2 bB2
  go_wp2_with fail
  clear c0 c1 c2 c3
  refine (Bytes_any s N 0 0 ((A : Int) + B) _ (by omega) (by omega)).mono ?_
  rintro r w4 ⟨rfl, hB4⟩
  rw [HZ.out.1, HZ.out.2]
  unfold Cur.val
  have hC4 := (hC3'.keep' hB4).alloc (.cells #[.string s, .int .i64 (N : Int), .int .i64 5, .int .i64 (s.size : Int)] 28)
  have hX4 := (hX3'.keep' hB4).alloc (.cells #[.string s, .int .i64 (N : Int), .int .i64 5, .int .i64 (s.size : Int)] 28)
  have hY4 := (hY3.keep' hB4).alloc (.cells #[.string s, .int .i64 (N : Int), .int .i64 5, .int .i64 (s.size : Int)] 28)
  have hA4 := Cu.new w4 ⟨s, (N : Int), 5, (s.size : Int)⟩ 28
  have bB4 := below_alloc (below_then bB3 hB4) (.cells #[.string s, .int .i64 (N : Int), .int .i64 5, .int .i64 (s.size : Int)] 28)
  clear hC3 hX3 hC3' hX3' hY3 bB3
  have c0 := hC4.c0
  have c1 := hC4.c1
  have c2 := hC4.c2
  have c3 := hC4.c3
  have x0 := hX4.c0
  have x1 := hX4.c1
  have x2 := hX4.c2
  have x3 := hX4.c3
  have y0 := hY4.c0
  have y1 := hY4.c1
  have y2 := hY4.c2
  have y3 := hY4.c3
  have a0 := hA4.c0
  have a1 := hA4.c1
  have a2 := hA4.c2
  have a3 := hA4.c3
  simp only at c0 c1 c2 c3 x0 x1 x2 x3 y0 y1 y2 y3 a0 a1 a2 a3
  go_wp2_with fail
  clear x0 x1 x2 x3 y0 y1 y2 y3 a0 a1 a2 a3 t9 tz
  refine (Mod_any A 8 _ (by omega) (by omega) (by omega)).mono ?_
  rintro r w5 ⟨rfl, rfl⟩
  have em8 := em.out
  have mlo := modI_lo (n := A) (m := 8) (by omega)
  generalize modI A 8 = mm at *
  obtain rfl : mm = (m : Int) - 1 := by omega
  clear em8 mlo
  have tm : (m : Int) - 1 + 1 = m := by omega
  go_wp2_with fail
  refine (Little_any s N 0 0 m _ (by omega) (by omega)).mono ?_
  rintro r w5 ⟨rfl, hB5⟩
  rw [HL.out.1, HL.out.2]
  unfold Cur.val
  have hZ5 := Cu.new w5 ⟨s, (N : Int), 5, (s.size : Int)⟩ 28
  have bB5 := below_alloc (below_then bB4 hB5) (.cells #[.string s, .int .i64 (N : Int), .int .i64 5, .int .i64 (s.size : Int)] 28)
  clear hC4 hX4 hY4 hA4 c0 c1 c2 c3 tm
  have z0 := hZ5.c0
  have z1 := hZ5.c1
  have z2 := hZ5.c2
  have z3 := hZ5.c3
  simp only at z0 z1 z2 z3
  go_wp2_with fail
  refine (awake04_any _).mono ?_
  rintro r w6 ⟨rfl, hB6⟩
  go_wp2
  go_ret
  exact ⟨rfl, below_then bB5 hB6⟩

set_option maxHeartbeats 1600000 in
theorem walk (s : ByteArray) (at_ a b : Int) (w : World) (hs : s.size ≤ maxLen) (h1 : -9223372036854775808 ≤ at_ ∧ at_ ≤ 9223372036854775807) (h2 : -9223372036854775808 ≤ a ∧ a ≤ 9223372036854775807) (h3 : -9223372036854775808 ≤ b ∧ b ≤ 9223372036854775807) :
    Calls Try.prog 3 #[.string s, .int .i64 at_, .int .i64 a, .int .i64 b] w fun e w' => e = .returned (.bool true) ∧ Below w.heap.size w w' := by
  have hs' : s.size ≤ 9223372036854775807 := hs
  clear hs
  by_cases hl : 100 < s.size
  · go_enter Try.func3, Try.ntmps3
    go_wp2_with fail
    refine (awake04_any _).mono ?_
    rintro r w6 ⟨rfl, hB6⟩
    go_wp2
    go_ret
    exact ⟨rfl, hB6⟩
  · have m1 := modI_lo (n := at_) (m := (s.size : Int) + 1) (by omega)
    have m2 := modI_lo (n := a) (m := (s.size : Int) + 2) (by omega)
    have m3 := modI_lo (n := b) (m := (s.size : Int) + 2) (by omega)
    obtain ⟨N, eN⟩ := Int.eq_ofNat_of_zero_le m1.1
    obtain ⟨A, eA⟩ := Int.eq_ofNat_of_zero_le m2.1
    obtain ⟨B, eB⟩ := Int.eq_ofNat_of_zero_le m3.1
    have m4 := modI_lo (n := A) (m := 8) (by omega)
    obtain ⟨m, em⟩ := Int.eq_ofNat_of_zero_le (show 0 ≤ modI A 8 + 1 by omega)
    have hN : N ≤ s.size := by omega
    have hA : A ≤ s.size + 1 := by omega
    have hB : B ≤ s.size + 1 := by omega
    have hm : 1 ≤ m ∧ m ≤ 8 := by omega
    by_cases hf : N + m ≤ s.size
    · by_cases c1 : N + A + B ≤ s.size
      · exact walk1y s at_ a b N A B m w (by omega) h1 h2 h3 eN eA eB em hN hA hB hm c1 hf
      · by_cases c2 : N + A ≤ s.size
        · exact walk2y s at_ a b N A B m w (by omega) h1 h2 h3 eN eA eB em hN hA hB hm c2 (by omega) hf
        · exact walk3y s at_ a b N A B m w (by omega) h1 h2 h3 eN eA eB em hN hA hB hm (by omega) hf
    · by_cases c1 : N + A + B ≤ s.size
      · exact walk1n s at_ a b N A B m w (by omega) h1 h2 h3 eN eA eB em hN hA hB hm c1 (by omega)
      · by_cases c2 : N + A ≤ s.size
        · exact walk2n s at_ a b N A B m w (by omega) h1 h2 h3 eN eA eB em hN hA hB hm c2 (by omega) (by omega)
        · exact walk3n s at_ a b N A B m w (by omega) h1 h2 h3 eN eA eB em hN hA hB hm (by omega) (by omega)

/-! The step from the walk to the statement: the shell's text. -/
set_option maxRecDepth 100000 in
theorem lifted (os : Os) (started : os.Started) (H : Type) (enc : TypeId × Value → H) :
    ReturnsInHanded {} Try.checked os 3 .any (Rows.cursorPartsSpec.pre6 enc Try.prog Try.f3 Rows.cursorPartsRow.domain false) (Rows.cursorPartsSpec.post enc Try.prog Try.f3 false true false false) := by
  refine returnsInHanded_of_change (C := Try.checked) own started (by kernel_rfl) Try.func3
    (ChangeSpec.witness6 (enc := enc) (C := Try.checked) false ⟨#[], #[.string ByteArray.empty, .int .i64 0, .int .i64 0, .int .i64 0], []⟩ 8 (by kernel_rfl) (by kernel_rfl) (by kernel_rfl) (by kernel_rfl)) ?_
  intro W base args ds gs before hval0 hW hcnd _
  have hval : ∀ (j : Nat) t v, Try.f3.params[j]? = some t → args[j]? = some v → Value.okWide Try.prog W .any base t v := hval0
  have hW' := hW
  obtain ⟨p, q, hA0, hV, rfl, hfz, hnd⟩ := hW
  have hA : DataW.TrodAll enc Try.prog W 0 (fun _ => true) true Try.f3.params.toList args.toList ds p := hA0
  rw [Try.params3] at hA hval
  obtain ⟨v0, vs0, d0, ds0, p0, q0, hargs, rfl, rfl, h0, r0⟩ := trodAll_cons hA
  obtain ⟨v1, vs1, d1, ds1, p1, q1, rfl, rfl, rfl, h1, r1⟩ := trodAll_cons r0
  obtain ⟨v2, vs2, d2, ds2, p2, q2, rfl, rfl, rfl, h2, r2⟩ := trodAll_cons r1
  obtain ⟨v3, vs3, d3, ds3, p3, q3, rfl, rfl, rfl, h3, r3⟩ := trodAll_cons r2
  obtain ⟨rfl, rfl, rfl⟩ := trodAll_nil r3
  obtain rfl : args = #[v0, v1, v2, v3] := by cases args; simp_all
  obtain ⟨rfl, rfl⟩ := trodVars_none hV
  obtain ⟨a0, rfl, rfl, rfl, w0⟩ := open_string Try.underlying9 (hval 0 9 v0 rfl rfl) h0
  obtain ⟨a1, rfl, rfl, rfl, w1⟩ := open_int Try.underlying3 (hval 1 3 v1 rfl rfl) h1
  obtain ⟨a2, rfl, rfl, rfl, w2⟩ := open_int Try.underlying3 (hval 2 3 v2 rfl rfl) h2
  obtain ⟨a3, rfl, rfl, rfl, w3⟩ := open_int Try.underlying3 (hval 3 3 v3 rfl rfl) h3
  clear hA0 hval0
  refine (walk a0 a1 a2 a3 W w0 (bounds_i64 w1) (bounds_i64 w2) (bounds_i64 w3)).mono fun e W' ⟨he, bel⟩ => ?_
  subst he
  exact ⟨_, rfl, _, _, _, [], _, [], hW', trodAll_mk1 (shut_bool Try.underlying4 _), (trodAll_cons_mk (shut_string Try.underlying9 w0) (trodAll_cons_mk (shut_int Try.underlying3 w1) (trodAll_cons_mk (shut_int Try.underlying3 w2) (trodAll_cons_mk (shut_int Try.underlying3 w3) trodAll_mk0)))), rfl, bel.frame _, fun h => by cases h⟩

theorem over : Rows.cursorPartsRow.holds Try.pinned (OpenSpec.ofChange Rows.cursorPartsSpec) :=
  OpenClaim.holds_of_wide 3 Try.f3 rfl rfl rfl rfl rfl rfl rfl ⟨rfl, rfl, rfl, rfl, rfl⟩ rfl rfl rfl rfl rfl (by kernel_rfl) Try.func3 (by kernel_rfl)
    (of_decide_eq_true (by kernel_rfl)) (by unfold Func.isWrapper; first | (rw [if_pos (by decide +kernel)]; kernel_rfl) | (rw [if_neg (by decide +kernel)]; exact ⟨rfl, rfl⟩))
    (fun os started H enc _ => lifted os started H enc)

/-- The statement. -/
theorem proved : Rows.CursorPartsSaid := over
#print axioms proved
end Go.Proofs.Ytboajmnckldmiaa.cursorParts
