/-
  The walk of cursor.number.
-/
import Derived.Test.YtfdbkpbgkpkckaaIntsRead
namespace Go.Proofs.Ytfdbkpbgkpkckaa
open Go.RowKit
set_option linter.unusedVariables false
set_option maxRecDepth 100000

/-- A byte or'ed into a number whose bits from 48 on are those of h. -/
theorem or_high (s : ByteArray) (j : Nat) (H : Nat) (h : j < s.size) (hj : j < 6) (hH : H < 65536) :
    bits .or .u64 (rd s 0 j + 281474976710656 * (H : Int)) (IntKind.u64.wrap (IntKind.u64.wrap ((s[j]'h).toNat : Int) * 2 ^ (8 * j))) = rd s 0 (j + 1) + 281474976710656 * (H : Int) := by
  rw [sb_get, pow256]
  have hb := sb_lo s j
  have hr := rd_lo s 0 j
  have hp : (0 : Int) < 256 ^ j := Int.pow_pos (by decide)
  have hp7 : (256 : Int) ^ j ≤ 256 ^ 5 := pow256_le (by omega)
  have h0 : 0 ≤ sb s j * 256 ^ j := Int.mul_nonneg hb.1 (by omega)
  have h1 : sb s j * 256 ^ j ≤ 255 * 256 ^ j := Int.mul_le_mul_of_nonneg_right hb.2 (by omega)
  rw [IntWalk.u64_in (sb s j) (by omega), IntWalk.u64_in _ (by omega), u64_or _ _ (by omega) (by omega) h0 (by omega)]
  simp only [rd, Nat.zero_add]
  obtain ⟨x, hx⟩ := Int.eq_ofNat_of_zero_le hr.1
  obtain ⟨b, hb'⟩ := Int.eq_ofNat_of_zero_le hb.1
  rw [hx, hb']
  have e : ((b : Int) * 256 ^ j).toNat = b * 256 ^ j := by
    have : ((b : Int) * 256 ^ j) = ((b * 256 ^ j : Nat) : Int) := by simp
    rw [this, Int.toNat_natCast]
  have e8 : (256 : Nat) ^ j = 2 ^ (8 * j) := by rw [Nat.pow_mul]
  have hxl : x < 2 ^ (8 * j) := by
    have := hr.2
    rw [hx, ← pow256] at this
    exact_mod_cast this
  have e2 : ((x : Int) + 281474976710656 * (H : Int)).toNat = 281474976710656 * H + x := by omega
  have hb256 : b ≤ 255 := by have := hb.2; omega
  have hd : 281474976710656 * H % 2 ^ (8 * j) = 0 := by
    have : (281474976710656 : Nat) = 2 ^ (8 * j) * 2 ^ (48 - 8 * j) := by rw [← Nat.pow_add, show 8 * j + (48 - 8 * j) = 48 by omega]
    rw [this, Nat.mul_assoc]; exact Nat.mul_mod_right _ _
  have hlt : b * 256 ^ j + x < 2 ^ 48 := by
    have h2 : b * 256 ^ j ≤ 255 * 256 ^ j := Nat.mul_le_mul_right _ hb256
    have h3 : (256 : Nat) ^ (j + 1) ≤ 256 ^ 6 := Nat.pow_le_pow_right (by decide) (by omega)
    rw [Nat.pow_succ] at h3
    rw [e8] at h2 h3 ⊢
    omega
  rw [e, e2, ← nat_join (8 * j) (281474976710656 * H) x hd hxl, Nat.or_assoc, Nat.or_comm x, nat_join (8 * j) (b * 256 ^ j) x (by rw [e8]; exact Nat.mul_mod_left _ _) hxl,
    nat_join 48 (281474976710656 * H) (b * 256 ^ j + x) (by rw [show (281474976710656 : Nat) = 2 ^ 48 from rfl]; exact Nat.mul_mod_right _ _) hlt]
  simp
  omega

/-- What the two highest bytes bring. -/
def hiB (s : ByteArray) : Nat := (if 7 ≤ s.size then (sb s 6).toNat else 0) + (if 8 ≤ s.size then 256 * (sb s 7).toNat else 0)
theorem hiB_sum (s : ByteArray) (h : s.size ≤ 8) : rd s 0 (min s.size 6) + 281474976710656 * (hiB s : Int) = rd s 0 s.size := by
  have b6 := sb_lo s 6
  have b7 := sb_lo s 7
  have e7 : rd s 0 7 = rd s 0 6 + sb s 6 * 281474976710656 := by simp only [rd, Nat.zero_add]; omega
  have e8 : rd s 0 8 = rd s 0 7 + sb s 7 * 72057594037927936 := by simp only [rd, Nat.zero_add]; omega
  rcases Nat.lt_or_ge s.size 7 with h7 | h7
  · have : hiB s = 0 := by unfold hiB; rw [if_neg (by omega), if_neg (by omega)]
    rw [this, Nat.min_eq_left (by omega)]; simp
  · rcases Nat.lt_or_ge s.size 8 with h8 | h8
    · have : hiB s = (sb s 6).toNat := by unfold hiB; rw [if_pos (by omega), if_neg (by omega)]; rfl
      rw [this, show s.size = 7 by omega, e7]
      simp only [show min 7 6 = 6 from rfl]
      omega
    · have : hiB s = (sb s 6).toNat + 256 * (sb s 7).toNat := by unfold hiB; rw [if_pos (by omega), if_pos (by omega)]
      rw [this, show s.size = 8 by omega, e8, e7]
      simp only [show min 8 6 = 6 from rfl]
      omega

set_option maxHeartbeats 1600000 in
theorem number_any (s : ByteArray) (w : World) (hs : s.size ≤ 8) :
    Calls Try.prog 109 #[.string s] w fun r w' => r = .returned (.int .u64 (rd s 0 s.size)) ∧ w = w' := by
  have HS := Lib.hid (hiB_sum s hs)
  have HSTEP := Lib.hid (fun j (h : j < s.size) (hj : j < 6) (hH : hiB s < 65536) => or_high s j (hiB s) h hj hH)
  have hH : hiB s < 65536 := by
    have b6 := sb_lo s 6
    have b7 := sb_lo s 7
    unfold hiB
    split <;> split <;> omega
  have HH : Hid ((hiB s : Int) = (if 7 ≤ s.size then sb s 6 else 0) + (if 8 ≤ s.size then 256 * sb s 7 else 0)) := by
    have b6 := sb_lo s 6
    have b7 := sb_lo s 7
    show _ = _
    unfold hiB
    split <;> split <;> omega
  by_cases h8 : s.size = 8
  · have t8 : ((s.size : Int) == 8) = true := by simp [h8]
    have g7 : 7 < s.size := by omega
    have g6 : 6 < s.size := by omega
    have G7 : (7 : Int) < (s.size : Int) := by omega
    have G6 : (6 : Int) < (s.size : Int) := by omega
    have L6 := Lib.hid (sb_get s 6 g6)
    have L7 := Lib.hid (sb_get s 7 g7)
    have E8 : Hid (bits .or .u64 (bits .or .u64 0 (IntKind.u64.wrap (IntKind.u64.wrap ((s[7]'g7).toNat : Int) * 72057594037927936))) (IntKind.u64.wrap (IntKind.u64.wrap ((s[6]'g6).toNat : Int) * 281474976710656)) = rd s 0 0 + 281474976710656 * (hiB s : Int)) := by
      show _ = _
      rw [L6.out, L7.out, HH.out, if_pos (by omega), if_pos (by omega)]
      have b6 := sb_lo s 6
      have b7 := sb_lo s 7
      generalize sb s 6 = x at *
      generalize sb s 7 = y at *
      obtain ⟨X, rfl⟩ := Int.eq_ofNat_of_zero_le b6.1
      obtain ⟨Y, rfl⟩ := Int.eq_ofNat_of_zero_le b7.1
      rw [IntWalk.u64_in (X : Int) (by omega), IntWalk.u64_in (Y : Int) (by omega), IntWalk.u64_in _ (by omega), IntWalk.u64_in _ (by omega), u64_or 0 _ (by omega) (by omega) (by omega) (by omega)]
      have e1 : ((Y : Int) * 72057594037927936).toNat = Y * 72057594037927936 := by omega
      rw [e1, show ((0 : Int).toNat ||| Y * 72057594037927936) = Y * 72057594037927936 by simp, u64_or _ _ (by omega) (by omega) (by omega) (by omega)]
      have e2 : ((X : Int) * 281474976710656).toNat = X * 281474976710656 := by omega
      rw [e2, Int.toNat_natCast, nat_join 56 (Y * 72057594037927936) (X * 281474976710656) (by rw [show (72057594037927936 : Nat) = 2 ^ 56 from rfl]; exact Nat.mul_mod_left _ _) (by omega)]
      simp [rd]
      omega
    have HF : Hid (rd s 0 6 + 281474976710656 * (hiB s : Int) = rd s 0 s.size) := by
      have := HS.out
      rwa [show min s.size 6 = 6 by omega] at this
    clear h8
    go_enter Try.func109, Try.ntmps109
    go_wp2
    go_loop [3, 26] (fun m i => ∃ k : Nat, k ≤ 6 ∧ i = .int .i64 k ∧ m = .int .u64 (rd s 0 k + 281474976710656 * (hiB s : Int))) (fun _ i => 6 - (intOf i).toNat)
    case atStart => exact ⟨0, Nat.zero_le _, rfl, val_int E8.out⟩
    case round =>
      obtain ⟨k, hk, rfl, rfl⟩ := hrel
      by_cases hlt : k < 6
      · have hm : min (8 * k) 64 = 8 * k := by omega
        have gk : k < s.size := by omega
        have hst := Lib.hid (HSTEP.out k gk (by omega) hH)
        go_wp2
        go_round
        case rel => exact ⟨k + 1, by omega, by go_num, val_int hst.out⟩
        case measure => simp [intOf] <;> omega
      · obtain rfl : k = 6 := by omega
        go_wp2
        go_ret
        exact ⟨ret_int HF.out, rfl⟩
  · by_cases h7 : s.size = 7
    · have t8 : ((s.size : Int) == 8) = false := beq_false_of_ne (by omega)
      have t7 : ((s.size : Int) == 7) = true := by simp [h7]
      have g6 : 6 < s.size := by omega
      have G6 : (6 : Int) < (s.size : Int) := by omega
      have L6 := Lib.hid (sb_get s 6 g6)
      have E7 : Hid (bits .or .u64 0 (IntKind.u64.wrap (IntKind.u64.wrap ((s[6]'g6).toNat : Int) * 281474976710656)) = rd s 0 0 + 281474976710656 * (hiB s : Int)) := by
        show _ = _
        rw [L6.out, HH.out, if_pos (by omega), if_neg (by omega)]
        have b6 := sb_lo s 6
        generalize sb s 6 = x at *
        obtain ⟨X, rfl⟩ := Int.eq_ofNat_of_zero_le b6.1
        rw [IntWalk.u64_in (X : Int) (by omega), IntWalk.u64_in _ (by omega), u64_or 0 _ (by omega) (by omega) (by omega) (by omega)]
        have e2 : ((X : Int) * 281474976710656).toNat = X * 281474976710656 := by omega
        rw [e2]
        simp [rd]
        omega
      have HF : Hid (rd s 0 6 + 281474976710656 * (hiB s : Int) = rd s 0 s.size) := by
        have := HS.out
        rwa [show min s.size 6 = 6 by omega] at this
      clear h8 h7
      go_enter Try.func109, Try.ntmps109
      go_wp2
      go_loop [3, 26] (fun m i => ∃ k : Nat, k ≤ 6 ∧ i = .int .i64 k ∧ m = .int .u64 (rd s 0 k + 281474976710656 * (hiB s : Int))) (fun _ i => 6 - (intOf i).toNat)
      case atStart => exact ⟨0, Nat.zero_le _, rfl, val_int E7.out⟩
      case round =>
        obtain ⟨k, hk, rfl, rfl⟩ := hrel
        by_cases hlt : k < 6
        · have hm : min (8 * k) 64 = 8 * k := by omega
          have gk : k < s.size := by omega
          have hst := Lib.hid (HSTEP.out k gk (by omega) hH)
          go_wp2
          go_round
          case rel => exact ⟨k + 1, by omega, by go_num, val_int hst.out⟩
          case measure => simp [intOf] <;> omega
        · obtain rfl : k = 6 := by omega
          go_wp2
          go_ret
          exact ⟨ret_int HF.out, rfl⟩
    · have t8 : ((s.size : Int) == 8) = false := beq_false_of_ne (by omega)
      have t7 : ((s.size : Int) == 7) = false := beq_false_of_ne (by omega)
      have h6 : s.size ≤ 6 := by omega
      have E6 : Hid (0 = rd s 0 0 + 281474976710656 * (hiB s : Int)) := by
        show _ = _
        rw [HH.out, if_neg (by omega), if_neg (by omega)]
        rfl
      have HF : Hid (rd s 0 s.size + 281474976710656 * (hiB s : Int) = rd s 0 s.size) := by
        have := HS.out
        rwa [show min s.size 6 = s.size by omega] at this
      clear h8 h7
      go_enter Try.func109, Try.ntmps109
      go_wp2
      go_loop [3, 26] (fun m i => ∃ k : Nat, k ≤ s.size ∧ i = .int .i64 k ∧ m = .int .u64 (rd s 0 k + 281474976710656 * (hiB s : Int))) (fun _ i => s.size - (intOf i).toNat)
      case atStart => exact ⟨0, Nat.zero_le _, rfl, val_int E6.out⟩
      case round =>
        obtain ⟨k, hk, rfl, rfl⟩ := hrel
        by_cases hlt : k < s.size
        · have hm : min (8 * k) 64 = 8 * k := by omega
          have gk : k < s.size := by omega
          have hst := Lib.hid (HSTEP.out k gk (by omega) hH)
          go_wp2
          go_round
          case rel => exact ⟨k + 1, by omega, by go_num, val_int hst.out⟩
          case measure => simp [intOf] <;> omega
        · obtain rfl : k = s.size := by omega
          go_wp2
          go_ret
          exact ⟨ret_int HF.out, rfl⟩

end Go.Proofs.Ytfdbkpbgkpkckaa
