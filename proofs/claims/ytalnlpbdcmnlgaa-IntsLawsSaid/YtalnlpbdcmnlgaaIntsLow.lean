/-
  The walks of ints.Low and of its reference.
-/
import Derived.Test.YtalnlpbdcmnlgaaRows
import Derived.Test.YtalnlpbdcmnlgaaIntsMath
import Derived.Test.YtalnlpbdcmnlgaaCommon
import Derived.WalkLawsBesides
namespace Go.Proofs.Ytalnlpbdcmnlgaa
open Go.RowKit
set_option linter.unusedVariables false

theorem Low_mid (n : Int) (b : Nat) (w : World) (h1 : 0 ≤ n) (h2 : n ≤ 18446744073709551615) (hb : b < 64) :
    Calls Try.prog 23 #[.int .u64 n, .int .i64 b] w fun e w' => e = .returned (.tuple #[.int .u64 (n % 2 ^ b), .int .i64 0]) ∧ w = w' := by
  have hm : min b 64 = b := by omega
  have hp := pow_pos2 b
  have hp2 : (2 : Int) ^ b ≤ 9223372036854775808 := pow_le_pow2 (i := b) (j := 63) (by omega)
  go_enter Try.func23, Try.ntmps23
  go_wp2
  go_ret2
  exact ⟨ret_two (val_int (and_mask n b h1 h2 hb)) rfl, rfl⟩

theorem Low_bad (n b : Int) (w : World) (h1 : 0 ≤ n) (h2 : n ≤ 18446744073709551615) (hb : b < 0 ∨ 64 < b) :
    Calls Try.prog 23 #[.int .u64 n, .int .i64 b] w fun e w' => e = .returned (.tuple #[.int .u64 0, .int .i64 2]) ∧ w = w' := by
  rcases hb with hb | hb
  · have hb' : ¬ 64 < b := by omega
    go_enter Try.func23, Try.ntmps23
    go_wp2
    go_ret2
    exact ⟨rfl, rfl⟩
  · have hb' : ¬ b < 0 := by omega
    go_enter Try.func23, Try.ntmps23
    go_wp2
    go_ret2
    exact ⟨rfl, rfl⟩

theorem Low_all (n : Int) (w : World) (h1 : 0 ≤ n) (h2 : n ≤ 18446744073709551615) :
    Calls Try.prog 23 #[.int .u64 n, .int .i64 64] w fun e w' => e = .returned (.tuple #[.int .u64 n, .int .i64 0]) ∧ w = w' := by
  go_enter Try.func23, Try.ntmps23
  go_wp2
  go_ret2
  exact ⟨rfl, rfl⟩

theorem Low_any (n b : Int) (w : World) (h1 : 0 ≤ n) (h2 : n ≤ 18446744073709551615) :
    Calls Try.prog 23 #[.int .u64 n, .int .i64 b] w fun e w' => e = .returned (.tuple #[.int .u64 (low n b), .int .i64 (lowE b)]) ∧ w = w' := by
  by_cases hb : b < 0 ∨ 64 < b
  · unfold low lowE
    rw [if_pos hb, if_pos hb]
    exact Low_bad n b w h1 h2 hb
  · obtain ⟨c, rfl⟩ := Int.eq_ofNat_of_zero_le (show 0 ≤ b by omega)
    unfold low lowE
    rw [if_neg hb, if_neg hb, Int.toNat_natCast]
    by_cases hc : c = 64
    · subst hc
      have e : n % 2 ^ 64 = n := by omega
      rw [e]
      exact Low_all n w h1 h2
    · exact Low_mid n c w h1 h2 (by omega)

set_option maxHeartbeats 400000 in
theorem rLow_mid (n : Int) (b : Nat) (w : World) (h1 : 0 ≤ n) (h2 : n ≤ 18446744073709551615) (hb : b ≤ 64) :
    Calls Try.prog 24 #[.int .u64 n, .int .i64 b] w fun e w' => e = .returned (.tuple #[.int .u64 (n % 2 ^ b), .int .i64 0]) ∧ w = w' := by
  have hb0 : decide ((b : Int) < 0) = false := by simp
  have hb1 : decide (64 < (b : Int)) = false := by simp; omega
  go_enter Try.func24, Try.ntmps24
  go_wp2
  go_loop [0, 6, 7, 8] (fun m o p i => ∃ (k : Nat) (q : Int), k ≤ b ∧ i = .int .i64 k ∧ m = .int .u64 (n / 2 ^ k) ∧ o = .int .u64 (n % 2 ^ k) ∧ p = .int .u64 q ∧ (k < 64 → q = 2 ^ k)) (fun _ _ _ i => b - (intOf i).toNat)
  case atStart => exact ⟨0, 1, Nat.zero_le _, rfl, by simp, by simp, rfl, by simp⟩
  case round =>
    obtain ⟨k, q, hk, rfl, rfl, rfl, rfl, hq⟩ := hrel
    by_cases hlt : k < b
    · obtain rfl := hq (by omega)
      have hp := pow_pos2 k
      have hp2 : (2 : Int) ^ k ≤ 9223372036854775808 := pow_le_pow2 (i := k) (j := 63) (by omega)
      have q0 : 0 ≤ n / 2 ^ k := Int.ediv_nonneg h1 (by omega)
      have q1 : n / 2 ^ k ≤ n := Int.ediv_le_self _ h1
      have r0 : 0 ≤ n % 2 ^ k := Int.emod_nonneg _ (by omega)
      have m0 : 0 ≤ n / 2 ^ k % 2 * 2 ^ k := Int.mul_nonneg (by omega) (by omega)
      have hs := mod_pow_succ n h1 k
      have m1 : n % 2 ^ k + n / 2 ^ k % 2 * 2 ^ k ≤ n := by
        rw [← hs]; exact mod_le _ _ h1 (pow_pos2 _)
      have HS := Lib.hid hs
      clear hs hq
      go_wp2
      go_round
      case rel =>
        refine ⟨k + 1, _, by omega, by go_num, by rw [div_half], by rw [HS.out], rfl, fun h => ?_⟩
        have : (2 : Int) ^ (k + 1) ≤ 9223372036854775808 := pow_le_pow2 (i := k + 1) (j := 63) (by omega)
        rw [IntWalk.u64_in _ (by rw [← Int.pow_succ]; omega), Int.pow_succ]
      case measure => simp [intOf]; omega
    · go_wp2
      go_ret2
      obtain rfl : k = b := by omega
      exact ⟨rfl, rfl⟩

theorem rLow_bad (n b : Int) (w : World) (h1 : 0 ≤ n) (h2 : n ≤ 18446744073709551615) (hb : b < 0 ∨ 64 < b) :
    Calls Try.prog 24 #[.int .u64 n, .int .i64 b] w fun e w' => e = .returned (.tuple #[.int .u64 0, .int .i64 2]) ∧ w = w' := by
  rcases hb with hb | hb
  · have hb' : ¬ 64 < b := by omega
    go_enter Try.func24, Try.ntmps24
    go_wp2
    go_ret2
    exact ⟨rfl, rfl⟩
  · have hb' : ¬ b < 0 := by omega
    go_enter Try.func24, Try.ntmps24
    go_wp2
    go_ret2
    exact ⟨rfl, rfl⟩

theorem rLow_any (n b : Int) (w : World) (h1 : 0 ≤ n) (h2 : n ≤ 18446744073709551615) :
    Calls Try.prog 24 #[.int .u64 n, .int .i64 b] w fun e w' => e = .returned (.tuple #[.int .u64 (low n b), .int .i64 (lowE b)]) ∧ w = w' := by
  by_cases hb : b < 0 ∨ 64 < b
  · unfold low lowE
    rw [if_pos hb, if_pos hb]
    exact rLow_bad n b w h1 h2 hb
  · obtain ⟨c, rfl⟩ := Int.eq_ofNat_of_zero_le (show 0 ≤ b by omega)
    unfold low lowE
    rw [if_neg hb, if_neg hb, Int.toNat_natCast]
    exact rLow_mid n c w h1 h2 (by omega)

end Go.Proofs.Ytalnlpbdcmnlgaa
