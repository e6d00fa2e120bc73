/-
  The walks of ints.High, Bits, Up and of their references.
-/
import Derived.Test.YtalnlpbdcmnlgaaRows
import Derived.Test.YtalnlpbdcmnlgaaIntsMath
import Derived.Test.YtalnlpbdcmnlgaaCommon
namespace Go.Proofs.Ytalnlpbdcmnlgaa
open Go.RowKit

set_option maxHeartbeats 400000 in
theorem High_any (n : Int) (w : World) :
    Calls Try.prog 25 #[.int .i64 n] w fun e w' => e = .returned (.int .i64 (hi n)) ∧ w = w' := by
  go_enter Try.func25, Try.ntmps25
  go_wp2
  go_loop [3, 5] (fun h i => ∃ k : Nat, k ≤ 63 ∧ i = .int .i64 k ∧ h = .int .i64 (hiTo n k)) (fun _ i => 63 - (intOf i).toNat)
  case atStart => exact ⟨0, Nat.zero_le _, rfl, rfl⟩
  case round =>
    obtain ⟨k, hk, rfl, rfl⟩ := hrel
    by_cases hlt : k < 63
    · have hm : min k 64 = k := by omega
      go_wp2
      all_goals
        go_round
        case rel => exact ⟨k + 1, by omega, by go_num, by rw [hiTo_succ]; first | rw [if_pos (by omega)] | rw [if_neg (by omega)]⟩
        case measure => simp [intOf]; omega
    · go_wp2
      go_ret
      obtain rfl : k = 63 := by omega
      exact ⟨rfl, rfl⟩

set_option maxHeartbeats 400000 in
theorem rHigh_any (n : Int) (w : World) (h2 : n ≤ 9223372036854775807) :
    Calls Try.prog 26 #[.int .i64 n] w fun e w' => e = .returned (.int .i64 (hi n)) ∧ w = w' := by
  go_enter Try.func26, Try.ntmps26
  go_wp2
  go_loop [0, 3] (fun m h => ∃ j : Nat, j ≤ 63 ∧ m = .int .i64 (n / 2 ^ j) ∧ h = .int .i64 (j - 1) ∧ (0 < j → 2 ^ (j - 1) ≤ n)) (fun m _ => (intOf m).toNat)
  case atStart => exact ⟨0, Nat.zero_le _, by simp, rfl, by omega⟩
  case round =>
    obtain ⟨j, hj, rfl, rfl, hp⟩ := hrel
    have HP := Lib.hid hp
    clear hp
    have hd := div_pow_pos n j
    by_cases hlt : 0 < n / 2 ^ j
    · have hle := hd.1 hlt
      have hj2 : j < 63 := by
        have : n < 2 ^ 63 := by omega
        rcases Nat.lt_or_ge j 63 with h | h
        · exact h
        · have := pow_le_pow2 h; omega
      have hb : n / 2 ^ j ≤ n := Int.ediv_le_self _ (by have := pow_pos2 j; omega)
      clear hd
      go_wp2
      go_round
      case rel => exact ⟨j + 1, by omega, by rw [div_half], by go_num, fun _ => by simpa using hle⟩
      case measure => simp [intOf]; omega
    · have hle : ¬ 2 ^ j ≤ n := fun h => hlt (hd.2 h)
      clear hd
      go_wp2
      go_ret
      exact ⟨ret_int (hi_of n j HP.out (by omega) hj).symm, rfl⟩

theorem Bits_any (n : Int) (w : World) :
    Calls Try.prog 27 #[.int .i64 n] w fun e w' => e = .returned (.int .i64 (hi n + 1)) ∧ w = w' := by
  have h := hi_lo n
  go_enter Try.func27, Try.ntmps27
  go_wp2_with (go_at_call 25; refine (High_any _ _).mono ?_; rintro e w' ⟨rfl, rfl⟩)
  go_ret
  exact ⟨rfl, rfl⟩

theorem rBits_any (n : Int) (w : World) (h2 : n ≤ 9223372036854775807) :
    Calls Try.prog 28 #[.int .i64 n] w fun e w' => e = .returned (.int .i64 (hi n + 1)) ∧ w = w' := by
  have h := hi_lo n
  go_enter Try.func28, Try.ntmps28
  go_wp2_with (go_at_call 26; refine (rHigh_any _ _ h2).mono ?_; rintro e w' ⟨rfl, rfl⟩)
  go_ret
  exact ⟨rfl, rfl⟩

theorem Up_any (n : Int) (w : World) (h1 : -9223372036854775808 ≤ n) (h2 : n ≤ 9223372036854775807) :
    Calls Try.prog 29 #[.int .i64 n] w fun e w' => e = .returned (.int .i64 (up n)) ∧ w = w' := by
  have hu := up_eq n
  have HU := Lib.hid hu
  clear hu
  go_enter Try.func29, Try.ntmps29
  go_wp2_with (go_at_call 27; refine (Bits_any _ _).mono ?_; rintro e w' ⟨rfl, rfl⟩)
  all_goals
    go_ret
    exact ⟨ret_int (by rw [HU.out]; congr 2; omega), rfl⟩

theorem rUp_any (n : Int) (w : World) (h1 : -9223372036854775808 ≤ n) (h2 : n ≤ 9223372036854775807) :
    Calls Try.prog 30 #[.int .i64 n] w fun e w' => e = .returned (.int .i64 (up n)) ∧ w = w' := by
  have hl := hi_lo (n - 1)
  by_cases h : n < 2
  · have HU := Lib.hid (up_lt n h)
    go_enter Try.func30, Try.ntmps30
    go_wp2
    go_ret
    exact ⟨ret_int HU.out.symm, rfl⟩
  · have HU := Lib.hid (up_ge n (by omega))
    go_enter Try.func30, Try.ntmps30
    go_wp2_with (go_at_call 26; refine (rHigh_any _ _ (by omega)).mono ?_; rintro e w' ⟨rfl, rfl⟩)
    go_ret
    exact ⟨ret_int HU.out.symm, rfl⟩

end Go.Proofs.Ytalnlpbdcmnlgaa
