/-
  The walks of ints.High, Bits, Up and of their references.
-/
import Derived.Test.YtfdbkpbgkpkckaaRows
import Derived.Test.YtfdbkpbgkpkckaaIntsMath
import Derived.Test.YtfdbkpbgkpkckaaCommon
namespace Go.Proofs.Ytfdbkpbgkpkckaa
open Go.RowKit

set_option maxHeartbeats 400000 in
theorem High_any (n : Int) (w : World) :
    Calls Try.prog 95 #[.int .i64 n] w fun e w' => e = .returned (.int .i64 (hi n)) ∧ w = w' := by
  go_enter Try.func95, Try.ntmps95
  go_wp2
  go_loop [3, 5] (fun h i => ∃ k : Nat, k ≤ 63 ∧ i = .int .i64 k ∧ h = .int .i64 (hiTo n k)) (fun _ i => 63 - (intOf i).toNat)
  case atStart => exact ⟨0, Nat.zero_le _, rfl, rfl⟩
  case round =>
    obtain ⟨k, hk, rfl, rfl⟩ := hrel
    by_cases hlt : k < 63
    · have hm : min k 64 = k := by omega
      go_wp2
      all_goals
        go_round
        case rel => exact ⟨k + 1, by omega, by go_num, by rw [hiTo_succ]; first | rw [if_pos (by omega)] | rw [if_neg (by omega)]⟩
        case measure => simp [intOf]; omega
    · go_wp2
      go_ret
      obtain rfl : k = 63 := by omega
      exact ⟨rfl, rfl⟩

set_option maxHeartbeats 400000 in
theorem rHigh_any (n : Int) (w : World) (h2 : n ≤ 9223372036854775807) :
    Calls Try.prog 121 #[.int .i64 n] w fun e w' => e = .returned (.int .i64 (hi n)) ∧ w = w' := by
  go_enter Try.func121, Try.ntmps121
  go_wp2
  go_loop [0, 3] (fun m h => ∃ j : Nat, j ≤ 63 ∧ m = .int .i64 (n / 2 ^ j) ∧ h = .int .i64 (j - 1) ∧ (0 < j → 2 ^ (j - 1) ≤ n)) (fun m _ => (intOf m).toNat)
  case atStart => exact ⟨0, Nat.zero_le _, by simp, rfl, by omega⟩
  case round =>
    obtain ⟨j, hj, rfl, rfl, hp⟩ := hrel
    have HP := Lib.hid hp
    clear hp
    have hd := div_pow_pos n j
    by_cases hlt : 0 < n / 2 ^ j
    · have hle := hd.1 hlt
      have hj2 : j < 63 := by
        have : n < 2 ^ 63 := by omega
        rcases Nat.lt_or_ge j 63 with h | h
        · exact h
        · have := pow_le_pow2 h; omega
      have hb : n / 2 ^ j ≤ n := Int.ediv_le_self _ (by have := pow_pos2 j; omega)
      clear hd
      go_wp2
      go_round
      case rel => exact ⟨j + 1, by omega, by rw [div_half], by go_num, fun _ => by simpa using hle⟩
      case measure => simp [intOf]; omega
    · have hle : ¬ 2 ^ j ≤ n := fun h => hlt (hd.2 h)
      clear hd
      go_wp2
      go_ret
      exact ⟨ret_int (hi_of n j HP.out (by omega) hj).symm, rfl⟩





end Go.Proofs.Ytfdbkpbgkpkckaa
