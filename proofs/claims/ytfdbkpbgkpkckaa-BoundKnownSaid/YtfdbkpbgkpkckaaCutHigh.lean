/-
  The walks of ints.High and of its reference, with their own names; the number of bits of the cutter.
-/
import Derived.Test.YtfdbkpbgkpkckaaRows
import Derived.IntWalk
import Derived.Test.YtfdbkpbgkpkckaaCommon
namespace Go.Proofs.Ytfdbkpbgkpkckaa.Hi
open Go.RowKit

/-- The greatest i below k for which n / 2^i is above 0; -1 if there is none. -/
def hiTo (n : Int) : Nat → Int
  | 0 => -1
  | k + 1 => if 0 < n / 2 ^ k then k else hiTo n k

/-- The highest bit of a number of an int. -/
def hi (n : Int) : Int := hiTo n 63

theorem hiTo_lo (n : Int) (k : Nat) : -1 ≤ hiTo n k ∧ hiTo n k < k := by
  induction k with
  | zero => simp [hiTo]
  | succ k ih => unfold hiTo; split <;> omega

theorem hi_lo (n : Int) : -1 ≤ hi n ∧ hi n ≤ 62 := by have := hiTo_lo n 63; unfold hi; omega

theorem pow_pos2 (k : Nat) : (0 : Int) < 2 ^ k := Int.pow_pos (by decide)

theorem div_pow_pos (n : Int) (k : Nat) : 0 < n / 2 ^ k ↔ 2 ^ k ≤ n := by
  have h := Int.le_ediv_iff_mul_le (a := 1) (b := n) (pow_pos2 k)
  rw [Int.one_mul] at h
  omega

theorem pow_le_pow2 {i j : Nat} (h : i ≤ j) : (2 : Int) ^ i ≤ 2 ^ j := by
  have := Nat.pow_le_pow_right (n := 2) (by decide) h
  exact_mod_cast this

theorem pow_lt_pow2 {i j : Nat} (h : i < j) : (2 : Int) ^ i < 2 ^ j := by
  have := Nat.pow_lt_pow_right (a := 2) (by decide) h
  exact_mod_cast this

/-- hiTo is j - 1, where 2^(j-1) is not above n and 2^j is. -/
theorem hiTo_of (n : Int) (j : Nat) (h1 : 0 < j → 2 ^ (j - 1) ≤ n) (h2 : n < 2 ^ j) (k : Nat) (hk : j ≤ k) : hiTo n k = j - 1 := by
  induction k with
  | zero => obtain rfl : j = 0 := by omega
            rfl
  | succ k ih =>
    unfold hiTo
    by_cases e : j = k + 1
    · subst e
      rw [if_pos ((div_pow_pos n k).2 (by simpa using h1 (by omega)))]
      omega
    · have := pow_le_pow2 (show j ≤ k by omega)
      rw [if_neg (by rw [div_pow_pos]; omega)]
      exact ih (by omega)

theorem hi_of (n : Int) (j : Nat) (h1 : 0 < j → 2 ^ (j - 1) ≤ n) (h2 : n < 2 ^ j) (hj : j ≤ 63) : hi n = j - 1 := hiTo_of n j h1 h2 63 hj

theorem hi_neg (n : Int) (h : n ≤ 0) : hi n = -1 := by
  have := hi_of n 0 (by omega) (by simp; omega) (by omega)
  simpa using this

theorem div_half (n : Int) (j : Nat) : n / 2 ^ j / 2 = n / 2 ^ (j + 1) := by
  rw [Int.ediv_ediv_of_nonneg (Int.le_of_lt (pow_pos2 j)), ← Int.pow_succ]

theorem pow256 (k : Nat) : (2 : Int) ^ (8 * k) = 256 ^ k := by rw [Int.pow_mul]; rfl

theorem hiTo_succ (n : Int) (k : Nat) : hiTo n (k + 1) = if 0 < n / 2 ^ k then (k : Int) else hiTo n k := rfl

set_option maxHeartbeats 400000 in
theorem High_any (n : Int) (w : World) :
    Calls Try.prog 95 #[.int .i64 n] w fun e w' => e = .returned (.int .i64 (hi n)) ∧ w = w' := by
  go_enter Try.func95, Try.ntmps95
  go_wp2
  go_loop [3, 5] (fun h i => ∃ k : Nat, k ≤ 63 ∧ i = .int .i64 k ∧ h = .int .i64 (hiTo n k)) (fun _ i => 63 - (intOf i).toNat)
  case atStart => exact ⟨0, Nat.zero_le _, rfl, rfl⟩
  case round =>
    obtain ⟨k, hk, rfl, rfl⟩ := hrel
    by_cases hlt : k < 63
    · have hm : min k 64 = k := by omega
      go_wp2
      all_goals
        go_round
        case rel => exact ⟨k + 1, by omega, by go_num, by rw [hiTo_succ]; first | rw [if_pos (by omega)] | rw [if_neg (by omega)]⟩
        case measure => simp [intOf]; omega
    · go_wp2
      go_ret
      obtain rfl : k = 63 := by omega
      exact ⟨rfl, rfl⟩

set_option maxHeartbeats 400000 in
theorem rHigh_any (n : Int) (w : World) (h2 : n ≤ 9223372036854775807) :
    Calls Try.prog 121 #[.int .i64 n] w fun e w' => e = .returned (.int .i64 (hi n)) ∧ w = w' := by
  go_enter Try.func121, Try.ntmps121
  go_wp2
  go_loop [0, 3] (fun m h => ∃ j : Nat, j ≤ 63 ∧ m = .int .i64 (n / 2 ^ j) ∧ h = .int .i64 (j - 1) ∧ (0 < j → 2 ^ (j - 1) ≤ n)) (fun m _ => (intOf m).toNat)
  case atStart => exact ⟨0, Nat.zero_le _, by simp, rfl, by omega⟩
  case round =>
    obtain ⟨j, hj, rfl, rfl, hp⟩ := hrel
    have HP := Lib.hid hp
    clear hp
    have hd := div_pow_pos n j
    by_cases hlt : 0 < n / 2 ^ j
    · have hle := hd.1 hlt
      have hj2 : j < 63 := by
        have : n < 2 ^ 63 := by omega
        rcases Nat.lt_or_ge j 63 with h | h
        · exact h
        · have := pow_le_pow2 h; omega
      have hb : n / 2 ^ j ≤ n := Int.ediv_le_self _ (by have := pow_pos2 j; omega)
      clear hd
      go_wp2
      go_round
      case rel => exact ⟨j + 1, by omega, by rw [div_half], by go_num, fun _ => by simpa using hle⟩
      case measure => simp [intOf]; omega
    · have hle : ¬ 2 ^ j ≤ n := fun h => hlt (hd.2 h)
      clear hd
      go_wp2
      go_ret
      exact ⟨ret_int (hi_of n j HP.out (by omega) hj).symm, rfl⟩

theorem hiTo_lt (n : Int) (m : Nat) (h : n < 2 ^ m) : ∀ k, hiTo n k < m := by
  intro k
  induction k with
  | zero => simp only [hiTo]; omega
  | succ k ih =>
    rw [hiTo_succ]
    split
    · rename_i hk
      have h1 := (div_pow_pos n k).1 hk
      rcases Nat.lt_or_ge k m with h2 | h2
      · omega
      · have := pow_le_pow2 h2; omega
    · exact ih

/-- How many bits of a hash have to hit. -/
def bitsC (jb : Int) : Int := max 1 (hi jb - 2)
theorem bitsC_in (jb : Int) (h : jb ≤ 2097152) : 1 ≤ bitsC jb ∧ bitsC jb ≤ 20 := by
  have := hiTo_lt jb 22 (by omega) 63
  unfold bitsC hi
  omega

end Go.Proofs.Ytfdbkpbgkpkckaa.Hi
