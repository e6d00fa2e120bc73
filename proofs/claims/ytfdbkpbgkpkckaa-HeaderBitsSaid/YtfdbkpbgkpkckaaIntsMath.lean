/-
  Plain arithmetic for layer 1 (ints): the highest bit of a number. No program here.
-/
import Derived.IntWalk
import Derived.Laws.BitsAllLaws
namespace Go.Proofs.Ytfdbkpbgkpkckaa

/-- The greatest i below k for which n / 2^i is above 0; -1 if there is none. -/
def hiTo (n : Int) : Nat → Int
  | 0 => -1
  | k + 1 => if 0 < n / 2 ^ k then k else hiTo n k

/-- The highest bit of a number of an int. -/
def hi (n : Int) : Int := hiTo n 63

theorem hiTo_lo (n : Int) (k : Nat) : -1 ≤ hiTo n k ∧ hiTo n k < k := by
  induction k with
  | zero => simp [hiTo]
  | succ k ih => unfold hiTo; split <;> omega

theorem hi_lo (n : Int) : -1 ≤ hi n ∧ hi n ≤ 62 := by have := hiTo_lo n 63; unfold hi; omega

theorem pow_pos2 (k : Nat) : (0 : Int) < 2 ^ k := Int.pow_pos (by decide)

theorem div_pow_pos (n : Int) (k : Nat) : 0 < n / 2 ^ k ↔ 2 ^ k ≤ n := by
  have h := Int.le_ediv_iff_mul_le (a := 1) (b := n) (pow_pos2 k)
  rw [Int.one_mul] at h
  omega

theorem pow_le_pow2 {i j : Nat} (h : i ≤ j) : (2 : Int) ^ i ≤ 2 ^ j := by
  have := Nat.pow_le_pow_right (n := 2) (by decide) h
  exact_mod_cast this

theorem pow_lt_pow2 {i j : Nat} (h : i < j) : (2 : Int) ^ i < 2 ^ j := by
  have := Nat.pow_lt_pow_right (a := 2) (by decide) h
  exact_mod_cast this

/-- hiTo is j - 1, where 2^(j-1) is not above n and 2^j is. -/
theorem hiTo_of (n : Int) (j : Nat) (h1 : 0 < j → 2 ^ (j - 1) ≤ n) (h2 : n < 2 ^ j) (k : Nat) (hk : j ≤ k) : hiTo n k = j - 1 := by
  induction k with
  | zero => obtain rfl : j = 0 := by omega
            rfl
  | succ k ih =>
    unfold hiTo
    by_cases e : j = k + 1
    · subst e
      rw [if_pos ((div_pow_pos n k).2 (by simpa using h1 (by omega)))]
      omega
    · have := pow_le_pow2 (show j ≤ k by omega)
      rw [if_neg (by rw [div_pow_pos]; omega)]
      exact ih (by omega)

theorem hi_of (n : Int) (j : Nat) (h1 : 0 < j → 2 ^ (j - 1) ≤ n) (h2 : n < 2 ^ j) (hj : j ≤ 63) : hi n = j - 1 := hiTo_of n j h1 h2 63 hj

theorem hi_neg (n : Int) (h : n ≤ 0) : hi n = -1 := by
  have := hi_of n 0 (by omega) (by simp; omega) (by omega)
  simpa using this

theorem div_half (n : Int) (j : Nat) : n / 2 ^ j / 2 = n / 2 ^ (j + 1) := by
  rw [Int.ediv_ediv_of_nonneg (Int.le_of_lt (pow_pos2 j)), ← Int.pow_succ]

theorem pow256 (k : Nat) : (2 : Int) ^ (8 * k) = 256 ^ k := by rw [Int.pow_mul]; rfl

theorem hiTo_succ (n : Int) (k : Nat) : hiTo n (k + 1) = if 0 < n / 2 ^ k then (k : Int) else hiTo n k := rfl

/-- The least power of two that is not below n. -/
def up (n : Int) : Int := hi (max n 1 - 1) + 1

theorem up_eq (n : Int) : up n = hi (max n 1 - 1) + 1 := rfl

theorem up_lo (n : Int) : 0 ≤ up n ∧ up n ≤ 63 := by
  have := hi_lo (max n 1 - 1)
  unfold up; omega

theorem up_lt (n : Int) (h : n < 2) : up n = 0 := by
  unfold up
  rw [show max n 1 - 1 = 0 by omega]; rfl

theorem up_ge (n : Int) (h : 2 ≤ n) : up n = hi (n - 1) + 1 := by
  unfold up
  rw [show max n 1 - 1 = n - 1 by omega]

theorem mod_pow_succ (n : Int) (h : 0 ≤ n) (i : Nat) : n % 2 ^ (i + 1) = n % 2 ^ i + n / 2 ^ i % 2 * 2 ^ i := by
  obtain ⟨m, rfl⟩ := Int.eq_ofNat_of_zero_le h
  have := Nat.mod_mul (x := m) (a := 2 ^ i) (b := 2)
  rw [← Nat.pow_succ, Nat.mul_comm (2 ^ i)] at this
  exact_mod_cast this

theorem mod_le (n m : Int) (h : 0 ≤ n) (hm : 0 < m) : n % m ≤ n := by
  have h1 := Int.mul_ediv_add_emod n m
  have h2 := Int.mul_nonneg (Int.le_of_lt hm) (Int.ediv_nonneg h (Int.le_of_lt hm))
  omega

/-- The lowest b bits, or the error of b. -/
def low (n b : Int) : Int := if b < 0 ∨ 64 < b then 0 else n % 2 ^ b.toNat
def lowE (b : Int) : Int := if b < 0 ∨ 64 < b then 2 else 0

theorem low_lo (n b : Int) (h : 0 ≤ n) (h2 : n ≤ 18446744073709551615) : 0 ≤ low n b ∧ low n b ≤ 18446744073709551615 := by
  unfold low
  split
  · omega
  · have hp := pow_pos2 b.toNat
    have := Int.emod_nonneg n (b := 2 ^ b.toNat) (by omega)
    have := mod_le n (2 ^ b.toNat) h hp
    omega

theorem and_mask (n : Int) (b : Nat) (h1 : 0 ≤ n) (h2 : n ≤ 18446744073709551615) (hb : b < 64) : bits .and .u64 n (2 ^ b - 1) = n % 2 ^ b := by
  have hp := pow_pos2 b
  have hp2 : (2 : Int) ^ b ≤ 9223372036854775808 := pow_le_pow2 (i := b) (j := 63) (by omega)
  rw [u64_and _ _ h1 (by omega) (by omega) (by omega)]
  obtain ⟨m, rfl⟩ := Int.eq_ofNat_of_zero_le h1
  have e : ((2 : Int) ^ b - 1).toNat = 2 ^ b - 1 := by
    have : (2 : Int) ^ b = ((2 ^ b : Nat) : Int) := by simp
    rw [this]; omega
  rw [e, Int.toNat_natCast, Nat.and_two_pow_sub_one_eq_mod]
  simp

end Go.Proofs.Ytfdbkpbgkpkckaa
