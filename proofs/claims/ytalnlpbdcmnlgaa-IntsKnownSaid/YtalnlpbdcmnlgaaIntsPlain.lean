/-
  Plain laws of layer 1: powers of two and the highest bit; fields read back; sums. No program here.
-/
import Derived.Test.YtalnlpbdcmnlgaaIntsMath
import Derived.Test.YtalnlpbdcmnlgaaIntsLittle
import Derived.Test.YtalnlpbdcmnlgaaIntsRead
import Derived.Test.YtalnlpbdcmnlgaaIntsSum
namespace Go.Proofs.Ytalnlpbdcmnlgaa

/-- The highest bit of a number from 1 on. -/
theorem hi_spec (n : Int) (h1 : 1 ≤ n) (h2 : n ≤ 9223372036854775807) : ∃ t : Nat, t ≤ 62 ∧ hi n = t ∧ (2 : Int) ^ t ≤ n ∧ n < 2 ^ (t + 1) := by
  obtain ⟨m, rfl⟩ := Int.eq_ofNat_of_zero_le (show 0 ≤ n by omega)
  have hm : m ≠ 0 := by omega
  have a1 := Nat.log2_self_le hm
  have a2 : m < 2 ^ (m.log2 + 1) := Nat.lt_log2_self
  have b1 : (2 : Int) ^ m.log2 ≤ (m : Int) := by exact_mod_cast a1
  have b2 : (m : Int) < 2 ^ (m.log2 + 1) := by exact_mod_cast a2
  have hl : m.log2 ≤ 62 := by
    rcases Nat.lt_or_ge m.log2 63 with h | h
    · omega
    · have := pow_le_pow2 h; omega
  refine ⟨m.log2, hl, ?_, b1, b2⟩
  have := hi_of (m : Int) (m.log2 + 1) (fun _ => by simpa using b1) b2 (by omega)
  rw [this]; omega

/-- The least power of two that is not below a number, told by its highest bit. -/
theorem up_spec (n : Int) (h1 : 1 ≤ n) (h2 : n ≤ 9223372036854775807) (t : Nat) (ht : t ≤ 62) (h3 : (2 : Int) ^ t ≤ n) (h4 : n < 2 ^ (t + 1)) : up n = if n > 2 ^ t then (t : Int) + 1 else t := by
  by_cases h : n > 2 ^ t
  · rw [if_pos h]
    have hp := pow_pos2 t
    rw [up_ge n (by omega)]
    have := hi_of (n - 1) (t + 1) (fun _ => by simp; omega) (by omega) (by omega)
    rw [this]; omega
  · rw [if_neg h]
    have e : n = 2 ^ t := by omega
    cases t with
    | zero => rw [up_lt n (by rw [e]; decide)]; rfl
    | succ t =>
      have hp := pow_pos2 t
      rw [Int.pow_succ] at e
      rw [up_ge n (by omega)]
      have := hi_of (n - 1) (t + 1) (fun _ => by simp; omega) (by rw [Int.pow_succ]; omega) (by omega)
      rw [this]; omega

end Go.Proofs.Ytalnlpbdcmnlgaa
