/-
  The walk of the laws' made: a valid header made of numbers.
-/
import Derived.Test.YtfdbkpbgkpkckaaHdrBackQ
namespace Go.Proofs.Ytfdbkpbgkpkckaa
open Go.RowKit
set_option linter.unusedVariables false
set_option maxRecDepth 100000

/-- The window of a made header. -/
def mkX (k : Int) : Int := 2 ^ (10 + k % 17).toNat
def mkWin (k : Int) : Int := mkX k + k / 17 % 8 * (mkX k / 8)
theorem mk_fin : ∀ a : Fin 17, ∀ b : Fin 8, (2 : Int) ^ (10 + ((a.val : Nat) : Int)).toNat + ((b.val : Nat) : Int) * ((2 : Int) ^ (10 + ((a.val : Nat) : Int)).toNat / 8) = windowV (8 * ((a.val : Nat) : Int) + ((b.val : Nat) : Int)) ∧
    chkV (windowV (8 * ((a.val : Nat) : Int) + ((b.val : Nat) : Int))) (-1) false = 0 ∧ 1024 ≤ windowV (8 * ((a.val : Nat) : Int) + ((b.val : Nat) : Int)) ∧ windowV (8 * ((a.val : Nat) : Int) + ((b.val : Nat) : Int)) ≤ 134217728 := by decide +kernel
theorem mk_ok (k : Int) (h : 0 ≤ k) : chkV (mkWin k) (-1) false = 0 ∧ 1024 ≤ mkWin k ∧ mkWin k ≤ 134217728 := by
  obtain ⟨a, ha⟩ : ∃ a : Nat, k % 17 = a := ⟨(k % 17).toNat, by omega⟩
  obtain ⟨b, hb⟩ : ∃ b : Nat, k / 17 % 8 = b := ⟨(k / 17 % 8).toNat, by omega⟩
  have := mk_fin ⟨a, by omega⟩ ⟨b, by omega⟩
  unfold mkWin mkX
  rw [ha, hb]
  simp only at this
  rw [this.1]
  exact this.2
theorem mkX_bd (k : Int) (h : 0 ≤ k) : 1024 ≤ mkX k ∧ mkX k ≤ 67108864 := by
  unfold mkX
  have h1 : (2 : Int) ^ 10 ≤ 2 ^ (10 + k % 17).toNat := pow_le_pow2 (by omega)
  have h2 : (2 : Int) ^ (10 + k % 17).toNat ≤ 2 ^ 26 := pow_le_pow2 (by omega)
  omega
theorem chk_size {w : Int} (h : chkV w (-1) false = 0) (z : Int) (h1 : -1 ≤ z) (h2 : z ≤ 1099511627776) : chkV w z false = 0 := by
  have hk := chk_ok h
  unfold chkV
  rw [if_neg (by unfold chkBad; omega), if_neg (by simp), if_neg (by have := hk.2.2.2.2.2 rfl; omega)]
theorem chk_single (z : Int) (h1 : 0 ≤ z) (h2 : z ≤ 134217728) : chkV z z true = 0 := by
  unfold chkV
  rw [if_neg (by unfold chkBad; omega), if_pos rfl, if_pos rfl]

end Go.Proofs.Ytfdbkpbgkpkckaa
