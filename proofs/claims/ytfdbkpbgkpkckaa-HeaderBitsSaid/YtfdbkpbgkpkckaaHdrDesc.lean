/-
  The walks of header.descriptor and of the reference's described.
-/
import Derived.Test.YtfdbkpbgkpkckaaHdrWindow
import Derived.Test.YtfdbkpbgkpkckaaIntsHigh
import Derived.Deep.LoopGhost
namespace Go.Proofs.Ytfdbkpbgkpkckaa
open Go.RowKit
set_option linter.unusedVariables false
set_option maxRecDepth 100000

theorem hi_two (n : Int) (h1 : 1 ≤ n) (h2 : n ≤ 9223372036854775807) : ∃ t : Nat, t ≤ 62 ∧ hi n = t ∧ (2 : Int) ^ t ≤ n ∧ n < 2 ^ (t + 1) := by
  obtain ⟨m, rfl⟩ := Int.eq_ofNat_of_zero_le (show 0 ≤ n by omega)
  have hm : m ≠ 0 := by omega
  have a1 := Nat.log2_self_le hm
  have a2 : m < 2 ^ (m.log2 + 1) := Nat.lt_log2_self
  have b1 : (2 : Int) ^ m.log2 ≤ (m : Int) := by exact_mod_cast a1
  have b2 : (m : Int) < 2 ^ (m.log2 + 1) := by exact_mod_cast a2
  have hl : m.log2 ≤ 62 := by
    rcases Nat.lt_or_ge m.log2 63 with h | h
    · omega
    · have := pow_le_pow2 h; omega
  refine ⟨m.log2, hl, ?_, b1, b2⟩
  have := hi_of (m : Int) (m.log2 + 1) (fun _ => by simpa using b1) b2 (by omega)
  rw [this]; omega

/-- The eighth in which a number between two powers of two lies. -/
def eighth (w : Int) (t : Nat) : Int := (w - 2 ^ t) / 2 ^ (t - 3)
theorem eighth_bd {w : Int} {t : Nat} (ht : 3 ≤ t) (h1 : (2 : Int) ^ t ≤ w) (h2 : w < 2 ^ (t + 1)) : 0 ≤ eighth w t ∧ eighth w t ≤ 7 := by
  unfold eighth
  have hp := pow_pos2 (t - 3)
  have e : (2 : Int) ^ t = 8 * 2 ^ (t - 3) := by
    rw [show t = 3 + (t - 3) by omega, Int.pow_add, show 3 + (t - 3) - 3 = t - 3 by omega]; rfl
  have e2 : (2 : Int) ^ (t + 1) = 16 * 2 ^ (t - 3) := by rw [Int.pow_succ, e]; omega
  constructor
  · exact Int.ediv_nonneg (by omega) (by omega)
  · have : (w - 2 ^ t) / 2 ^ (t - 3) < 8 := Int.ediv_lt_of_lt_mul hp (by omega)
    omega

/-- The window descriptor of a number of bytes; -1 if there is none. -/
def descB (w : Int) : Int := (hi w - 10) * 8 + eighth w (hi w).toNat
def descV (w : Int) : Int := if hi w < 10 ∨ 27 < hi w then -1 else if windowV (descB w) ≠ w then -1 else descB w

theorem desc_bd {w : Int} (h : ¬ (hi w < 10 ∨ 27 < hi w)) (hw : w ≤ 9223372036854775807) : 0 ≤ descB w ∧ descB w ≤ 143 := by
  have hpos : 1 ≤ w := by
    rcases Int.lt_or_le w 1 with hh | hh
    · have := hi_neg w (by omega); omega
    · exact hh
  obtain ⟨t, ht, e, h1, h2⟩ := hi_two w hpos hw
  have hb := eighth_bd (w := w) (t := t) (by omega) h1 h2
  unfold descB
  rw [e, Int.toNat_natCast]
  omega
theorem descV_spec (w : Int) (hw : w ≤ 9223372036854775807) : descV w = -1 ∨ (0 ≤ descV w ∧ descV w ≤ 143 ∧ windowV (descV w) = w) := by
  unfold descV
  by_cases h : hi w < 10 ∨ 27 < hi w
  · rw [if_pos h]; exact .inl rfl
  · rw [if_neg h]
    by_cases h2 : windowV (descB w) ≠ w
    · rw [if_pos h2]; exact .inl rfl
    · rw [if_neg h2]
      have := desc_bd h hw
      exact .inr ⟨this.1, this.2, by simpa using h2⟩
theorem desc_fin : ∀ b : Fin 144, descV (windowV ((b.val : Nat) : Int)) = ((b.val : Nat) : Int) := by decide +kernel
theorem desc_of (b : Nat) (hb : b ≤ 143) {w : Int} (h : windowV b = w) : descV w = b := by
  rw [← h]; exact desc_fin ⟨b, by omega⟩
theorem descV_none {w : Int} (hw : w ≤ 9223372036854775807) (h : ∀ b : Nat, b ≤ 143 → windowV b ≠ w) : descV w = -1 := by
  rcases descV_spec w hw with h1 | ⟨h1, h2, h3⟩
  · exact h1
  · exact absurd (by rw [Int.toNat_of_nonneg h1]; exact h3) (h (descV w).toNat (by omega))

theorem or_fin : ∀ a : Fin 18, ∀ b : Fin 8, bits BinOp.or IntKind.i64 (((a.val : Nat) : Int) * 8) ((b.val : Nat) : Int) = ((a.val : Nat) : Int) * 8 + ((b.val : Nat) : Int) := by decide +kernel

set_option maxHeartbeats 1600000 in
theorem descriptor_any (n : Int) (w : World) (h1 : -9223372036854775808 ≤ n) (h2 : n ≤ 9223372036854775807) :
    Calls Try.prog 75 #[.int .i64 n] w fun r w' => r = .returned (.int .i64 (descV n)) ∧ Below w.heap.size w w' := by
  have HH := Lib.hid (fun W => High_any n W)
  have hb := hi_lo n
  by_cases hx : hi n < 10 ∨ 27 < hi n
  · have HV : Hid (descV n = -1) := if_pos hx
    generalize descV n = v at *
    generalize hi n = x at *
    by_cases hx1 : x < 10
    · have g0 : decide (x < 10) = true := decide_eq_true hx1
      clear hx hx1
      go_enter Try.func75, Try.ntmps75
      go_wp2_with fail
      refine (HH.out _).mono ?_
      rintro r w1 ⟨rfl, rfl⟩
      go_wp2_with fail
      go_ret
      exact ⟨ret_int HV.out.symm, Below.refl _ _⟩
    · have g0 : decide (x < 10) = false := decide_eq_false hx1
      have g1 : decide (27 < x) = true := decide_eq_true (by omega)
      clear hx hx1
      go_enter Try.func75, Try.ntmps75
      go_wp2_with fail
      refine (HH.out _).mono ?_
      rintro r w1 ⟨rfl, rfl⟩
      go_wp2_with fail
      go_ret
      exact ⟨ret_int HV.out.symm, Below.refl _ _⟩
  · have hbd := desc_bd hx h2
    have HV1 : Hid (windowV (descB n) ≠ n → descV n = -1) := fun h => by unfold descV; rw [if_neg hx, if_pos h]
    have HV2 : Hid (windowV (descB n) = n → descV n = descB n) := fun h => by unfold descV; rw [if_neg hx, if_neg (by simpa using h)]
    have hpos : 1 ≤ n := by
      rcases Int.lt_or_le n 1 with hh | hh
      · have := hi_neg n (by omega); omega
      · exact hh
    obtain ⟨t, ht, e, p1, p2⟩ := hi_two n hpos h2
    have he8 := eighth_bd (w := n) (t := t) (by omega) p1 p2
    have HO : Hid (bits BinOp.or IntKind.i64 (((t : Int) - 10) * 8) ((n - 2 ^ t) / 2 ^ (t - 3)) = descB n) := by
      show bits BinOp.or IntKind.i64 (((t : Int) - 10) * 8) (eighth n t) = descB n
      have := or_fin ⟨t - 10, by omega⟩ ⟨(eighth n t).toNat, by omega⟩
      simp only at this
      rw [show (((t - 10 : Nat) : Int)) = (t : Int) - 10 by omega, show (((eighth n t).toNat : Nat) : Int) = eighth n t by omega] at this
      rw [this]; unfold descB; rw [e, Int.toNat_natCast]
    have HW := Lib.hid (fun W => window_any (descB n) W (by omega))
    rw [e] at HH hb hx
    have g0 : decide ((t : Int) < 10) = false := decide_eq_false (by omega)
    have g1 : decide (27 < (t : Int)) = false := decide_eq_false (by omega)
    have q1 : wrap64 ((2 : Int) ^ t) = 2 ^ t := by
      have : (2 : Int) ^ t ≤ 2 ^ 27 := pow_le_pow2 (by omega)
      have := pow_pos2 t; unfold wrap64; omega
    have hw64 : 1 ≤ n ∧ n ≤ 9223372036854775807 := ⟨hpos, h2⟩
    go_enter Try.func75, Try.ntmps75
    go_wp2_with fail
    refine (HH.out _).mono ?_
    rintro r w1 ⟨rfl, rfl⟩
    go_wp2_with fail
    rw [HO.out]
    refine (HW.out _).mono ?_
    rintro r w2 ⟨rfl, hB2⟩
    generalize descB n = b at *
    by_cases hq : windowV b = n
    · have HV := Lib.hid (HV2.out hq)
      have g2 : (windowV b != n) = false := by rw [hq]; simp
      generalize windowV b = wv at *

      clear hq
      go_wp2_with fail
      go_ret
      exact ⟨ret_int HV.out.symm, hB2⟩
    · have HV := Lib.hid (HV1.out hq)
      have g2 : (windowV b != n) = true := by simpa using hq
      generalize windowV b = wv at *

      clear hq
      go_wp2_with fail
      go_ret
      exact ⟨ret_int HV.out.symm, hB2⟩

/-- What described returns. -/
def descN (w : Int) : Int := if descV w < 0 then 0 else descV w
def descI (w : Int) : Bool := decide (0 ≤ descV w)

set_option maxHeartbeats 1600000 in
theorem described_any (n : Int) (w : World) (h2 : n ≤ 9223372036854775807) :
    Calls Try.prog 78 #[.int .i64 n] w fun r w' => r = .returned (.tuple #[.int .i64 (descN n), .bool (descI n)]) ∧ w = w' := by
  have HW := Lib.hid (fun (b : Nat) W (h : b ≤ 143) => rwindow_any b W (by omega))
  have HF : Hid (∀ b : Nat, b ≤ 143 → windowV b = n → descN n = b ∧ descI n = true) := fun b hb h => by
    have := desc_of b hb h
    unfold descN descI; rw [this]
    exact ⟨if_neg (by omega), by simp⟩
  have HN : Hid ((∀ b : Nat, b ≤ 143 → windowV b ≠ n) → descN n = 0 ∧ descI n = false) := fun h => by
    have := descV_none h2 h
    unfold descN descI; rw [this]
    exact ⟨rfl, rfl⟩
  generalize descN n = dn at *
  generalize descI n = di at *
  go_enter Try.func78, Try.ntmps78
  go_wp2_with fail
  go_loopg [4] 144 (fun m iv wr => ∃ j : Nat, j ≤ 144 ∧ m = 144 - j ∧ iv = .int .i64 j ∧ Hid (∀ b : Nat, b < j → windowV b ≠ n) ∧ wr = w)
  case atStart => exact ⟨0, by omega, rfl, rfl, fun b h => absurd h (by omega), rfl⟩
  case round =>
  obtain ⟨j, hj, rfl, rfl, HM, hW⟩ := hrel
  subst hW
  by_cases hlt : j < 144
  · have g0 : decide ((j : Int) < 256) = true := decide_eq_true (by omega)
    have g1 : decide ((j : Int) / 8 ≤ 17) = true := decide_eq_true (by omega)
    go_wp2_with fail
    refine (HW.out j _ (by omega)).mono ?_
    rintro r w2 ⟨rfl, rfl⟩
    by_cases hq : windowV (j : Int) = n
    · have HV := Lib.hid (HF.out j (by omega) hq)
      have g2 : (windowV (j : Int) == n) = true := by rw [hq]; simp
      generalize windowV (j : Int) = wv at *
      clear hq
      go_wp2_with fail
      go_ret2
      exact ⟨ret_two (val_int HV.out.1.symm) (val_bool HV.out.2.symm), rfl⟩
    · have HQ : Hid (∀ b : Nat, b < j + 1 → windowV b ≠ n) := fun b hb => by
        rcases Nat.lt_or_ge b j with hh | hh
        · exact HM.out b hh
        · obtain rfl : b = j := by omega
          exact hq
      have g2 : (windowV (j : Int) == n) = false := beq_false_of_ne hq
      generalize windowV (j : Int) = wv at *
      clear hq
      go_wp2_with fail
      go_roundg (144 - (j + 1))
      case rel => exact ⟨j + 1, by omega, rfl, by go_num, HQ.out, rfl⟩
      case measure => omega
  · have HV := Lib.hid (HN.out (fun b hb => HM.out b (by omega)))
    have g0 : decide ((j : Int) < 256) = true := decide_eq_true (by omega)
    have g1 : decide ((j : Int) / 8 ≤ 17) = false := decide_eq_false (by omega)
    go_wp2_with fail
    go_ret2
    exact ⟨ret_two (val_int HV.out.1.symm) (val_bool HV.out.2.symm), rfl⟩

end Go.Proofs.Ytfdbkpbgkpkckaa
