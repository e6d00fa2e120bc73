/-
  Different short strings have different checksums: every step of XXH64 can be undone. No walk here.
-/
import Derived.Test.YtboajmnckldmiaaXxhPlain
namespace Go.Proofs.Ytboajmnckldmiaa
open Go.RowKit
set_option linter.unusedVariables false
set_option maxRecDepth 100000

/-- A number of 64 bits. -/
def U (x : Int) : Prop := 0 ≤ x ∧ x ≤ 18446744073709551615
theorem u_bv (x : Int) (h : U x) : ((BitVec.ofInt 64 x).toNat : Int) = x := by
  unfold U at h
  rw [BitVec.toNat_ofInt]; omega
theorem u_ext {x y : Int} (hx : U x) (hy : U y) (h : BitVec.ofInt 64 x = BitVec.ofInt 64 y) : x = y := by
  rw [← u_bv x hx, ← u_bv y hy, h]
theorem bv_u (v : BitVec 64) : U (v.toNat : Int) := by unfold U; have := v.isLt; omega
theorem bv_of (v : BitVec 64) : BitVec.ofInt 64 (v.toNat : Int) = v := by apply BitVec.eq_of_toNat_eq; rw [BitVec.toNat_ofInt]; have := v.isLt; omega
theorem wrap_bv (x : Int) : IntKind.u64.wrap x = ((BitVec.ofInt 64 x).toNat : Int) := by
  rw [IntKind.wrap_u64, BitVec.toNat_ofInt]; omega
theorem wrap_nat (v : BitVec 64) : IntKind.u64.wrap (v.toNat : Int) = v.toNat := by rw [IntKind.wrap_u64]; have := v.isLt; omega
theorem xorV_bv (x y : Int) : xorV x y = ((BitVec.ofInt 64 x ^^^ BitVec.ofInt 64 y).toNat : Int) := wrap_nat _
theorem mulV_bv (x y : Int) : mulV x y = ((BitVec.ofInt 64 x * BitVec.ofInt 64 y).toNat : Int) := by
  unfold mulV; rw [wrap_bv, BitVec.ofInt_mul]
theorem addV_bv (x y : Int) : addV x y = ((BitVec.ofInt 64 x + BitVec.ofInt 64 y).toNat : Int) := by
  unfold addV; rw [wrap_bv, BitVec.ofInt_add]

theorem xorV_inj {h x y : Int} (hx : U x) (hy : U y) (e : xorV h x = xorV h y) : x = y := by
  rw [xorV_bv, xorV_bv] at e
  have e1 : BitVec.ofInt 64 h ^^^ BitVec.ofInt 64 x = BitVec.ofInt 64 h ^^^ BitVec.ofInt 64 y := BitVec.eq_of_toNat_eq (by omega)
  exact u_ext hx hy ((BitVec.xor_right_inj (BitVec.ofInt 64 h)).1 e1)
theorem addV_inj {x y c : Int} (hx : U x) (hy : U y) (e : addV x c = addV y c) : x = y := by
  unfold addV at e; unfold U at hx hy
  rw [IntKind.wrap_u64, IntKind.wrap_u64] at e
  omega
theorem addV_inj' {x y c : Int} (hx : U x) (hy : U y) (e : addV c x = addV c y) : x = y := by
  unfold addV at e; unfold U at hx hy
  rw [IntKind.wrap_u64, IntKind.wrap_u64] at e
  omega
/-- A product with a number that has an inverse. -/
theorem mulV_inj {x y p q : Int} (hx : U x) (hy : U y) (hpq : (p * q) % 18446744073709551616 = 1) (e : mulV x p = mulV y p) : x = y := by
  unfold mulV at e; unfold U at hx hy
  rw [IntKind.wrap_u64, IntKind.wrap_u64] at e
  have e2 : (x * p * q) % 18446744073709551616 = (y * p * q) % 18446744073709551616 := by
    rw [Int.mul_emod, e, ← Int.mul_emod]
  rw [Int.mul_assoc, Int.mul_assoc, Int.mul_emod x, Int.mul_emod y, hpq, Int.mul_one, Int.mul_one, Int.emod_emod_of_dvd _ (Int.dvd_refl _), Int.emod_emod_of_dvd _ (Int.dvd_refl _)] at e2
  omega
theorem turnV_bv (x : Int) (n : Nat) (hx : U x) (hn : 1 ≤ n ∧ n ≤ 63) : turnV x n = (((BitVec.ofInt 64 x).rotateLeft n).toNat : Int) := by
  have hb := u_bv x hx
  generalize BitVec.ofInt 64 x = v at *
  subst hb
  have e1 : BitVec.ofInt 64 (IntKind.u64.wrap ((v.toNat : Int) * 2 ^ n)) = v <<< n := by
    apply BitVec.eq_of_toNat_eq
    rw [wrap_bv, BitVec.ofInt_natCast, BitVec.ofNat_toNat, BitVec.setWidth_eq, BitVec.toNat_ofInt, BitVec.toNat_shiftLeft, Nat.shiftLeft_eq]
    have : ((v.toNat : Int) * 2 ^ n) = ((v.toNat * 2 ^ n : Nat) : Int) := by push_cast; rfl
    rw [this]
    omega
  have e2 : BitVec.ofInt 64 ((v.toNat : Int) / 2 ^ (64 - n)) = v >>> (64 - n) := by
    apply BitVec.eq_of_toNat_eq
    rw [BitVec.toNat_ushiftRight, Nat.shiftRight_eq_div_pow]
    have : ((v.toNat : Int) / 2 ^ (64 - n)) = ((v.toNat / 2 ^ (64 - n) : Nat) : Int) := by push_cast; rfl
    rw [this, BitVec.ofInt_natCast, BitVec.toNat_ofNat]
    exact Nat.mod_eq_of_lt (Nat.lt_of_le_of_lt (Nat.div_le_self _ _) v.isLt)
  unfold turnV
  show IntKind.u64.wrap (((BitVec.ofInt 64 (IntKind.u64.wrap ((v.toNat : Int) * 2 ^ n)) ||| BitVec.ofInt 64 ((v.toNat : Int) / 2 ^ (64 - n))).toNat : Nat) : Int) = _
  rw [e1, e2, wrap_nat, BitVec.rotateLeft_def, Nat.mod_eq_of_lt (by omega)]
theorem turnV_inj {x y : Int} {n : Nat} (hx : U x) (hy : U y) (hn : 1 ≤ n ∧ n ≤ 63) (e : turnV x n = turnV y n) : x = y := by
  rw [turnV_bv x n hx hn, turnV_bv y n hy hn] at e
  have e1 : (BitVec.ofInt 64 x).rotateLeft n = (BitVec.ofInt 64 y).rotateLeft n := BitVec.eq_of_toNat_eq (by omega)
  refine u_ext hx hy ?_
  ext i hi
  have h1 : (i + n) % 64 < 64 := Nat.mod_lt _ (by omega)
  have e2 : ((BitVec.ofInt 64 x).rotateLeft n).getLsbD ((i + n) % 64) = ((BitVec.ofInt 64 y).rotateLeft n).getLsbD ((i + n) % 64) := by rw [e1]
  rw [BitVec.getLsbD_rotateLeft, BitVec.getLsbD_rotateLeft] at e2
  have hm : n % 64 = n := Nat.mod_eq_of_lt (by omega)
  rw [hm] at e2
  by_cases hc : (i + n) % 64 < n
  · have hi2 : 64 - n + (i + n) % 64 = i := by omega
    simp only [hc, cond_true, decide_true, hi2] at e2
    simpa [BitVec.getLsbD, BitVec.getElem_eq_testBit_toNat] using e2
  · have hi2 : (i + n) % 64 - n = i := by omega
    simp only [hc, cond_false, decide_false, h1, hi2, decide_true, Bool.true_and] at e2
    simpa [BitVec.getLsbD, BitVec.getElem_eq_testBit_toNat] using e2
theorem xsh_inj {x y : Int} {n : Nat} (hx : U x) (hy : U y) (hn : 1 ≤ n ∧ n ≤ 63) (e : xorV x (x / 2 ^ n) = xorV y (y / 2 ^ n)) : x = y := by
  have K : ∀ z : Int, U z → BitVec.ofInt 64 (z / 2 ^ n) = BitVec.ofInt 64 z >>> n := fun z hz => by
    have hb := u_bv z hz
    generalize BitVec.ofInt 64 z = v at *
    subst hb
    apply BitVec.eq_of_toNat_eq
    rw [BitVec.toNat_ushiftRight, Nat.shiftRight_eq_div_pow]
    have : ((v.toNat : Int) / 2 ^ n) = ((v.toNat / 2 ^ n : Nat) : Int) := by push_cast; rfl
    rw [this, BitVec.ofInt_natCast, BitVec.toNat_ofNat]
    exact Nat.mod_eq_of_lt (Nat.lt_of_le_of_lt (Nat.div_le_self _ _) v.isLt)
  rw [xorV_bv, xorV_bv, K x hx, K y hy] at e
  refine u_ext hx hy ?_
  generalize BitVec.ofInt 64 x = a at *
  generalize BitVec.ofInt 64 y = b at *
  have e1 : a ^^^ a >>> n = b ^^^ b >>> n := BitVec.eq_of_toNat_eq (by omega)
  have hbit : ∀ i, a.getLsbD i = b.getLsbD i := by
    suffices ∀ k i, 64 ≤ i + k → a.getLsbD i = b.getLsbD i from fun i => this 64 i (by omega)
    intro k
    induction k with
    | zero => intro i hi; rw [BitVec.getLsbD_of_ge _ _ (by omega), BitVec.getLsbD_of_ge _ _ (by omega)]
    | succ k ih =>
      intro i hi
      have e2 : (a ^^^ a >>> n).getLsbD i = (b ^^^ b >>> n).getLsbD i := by rw [e1]
      simp only [BitVec.getLsbD_xor, BitVec.getLsbD_ushiftRight] at e2
      rw [ih (n + i) (by omega)] at e2
      cases h1 : a.getLsbD i <;> cases h2 : b.getLsbD i <;> simp [h1, h2] at e2 ⊢
  exact BitVec.eq_of_getLsbD_eq (fun i _ => hbit i)

theorem inv_A : ∃ q, (pA * q) % 18446744073709551616 = 1 := ⟨614540362697595703, by decide +kernel⟩
theorem inv_B : ∃ q, (pB * q) % 18446744073709551616 = 1 := ⟨839798700976720815, by decide +kernel⟩
theorem inv_C : ∃ q, (pC * q) % 18446744073709551616 = 1 := ⟨16855272203555305545, by decide +kernel⟩
theorem inv_E : ∃ q, (pE * q) % 18446744073709551616 = 1 := ⟨14236653164957433613, by decide +kernel⟩

theorem finV_inj {x y : Int} (hx : U x) (hy : U y) (e : finV x = finV y) : x = y := by
  obtain ⟨qb, hqb⟩ := inv_B
  obtain ⟨qc, hqc⟩ := inv_C
  have h1 : U (finA x) := mulV_in _ _
  have h2 : U (finA y) := mulV_in _ _
  have h3 : U (finB (finA x)) := mulV_in _ _
  have h4 : U (finB (finA y)) := mulV_in _ _
  have e1 := xsh_inj (n := 32) h3 h4 (by omega) e
  have e2 := xsh_inj (n := 29) h1 h2 (by omega) (mulV_inj (xorV_in _ _) (xorV_in _ _) hqc e1)
  exact xsh_inj (n := 33) hx hy (by omega) (mulV_inj (xorV_in _ _) (xorV_in _ _) hqb e2)
theorem roundV_inj {x y : Int} (hx : U x) (hy : U y) (e : roundV 0 x = roundV 0 y) : x = y := by
  obtain ⟨qa, hqa⟩ := inv_A
  obtain ⟨qb, hqb⟩ := inv_B
  have e1 := turnV_inj (addV_in _ _) (addV_in _ _) (by omega) (mulV_inj (turnV_in _ _) (turnV_in _ _) hqa e)
  exact mulV_inj hx hy hqb (addV_inj' (mulV_in _ _) (mulV_in _ _) e1)
theorem rest8_inj {h : Int} {s t : ByteArray} (hs : U (rd s 0 8)) (ht : U (rd t 0 8)) (e : rest8 h s = rest8 h t) : rd s 0 8 = rd t 0 8 := by
  obtain ⟨qa, hqa⟩ := inv_A
  have e1 := mulV_inj (turnV_in _ _) (turnV_in _ _) hqa (addV_inj (mulV_in _ _) (mulV_in _ _) e)
  exact roundV_inj hs ht (xorV_inj (roundV_in _ _) (roundV_in _ _) (turnV_inj (xorV_in _ _) (xorV_in _ _) (by omega) e1))
theorem rest4_inj {h : Int} {s t : ByteArray} (hs : U (rd s 0 4)) (ht : U (rd t 0 4)) (e : rest4 h s = rest4 h t) : rd s 0 4 = rd t 0 4 := by
  obtain ⟨qa, hqa⟩ := inv_A
  obtain ⟨qb, hqb⟩ := inv_B
  have e1 := mulV_inj (turnV_in _ _) (turnV_in _ _) hqb (addV_inj (mulV_in _ _) (mulV_in _ _) e)
  exact mulV_inj hs ht hqa (xorV_inj (mulV_in _ _) (mulV_in _ _) (turnV_inj (xorV_in _ _) (xorV_in _ _) (by omega) e1))
theorem rest1_inj {h x y : Int} (hx : U x) (hy : U y) (e : rest1 h x = rest1 h y) : x = y := by
  obtain ⟨qa, hqa⟩ := inv_A
  obtain ⟨qe, hqe⟩ := inv_E
  have e1 := mulV_inj (turnV_in _ _) (turnV_in _ _) hqa e
  exact mulV_inj hx hy hqe (xorV_inj (mulV_in _ _) (mulV_in _ _) (turnV_inj (xorV_in _ _) (xorV_in _ _) (by omega) e1))

end Go.Proofs.Ytboajmnckldmiaa
