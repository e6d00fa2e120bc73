/-
  Plain arithmetic for layer 34 (roll): hashes of bytes modulo 2^64. No program here.
-/
import Derived.IntWalk
import Derived.Laws.BitsAllLaws
import Derived.WalkKit
namespace Go.Proofs.Ytfdbkpbgkpkckaa

/-- Byte i of a string, as an integer; 0 behind its end. -/
def sb (s : ByteArray) (i : Nat) : Int := (s.data.toList.getD i 0).toNat

theorem sb_get (s : ByteArray) (i : Nat) (h : i < s.size) : ((s[i]'h).toNat : Int) = sb s i := by
  have hl : i < s.data.toList.length := by rw [Array.length_toList]; exact h
  unfold sb
  rw [List.getD_eq_getElem?_getD, List.getElem?_eq_getElem hl]
  rfl
theorem sb_lo (s : ByteArray) (i : Nat) : 0 ≤ sb s i ∧ sb s i ≤ 255 := by
  unfold sb
  have := (s.data.toList.getD i 0).toNat_lt
  omega

/-- One byte more, as the program reckons it. -/
def hstep (h x : Int) : Int := IntKind.u64.wrap (IntKind.u64.wrap (IntKind.u64.wrap (h * 11400714819323198485) + x) + 1)

/-- The hash of f 0, f 1, .. , f (n - 1). -/
def hashF (f : Nat → Int) : Nat → Int
  | 0 => 0
  | n + 1 => hstep (hashF f n) (f n)

/-- The same sum, not cut. -/
def sumF (f : Nat → Int) : Nat → Int
  | 0 => 0
  | n + 1 => sumF f n * 11400714819323198485 + f n + 1

theorem mod_mul (a b n : Int) : (a % n * b) % n = (a * b) % n := by
  rw [Int.mul_emod, Int.emod_emod, ← Int.mul_emod]

theorem hstep_mod (h x : Int) : hstep h x = (h * 11400714819323198485 + x + 1) % 18446744073709551616 := by
  unfold hstep
  rw [IntKind.wrap_u64, IntKind.wrap_u64, IntKind.wrap_u64, Int.emod_add_emod]
  rw [show (h * 11400714819323198485 % 18446744073709551616 + x + 1) = h * 11400714819323198485 % 18446744073709551616 + (x + 1) by omega, Int.emod_add_emod]
  congr 1
  omega

theorem hashF_mod (f : Nat → Int) (n : Nat) : hashF f n = sumF f n % 18446744073709551616 := by
  induction n with
  | zero => rfl
  | succ n ih =>
    rw [hashF, hstep_mod, ih, sumF]
    rw [show (sumF f n % 18446744073709551616 * 11400714819323198485 + f n + 1) = sumF f n % 18446744073709551616 * 11400714819323198485 + (f n + 1) by omega, Int.add_emod, mod_mul, ← Int.add_emod]
    congr 1
    omega

theorem hashF_lo (f : Nat → Int) (n : Nat) : 0 ≤ hashF f n ∧ hashF f n ≤ 18446744073709551615 := by
  rw [hashF_mod]; omega

theorem hashF_congr {f g : Nat → Int} {n : Nat} (h : ∀ i, i < n → f i = g i) : hashF f n = hashF g n := by
  induction n with
  | zero => rfl
  | succ n ih => rw [hashF, hashF, ih (fun i hi => h i (by omega)), h n (by omega)]

theorem sumF_cons (f : Nat → Int) (n : Nat) : sumF f (n + 1) = (f 0 + 1) * 11400714819323198485 ^ n + sumF (fun i => f (i + 1)) n := by
  induction n with
  | zero => simp [sumF]
  | succ n ih =>
    rw [sumF, ih, sumF, Int.pow_succ, Int.add_mul, Int.mul_assoc]
    omega

/-- The multiplier to the power n, as the program reckons it. -/
def mulp : Nat → Int
  | 0 => 1
  | n + 1 => IntKind.u64.wrap (mulp n * 11400714819323198485)

theorem mulp_mod (n : Nat) : mulp n = 11400714819323198485 ^ n % 18446744073709551616 := by
  induction n with
  | zero => rfl
  | succ n ih => rw [mulp, IntKind.wrap_u64, ih, mod_mul, Int.pow_succ]

/-- A byte's summand, multiplied n times, as the reference reckons it. -/
def mulx (x : Int) : Nat → Int
  | 0 => IntKind.u64.wrap (x + 1)
  | n + 1 => IntKind.u64.wrap (mulx x n * 11400714819323198485)

theorem mulx_mod (x : Int) (n : Nat) : mulx x n = (x + 1) * 11400714819323198485 ^ n % 18446744073709551616 := by
  induction n with
  | zero => rw [mulx, IntKind.wrap_u64, Int.pow_zero, Int.mul_one]
  | succ n ih => rw [mulx, IntKind.wrap_u64, ih, mod_mul, Int.pow_succ, Int.mul_assoc]

/-- A rolled hash, as both texts reckon it behind the byte that leaves. -/
def rollW (h x i : Int) : Int := IntKind.u64.wrap (IntKind.u64.wrap (IntKind.u64.wrap (IntKind.u64.wrap (h - x) * 11400714819323198485) + i) + 1)

/-- A rolled hash. -/
def rollV (h o i : Int) : Int := ((h - (o + 1) * 11400714819323198485 ^ 15) * 11400714819323198485 + i + 1) % 18446744073709551616

theorem rollW_mod (h x i : Int) : rollW h x i = ((h - x) * 11400714819323198485 + i + 1) % 18446744073709551616 := by
  have := hstep_mod (IntKind.u64.wrap (h - x)) i
  unfold hstep at this
  unfold rollW
  rw [this, IntKind.wrap_u64, show ((h - x) % 18446744073709551616 * 11400714819323198485 + i + 1) = (h - x) % 18446744073709551616 * 11400714819323198485 + (i + 1) by omega, Int.add_emod, mod_mul, ← Int.add_emod]
  congr 1
  omega

theorem roll_prog (h o i : Int) : rollW h (IntKind.u64.wrap (IntKind.u64.wrap (o + 1) * mulp 15)) i = rollV h o i := by
  rw [rollW_mod, IntKind.wrap_u64, IntKind.wrap_u64, mod_mul, mulp_mod]
  have e : (o + 1) * (11400714819323198485 ^ 15 % 18446744073709551616) % 18446744073709551616 = (o + 1) * 11400714819323198485 ^ 15 % 18446744073709551616 := by
    rw [Int.mul_comm, mod_mul, Int.mul_comm]
  rw [e]
  unfold rollV
  rw [show ((h - (o + 1) * 11400714819323198485 ^ 15 % 18446744073709551616) * 11400714819323198485 + i + 1) = (h - (o + 1) * 11400714819323198485 ^ 15 % 18446744073709551616) * 11400714819323198485 + (i + 1) by omega,
    Int.add_emod, ← mod_mul (h - (o + 1) * 11400714819323198485 ^ 15 % 18446744073709551616), Int.sub_emod_emod, mod_mul, ← Int.add_emod]
  congr 1
  omega

theorem roll_ref (h o i : Int) : rollW h (mulx o 15) i = rollV h o i := by
  rw [rollW_mod, mulx_mod]
  unfold rollV
  rw [show ((h - (o + 1) * 11400714819323198485 ^ 15 % 18446744073709551616) * 11400714819323198485 + i + 1) = (h - (o + 1) * 11400714819323198485 ^ 15 % 18446744073709551616) * 11400714819323198485 + (i + 1) by omega,
    Int.add_emod, ← mod_mul (h - (o + 1) * 11400714819323198485 ^ 15 % 18446744073709551616), Int.sub_emod_emod, mod_mul, ← Int.add_emod]
  congr 1
  omega

/-- Rolling a hash gives the hash of the bytes that begin one later. -/
theorem roll_rolls (f : Nat → Int) : rollV (hashF f 16) (f 0) (f 16) = hashF (fun i => f (i + 1)) 16 := by
  have hc := sumF_cons f 15
  rw [hashF_mod, hashF_mod]
  unfold rollV
  rw [show (sumF f 16 % 18446744073709551616 - (f 0 + 1) * 11400714819323198485 ^ 15) * 11400714819323198485 + f 16 + 1 = (sumF f 16 % 18446744073709551616 - (f 0 + 1) * 11400714819323198485 ^ 15) * 11400714819323198485 + (f 16 + 1) by omega,
    Int.add_emod, ← mod_mul (sumF f 16 % 18446744073709551616 - (f 0 + 1) * 11400714819323198485 ^ 15), Int.emod_sub_emod, mod_mul, ← Int.add_emod]
  have e : sumF f 16 - (f 0 + 1) * 11400714819323198485 ^ 15 = sumF (fun i => f (i + 1)) 15 := by
    have : sumF f (15 + 1) = sumF f 16 := rfl
    rw [← this, hc]
    omega
  rw [e]
  show _ = (sumF (fun i => f (i + 1)) 15 * 11400714819323198485 + f 16 + 1) % 18446744073709551616
  congr 1
  omega

theorem dvd_of_inverse {N M V q d k : Int} (hMV : M * V = N * q + 1) (h : d * M = N * k) : N ∣ d := by
  refine ⟨k * V - d * q, ?_⟩
  have e1 : N * (k * V) = d * (N * q) + d := by
    rw [← Int.mul_assoc, ← h, Int.mul_assoc, hMV, Int.mul_add, Int.mul_one]
  have e2 : N * (d * q) = d * (N * q) := by rw [← Int.mul_assoc, ← Int.mul_assoc, Int.mul_comm N d]
  rw [Int.mul_sub, e1, e2]
  omega

/-- A step loses nothing of the hash, nor of a byte. -/
theorem hstep_inj {h h' x : Int} (h0 : 0 ≤ h ∧ h ≤ 18446744073709551615) (h0' : 0 ≤ h' ∧ h' ≤ 18446744073709551615) (e : hstep h x = hstep h' x) : h = h' := by
  rw [hstep_mod, hstep_mod, Int.emod_eq_emod_iff_emod_sub_eq_zero] at e
  obtain ⟨k, hk⟩ := Int.dvd_of_emod_eq_zero e
  clear e
  have e1 : (h - h') * 11400714819323198485 = 18446744073709551616 * k := by
    rw [← hk, Int.sub_mul]
    generalize h * 11400714819323198485 = a
    generalize h' * 11400714819323198485 = b
    clear hk h0 h0'
    omega
  clear hk
  obtain ⟨m, hm⟩ := dvd_of_inverse (V := 17428512612931826493) (q := 10771413168148108919) (by decide) e1
  clear e1
  omega

theorem hstep_inj_byte {h x y : Int} (hx : 0 ≤ x ∧ x ≤ 255) (hy : 0 ≤ y ∧ y ≤ 255) (e : hstep h x = hstep h y) : x = y := by
  rw [hstep_mod, hstep_mod, Int.emod_eq_emod_iff_emod_sub_eq_zero] at e
  obtain ⟨k, hk⟩ := Int.dvd_of_emod_eq_zero e
  generalize h * 11400714819323198485 = z at hk
  clear e
  omega

theorem hash_apart {f g : Nat → Int} {a : Nat} (hf : ∀ i, 0 ≤ f i ∧ f i ≤ 255) (hg : ∀ i, 0 ≤ g i ∧ g i ≤ 255) (heq : ∀ i, i ≠ a → f i = g i) (n : Nat) (ha : a < n) (e : hashF f n = hashF g n) : f a = g a := by
  induction n with
  | zero => omega
  | succ n ih =>
    rw [hashF, hashF] at e
    by_cases h : a = n
    · subst h
      rw [hashF_congr (f := f) (g := g) (n := a) (fun i hi => heq i (by omega))] at e
      exact hstep_inj_byte (hf _) (hg _) e
    · rw [heq n (by omega)] at e
      exact ih (by omega) (hstep_inj (hashF_lo _ _) (hashF_lo _ _) e)

theorem pow_le_pow2 {i j : Nat} (h : i ≤ j) : (2 : Int) ^ i ≤ 2 ^ j := by
  have := Nat.pow_le_pow_right (n := 2) (by decide) h
  exact_mod_cast this

/-- Whether the highest n bits of a hash are all 1. -/
def hitB (h : Int) (n : Nat) : Bool := decide (18446744073709551616 - 2 ^ (64 - n) ≤ h)

theorem hit_prog (h : Int) (n : Nat) (h0 : 0 ≤ h ∧ h ≤ 18446744073709551615) : ((18446744073709551615 - h) / 2 ^ (64 - n) == 0) = hitB h n := by
  unfold hitB
  have hp : (0 : Int) < 2 ^ (64 - n) := Int.pow_pos (by decide)
  rw [Bool.eq_iff_iff, beq_iff_eq, decide_eq_true_iff]
  constructor
  · intro e
    have := Int.emod_lt_of_pos (18446744073709551615 - h) hp
    have h2 := Int.mul_ediv_add_emod (18446744073709551615 - h) (2 ^ (64 - n))
    rw [e, Int.mul_zero] at h2
    omega
  · intro hh
    exact Int.ediv_eq_zero_of_lt (by omega) (by omega)

theorem pow_split (n : Nat) (hn : n ≤ 64) : (2 : Int) ^ n * 2 ^ (64 - n) = 18446744073709551616 := by
  rw [← Int.pow_add, show n + (64 - n) = 64 by omega]; rfl

theorem hit_ref (h : Int) (n : Nat) (hn : n ≤ 64) (h0 : 0 ≤ h ∧ h ≤ 18446744073709551615) : (h / 2 ^ (64 - n) == 2 ^ n - 1) = hitB h n := by
  unfold hitB
  have hp : (0 : Int) < 2 ^ (64 - n) := Int.pow_pos (by decide)
  have hs := pow_split n hn
  rw [Bool.eq_iff_iff, beq_iff_eq, decide_eq_true_iff]
  have h2 := Int.mul_ediv_add_emod h (2 ^ (64 - n))
  have h3 := Int.emod_lt_of_pos h hp
  have h4 := Int.emod_nonneg h (b := 2 ^ (64 - n)) (by omega)
  constructor
  · intro e
    rw [e, Int.mul_sub, Int.mul_one, Int.mul_comm, hs] at h2
    omega
  · intro hh
    have a1 : 2 ^ n - 1 ≤ h / 2 ^ (64 - n) := by
      rw [Int.le_ediv_iff_mul_le hp, Int.sub_mul, hs]
      omega
    have a2 : h / 2 ^ (64 - n) < 2 ^ n := by
      rw [Int.ediv_lt_iff_lt_mul hp, hs]
      omega
    omega

theorem hit_less (h : Int) (n : Nat) (hn : 1 ≤ n) (hn2 : n ≤ 64) (e : hitB h n = true) : hitB h (n - 1) = true := by
  unfold hitB at e ⊢
  rw [decide_eq_true_iff] at e ⊢
  have : (2 : Int) ^ (64 - (n - 1)) = 2 ^ (64 - n) * 2 := by rw [← Int.pow_succ]; congr 1; omega
  have hp : (0 : Int) < 2 ^ (64 - n) := Int.pow_pos (by decide)
  omega

theorem xor_max (h : Int) (h0 : 0 ≤ h ∧ h ≤ 18446744073709551615) : bits .xor .u64 IntKind.u64.max h = 18446744073709551615 - h := by
  have hm : IntKind.u64.max = 18446744073709551615 := by decide
  rw [hm, u64_xor _ _ (by omega) (by omega) h0.1 (by omega)]
  obtain ⟨x, rfl⟩ := Int.eq_ofNat_of_zero_le h0.1
  have hx : x < 2 ^ 64 := by have := h0.2; omega
  have e : (18446744073709551615 : Int).toNat ^^^ ((x : Int).toNat) = (~~~ (BitVec.ofNat 64 x)).toNat := by
    rw [← BitVec.allOnes_xor, BitVec.toNat_xor, BitVec.toNat_allOnes, BitVec.toNat_ofNat, Nat.mod_eq_of_lt hx, Int.toNat_natCast]
    rfl
  rw [e, BitVec.toNat_not, BitVec.toNat_ofNat, Nat.mod_eq_of_lt hx]
  omega

end Go.Proofs.Ytfdbkpbgkpkckaa
