/-
  Plain laws of layer 1: powers of two and the highest bit; fields read back; sums. No program here.
-/
import Derived.Test.YtalnlpbdcmnlgaaIntsMath
import Derived.Test.YtalnlpbdcmnlgaaIntsLittle
import Derived.Test.YtalnlpbdcmnlgaaIntsRead
import Derived.Test.YtalnlpbdcmnlgaaIntsSum
import Derived.Test.YtalnlpbdcmnlgaaKit
namespace Go.Proofs.Ytalnlpbdcmnlgaa

/-- The highest bit of a number from 1 on. -/
theorem hi_spec (n : Int) (h1 : 1 ≤ n) (h2 : n ≤ 9223372036854775807) : ∃ t : Nat, t ≤ 62 ∧ hi n = t ∧ (2 : Int) ^ t ≤ n ∧ n < 2 ^ (t + 1) := by
  obtain ⟨m, rfl⟩ := Int.eq_ofNat_of_zero_le (show 0 ≤ n by omega)
  have hm : m ≠ 0 := by omega
  have a1 := Nat.log2_self_le hm
  have a2 : m < 2 ^ (m.log2 + 1) := Nat.lt_log2_self
  have b1 : (2 : Int) ^ m.log2 ≤ (m : Int) := by exact_mod_cast a1
  have b2 : (m : Int) < 2 ^ (m.log2 + 1) := by exact_mod_cast a2
  have hl : m.log2 ≤ 62 := by
    rcases Nat.lt_or_ge m.log2 63 with h | h
    · omega
    · have := pow_le_pow2 h; omega
  refine ⟨m.log2, hl, ?_, b1, b2⟩
  have := hi_of (m : Int) (m.log2 + 1) (fun _ => by simpa using b1) b2 (by omega)
  rw [this]; omega

/-- The least power of two that is not below a number, told by its highest bit. -/
theorem up_spec (n : Int) (h1 : 1 ≤ n) (h2 : n ≤ 9223372036854775807) (t : Nat) (ht : t ≤ 62) (h3 : (2 : Int) ^ t ≤ n) (h4 : n < 2 ^ (t + 1)) : up n = if n > 2 ^ t then (t : Int) + 1 else t := by
  by_cases h : n > 2 ^ t
  · rw [if_pos h]
    have hp := pow_pos2 t
    rw [up_ge n (by omega)]
    have := hi_of (n - 1) (t + 1) (fun _ => by simp; omega) (by omega) (by omega)
    rw [this]; omega
  · rw [if_neg h]
    have e : n = 2 ^ t := by omega
    cases t with
    | zero => rw [up_lt n (by rw [e]; decide)]; rfl
    | succ t =>
      have hp := pow_pos2 t
      rw [Int.pow_succ] at e
      rw [up_ge n (by omega)]
      have := hi_of (n - 1) (t + 1) (fun _ => by simp; omega) (by rw [Int.pow_succ]; omega) (by omega)
      rw [this]; omega

/-! ### Fields are read back -/
theorem mod256_succ (n : Int) (h : 0 ≤ n) (i : Nat) : n % 256 ^ (i + 1) = n % 256 ^ i + n / 256 ^ i % 256 * 256 ^ i := by
  obtain ⟨m, rfl⟩ := Int.eq_ofNat_of_zero_le h
  have := Nat.mod_mul (x := m) (a := 256 ^ i) (b := 256)
  rw [← Nat.pow_succ, Nat.mul_comm (256 ^ i)] at this
  have e : ((m % 256 ^ (i + 1) : Nat) : Int) = ((m % 256 ^ i + m / 256 ^ i % 256 * 256 ^ i : Nat) : Int) := by rw [this]
  simpa using e

theorem rd_digits (s : ByteArray) (p : Nat) (v : Int) (hv : 0 ≤ v) (m : Nat) (h : ∀ i, i < m → sb s (p + i) = v / 256 ^ i % 256) : rd s p m = v % 256 ^ m := by
  induction m with
  | zero => rw [Int.pow_zero]; simp [rd]
  | succ m ih =>
    rw [rd, ih (fun i hi => h i (by omega)), h m (by omega), mod256_succ v hv]

theorem sb_nums (xs : List Int) (i : Nat) (x : Int) (hx : xs[i]? = some x) (h : 0 ≤ x ∧ x ≤ 255) : sb (strOfNums xs) i = x := by
  unfold sb
  rw [strOfNums_data, List.getD_eq_getElem?_getD, List.getElem?_map, hx]
  simp only [Option.map_some, Option.getD_some]
  rw [UInt8.toNat_ofNat']
  omega

theorem sb_append (x : UInt8) (s : ByteArray) (i : Nat) : sb (⟨#[x]⟩ ++ s) (1 + i) = sb s i := by
  unfold sb
  have : (⟨#[x]⟩ ++ s : ByteArray).data.toList = x :: s.data.toList := by simp
  rw [this, Nat.add_comm 1 i]
  simp

theorem leI_get (n : Int) (k i : Nat) (h : i < k) : (leI n k)[i]? = some (n / 256 ^ i % 256) := by
  unfold leI
  simp [h]

theorem sb_leI (n : Int) (k i : Nat) (h : i < k) : sb (strOfNums (leI n k)) i = n / 256 ^ i % 256 :=
  sb_nums _ _ _ (leI_get n k i h) (by omega)

theorem div_zero_of_lt {n : Int} {k : Nat} (h0 : 0 ≤ n) (h : n < 256 ^ k) : n / 256 ^ k = 0 := Int.ediv_eq_zero_of_lt h0 h

/-- What writing and reading a field of k bytes gives, for a number that fits. -/
theorem field_back (n : Int) (k : Nat) (hk1 : 1 ≤ k) (hk : k ≤ 8) (h0 : 0 ≤ n) (h1 : n < 256 ^ k) :
    littleE n k = 0 ∧ little n k = strOfNums (leI n k) ∧ readE (⟨#[120]⟩ ++ strOfNums (leI n k)) 1 k = 0 ∧ readA (⟨#[120]⟩ ++ strOfNums (leI n k)) 1 k = 0 ∧
      readV (⟨#[120]⟩ ++ strOfNums (leI n k)) 1 k = n ∧ readN (⟨#[120]⟩ ++ strOfNums (leI n k)) 1 k = 1 + k := by
  have hz := div_zero_of_lt h0 h1
  have hsz : (⟨#[120]⟩ ++ strOfNums (leI n k) : ByteArray).size = 1 + k := by
    rw [ByteArray.size_append, strOfNums_size, leI_length]; rfl
  obtain ⟨e1, e2, e3, e4⟩ := read_ok (s := ⟨#[120]⟩ ++ strOfNums (leI n k)) (a := 1) (k := k) (by rw [hsz]; omega) (by rw [hsz]; omega)
  refine ⟨?_, ?_, e3, e4, ?_, e2⟩
  · unfold littleE; rw [if_neg (by rw [Int.toNat_natCast]; omega)]
  · unfold little; rw [if_neg (by rw [Int.toNat_natCast]; omega), Int.toNat_natCast]
  · rw [e1, Int.toNat_natCast]
    show rd _ 1 k = n
    rw [rd_digits _ 1 n h0 k (fun i hi => by rw [sb_append]; exact sb_leI n k i hi)]
    exact Int.emod_eq_of_lt h0 h1

theorem leI_cons (n : Int) (k : Nat) : leI n (k + 1) = n % 256 :: leI (n / 256) k := by
  unfold leI
  rw [List.range_succ_eq_map]
  simp only [List.map_cons, List.map_map, Int.pow_zero, Int.ediv_one]
  congr 1
  apply List.map_congr_left
  intro i _
  simp only [Function.comp]
  rw [Int.pow_succ', Int.ediv_ediv_of_nonneg (by omega)]

theorem leI_upN (s : ByteArray) (m : Nat) : ∀ p, leI (upN s p m) m = (List.range m).map fun i => sb s (p + i) := by
  induction m with
  | zero => intro p; rfl
  | succ m ih =>
    intro p
    have hb := sb_lo s p
    rw [leI_cons, List.range_succ_eq_map, List.map_cons, List.map_map]
    have h1 : upN s p (m + 1) % 256 = sb s p := by rw [upN]; omega
    have h2 : upN s p (m + 1) / 256 = upN s (p + 1) m := by rw [upN]; omega
    rw [h1, h2, ih (p + 1)]
    congr 1
    apply List.map_congr_left
    intro i _
    simp only [Function.comp]
    rw [show p + 1 + i = p + (i + 1) by omega]

theorem nums_of_str (s : ByteArray) : strOfNums ((List.range s.size).map fun i => sb s (0 + i)) = s := by
  have : (strOfNums ((List.range s.size).map fun i => sb s (0 + i))).data.toList = s.data.toList := by
    rw [strOfNums_data]
    apply List.ext_getElem?
    intro i
    simp only [List.map_map, List.getElem?_map, Nat.zero_add]
    by_cases hi : i < s.size
    · have hl : i < s.data.toList.length := by rw [Array.length_toList]; exact hi
      rw [List.getElem?_range hi, List.getElem?_eq_getElem hl]
      simp only [Option.map_some, Function.comp, sb]
      rw [List.getD_eq_getElem?_getD, List.getElem?_eq_getElem hl]
      simp
    · have hl : s.data.toList.length ≤ i := by rw [Array.length_toList]; exact Nat.le_of_not_lt hi
      rw [List.getElem?_eq_none hl, List.getElem?_eq_none (by simp; omega)]
      rfl
  cases s with
  | mk d =>
    unfold strOfNums at this ⊢
    simp only at this ⊢
    congr 1
    exact Array.toList_inj.1 this

/-- A field is written from its number. -/
theorem field_forth (s : ByteArray) (h1 : 1 ≤ s.size) (h8 : s.size ≤ 8) :
    readV s 0 s.size = rd s 0 s.size ∧ readE s 0 s.size = 0 ∧ readA s 0 s.size = 0 ∧ 0 ≤ rd s 0 s.size ∧ rd s 0 s.size ≤ 18446744073709551615 ∧ little (rd s 0 s.size) s.size = s ∧ littleE (rd s 0 s.size) s.size = 0 := by
  obtain ⟨e1, _, e3, e4⟩ := read_ok (s := s) (a := 0) (k := s.size) (by omega) (by omega)
  have hr := rd_lo s 0 s.size
  have hz := div_zero_of_lt hr.1 hr.2
  have hp : (256 : Int) ^ s.size ≤ 256 ^ 8 := pow256_le h8
  refine ⟨by rw [e1, Int.toNat_natCast]; rfl, e3, e4, hr.1, by omega, ?_, ?_⟩
  · unfold little
    rw [if_neg (by rw [Int.toNat_natCast]; omega), Int.toNat_natCast, ← upN_rd, leI_upN]
    exact nums_of_str s
  · unfold littleE
    rw [if_neg (by rw [Int.toNat_natCast]; omega)]

/-- Comparing two numbers byte by byte, from the highest one on: what is known before byte t - 1. -/
def Cmp (a b : Int) (t : Nat) (o : Int) : Prop := (o = 0 → a / 256 ^ t = b / 256 ^ t) ∧ (o < 0 → a < b) ∧ (0 < o → b < a)

theorem cmp_step (a b : Int) (t : Nat) (h : a / 256 ^ (t + 1) = b / 256 ^ (t + 1)) : Cmp a b t (a / 256 ^ t % 256 - b / 256 ^ t % 256) := by
  have hp : (0 : Int) < 256 ^ t := Int.pow_pos (by decide)
  have ha : a / 256 ^ (t + 1) = a / 256 ^ t / 256 := by rw [Int.pow_succ, Int.ediv_ediv_of_nonneg (Int.le_of_lt hp)]
  have hb : b / 256 ^ (t + 1) = b / 256 ^ t / 256 := by rw [Int.pow_succ, Int.ediv_ediv_of_nonneg (Int.le_of_lt hp)]
  rw [ha, hb] at h
  refine ⟨fun h0 => by omega, fun h0 => ?_, fun h0 => ?_⟩
  · rcases Int.lt_or_le a b with h' | h'
    · exact h'
    · have := Int.ediv_le_ediv hp h'; omega
  · rcases Int.lt_or_le b a with h' | h'
    · exact h'
    · have := Int.ediv_le_ediv hp h'; omega

/-! ### Sums of small numbers -/
theorem addUp_small (xs : List Int) : ∀ s : Int, 0 ≤ s → (∀ x ∈ xs, 0 ≤ x ∧ x < 1048576) → s + xs.length * 1048576 ≤ 1099511627776 → addUp s xs = some (s + xs.sum) := by
  induction xs with
  | nil => intro s _ _ _; simp [addUp]
  | cons x xs ih =>
    intro s hs hx hl
    have h0 := hx x (by simp)
    simp only [List.length_cons] at hl
    rw [addUp, if_neg (by omega), ih (s + x) (by omega) (fun y hy => hx y (by simp [hy])) (by omega), List.sum_cons, Int.add_assoc]

theorem sum_small_lo (xs : List Int) (hx : ∀ x ∈ xs, 0 ≤ x ∧ x < 1048576) : 0 ≤ xs.sum ∧ xs.sum ≤ xs.length * 1048576 := by
  induction xs with
  | nil => simp
  | cons x xs ih =>
    have h0 := hx x (by simp)
    have := ih (fun y hy => hx y (by simp [hy]))
    simp only [List.sum_cons, List.length_cons]
    omega

theorem sum_small (xs : List Int) (hx : ∀ x ∈ xs, 0 ≤ x ∧ x < 1048576) (hl : xs.length ≤ 1000) : sumV xs = xs.sum ∧ sumE xs = 0 := by
  have := addUp_small xs 0 (by omega) hx (by omega)
  rw [Int.zero_add] at this
  exact sum_some this

theorem times_small (x y z : Int) (hx : 0 ≤ x ∧ x < 1048576) (hy : 0 ≤ y ∧ y < 524288) (hz : 0 ≤ z ∧ z < 524288) :
    (timesV x (y + z) = x * (y + z) ∧ timesE x (y + z) = 0) ∧ (timesV x y = x * y ∧ timesE x y = 0) ∧ (timesV z x = z * x ∧ timesE z x = 0) ∧
      (sumV [z * x, x * y] = x * (y + z) ∧ sumE [z * x, x * y] = 0) ∧ (sumV [y, z] = y + z ∧ sumE [y, z] = 0) ∧ 0 ≤ x * y ∧ 0 ≤ z * x := by
  have a1 : 0 ≤ x * (y + z) := Int.mul_nonneg hx.1 (by omega)
  have a2 : x * (y + z) ≤ 1048576 * (y + z) := Int.mul_le_mul_of_nonneg_right (by omega) (by omega)
  have b1 : 0 ≤ x * y := Int.mul_nonneg hx.1 hy.1
  have b2 : 0 ≤ z * x := Int.mul_nonneg hz.1 hx.1
  have e : x * (y + z) = z * x + x * y := by rw [Int.mul_add, Int.mul_comm z x, Int.add_comm]
  refine ⟨times_ok (by omega), times_ok (by omega), times_ok (by omega), ?_, plus_ok (by omega), b1, b2⟩
  rw [e]
  exact plus_ok (by omega)

/-- The first k numbers of a list, modulo 2^20. -/
def mods (xs : List Int) (k : Nat) : List Int := (xs.take k).map fun x => modI x 1048576

theorem mods_small (xs : List Int) (k : Nat) : ∀ x ∈ mods xs k, 0 ≤ x ∧ x < 1048576 := by
  intro x hx
  obtain ⟨y, _, rfl⟩ := List.mem_map.1 hx
  exact modI_lo (by omega)
theorem mods_length (xs : List Int) (k : Nat) (h : k ≤ xs.length) : (mods xs k).length = k := by simp [mods]; omega
theorem mods_succ (xs : List Int) (k : Nat) (x : Int) (hx : xs[k]? = some x) : mods xs (k + 1) = mods xs k ++ [modI x 1048576] := by
  simp [mods, List.take_add_one, hx]

theorem mem_of_get {xs : List Int} {k : Nat} {x : Int} (h : xs[k]? = some x) : x ∈ xs := List.mem_of_getElem? h

end Go.Proofs.Ytalnlpbdcmnlgaa
