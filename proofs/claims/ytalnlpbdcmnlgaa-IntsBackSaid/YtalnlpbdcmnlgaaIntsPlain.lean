/-
  Plain laws of layer 1: powers of two and the highest bit; fields read back; sums. No program here.
-/
import Derived.Test.YtalnlpbdcmnlgaaIntsMath
import Derived.Test.YtalnlpbdcmnlgaaIntsLittle
import Derived.Test.YtalnlpbdcmnlgaaIntsRead
import Derived.Test.YtalnlpbdcmnlgaaIntsSum
namespace Go.Proofs.Ytalnlpbdcmnlgaa

/-- The highest bit of a number from 1 on. -/
theorem hi_spec (n : Int) (h1 : 1 ≤ n) (h2 : n ≤ 9223372036854775807) : ∃ t : Nat, t ≤ 62 ∧ hi n = t ∧ (2 : Int) ^ t ≤ n ∧ n < 2 ^ (t + 1) := by
  obtain ⟨m, rfl⟩ := Int.eq_ofNat_of_zero_le (show 0 ≤ n by omega)
  have hm : m ≠ 0 := by omega
  have a1 := Nat.log2_self_le hm
  have a2 : m < 2 ^ (m.log2 + 1) := Nat.lt_log2_self
  have b1 : (2 : Int) ^ m.log2 ≤ (m : Int) := by exact_mod_cast a1
  have b2 : (m : Int) < 2 ^ (m.log2 + 1) := by exact_mod_cast a2
  have hl : m.log2 ≤ 62 := by
    rcases Nat.lt_or_ge m.log2 63 with h | h
    · omega
    · have := pow_le_pow2 h; omega
  refine ⟨m.log2, hl, ?_, b1, b2⟩
  have := hi_of (m : Int) (m.log2 + 1) (fun _ => by simpa using b1) b2 (by omega)
  rw [this]; omega

/-- The least power of two that is not below a number, told by its highest bit. -/
theorem up_spec (n : Int) (h1 : 1 ≤ n) (h2 : n ≤ 9223372036854775807) (t : Nat) (ht : t ≤ 62) (h3 : (2 : Int) ^ t ≤ n) (h4 : n < 2 ^ (t + 1)) : up n = if n > 2 ^ t then (t : Int) + 1 else t := by
  by_cases h : n > 2 ^ t
  · rw [if_pos h]
    have hp := pow_pos2 t
    rw [up_ge n (by omega)]
    have := hi_of (n - 1) (t + 1) (fun _ => by simp; omega) (by omega) (by omega)
    rw [this]; omega
  · rw [if_neg h]
    have e : n = 2 ^ t := by omega
    cases t with
    | zero => rw [up_lt n (by rw [e]; decide)]; rfl
    | succ t =>
      have hp := pow_pos2 t
      rw [Int.pow_succ] at e
      rw [up_ge n (by omega)]
      have := hi_of (n - 1) (t + 1) (fun _ => by simp; omega) (by rw [Int.pow_succ]; omega) (by omega)
      rw [this]; omega

/-! ### Fields are read back -/
theorem mod256_succ (n : Int) (h : 0 ≤ n) (i : Nat) : n % 256 ^ (i + 1) = n % 256 ^ i + n / 256 ^ i % 256 * 256 ^ i := by
  obtain ⟨m, rfl⟩ := Int.eq_ofNat_of_zero_le h
  have := Nat.mod_mul (x := m) (a := 256 ^ i) (b := 256)
  rw [← Nat.pow_succ, Nat.mul_comm (256 ^ i)] at this
  have e : ((m % 256 ^ (i + 1) : Nat) : Int) = ((m % 256 ^ i + m / 256 ^ i % 256 * 256 ^ i : Nat) : Int) := by rw [this]
  simpa using e

theorem rd_digits (s : ByteArray) (p : Nat) (v : Int) (hv : 0 ≤ v) (m : Nat) (h : ∀ i, i < m → sb s (p + i) = v / 256 ^ i % 256) : rd s p m = v % 256 ^ m := by
  induction m with
  | zero => rw [Int.pow_zero]; simp [rd]
  | succ m ih =>
    rw [rd, ih (fun i hi => h i (by omega)), h m (by omega), mod256_succ v hv]

theorem sb_nums (xs : List Int) (i : Nat) (x : Int) (hx : xs[i]? = some x) (h : 0 ≤ x ∧ x ≤ 255) : sb (strOfNums xs) i = x := by
  unfold sb
  rw [strOfNums_data, List.getD_eq_getElem?_getD, List.getElem?_map, hx]
  simp only [Option.map_some, Option.getD_some]
  rw [UInt8.toNat_ofNat']
  omega

theorem sb_append (x : UInt8) (s : ByteArray) (i : Nat) : sb (⟨#[x]⟩ ++ s) (1 + i) = sb s i := by
  unfold sb
  have : (⟨#[x]⟩ ++ s : ByteArray).data.toList = x :: s.data.toList := by simp
  rw [this, Nat.add_comm 1 i]
  simp

theorem leI_get (n : Int) (k i : Nat) (h : i < k) : (leI n k)[i]? = some (n / 256 ^ i % 256) := by
  unfold leI
  simp [h]

theorem sb_leI (n : Int) (k i : Nat) (h : i < k) : sb (strOfNums (leI n k)) i = n / 256 ^ i % 256 :=
  sb_nums _ _ _ (leI_get n k i h) (by omega)

theorem div_zero_of_lt {n : Int} {k : Nat} (h0 : 0 ≤ n) (h : n < 256 ^ k) : n / 256 ^ k = 0 := Int.ediv_eq_zero_of_lt h0 h

/-- What writing and reading a field of k bytes gives, for a number that fits. -/
theorem field_back (n : Int) (k : Nat) (hk1 : 1 ≤ k) (hk : k ≤ 8) (h0 : 0 ≤ n) (h1 : n < 256 ^ k) :
    littleE n k = 0 ∧ little n k = strOfNums (leI n k) ∧ readE (⟨#[120]⟩ ++ strOfNums (leI n k)) 1 k = 0 ∧ readA (⟨#[120]⟩ ++ strOfNums (leI n k)) 1 k = 0 ∧
      readV (⟨#[120]⟩ ++ strOfNums (leI n k)) 1 k = n ∧ readN (⟨#[120]⟩ ++ strOfNums (leI n k)) 1 k = 1 + k := by
  have hz := div_zero_of_lt h0 h1
  have hsz : (⟨#[120]⟩ ++ strOfNums (leI n k) : ByteArray).size = 1 + k := by
    rw [ByteArray.size_append, strOfNums_size, leI_length]; rfl
  obtain ⟨e1, e2, e3, e4⟩ := read_ok (s := ⟨#[120]⟩ ++ strOfNums (leI n k)) (a := 1) (k := k) (by rw [hsz]; omega) (by rw [hsz]; omega)
  refine ⟨?_, ?_, e3, e4, ?_, e2⟩
  · unfold littleE; rw [if_neg (by rw [Int.toNat_natCast]; omega)]
  · unfold little; rw [if_neg (by rw [Int.toNat_natCast]; omega), Int.toNat_natCast]
  · rw [e1, Int.toNat_natCast]
    show rd _ 1 k = n
    rw [rd_digits _ 1 n h0 k (fun i hi => by rw [sb_append]; exact sb_leI n k i hi)]
    exact Int.emod_eq_of_lt h0 h1

theorem leI_cons (n : Int) (k : Nat) : leI n (k + 1) = n % 256 :: leI (n / 256) k := by
  unfold leI
  rw [List.range_succ_eq_map]
  simp only [List.map_cons, List.map_map, Int.pow_zero, Int.ediv_one]
  congr 1
  apply List.map_congr_left
  intro i _
  simp only [Function.comp]
  rw [Int.pow_succ', Int.ediv_ediv_of_nonneg (by omega)]

theorem leI_upN (s : ByteArray) (m : Nat) : ∀ p, leI (upN s p m) m = (List.range m).map fun i => sb s (p + i) := by
  induction m with
  | zero => intro p; rfl
  | succ m ih =>
    intro p
    have hb := sb_lo s p
    rw [leI_cons, List.range_succ_eq_map, List.map_cons, List.map_map]
    have h1 : upN s p (m + 1) % 256 = sb s p := by rw [upN]; omega
    have h2 : upN s p (m + 1) / 256 = upN s (p + 1) m := by rw [upN]; omega
    rw [h1, h2, ih (p + 1)]
    congr 1
    apply List.map_congr_left
    intro i _
    simp only [Function.comp]
    rw [show p + 1 + i = p + (i + 1) by omega]

theorem nums_of_str (s : ByteArray) : strOfNums ((List.range s.size).map fun i => sb s (0 + i)) = s := by
  have : (strOfNums ((List.range s.size).map fun i => sb s (0 + i))).data.toList = s.data.toList := by
    rw [strOfNums_data]
    apply List.ext_getElem?
    intro i
    simp only [List.map_map, List.getElem?_map, Nat.zero_add]
    by_cases hi : i < s.size
    · have hl : i < s.data.toList.length := by rw [Array.length_toList]; exact hi
      rw [List.getElem?_range hi, List.getElem?_eq_getElem hl]
      simp only [Option.map_some, Function.comp, sb]
      rw [List.getD_eq_getElem?_getD, List.getElem?_eq_getElem hl]
      simp
    · have hl : s.data.toList.length ≤ i := by rw [Array.length_toList]; exact Nat.le_of_not_lt hi
      rw [List.getElem?_eq_none hl, List.getElem?_eq_none (by simp; omega)]
      rfl
  cases s with
  | mk d =>
    unfold strOfNums at this ⊢
    simp only at this ⊢
    congr 1
    exact Array.toList_inj.1 this

/-- A field is written from its number. -/
theorem field_forth (s : ByteArray) (h1 : 1 ≤ s.size) (h8 : s.size ≤ 8) :
    readV s 0 s.size = rd s 0 s.size ∧ readE s 0 s.size = 0 ∧ readA s 0 s.size = 0 ∧ 0 ≤ rd s 0 s.size ∧ rd s 0 s.size ≤ 18446744073709551615 ∧ little (rd s 0 s.size) s.size = s ∧ littleE (rd s 0 s.size) s.size = 0 := by
  obtain ⟨e1, _, e3, e4⟩ := read_ok (s := s) (a := 0) (k := s.size) (by omega) (by omega)
  have hr := rd_lo s 0 s.size
  have hz := div_zero_of_lt hr.1 hr.2
  have hp : (256 : Int) ^ s.size ≤ 256 ^ 8 := pow256_le h8
  refine ⟨by rw [e1, Int.toNat_natCast]; rfl, e3, e4, hr.1, by omega, ?_, ?_⟩
  · unfold little
    rw [if_neg (by rw [Int.toNat_natCast]; omega), Int.toNat_natCast, ← upN_rd, leI_upN]
    exact nums_of_str s
  · unfold littleE
    rw [if_neg (by rw [Int.toNat_natCast]; omega)]

/-- Comparing two numbers byte by byte, from the highest one on: what is known before byte t - 1. -/
def Cmp (a b : Int) (t : Nat) (o : Int) : Prop := (o = 0 → a / 256 ^ t = b / 256 ^ t) ∧ (o < 0 → a < b) ∧ (0 < o → b < a)

theorem cmp_step (a b : Int) (t : Nat) (h : a / 256 ^ (t + 1) = b / 256 ^ (t + 1)) : Cmp a b t (a / 256 ^ t % 256 - b / 256 ^ t % 256) := by
  have hp : (0 : Int) < 256 ^ t := Int.pow_pos (by decide)
  have ha : a / 256 ^ (t + 1) = a / 256 ^ t / 256 := by rw [Int.pow_succ, Int.ediv_ediv_of_nonneg (Int.le_of_lt hp)]
  have hb : b / 256 ^ (t + 1) = b / 256 ^ t / 256 := by rw [Int.pow_succ, Int.ediv_ediv_of_nonneg (Int.le_of_lt hp)]
  rw [ha, hb] at h
  refine ⟨fun h0 => by omega, fun h0 => ?_, fun h0 => ?_⟩
  · rcases Int.lt_or_le a b with h' | h'
    · exact h'
    · have := Int.ediv_le_ediv hp h'; omega
  · rcases Int.lt_or_le b a with h' | h'
    · exact h'
    · have := Int.ediv_le_ediv hp h'; omega

end Go.Proofs.Ytalnlpbdcmnlgaa
