/-
  The walks of ints.Read and of its reference.
-/
import Derived.Test.YtfdbkpbgkpkckaaRows
import Derived.Test.YtfdbkpbgkpkckaaIntsMath
import Derived.Test.YtfdbkpbgkpkckaaCommon
import Derived.WalkLawsBesides
namespace Go.Proofs.Ytfdbkpbgkpkckaa
open Go.RowKit
set_option linter.unusedVariables false

/-- Byte i of a string, as an integer; 0 behind its end. -/
def sb (s : ByteArray) (i : Nat) : Int := (s.data.toList.getD i 0).toNat

theorem sb_get (s : ByteArray) (i : Nat) (h : i < s.size) : ((s[i]'h).toNat : Int) = sb s i := by
  have hl : i < s.data.toList.length := by rw [Array.length_toList]; exact h
  unfold sb
  rw [List.getD_eq_getElem?_getD, List.getElem?_eq_getElem hl]
  rfl
theorem sb_lo (s : ByteArray) (i : Nat) : 0 ≤ sb s i ∧ sb s i ≤ 255 := by
  unfold sb
  have := (s.data.toList.getD i 0).toNat_lt
  omega

/-- The number of bytes a, a+1 .. a+k-1 of a string, the lowest one first. -/
def rd (s : ByteArray) (a : Nat) : Nat → Int
  | 0 => 0
  | k + 1 => rd s a k + sb s (a + k) * 256 ^ k

theorem rd_lo (s : ByteArray) (a k : Nat) : 0 ≤ rd s a k ∧ rd s a k < 256 ^ k := by
  induction k with
  | zero => simp [rd]
  | succ k ih =>
    have hb := sb_lo s (a + k)
    have hp : (0 : Int) < 256 ^ k := Int.pow_pos (by decide)
    have h0 : 0 ≤ sb s (a + k) * 256 ^ k := Int.mul_nonneg hb.1 (by omega)
    have h1 : sb s (a + k) * 256 ^ k ≤ 255 * 256 ^ k := Int.mul_le_mul_of_nonneg_right hb.2 (by omega)
    rw [Int.pow_succ]
    simp only [rd]
    omega

theorem pow256_le {i j : Nat} (h : i ≤ j) : (256 : Int) ^ i ≤ 256 ^ j := by
  rw [← pow256, ← pow256]; exact pow_le_pow2 (by omega)

theorem or_step (s : ByteArray) (a j : Nat) (h : a + j < s.size) (hj : j < 8) :
    bits .or .u64 (rd s a j) (IntKind.u64.wrap (IntKind.u64.wrap ((s[a + j]'h).toNat : Int) * 2 ^ (8 * j))) = rd s a (j + 1) := by
  rw [sb_get, pow256]
  have hb := sb_lo s (a + j)
  have hr := rd_lo s a j
  have hp : (0 : Int) < 256 ^ j := Int.pow_pos (by decide)
  have hp7 : (256 : Int) ^ j ≤ 256 ^ 7 := pow256_le (by omega)
  have h0 : 0 ≤ sb s (a + j) * 256 ^ j := Int.mul_nonneg hb.1 (by omega)
  have h1 : sb s (a + j) * 256 ^ j ≤ 255 * 256 ^ j := Int.mul_le_mul_of_nonneg_right hb.2 (by omega)
  rw [IntWalk.u64_in (sb s (a + j)) (by omega), IntWalk.u64_in _ (by omega), u64_or _ _ hr.1 (by omega) h0 (by omega)]
  simp only [rd]
  obtain ⟨x, hx⟩ := Int.eq_ofNat_of_zero_le hr.1
  obtain ⟨b, hb'⟩ := Int.eq_ofNat_of_zero_le hb.1
  rw [hx, hb']
  have e : ((b : Int) * 256 ^ j).toNat = b * 256 ^ j := by
    have : ((b : Int) * 256 ^ j) = ((b * 256 ^ j : Nat) : Int) := by simp
    rw [this, Int.toNat_natCast]
  have e8 : (256 : Nat) ^ j = 2 ^ (8 * j) := by rw [Nat.pow_mul]
  have hxl : x < 2 ^ (8 * j) := by
    have := hr.2
    rw [hx, ← pow256] at this
    exact_mod_cast this
  rw [e, Int.toNat_natCast, Nat.or_comm, nat_join (8 * j) (b * 256 ^ j) x (by rw [e8]; exact Nat.mul_mod_left _ _) hxl]
  simp [Int.add_comm]


/-- The same number, from the highest byte on. -/
def upN (s : ByteArray) (p : Nat) : Nat → Int
  | 0 => 0
  | m + 1 => sb s p + 256 * upN s (p + 1) m

theorem upN_lo (s : ByteArray) (m : Nat) : ∀ p, 0 ≤ upN s p m ∧ upN s p m < 256 ^ m := by
  induction m with
  | zero => intro p; simp [upN]
  | succ m ih =>
    intro p
    have hb := sb_lo s p
    have hi := ih (p + 1)
    rw [Int.pow_succ]
    simp only [upN]
    omega

theorem upN_snoc (s : ByteArray) (m : Nat) : ∀ p, upN s p (m + 1) = upN s p m + sb s (p + m) * 256 ^ m := by
  induction m with
  | zero => intro p; simp [upN]
  | succ m ih =>
    intro p
    rw [upN, ih (p + 1), upN, Int.mul_add, Int.pow_succ, show p + 1 + m = p + (m + 1) by omega, ← Int.add_assoc, Int.mul_left_comm, Int.mul_comm 256 (256 ^ m)]

theorem upN_rd (s : ByteArray) (a k : Nat) : upN s a k = rd s a k := by
  induction k with
  | zero => rfl
  | succ k ih => rw [upN_snoc, ih]; rfl

theorem upN_step (s : ByteArray) (p m : Nat) (h : p < s.size) (hm : m ≤ 7) :
    IntKind.u64.wrap (upN s (p + 1) m * 256 + IntKind.u64.wrap ((s[p]'h).toNat : Int)) = upN s p (m + 1) := by
  have hb := sb_lo s p
  have hu := upN_lo s m (p + 1)
  have hp : (256 : Int) ^ m ≤ 256 ^ 7 := pow256_le hm
  rw [sb_get, IntWalk.u64_in (sb s p) (by omega), IntWalk.u64_in _ (by omega), upN]
  omega

set_option maxRecDepth 100000 in
set_option maxHeartbeats 800000 in
theorem rRead_mid (s : ByteArray) (a k : Nat) (w : World) (hk1 : 1 ≤ k) (hk : k ≤ 8) (ha : a + k ≤ s.size) (hs : s.size ≤ 9223372036854775807) :
    Calls Try.prog 73 #[.string s, .int .i64 a, .int .i64 k] w fun e w' =>
      e = .returned (.tuple #[.int .u64 (rd s a k), .int .i64 (a + k), .agg #[.int .i64 0, .int .i64 0]]) ∧ Below w.heap.size w w' := by
  have a1 : decide ((k : Int) < 1) = false := by simp; omega
  have a2 : decide (8 < (k : Int)) = false := by simp; omega
  have a3 : decide ((a : Int) < 0) = false := by simp
  have a4 : decide (s.size < a) = false := by simp; omega
  have a5 : decide ((s.size : Int) - (a : Int) < (k : Int)) = false := by simp; omega
  go_enter Try.func73, Try.ntmps73
  go_wp2
  go_loop [9, 10] (fun m i => ∃ (t : Nat) (q : Int), t ≤ k ∧ i = .int .i64 q ∧ q ≤ t - 1 ∧ (t : Int) - 1 ≤ q ∧ m = .int .u64 (upN s (a + t) (k - t))) (fun _ i => (intOf i + 1).toNat)
  case atStart =>
    exact ⟨k, _, Nat.le_refl _, rfl, by omega, by omega, by rw [Nat.sub_self]; rfl⟩
  case round =>
    obtain ⟨t, q, ht, rfl, hq1, hq2, rfl⟩ := hrel
    by_cases hlt : 0 ≤ q
    · obtain ⟨p, rfl⟩ := Int.eq_ofNat_of_zero_le hlt
      obtain rfl : t = p + 1 := by omega
      have hu := upN_lo s (k - (p + 1)) (a + (p + 1))
      have hp : (256 : Int) ^ (k - (p + 1)) ≤ 256 ^ 7 := pow256_le (by omega)
      have hu2 : upN s (a + (p + 1)) (k - (p + 1)) ≤ 72057594037927935 := by omega
      clear hp
      go_wp2
      go_round
      case rel =>
        refine ⟨p, _, by omega, rfl, by omega, by omega, val_int ?_⟩
        have := upN_step s (a + p) (k - (p + 1)) (by omega) (by omega)
        rw [show k - (p + 1) + 1 = k - p by omega] at this
        exact this
      case measure => simp [intOf]
    · obtain rfl : t = 0 := by omega
      have HR := Lib.hid (upN_rd s a k)
      rw [Nat.add_zero, Nat.sub_zero, HR.out]
      go_wp2
      refine bodyPost_ret (v := .tuple #[.int .u64 (rd s a k), .int .i64 (a + k), .agg #[.int .i64 0, .int .i64 0]]) (by simp [results, Try.results73, go_sem]) rfl ⟨rfl, ?_⟩
      exact (Below.refl _ _).alloc (Nat.le_refl _) _

/-- What reading a field gives: the number, the next offset, the fault's error and place. -/
def readV (s : ByteArray) (a k : Int) : Int := if k < 1 ∨ 8 < k ∨ a < 0 ∨ (s.size : Int) < a ∨ (s.size : Int) - a < k then 0 else rd s a.toNat k.toNat
def readN (s : ByteArray) (a k : Int) : Int := if k < 1 ∨ 8 < k ∨ a < 0 ∨ (s.size : Int) < a ∨ (s.size : Int) - a < k then 0 else a + k
def readE (s : ByteArray) (a k : Int) : Int := if k < 1 ∨ 8 < k ∨ a < 0 ∨ (s.size : Int) < a then 2 else if (s.size : Int) - a < k then 5 else 0
def readA (s : ByteArray) (a k : Int) : Int := if k < 1 ∨ 8 < k ∨ a < 0 ∨ (s.size : Int) < a then 0 else if (s.size : Int) - a < k then s.size else 0

section
variable {s : ByteArray} {a k : Int}
theorem read_bad (h : k < 1 ∨ 8 < k ∨ a < 0 ∨ (s.size : Int) < a) : readV s a k = 0 ∧ readN s a k = 0 ∧ readE s a k = 2 ∧ readA s a k = 0 := by
  unfold readV readN readE readA
  rw [if_pos (by omega), if_pos (by omega), if_pos h, if_pos h]
  exact ⟨rfl, rfl, rfl, rfl⟩
theorem read_short (h : ¬ (k < 1 ∨ 8 < k ∨ a < 0 ∨ (s.size : Int) < a)) (h4 : (s.size : Int) - a < k) : readV s a k = 0 ∧ readN s a k = 0 ∧ readE s a k = 5 ∧ readA s a k = s.size := by
  unfold readV readN readE readA
  rw [if_pos (by omega), if_pos (by omega), if_neg h, if_neg h, if_pos h4, if_pos h4]
  exact ⟨rfl, rfl, rfl, rfl⟩
theorem read_ok (h : ¬ (k < 1 ∨ 8 < k ∨ a < 0 ∨ (s.size : Int) < a)) (h4 : ¬ (s.size : Int) - a < k) : readV s a k = rd s a.toNat k.toNat ∧ readN s a k = a + k ∧ readE s a k = 0 ∧ readA s a k = 0 := by
  unfold readV readN readE readA
  rw [if_neg (by omega), if_neg (by omega), if_neg h, if_neg h, if_neg h4, if_neg h4]
  exact ⟨rfl, rfl, rfl, rfl⟩
end




set_option maxRecDepth 100000 in
set_option maxHeartbeats 800000 in
theorem rRead_bad (s : ByteArray) (a k : Int) (w : World) (hs : s.size ≤ 9223372036854775807) (hk : k < 1 ∨ 8 < k ∨ a < 0 ∨ (s.size : Int) < a) :
    Calls Try.prog 73 #[.string s, .int .i64 a, .int .i64 k] w fun e w' =>
      e = .returned (.tuple #[.int .u64 0, .int .i64 0, .agg #[.int .i64 2, .int .i64 0]]) ∧ Below w.heap.size w w' := by
  by_cases b0 : k < 1
  · clear hk
    go_enter Try.func73, Try.ntmps73
    go_wp2
    refine bodyPost_ret (v := .tuple #[.int .u64 0, .int .i64 0, .agg #[.int .i64 2, .int .i64 0]]) (by simp [results, Try.results73, go_sem]) rfl ⟨rfl, ?_⟩
    exact (Below.refl _ _).alloc (Nat.le_refl _) _
  by_cases b1 : 8 < k
  · clear hk
    go_enter Try.func73, Try.ntmps73
    go_wp2
    refine bodyPost_ret (v := .tuple #[.int .u64 0, .int .i64 0, .agg #[.int .i64 2, .int .i64 0]]) (by simp [results, Try.results73, go_sem]) rfl ⟨rfl, ?_⟩
    exact (Below.refl _ _).alloc (Nat.le_refl _) _
  by_cases b2 : a < 0
  · clear hk
    go_enter Try.func73, Try.ntmps73
    go_wp2
    refine bodyPost_ret (v := .tuple #[.int .u64 0, .int .i64 0, .agg #[.int .i64 2, .int .i64 0]]) (by simp [results, Try.results73, go_sem]) rfl ⟨rfl, ?_⟩
    exact (Below.refl _ _).alloc (Nat.le_refl _) _
  by_cases b3 : (s.size : Int) < a
  · clear hk
    go_enter Try.func73, Try.ntmps73
    go_wp2
    refine bodyPost_ret (v := .tuple #[.int .u64 0, .int .i64 0, .agg #[.int .i64 2, .int .i64 0]]) (by simp [results, Try.results73, go_sem]) rfl ⟨rfl, ?_⟩
    exact (Below.refl _ _).alloc (Nat.le_refl _) _
  · omega

set_option maxRecDepth 100000 in
set_option maxHeartbeats 800000 in
theorem rRead_short (s : ByteArray) (a k : Int) (w : World) (hs : s.size ≤ 9223372036854775807) (b0 : ¬ k < 1) (b1 : ¬ 8 < k) (b2 : ¬ a < 0) (b3 : ¬ (s.size : Int) < a) (b4 : (s.size : Int) - a < k) :
    Calls Try.prog 73 #[.string s, .int .i64 a, .int .i64 k] w fun e w' =>
      e = .returned (.tuple #[.int .u64 0, .int .i64 0, .agg #[.int .i64 5, .int .i64 s.size]]) ∧ Below w.heap.size w w' := by
  go_enter Try.func73, Try.ntmps73
  go_wp2
  refine bodyPost_ret (v := .tuple #[.int .u64 0, .int .i64 0, .agg #[.int .i64 5, .int .i64 s.size]]) (by simp [results, Try.results73, go_sem]) rfl ⟨rfl, ?_⟩
  exact (Below.refl _ _).alloc (Nat.le_refl _) _

theorem rRead_any (s : ByteArray) (a k : Int) (w : World) (hs : s.size ≤ 9223372036854775807) :
    Calls Try.prog 73 #[.string s, .int .i64 a, .int .i64 k] w fun e w' =>
      e = .returned (.tuple #[.int .u64 (readV s a k), .int .i64 (readN s a k), .agg #[.int .i64 (readE s a k), .int .i64 (readA s a k)]]) ∧ Below w.heap.size w w' := by
  by_cases hk : k < 1 ∨ 8 < k ∨ a < 0 ∨ (s.size : Int) < a
  · obtain ⟨e1, e2, e3, e4⟩ := read_bad hk
    rw [e1, e2, e3, e4]
    exact rRead_bad s a k w hs hk
  · by_cases h4 : (s.size : Int) - a < k
    · obtain ⟨e1, e2, e3, e4⟩ := read_short hk h4
      rw [e1, e2, e3, e4]
      exact rRead_short s a k w hs (by omega) (by omega) (by omega) (by omega) h4
    · obtain ⟨e1, e2, e3, e4⟩ := read_ok hk h4
      rw [e1, e2, e3, e4]
      obtain ⟨b, rfl⟩ := Int.eq_ofNat_of_zero_le (show 0 ≤ a by omega)
      obtain ⟨m, rfl⟩ := Int.eq_ofNat_of_zero_le (show 0 ≤ k by omega)
      exact rRead_mid s b m w (by omega) (by omega) (by omega) hs

end Go.Proofs.Ytfdbkpbgkpkckaa
