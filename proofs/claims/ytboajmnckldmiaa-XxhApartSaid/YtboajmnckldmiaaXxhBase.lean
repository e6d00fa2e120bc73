/-
  The walks of xxh.round, field, and of the references' times, turn, round, merge, field.
-/
import Derived.Test.YtboajmnckldmiaaIntsRead
import Derived.Test.YtboajmnckldmiaaRegions
namespace Go.Proofs.Ytboajmnckldmiaa
open Go.RowKit
set_option linter.unusedVariables false
set_option maxRecDepth 100000

def pA : Int := 11400714785074694791
def pB : Int := 14029467366897019727
def pC : Int := 1609587929392839161
def pD : Int := 9650029242287828579
def pE : Int := 2870177450012600261
/-- A product modulo 2^64, and a number turned to the left. -/
def mulV (x y : Int) : Int := IntKind.u64.wrap (x * y)
def addV (x y : Int) : Int := IntKind.u64.wrap (x + y)
def turnV (x : Int) (n : Nat) : Int := bits .or .u64 (IntKind.u64.wrap (x * 2 ^ n)) (x / 2 ^ (64 - n))
def roundV (a x : Int) : Int := mulV (turnV (addV a (mulV x pB)) 31) pA

theorem wrap_in (x : Int) : 0 ≤ IntKind.u64.wrap x ∧ IntKind.u64.wrap x ≤ 18446744073709551615 := by
  rw [IntKind.wrap_u64]; omega
theorem mulV_in (x y : Int) : 0 ≤ mulV x y ∧ mulV x y ≤ 18446744073709551615 := wrap_in _
theorem addV_in (x y : Int) : 0 ≤ addV x y ∧ addV x y ≤ 18446744073709551615 := wrap_in _

set_option maxHeartbeats 800000 in
theorem round_any (a x : Int) (w : World) (ha : 0 ≤ a ∧ a ≤ 18446744073709551615) (hx : 0 ≤ x ∧ x ≤ 18446744073709551615) :
    Calls Try.prog 77 #[.int .u64 a, .int .u64 x] w fun e w' => e = .returned (.int .u64 (roundV a x)) ∧ w = w' := by
  have HR : Hid (roundV a x = IntKind.u64.wrap (turnV (IntKind.u64.wrap (a + IntKind.u64.wrap (x * 14029467366897019727))) 31 * 11400714785074694791)) := rfl
  go_enter Try.func77, Try.ntmps77
  go_wp2
  go_ret
  exact ⟨ret_int (by rw [HR.out]; rfl), rfl⟩

theorem times_any (x y : Int) (w : World) :
    Calls Try.prog 76 #[.int .u64 x, .int .u64 y] w fun e w' => e = .returned (.int .u64 (mulV x y)) ∧ w = w' := by
  have HR : Hid (mulV x y = IntKind.u64.wrap (x * y)) := rfl
  go_enter Try.func76, Try.ntmps76
  go_wp2
  go_ret
  exact ⟨ret_int HR.out.symm, rfl⟩

theorem turn_any (x : Int) (n : Nat) (w : World) (hx : 0 ≤ x ∧ x ≤ 18446744073709551615) (hn : 1 ≤ n ∧ n ≤ 63) :
    Calls Try.prog 74 #[.int .u64 x, .int .u64 n] w fun e w' => e = .returned (.int .u64 (turnV x n)) ∧ w = w' := by
  have h1 : min n 64 = n := by omega
  have h2 : (64 - (n : Int)).toNat = 64 - n := by omega
  have h3 : min (64 - n) 64 = 64 - n := by omega
  go_enter Try.func74, Try.ntmps74
  go_wp2
  go_ret
  exact ⟨ret_int rfl, rfl⟩

set_option maxHeartbeats 800000 in
theorem rround_any (a x : Int) (w : World) (ha : 0 ≤ a ∧ a ≤ 18446744073709551615) (hx : 0 ≤ x ∧ x ≤ 18446744073709551615) :
    Calls Try.prog 70 #[.int .u64 a, .int .u64 x] w fun e w' => e = .returned (.int .u64 (roundV a x)) ∧ w = w' := by
  have HR : Hid (roundV a x = mulV (turnV (addV a (mulV x pB)) 31) pA) := rfl
  have HT := Lib.hid (fun W => turn_any (addV a (mulV x pB)) 31 W (addV_in _ _) (by omega))
  have HA : Hid (IntKind.u64.wrap (a + mulV x 14029467366897019727) = addV a (mulV x pB)) := rfl
  go_enter Try.func70, Try.ntmps70
  go_wp2_with fail
  refine (times_any x _ _).mono ?_
  rintro e w1 ⟨rfl, rfl⟩
  go_wp2_with fail
  rw [HA.out]
  refine (HT.out _).mono ?_
  rintro e w1 ⟨rfl, rfl⟩
  go_wp2_with fail
  refine (times_any _ _ _).mono ?_
  rintro e w1 ⟨rfl, rfl⟩
  go_wp2
  go_ret
  exact ⟨ret_int (by rw [HR.out]; rfl), rfl⟩

/-- A lane merged into a number. -/
def xorV (x y : Int) : Int := bits .xor .u64 x y
def mergeV (h l : Int) : Int := addV (mulV (xorV h (roundV 0 l)) pA) pD
theorem turnV_in (x : Int) (n : Nat) : 0 ≤ turnV x n ∧ turnV x n ≤ 18446744073709551615 := by
  exact wrap_in (((BitVec.ofInt 64 (IntKind.u64.wrap (x * 2 ^ n)) ||| BitVec.ofInt 64 (x / 2 ^ (64 - n))).toNat : Nat) : Int)
theorem xorV_in (x y : Int) : 0 ≤ xorV x y ∧ xorV x y ≤ 18446744073709551615 := wrap_in (((BitVec.ofInt 64 x ^^^ BitVec.ofInt 64 y).toNat : Nat) : Int)
theorem roundV_in (a x : Int) : 0 ≤ roundV a x ∧ roundV a x ≤ 18446744073709551615 := mulV_in _ _

set_option maxHeartbeats 800000 in
theorem rmerge_any (h l : Int) (w : World) (hh : 0 ≤ h ∧ h ≤ 18446744073709551615) (hl : 0 ≤ l ∧ l ≤ 18446744073709551615) :
    Calls Try.prog 75 #[.int .u64 h, .int .u64 l] w fun e w' => e = .returned (.int .u64 (mergeV h l)) ∧ w = w' := by
  have HR : Hid (mergeV h l = addV (mulV (xorV h (roundV 0 l)) pA) pD) := rfl
  have HM := Lib.hid (fun W => rround_any 0 l W (by omega) hl)
  have hr := roundV_in 0 l
  have HX : Hid (bits .xor .u64 h (roundV 0 l) = xorV h (roundV 0 l)) := rfl
  generalize roundV 0 l = r at *
  go_enter Try.func75, Try.ntmps75
  go_wp2_with fail
  refine (HM.out _).mono ?_
  rintro e w1 ⟨rfl, rfl⟩
  go_wp2_with fail
  refine (times_any _ _ _).mono ?_
  rintro e w1 ⟨rfl, rfl⟩
  go_wp2
  go_ret
  exact ⟨ret_int (by rw [HR.out]; rfl), rfl⟩

theorem rd_drop (s : ByteArray) (p k : Nat) (h : p + k ≤ s.size) : rd (s.extract p s.size) 0 k = rd s p k := by
  induction k with
  | zero => rfl
  | succ k ih =>
    have e : sb (s.extract p s.size) k = sb s (p + k) := by
      have h1 : k < (s.extract p s.size).size := by rw [ByteArray.size_extract]; omega
      have h2 : p + k < s.size := by omega
      rw [← sb_get _ k h1, ← sb_get _ (p + k) h2, ByteArray.getElem_extract]
    simp only [rd, Nat.zero_add]
    rw [ih (by omega), e]

theorem field_any (s : ByteArray) (k : Nat) (w : World) (hk : 1 ≤ k ∧ k ≤ 8) (hs : k ≤ s.size) (hs9 : s.size ≤ 9223372036854775807) :
    Calls Try.prog 78 #[.string s, .int .i64 k] w fun e w' => e = .returned (.int .u64 (rd s 0 k)) ∧ Below w.heap.size w w' := by
  have HR := Lib.hid (fun W => Read_mid s 0 k W hk.1 hk.2 (by omega) hs9)
  go_enter Try.func78, Try.ntmps78
  go_wp2_with fail
  refine (HR.out _).mono ?_
  rintro e w1 ⟨rfl, hB⟩
  go_wp2
  go_ret
  exact ⟨rfl, below_alloc hB _⟩

theorem rfield_any (s : ByteArray) (a k : Nat) (w : World) (hk : 1 ≤ k ∧ k ≤ 8) (hs : a + k ≤ s.size) (hs9 : s.size ≤ 9223372036854775807) :
    Calls Try.prog 71 #[.string s, .int .i64 a, .int .i64 k] w fun e w' => e = .returned (.int .u64 (rd s a k)) ∧ Below w.heap.size w w' := by
  have HR := Lib.hid (fun W => rRead_mid s a k W hk.1 hk.2 hs hs9)
  go_enter Try.func71, Try.ntmps71
  go_wp2_with fail
  refine (HR.out _).mono ?_
  rintro e w1 ⟨rfl, hB⟩
  go_wp2
  go_ret
  exact ⟨rfl, below_alloc hB _⟩

end Go.Proofs.Ytboajmnckldmiaa
