/-
  The walks of RotateLeft64, of the lanes at first, and of their references.
-/
import Derived.Test.YtboajmnckldmiaaXxhBase
namespace Go.Proofs.Ytboajmnckldmiaa
open Go.RowKit
set_option linter.unusedVariables false
set_option maxRecDepth 100000

theorem rotl_any (x : Int) (n : Nat) (w : World) (hx : 0 ≤ x ∧ x ≤ 18446744073709551615) (hn : 1 ≤ n ∧ n ≤ 63) :
    Calls Try.prog 80 #[.int .u64 x, .int .i64 n] w fun e w' => e = .returned (.int .u64 (turnV x n)) ∧ w = w' := by
  have h0 : IntKind.u64.wrap (n : Int) = n := IntWalk.u64_in _ (by omega)
  have h1 : bits .and .u64 (n : Int) 63 = (n : Int) := by
    rw [u64_and _ _ (by omega) (by omega) (by omega) (by omega), Int.toNat_natCast]
    have : n &&& 63 = n % 64 := Nat.and_two_pow_sub_one_eq_mod n 6
    show ((n &&& 63 : Nat) : Int) = n
    rw [this]; omega
  have h2 : (64 - (n : Int)).toNat = 64 - n := by omega
  have h3 : min (64 - n) 64 = 64 - n := by omega
  have h4 : min n 64 = n := by omega
  go_enter Try.func80, Try.ntmps80
  go_wp2
  go_ret
  exact ⟨ret_int rfl, rfl⟩

/-- Four lanes. -/
structure Lan where
  a : Int
  b : Int
  c : Int
  d : Int
def Lan.val (l : Lan) : Value := .agg #[.int .u64 l.a, .int .u64 l.b, .int .u64 l.c, .int .u64 l.d]
def LanIn (l : Lan) : Prop := (0 ≤ l.a ∧ l.a ≤ 18446744073709551615) ∧ (0 ≤ l.b ∧ l.b ≤ 18446744073709551615) ∧ (0 ≤ l.c ∧ l.c ≤ 18446744073709551615) ∧ (0 ≤ l.d ∧ l.d ≤ 18446744073709551615)
def startV (sd : Int) : Lan := ⟨addV (addV sd pA) pB, addV sd pB, sd, IntKind.u64.wrap (sd - pA)⟩
theorem startV_in (sd : Int) (h : 0 ≤ sd ∧ sd ≤ 18446744073709551615) : LanIn (startV sd) := ⟨addV_in _ _, addV_in _ _, h, wrap_in _⟩

set_option maxHeartbeats 800000 in
theorem start_any (sd : Int) (w : World) (h : 0 ≤ sd ∧ sd ≤ 18446744073709551615) :
    Calls Try.prog 65 #[.int .u64 sd] w fun e w' => e = .returned ((startV sd).val) ∧ Below w.heap.size w w' := by
  have e1 : Hid (IntKind.u64.wrap (IntKind.u64.wrap (sd + 11400714785074694791) + 14029467366897019727) = addV (addV sd pA) pB) := rfl
  go_enter Try.func65, Try.ntmps65
  go_wp2
  refine bodyPost_ret (v := (startV sd).val) (by first | (simp [results, Try.results65, go_sem]; rfl) | simp [results, Try.results65, go_sem, Lan.val, startV, addV, pA, pB]) rfl ⟨rfl, below_new _⟩

set_option maxHeartbeats 800000 in
theorem rlanes_any (sd : Int) (w : World) (h : 0 ≤ sd ∧ sd ≤ 18446744073709551615) :
    Calls Try.prog 66 #[.int .u64 sd] w fun e w' => e = .returned ((startV sd).val) ∧ Below w.heap.size w w' := by
  go_enter Try.func66, Try.ntmps66
  go_wp2
  refine bodyPost_ret (v := (startV sd).val) (by first | (simp [results, Try.results66, go_sem]; rfl) | simp [results, Try.results66, go_sem, Lan.val, startV, addV, pA, pB]) rfl ⟨rfl, below_new _⟩

end Go.Proofs.Ytboajmnckldmiaa
