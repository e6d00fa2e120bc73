/-
  The walks of bound.sum and of the functions that use it.
-/
import Derived.Test.YtfdbkpbgkpkckaaRows
import Derived.Test.YtfdbkpbgkpkckaaCommon
import Derived.Test.YtfdbkpbgkpkckaaSlices
import Derived.WalkLawsBesides
namespace Go.Proofs.Ytfdbkpbgkpkckaa
open Go.RowKit
set_option linter.unusedVariables false
set_option maxRecDepth 100000

/-- The sum of the first numbers of a list. -/
def psum (xs : List Int) (j : Nat) : Int := (xs.take j).sum
theorem psum_succ {xs : List Int} {j : Nat} {x : Int} (h : xs[j]? = some x) : psum xs (j + 1) = psum xs j + x := by
  unfold psum; rw [List.take_add_one, h, List.sum_append]; simp

set_option maxHeartbeats 800000 in
theorem sum_any (A : Option Addr) (xs : List Int) (c B : Nat) (w : World) (h : SliceAt .i64 w B A xs) (hl : xs.length ≤ 1000000)
    (hb : ∀ j, -4611686018427387904 ≤ psum xs j ∧ psum xs j ≤ 4611686018427387904) :
    Calls Try.prog 54 #[.slice A xs.length c] w fun e w' => e = .returned (.int .i64 (psum xs xs.length)) ∧ w = w' := by
  have HB := Lib.hid hb
  clear hb
  go_enter Try.func54, Try.ntmps54
  go_wp2
  go_loop [3, 8] (fun n i => ∃ j : Nat, j ≤ xs.length ∧ i = .int .i64 j ∧ n = .int .i64 (psum xs j)) (fun _ i => xs.length - (intOf i).toNat)
  case atStart => exact ⟨0, Nat.zero_le _, rfl, rfl⟩
  case round =>
    obtain ⟨j, hj, rfl, rfl⟩ := hrel
    by_cases hlt : j < xs.length
    · obtain ⟨b, off, x, rfl, hx, hcx⟩ := h.get hlt
      have g1 : (0 : Int) ≤ (j : Int) := by omega
      have g2 : (j : Int) < (xs.length : Int) := by omega
      have HS := Lib.hid (psum_succ hx)
      have b1 := HB.out (j + 1)
      rw [HS.out] at b1
      clear hx
      generalize hq : psum xs j = q at *
      have HQ := Lib.hid hq
      clear hq
      go_wp2
      go_round
      case rel => exact ⟨j + 1, by omega, by go_num, val_int HS.out.symm⟩
      case measure => simp [intOf] <;> omega
    · obtain rfl : j = xs.length := by omega
      go_wp2
      go_ret
      exact ⟨rfl, rfl⟩

end Go.Proofs.Ytfdbkpbgkpkckaa
