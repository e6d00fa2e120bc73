/-
  The walks of header.window, fields and dicts, and of the reference's window.
-/
import Derived.Test.YtfdbkpbgkpkckaaHdrBegins
import Derived.Test.YtfdbkpbgkpkckaaIntsMath
import Derived.Test.YtfdbkpbgkpkckaaArrays
namespace Go.Proofs.Ytfdbkpbgkpkckaa
open Go.RowKit
set_option linter.unusedVariables false
set_option maxRecDepth 100000

set_option maxHeartbeats 1600000 in
theorem fields_any (w : World) :
    Calls Try.prog 70 #[] w fun r w' => r = .returned (.agg #[.int .i64 0, .int .i64 2, .int .i64 4, .int .i64 8]) ∧ Below w.heap.size w w' := by
  go_enter Try.func70, Try.ntmps70
  go_wp2_with fail
  exact bodyPost_ret (v := .agg #[.int .i64 0, .int .i64 2, .int .i64 4, .int .i64 8]) (by simp [results, Try.results70, go_sem]) rfl ⟨rfl, below_new _⟩
set_option maxHeartbeats 1600000 in
theorem dicts_any (w : World) :
    Calls Try.prog 69 #[] w fun r w' => r = .returned (.agg #[.int .i64 0, .int .i64 1, .int .i64 2, .int .i64 4]) ∧ Below w.heap.size w w' := by
  go_enter Try.func69, Try.ntmps69
  go_wp2_with fail
  exact bodyPost_ret (v := .agg #[.int .i64 0, .int .i64 1, .int .i64 2, .int .i64 4]) (by simp [results, Try.results69, go_sem]) rfl ⟨rfl, below_new _⟩

/-- The window that a window descriptor says. -/
def windowV (b : Int) : Int := 2 ^ (10 + b / 8).toNat + b % 8 * 2 ^ (7 + b / 8).toNat
theorem win_fin : ∀ n : Fin 256, wrap64 (wrap64 (2 ^ (10 + ((n.val : Nat) : Int) / 8).toNat) + wrap64 (bits BinOp.and IntKind.i64 ((n.val : Nat) : Int) 7 * 2 ^ (10 + ((n.val : Nat) : Int) / 8 - 3).toNat)) = windowV ((n.val : Nat) : Int) ∧
    wrap64 (wrap64 (2 ^ (10 + ((n.val : Nat) : Int) / 8).toNat) + wrap64 (((n.val : Nat) : Int) % 8 * wrap64 ((wrap64 (2 ^ (10 + ((n.val : Nat) : Int) / 8).toNat)).tdiv 8))) = windowV ((n.val : Nat) : Int) ∧ 1024 ≤ windowV ((n.val : Nat) : Int) ∧ windowV ((n.val : Nat) : Int) ≤ 4398046511104 := by decide +kernel
theorem win_all {b : Int} (hb : 0 ≤ b ∧ b ≤ 255) : wrap64 (wrap64 (2 ^ (10 + b / 8).toNat) + wrap64 (bits BinOp.and IntKind.i64 b 7 * 2 ^ (10 + b / 8 - 3).toNat)) = windowV b ∧
    wrap64 (wrap64 (2 ^ (10 + b / 8).toNat) + wrap64 (b % 8 * wrap64 ((wrap64 (2 ^ (10 + b / 8).toNat)).tdiv 8))) = windowV b ∧ 1024 ≤ windowV b ∧ windowV b ≤ 4398046511104 := by
  obtain ⟨n, rfl⟩ : ∃ n : Nat, b = n := ⟨b.toNat, by omega⟩
  exact win_fin ⟨n, by omega⟩

set_option maxHeartbeats 1600000 in
theorem window_any (b : Int) (w : World) (hb : 0 ≤ b ∧ b ≤ 255) :
    Calls Try.prog 67 #[.int .i64 b] w fun r w' => r = .returned (.int .i64 (windowV b)) ∧ Below w.heap.size w w' := by
  have HE := Lib.hid (win_all hb).1
  go_enter Try.func67, Try.ntmps67
  go_wp2_with fail
  go_quiet (fail)
  go_wp2_with fail
  go_ret
  exact ⟨ret_int HE.out, below_drewN (Below.refl _ _) nq⟩

set_option maxHeartbeats 1600000 in
theorem rwindow_any (b : Int) (w : World) (hb : 0 ≤ b ∧ b ≤ 255) :
    Calls Try.prog 72 #[.int .i64 b] w fun r w' => r = .returned (.int .i64 (windowV b)) ∧ w = w' := by
  have HE := Lib.hid (win_all hb).2.1
  go_enter Try.func72, Try.ntmps72
  go_wp2_with fail
  go_ret
  exact ⟨ret_int HE.out, rfl⟩

end Go.Proofs.Ytfdbkpbgkpkckaa
