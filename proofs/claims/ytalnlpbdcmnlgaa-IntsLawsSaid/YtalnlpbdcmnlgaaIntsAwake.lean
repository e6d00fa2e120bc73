/-
  The walks of the law package's own helpers: field, fault and awake.
-/
import Derived.Test.YtalnlpbdcmnlgaaIntsHigh
import Derived.Test.YtalnlpbdcmnlgaaIntsLittle
import Derived.Test.YtalnlpbdcmnlgaaIntsRead
import Derived.Test.YtalnlpbdcmnlgaaIntsSum
namespace Go.Proofs.Ytalnlpbdcmnlgaa
open Go.RowKit
set_option linter.unusedVariables false

set_option maxRecDepth 100000 in
set_option maxHeartbeats 800000 in
theorem field_yes (n s : Int) (want X : ByteArray) (w : World) (h1 : 0 ≤ n) (h2 : n ≤ 18446744073709551615) (hs : want.size ≤ 1000) (h0 : -1000 ≤ s) (h9 : s ≤ 1000)
    (hX : ⟨#[120]⟩ ++ want = X)
    (e1 : littleE n s = 0) (e2 : little n s = want) (e3 : readE X 1 s = 0) (e4 : readA X 1 s = 0) (e5 : readV X 1 s = n) (e6 : readN X 1 s = 1 + s) :
    Calls Try.prog 31 #[.int .u64 n, .int .i64 s, .string want] w fun e w' => e = .returned (.bool true) ∧ Below w.heap.size w w' := by
  have hadd : ∀ W, (Op.stringOp .add ⟨#[120]⟩ want).run Try.prog W = .ok (.string X) W := fun W => by rw [← hX]; exact run_string_add_sum W _ _ (by show 1 + want.size ≤ _; omega)
  have hXs : X.size ≤ 9223372036854775807 := by rw [← hX, ByteArray.size_append]; show 1 + want.size ≤ _; omega
  clear hX
  have E1 := Lib.hid e1
  have E2 := Lib.hid e2
  have E3 := Lib.hid e3
  have E4 := Lib.hid e4
  have E5 := Lib.hid e5
  have E6 := Lib.hid e6
  clear e1 e2 e3 e4 e5 e6
  go_enter Try.func31, Try.ntmps31
  go_wp2_with fail
  refine (Little_any n s _ h1 h2).mono ?_
  rintro e w1 ⟨rfl, hB1⟩
  rw [E1.out, E2.out]
  go_wp2_with fail
  refine (Read_any X 1 s _ hXs).mono ?_
  rintro e w2 ⟨rfl, hB2⟩
  rw [E3.out, E4.out, E5.out, E6.out]
  go_wp2_with fail
  go_ret
  exact ⟨rfl, below_alloc (below_then hB1 hB2) _⟩

set_option maxRecDepth 100000 in
set_option maxHeartbeats 800000 in
theorem fault_yes (s : ByteArray) (a k e p : Int) (w : World) (hs : s.size ≤ 9223372036854775807)
    (e1 : readV s a k = 0) (e2 : readN s a k = 0) (e3 : readE s a k = e) (e4 : readA s a k = p) :
    Calls Try.prog 32 #[.string s, .int .i64 a, .int .i64 k, .int .i64 e, .int .i64 p] w fun e w' => e = .returned (.bool true) ∧ Below w.heap.size w w' := by
  have E1 := Lib.hid e1
  have E2 := Lib.hid e2
  have E3 := Lib.hid e3
  have E4 := Lib.hid e4
  clear e1 e2 e3 e4
  go_enter Try.func32, Try.ntmps32
  go_wp2_with fail
  refine (Read_any s a k _ hs).mono ?_
  rintro e w2 ⟨rfl, hB2⟩
  rw [E1.out, E2.out, E3.out, E4.out]
  go_wp2_with fail
  go_ret
  exact ⟨rfl, below_alloc hB2 _⟩

set_option maxRecDepth 100000 in
set_option maxHeartbeats 800000 in
theorem awake_any (w : World) :
    Calls Try.prog 10 #[] w fun e w' => e = .returned (.bool true) ∧ Below w.heap.size w w' := by
  have P1 := Lib.hid (show sumV [1099511627776, 0] = 1099511627776 ∧ sumE [1099511627776, 0] = 0 by decide +kernel)
  have P2 := Lib.hid (show sumV [1099511627776, 1] = 0 ∧ sumE [1099511627776, 1] = 2 by decide +kernel)
  have H1 := Lib.hid (show hi 1 = 0 ∧ hi 255 = 7 ∧ hi 256 = 8 ∧ hi 0 = -1 ∧ up 5 = 3 by decide +kernel)
  go_enter Try.func10, Try.ntmps10
  go_wp2_with fail
  refine (Plus_any 1099511627776 0 _).mono ?_
  rintro e w1 ⟨rfl, hB1⟩
  rw [P1.out.1, P1.out.2]
  go_wp2_with fail
  refine (Plus_any 1099511627776 1 _).mono ?_
  rintro e w2 ⟨rfl, hB2⟩
  rw [P2.out.1, P2.out.2]
  go_wp2_with fail
  refine (High_any 1 _).mono ?_
  rintro e w3 ⟨rfl, rfl⟩
  rw [H1.out.1]
  go_wp2_with fail
  refine (High_any 255 _).mono ?_
  rintro e w3 ⟨rfl, rfl⟩
  rw [H1.out.2.1]
  go_wp2_with fail
  refine (High_any 256 _).mono ?_
  rintro e w3 ⟨rfl, rfl⟩
  rw [H1.out.2.2.1]
  go_wp2_with fail
  refine (High_any 0 _).mono ?_
  rintro e w3 ⟨rfl, rfl⟩
  rw [H1.out.2.2.2.1]
  go_wp2_with fail
  refine (Bits_any 255 _).mono ?_
  rintro e w3 ⟨rfl, rfl⟩
  rw [H1.out.2.1]
  go_wp2_with fail
  refine (Up_any 5 _ (by omega) (by omega)).mono ?_
  rintro e w3 ⟨rfl, rfl⟩
  rw [H1.out.2.2.2.2]
  go_wp2_with fail
  refine (field_yes 258 2 ⟨#[2, 1]⟩ ⟨#[120, 2, 1]⟩ _ (by omega) (by omega) (by decide) (by omega) (by omega) (by decide +kernel) (by decide +kernel) (by decide +kernel) (by decide +kernel) (by decide +kernel) (by decide +kernel) (by decide +kernel)).mono ?_
  rintro e w4 ⟨rfl, hB4⟩
  go_wp2_with fail
  go_ret
  exact ⟨rfl, below_then (below_then hB1 hB2) hB4⟩

end Go.Proofs.Ytalnlpbdcmnlgaa
