/-
  The walks of bound.Buffers, bound.Steps and of the references of Output, Buffers, Steps.
-/
import Derived.Test.YtfdbkpbgkpkckaaBoundOut
namespace Go.Proofs.Ytfdbkpbgkpkckaa
open Go.RowKit
set_option linter.unusedVariables false
set_option maxRecDepth 100000

set_option maxHeartbeats 800000 in
theorem rOutput_any (n k : Int) (w : World) (hn : -9223372036854775808 ≤ n ∧ n ≤ 9223372036854775807) (hk : -9223372036854775808 ≤ k ∧ k ≤ 9223372036854775807) :
    Calls Try.prog 22 #[.int .i64 n, .int .i64 k] w fun e w' => e = .returned (.tuple #[.int .i64 (outV n k), .int .i64 (outE n k)]) ∧ w = w' := by
  by_cases hb : outBad n k
  · have HR := Lib.hid (out_bad hb)
    by_cases c1 : n < 0
    · go_enter Try.func22, Try.ntmps22
      go_wp2
      go_ret2
      exact ⟨ret_two (val_int HR.out.1.symm) (val_int HR.out.2.symm), rfl⟩
    · by_cases c2 : 1099511627776 < n
      · go_enter Try.func22, Try.ntmps22
        go_wp2
        go_ret2
        exact ⟨ret_two (val_int HR.out.1.symm) (val_int HR.out.2.symm), rfl⟩
      · by_cases c3 : k < 1
        · go_enter Try.func22, Try.ntmps22
          go_wp2
          go_ret2
          exact ⟨ret_two (val_int HR.out.1.symm) (val_int HR.out.2.symm), rfl⟩
        · have c4 : 137438953472 < k := by unfold outBad at hb; omega
          clear hb
          go_enter Try.func22, Try.ntmps22
          go_wp2
          go_ret2
          exact ⟨ret_two (val_int HR.out.1.symm) (val_int HR.out.2.symm), rfl⟩
  · have HR := Lib.hid (out_ok hb)
    have b1 : 0 ≤ n ∧ n ≤ 1099511627776 ∧ 1 ≤ k ∧ k ≤ 137438953472 := by unfold outBad at hb; omega
    clear hb
    go_enter Try.func22, Try.ntmps22
    go_wp2
    go_ret2
    exact ⟨ret_two (val_int HR.out.1.symm) (val_int HR.out.2.symm), rfl⟩

/-- How many buffers there are, and the error. -/
def bufBad (n : Int) : Prop := n < 1 ∨ 64 < n
instance (n : Int) : Decidable (bufBad n) := by unfold bufBad; infer_instance
def bufV (n : Int) : Int := if bufBad n then 0 else n + 2
def bufE (n : Int) : Int := if bufBad n then 30 else 0
theorem buf_bad {n : Int} (h : bufBad n) : bufV n = 0 ∧ bufE n = 30 := by unfold bufV bufE; rw [if_pos h, if_pos h]; exact ⟨rfl, rfl⟩
theorem buf_ok {n : Int} (h : ¬ bufBad n) : bufV n = n + 2 ∧ bufE n = 0 := by unfold bufV bufE; rw [if_neg h, if_neg h]; exact ⟨rfl, rfl⟩

set_option maxHeartbeats 800000 in
theorem Buffers_any (n : Int) (w : World) (hn : -9223372036854775808 ≤ n ∧ n ≤ 9223372036854775807) :
    Calls Try.prog 25 #[.int .i64 n] w fun e w' => e = .returned (.tuple #[.int .i64 (bufV n), .int .i64 (bufE n)]) ∧ Below w.heap.size w w' := by
  by_cases hb : bufBad n
  · have HR := Lib.hid (buf_bad hb)
    by_cases c1 : n < 1
    · go_enter Try.func25, Try.ntmps25
      go_wp2
      go_ret2
      exact ⟨ret_two (val_int HR.out.1.symm) (val_int HR.out.2.symm), Below.refl _ _⟩
    · have c4 : 64 < n := by unfold bufBad at hb; omega
      clear hb
      go_enter Try.func25, Try.ntmps25
      go_wp2
      go_ret2
      exact ⟨ret_two (val_int HR.out.1.symm) (val_int HR.out.2.symm), Below.refl _ _⟩
  · have HR := Lib.hid (buf_ok hb)
    have b1 : 1 ≤ n ∧ n ≤ 64 := by unfold bufBad at hb; omega
    clear hb
    go_enter Try.func25, Try.ntmps25
    go_wp2_with fail
    refine (sum_any _ [n, 2] 2 _ _ (slice_lit w .i64 3 [n, 2] _ rfl) (by simp) (fun j => ?_)).mono ?_
    · unfold psum
      rcases j with _ | _ | j <;> simp <;> omega
    rintro e w2 ⟨rfl, rfl⟩
    go_wp2
    go_ret2
    exact ⟨ret_two (val_int (by rw [HR.out.1]; simp [psum])) (val_int HR.out.2.symm), (Below.refl _ _).alloc (Nat.le_refl _) _⟩

set_option maxHeartbeats 800000 in
theorem rBuffers_any (n : Int) (w : World) (hn : -9223372036854775808 ≤ n ∧ n ≤ 9223372036854775807) :
    Calls Try.prog 26 #[.int .i64 n] w fun e w' => e = .returned (.tuple #[.int .i64 (bufV n), .int .i64 (bufE n)]) ∧ Below w.heap.size w w' := by
  by_cases hb : bufBad n
  · have HR := Lib.hid (buf_bad hb)
    by_cases c1 : n < 1
    · go_enter Try.func26, Try.ntmps26
      go_wp2
      go_ret2
      exact ⟨ret_two (val_int HR.out.1.symm) (val_int HR.out.2.symm), Below.refl _ _⟩
    · have c4 : 64 < n := by unfold bufBad at hb; omega
      clear hb
      go_enter Try.func26, Try.ntmps26
      go_wp2
      go_ret2
      exact ⟨ret_two (val_int HR.out.1.symm) (val_int HR.out.2.symm), Below.refl _ _⟩
  · have HR := Lib.hid (buf_ok hb)
    have b1 : 1 ≤ n ∧ n ≤ 64 := by unfold bufBad at hb; omega
    clear hb
    go_enter Try.func26, Try.ntmps26
    go_wp2
    go_ret2
    exact ⟨ret_two (val_int HR.out.1.symm) (val_int HR.out.2.symm), Below.refl _ _⟩

end Go.Proofs.Ytfdbkpbgkpkckaa
