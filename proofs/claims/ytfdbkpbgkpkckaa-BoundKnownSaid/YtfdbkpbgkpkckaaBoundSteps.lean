/-
  The walks of bound.Steps and of its reference.
-/
import Derived.Test.YtfdbkpbgkpkckaaBoundRefs
namespace Go.Proofs.Ytfdbkpbgkpkckaa
open Go.RowKit
set_option linter.unusedVariables false
set_option maxRecDepth 100000

/-- How many steps a run takes at most, and the error. -/
def stepsBad (k r u j : Int) : Prop := k < 1 ∨ 10000 < k ∨ r < 0 ∨ 10 < r ∨ u < 1 ∨ 1048576 < u ∨ j < 1 ∨ 1048576 < j ∨ u < j
instance (k r u j : Int) : Decidable (stepsBad k r u j) := by unfold stepsBad; infer_instance
def stepsV (k r u j : Int) : Int := if stepsBad k r u j then 0 else k * (r + 1) * (u + j)
def stepsE (k r u j : Int) : Int := if stepsBad k r u j then 2 else 0
theorem steps_bad {k r u j : Int} (h : stepsBad k r u j) : stepsV k r u j = 0 ∧ stepsE k r u j = 2 := by unfold stepsV stepsE; rw [if_pos h, if_pos h]; exact ⟨rfl, rfl⟩
theorem steps_ok {k r u j : Int} (h : ¬ stepsBad k r u j) : stepsV k r u j = k * (r + 1) * (u + j) ∧ stepsE k r u j = 0 := by unfold stepsV stepsE; rw [if_neg h, if_neg h]; exact ⟨rfl, rfl⟩
theorem steps_fit (k r u j : Int) (b : 1 ≤ k ∧ k ≤ 10000 ∧ 0 ≤ r ∧ r ≤ 10 ∧ 1 ≤ u ∧ u ≤ 1048576 ∧ 1 ≤ j ∧ j ≤ 1048576 ∧ j ≤ u) :
    (0 ≤ k * (r + 1) ∧ k * (r + 1) ≤ 110000) ∧ 0 ≤ k * (r + 1) * (u + j) ∧ k * (r + 1) * (u + j) ≤ 230686720000 := by
  have h1 : 0 ≤ k * (r + 1) := Int.mul_nonneg (by omega) (by omega)
  have h2 : k * (r + 1) ≤ 10000 * 11 := Int.mul_le_mul (by omega) (by omega) (by omega) (by omega)
  have h3 : 0 ≤ k * (r + 1) * (u + j) := Int.mul_nonneg h1 (by omega)
  have h4 : k * (r + 1) * (u + j) ≤ 110000 * 2097152 := Int.mul_le_mul (by omega) (by omega) (by omega) (by omega)
  exact ⟨⟨h1, by omega⟩, h3, by omega⟩

set_option maxHeartbeats 1600000 in
theorem Steps_any (k r u j : Int) (w : World) (hk : -9223372036854775808 ≤ k ∧ k ≤ 9223372036854775807) (hr : -9223372036854775808 ≤ r ∧ r ≤ 9223372036854775807) (hu : -9223372036854775808 ≤ u ∧ u ≤ 9223372036854775807) (hj : -9223372036854775808 ≤ j ∧ j ≤ 9223372036854775807) :
    Calls Try.prog 20 #[.int .i64 k, .int .i64 r, .int .i64 u, .int .i64 j] w fun e w' => e = .returned (.tuple #[.int .i64 (stepsV k r u j), .int .i64 (stepsE k r u j)]) ∧ Below w.heap.size w w' := by
  by_cases hb : stepsBad k r u j
  · have HR := Lib.hid (steps_bad hb)
    by_cases c0 : k < 1
    · skip
      clear hb
      go_enter Try.func20, Try.ntmps20
      go_wp2
      go_ret2
      exact ⟨ret_two (val_int HR.out.1.symm) (val_int HR.out.2.symm), Below.refl _ _⟩
    · by_cases c1 : 10000 < k
      · skip
        clear hb
        go_enter Try.func20, Try.ntmps20
        go_wp2
        go_ret2
        exact ⟨ret_two (val_int HR.out.1.symm) (val_int HR.out.2.symm), Below.refl _ _⟩
      · by_cases c2 : r < 0
        · skip
          clear hb
          go_enter Try.func20, Try.ntmps20
          go_wp2
          go_ret2
          exact ⟨ret_two (val_int HR.out.1.symm) (val_int HR.out.2.symm), Below.refl _ _⟩
        · by_cases c3 : 10 < r
          · skip
            clear hb
            go_enter Try.func20, Try.ntmps20
            go_wp2
            go_ret2
            exact ⟨ret_two (val_int HR.out.1.symm) (val_int HR.out.2.symm), Below.refl _ _⟩
          · by_cases c4 : u < 1
            · skip
              clear hb
              go_enter Try.func20, Try.ntmps20
              go_wp2
              go_ret2
              exact ⟨ret_two (val_int HR.out.1.symm) (val_int HR.out.2.symm), Below.refl _ _⟩
            · by_cases c5 : 1048576 < u
              · skip
                clear hb
                go_enter Try.func20, Try.ntmps20
                go_wp2
                go_ret2
                exact ⟨ret_two (val_int HR.out.1.symm) (val_int HR.out.2.symm), Below.refl _ _⟩
              · by_cases c6 : j < 1
                · skip
                  clear hb
                  go_enter Try.func20, Try.ntmps20
                  go_wp2
                  go_ret2
                  exact ⟨ret_two (val_int HR.out.1.symm) (val_int HR.out.2.symm), Below.refl _ _⟩
                · by_cases c7 : 1048576 < j
                  · skip
                    clear hb
                    go_enter Try.func20, Try.ntmps20
                    go_wp2
                    go_ret2
                    exact ⟨ret_two (val_int HR.out.1.symm) (val_int HR.out.2.symm), Below.refl _ _⟩
                  · have c8 : u < j := by unfold stepsBad at hb; omega
                    clear hb
                    go_enter Try.func20, Try.ntmps20
                    go_wp2
                    go_ret2
                    exact ⟨ret_two (val_int HR.out.1.symm) (val_int HR.out.2.symm), Below.refl _ _⟩
  · have HR := Lib.hid (steps_ok hb)
    have b1 : 1 ≤ k ∧ k ≤ 10000 ∧ 0 ≤ r ∧ r ≤ 10 ∧ 1 ≤ u ∧ u ≤ 1048576 ∧ 1 ≤ j ∧ j ≤ 1048576 ∧ j ≤ u := by unfold stepsBad at hb; omega
    have b2 := steps_fit k r u j b1
    clear hb
    go_enter Try.func20, Try.ntmps20
    go_wp2_with fail
    refine (sum_any _ [u, j] 2 _ _ (slice_lit w .i64 3 [u, j] _ rfl) (by simp) (fun q => ?_)).mono ?_
    · unfold psum
      rcases q with _ | _ | q <;> simp <;> omega
    rintro e w2 ⟨rfl, rfl⟩
    have HS : Hid (psum [u, j] [u, j].length = u + j) := by simp [psum, Hid]
    rw [HS.out]
    go_wp2
    go_ret2
    exact ⟨ret_two (val_int HR.out.1.symm) (val_int HR.out.2.symm), (Below.refl _ _).alloc (Nat.le_refl _) _⟩

set_option maxHeartbeats 1600000 in
theorem rSteps_any (k r u j : Int) (w : World) (hk : -9223372036854775808 ≤ k ∧ k ≤ 9223372036854775807) (hr : -9223372036854775808 ≤ r ∧ r ≤ 9223372036854775807) (hu : -9223372036854775808 ≤ u ∧ u ≤ 9223372036854775807) (hj : -9223372036854775808 ≤ j ∧ j ≤ 9223372036854775807) :
    Calls Try.prog 27 #[.int .i64 k, .int .i64 r, .int .i64 u, .int .i64 j] w fun e w' => e = .returned (.tuple #[.int .i64 (stepsV k r u j), .int .i64 (stepsE k r u j)]) ∧ Below w.heap.size w w' := by
  by_cases hb : stepsBad k r u j
  · have HR := Lib.hid (steps_bad hb)
    by_cases c0 : k < 1
    · skip
      clear hb
      go_enter Try.func27, Try.ntmps27
      go_wp2
      go_ret2
      exact ⟨ret_two (val_int HR.out.1.symm) (val_int HR.out.2.symm), Below.refl _ _⟩
    · by_cases c1 : 10000 < k
      · skip
        clear hb
        go_enter Try.func27, Try.ntmps27
        go_wp2
        go_ret2
        exact ⟨ret_two (val_int HR.out.1.symm) (val_int HR.out.2.symm), Below.refl _ _⟩
      · by_cases c2 : r < 0
        · skip
          clear hb
          go_enter Try.func27, Try.ntmps27
          go_wp2
          go_ret2
          exact ⟨ret_two (val_int HR.out.1.symm) (val_int HR.out.2.symm), Below.refl _ _⟩
        · by_cases c3 : 10 < r
          · skip
            clear hb
            go_enter Try.func27, Try.ntmps27
            go_wp2
            go_ret2
            exact ⟨ret_two (val_int HR.out.1.symm) (val_int HR.out.2.symm), Below.refl _ _⟩
          · by_cases c4 : u < 1
            · skip
              clear hb
              go_enter Try.func27, Try.ntmps27
              go_wp2
              go_ret2
              exact ⟨ret_two (val_int HR.out.1.symm) (val_int HR.out.2.symm), Below.refl _ _⟩
            · by_cases c5 : 1048576 < u
              · skip
                clear hb
                go_enter Try.func27, Try.ntmps27
                go_wp2
                go_ret2
                exact ⟨ret_two (val_int HR.out.1.symm) (val_int HR.out.2.symm), Below.refl _ _⟩
              · by_cases c6 : j < 1
                · skip
                  clear hb
                  go_enter Try.func27, Try.ntmps27
                  go_wp2
                  go_ret2
                  exact ⟨ret_two (val_int HR.out.1.symm) (val_int HR.out.2.symm), Below.refl _ _⟩
                · by_cases c7 : 1048576 < j
                  · skip
                    clear hb
                    go_enter Try.func27, Try.ntmps27
                    go_wp2
                    go_ret2
                    exact ⟨ret_two (val_int HR.out.1.symm) (val_int HR.out.2.symm), Below.refl _ _⟩
                  · have c8 : u < j := by unfold stepsBad at hb; omega
                    clear hb
                    go_enter Try.func27, Try.ntmps27
                    go_wp2
                    go_ret2
                    exact ⟨ret_two (val_int HR.out.1.symm) (val_int HR.out.2.symm), Below.refl _ _⟩
  · have HR := Lib.hid (steps_ok hb)
    have b1 : 1 ≤ k ∧ k ≤ 10000 ∧ 0 ≤ r ∧ r ≤ 10 ∧ 1 ≤ u ∧ u ≤ 1048576 ∧ 1 ≤ j ∧ j ≤ 1048576 ∧ j ≤ u := by unfold stepsBad at hb; omega
    have b2 := steps_fit k r u j b1
    clear hb
    go_enter Try.func27, Try.ntmps27
    go_wp2
    go_ret2
    exact ⟨ret_two (val_int HR.out.1.symm) (val_int HR.out.2.symm), Below.refl _ _⟩

end Go.Proofs.Ytfdbkpbgkpkckaa
