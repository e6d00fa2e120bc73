/-
  The walks of cheesepresskit's Mod, SameInts and OwnInts, as far as this seat has them.
-/
import Derived.Test.YtfdbkpbgkpkckaaRows
import Derived.Test.YtfdbkpbgkpkckaaCommon
import Derived.Test.YtfdbkpbgkpkckaaSlices
import Derived.WalkLawsBesides
import Derived.Deep.QuietTactic
import Derived.BigQuiet
namespace Go.Proofs.Ytfdbkpbgkpkckaa
open Go.RowKit
set_option linter.unusedVariables false

/-- n modulo m, from 0 to m - 1; 0 if m is below 1. -/
def modI (n m : Int) : Int := if m < 1 then 0 else n % m

theorem modI_lo {n m : Int} (h : 1 ≤ m) : 0 ≤ modI n m ∧ modI n m < m := by
  unfold modI
  rw [if_neg (by omega)]
  exact ⟨Int.emod_nonneg _ (by omega), Int.emod_lt_of_pos _ (by omega)⟩
theorem modI_bad {n m : Int} (h : m < 1) : modI n m = 0 := if_pos h
theorem modI_ok {n m : Int} (h : 1 ≤ m) : modI n m = n % m := if_neg (by omega)

theorem tmod_neg {n m : Int} (hn : n < 0) (hm : 1 ≤ m) : n.tmod m ≤ 0 ∧ -m < n.tmod m ∧ (n.tmod m = 0 → n % m = 0) ∧ (n.tmod m < 0 → n.tmod m + m = n % m) := by
  have e : n.tmod m = -((-n) % m) := by
    rw [← Int.tmod_eq_emod_of_nonneg (by omega), Int.neg_tmod, Int.neg_neg]
  have h0 := Int.emod_nonneg (-n) (b := m) (by omega)
  have h1 := Int.emod_lt_of_pos (-n) (b := m) (by omega)
  have hq := Int.mul_ediv_add_emod (-n) m
  rw [e]
  refine ⟨by omega, by omega, fun hz => ?_, fun hz => ?_⟩
  · have : n = m * (-((-n) / m)) := by rw [Int.mul_neg]; omega
    rw [this]; exact Int.mul_emod_right _ _
  · have e2 : m * (-((-n) / m) - 1) = -(m * ((-n) / m)) - m := by rw [Int.mul_sub, Int.mul_neg, Int.mul_one]
    have hn' : (m - (-n) % m) + m * (-((-n) / m) - 1) = n := by rw [e2]; omega
    have h3 := Int.add_mul_emod_self_left (m - (-n) % m) m (-((-n) / m) - 1)
    rw [hn', Int.emod_eq_of_lt (a := m - (-n) % m) (b := m) (by omega) (by omega)] at h3
    omega

set_option maxHeartbeats 400000 in
theorem Mod_any (n m : Int) (w : World) (h1 : -9223372036854775808 ≤ n) (h2 : n ≤ 9223372036854775807) (h3 : m ≤ 9223372036854775807) :
    Calls Try.prog 15 #[.int .i64 n, .int .i64 m] w fun e w' => e = .returned (.int .i64 (modI n m)) ∧ w = w' := by
  by_cases hm : m < 1
  · have HR := Lib.hid (modI_bad (n := n) hm)
    go_enter Try.func15, Try.ntmps15
    go_wp2
    go_ret
    exact ⟨ret_int HR.out.symm, rfl⟩
  · have hm1 : 1 ≤ m := by omega
    have HR := Lib.hid (modI_ok (n := n) hm1)
    by_cases hn : 0 ≤ n
    · have hr : 0 ≤ n % m := Int.emod_nonneg _ (by omega)
      go_enter Try.func15, Try.ntmps15
      go_wp2
      go_ret
      exact ⟨ret_int HR.out.symm, rfl⟩
    · obtain ⟨t1, t2, t3, t4⟩ := tmod_neg (n := n) (by omega) hm1
      have T3 := Lib.hid t3
      have T4 := Lib.hid t4
      clear t3 t4
      by_cases hz : n.tmod m < 0
      · go_enter Try.func15, Try.ntmps15
        go_wp2
        go_ret
        exact ⟨ret_int (by rw [HR.out, ← T4.out hz]), rfl⟩
      · go_enter Try.func15, Try.ntmps15
        go_wp2
        go_ret
        exact ⟨ret_int (by rw [HR.out, T3.out (by omega)]; omega), rfl⟩

/-- Whether two lists are equal. -/
def sameI (xs ys : List Int) : Bool := decide (xs = ys)
theorem sameI_yes (xs : List Int) : sameI xs xs = true := by simp [sameI]
theorem sameI_len {xs ys : List Int} (h : xs.length ≠ ys.length) : sameI xs ys = false := by
  simp only [sameI, decide_eq_false_iff_not]; intro e; exact h (by rw [e])
theorem sameI_at {xs ys : List Int} {j : Nat} {x y : Int} (hx : xs[j]? = some x) (hy : ys[j]? = some y) (h : x ≠ y) : sameI xs ys = false := by
  simp only [sameI, decide_eq_false_iff_not]
  intro e
  rw [e, hy] at hx
  injection hx with hx
  exact h hx.symm
theorem take_same {xs ys : List Int} {j : Nat} {x : Int} (hx : xs[j]? = some x) (hy : ys[j]? = some x) (h : xs.take j = ys.take j) : xs.take (j + 1) = ys.take (j + 1) := by
  rw [List.take_add_one, List.take_add_one, h, hx, hy]


theorem Try.infoInt : (Try.prog.info? 3).map (fun i => (i.zero, i.size, i.bytes)) = some (some (.int .i64 0), 1, 8) := by kernel_rfl


end Go.Proofs.Ytfdbkpbgkpkckaa
