/-
  The walks of bound.Output, bound.Buffers, bound.Steps and of their references.
-/
import Derived.Test.YtfdbkpbgkpkckaaBoundSum
namespace Go.Proofs.Ytfdbkpbgkpkckaa
open Go.RowKit
set_option linter.unusedVariables false
set_option maxRecDepth 100000

theorem slice_lit (W : World) (k : IntKind) (t : TypeId) (xs : List Int) (cs : Array Value) (hc : cs = (xs.map (Value.int k)).toArray) : SliceAt k (W.alloc (.cells cs t)) (W.heap.size + 1) (some ⟨W.heap.size, 0, none⟩) xs := by
  refine .inr ⟨W.heap.size, 0, rfl, Nat.lt_succ_self _, fun i y hy => ?_⟩
  rw [World.cell?_alloc_at _ _ _ _ rfl, hc]
  simp [hy]

theorem times3_any (v : Value) (k : Int) (w : World) (hk : 0 ≤ k ∧ k ≤ 1000000000000) :
    Calls Try.prog 83 #[.agg #[v], .int .i64 k] w fun e w' => e = .returned (.int .i64 (3 * k)) ∧ Below w.heap.size w w' := by
  go_enter Try.func83, Try.ntmps83
  go_wp2
  go_ret
  exact ⟨rfl, by first | exact Below.refl _ _ | exact (Below.refl _ _).alloc (Nat.le_refl _) _⟩

set_option maxHeartbeats 800000 in
theorem output_any (n k : Int) (w : World) (hn : 0 ≤ n ∧ n ≤ 2000000000000) (hk : 0 ≤ k ∧ k ≤ 1000000000000) :
    Calls Try.prog 53 #[.int .i64 n, .int .i64 k] w fun e w' => e = .returned (.int .i64 (n + 3 * k + 10)) ∧ Below w.heap.size w w' := by
  go_enter Try.func53, Try.ntmps53
  go_wp2_with fail
  refine (times3_any _ k _ hk).mono ?_
  rintro e w1 ⟨rfl, hB⟩
  go_wp2_with fail
  refine (sum_any _ [n, 3 * k, 10] 3 _ _ (slice_lit w1 .i64 3 [n, 3 * k, 10] _ rfl) (by simp) (fun j => ?_)).mono ?_
  · unfold psum
    rcases j with _ | _ | _ | j <;> simp <;> omega
  rintro e w2 ⟨rfl, rfl⟩
  go_wp2_with fail
  go_ret
  exact ⟨ret_int (by simp [psum]; omega), below_alloc hB _⟩

/-- The greatest output, and its error. -/
def outBad (n k : Int) : Prop := n < 0 ∨ 1099511627776 < n ∨ k < 1 ∨ 137438953472 < k
instance (n k : Int) : Decidable (outBad n k) := by unfold outBad; infer_instance
def outV (n k : Int) : Int := if outBad n k then 0 else n + 3 * k + 10
def outE (n k : Int) : Int := if outBad n k then 2 else 0
theorem out_bad {n k : Int} (h : outBad n k) : outV n k = 0 ∧ outE n k = 2 := by unfold outV outE; rw [if_pos h, if_pos h]; exact ⟨rfl, rfl⟩
theorem out_ok {n k : Int} (h : ¬ outBad n k) : outV n k = n + 3 * k + 10 ∧ outE n k = 0 := by unfold outV outE; rw [if_neg h, if_neg h]; exact ⟨rfl, rfl⟩

set_option maxHeartbeats 800000 in
theorem Output_any (n k : Int) (w : World) (hn : -9223372036854775808 ≤ n ∧ n ≤ 9223372036854775807) (hk : -9223372036854775808 ≤ k ∧ k ≤ 9223372036854775807) :
    Calls Try.prog 19 #[.int .i64 n, .int .i64 k] w fun e w' => e = .returned (.tuple #[.int .i64 (outV n k), .int .i64 (outE n k)]) ∧ Below w.heap.size w w' := by
  by_cases hb : outBad n k
  · have HR := Lib.hid (out_bad hb)
    by_cases c1 : n < 0
    · go_enter Try.func19, Try.ntmps19
      go_wp2
      go_ret2
      exact ⟨ret_two (val_int HR.out.1.symm) (val_int HR.out.2.symm), Below.refl _ _⟩
    · by_cases c2 : 1099511627776 < n
      · go_enter Try.func19, Try.ntmps19
        go_wp2
        go_ret2
        exact ⟨ret_two (val_int HR.out.1.symm) (val_int HR.out.2.symm), Below.refl _ _⟩
      · by_cases c3 : k < 1
        · go_enter Try.func19, Try.ntmps19
          go_wp2
          go_ret2
          exact ⟨ret_two (val_int HR.out.1.symm) (val_int HR.out.2.symm), Below.refl _ _⟩
        · have c4 : 137438953472 < k := by unfold outBad at hb; omega
          clear hb
          go_enter Try.func19, Try.ntmps19
          go_wp2
          go_ret2
          exact ⟨ret_two (val_int HR.out.1.symm) (val_int HR.out.2.symm), Below.refl _ _⟩
  · have HR := Lib.hid (out_ok hb)
    have b1 : 0 ≤ n ∧ n ≤ 1099511627776 ∧ 1 ≤ k ∧ k ≤ 137438953472 := by unfold outBad at hb; omega
    clear hb
    go_enter Try.func19, Try.ntmps19
    go_wp2_with fail
    refine (output_any n k _ (by omega) (by omega)).mono ?_
    rintro e w1 ⟨rfl, hB⟩
    go_wp2
    go_ret2
    exact ⟨ret_two (val_int HR.out.1.symm) (val_int HR.out.2.symm), hB⟩

end Go.Proofs.Ytfdbkpbgkpkckaa
