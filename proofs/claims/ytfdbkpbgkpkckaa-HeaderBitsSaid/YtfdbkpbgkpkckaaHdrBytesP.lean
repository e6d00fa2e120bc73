/-
  The bytes of a header (printed by wip/bin/genhdbytes.py).
-/
import Derived.Test.YtfdbkpbgkpkckaaHdrKind
import Derived.Test.YtfdbkpbgkpkckaaHdrLittle
import Derived.Test.YtfdbkpbgkpkckaaHdrAppend
namespace Go.Proofs.Ytfdbkpbgkpkckaa
open Go.RowKit
set_option linter.unusedVariables false
set_option maxRecDepth 100000

/-- How long the field of the size is, and what it says. -/
def fldN (k : Int) (i : Bool) : Nat := if k = 0 then (if i = true then 1 else 0) else if k = 1 then 2 else if k = 2 then 4 else 8
def fldV (z k : Int) : Int := if k = 1 then z - 256 else z
def topD (k : Int) (u : Bool) : Int := 64 * k + (if u = true then 4 else 0)
def bytesL (w z : Int) (i u : Bool) : List Int :=
  [40, 181, 47, 253] ++ (if i = true then [topD (kindV z i) u + 32] else [topD (kindV z i) u, descV w]) ++ IL.leI (fldV z (kindV z i)) (fldN (kindV z i) i)
def bytB (w z : Int) (i u : Bool) : ByteArray := if chkV w z i ≠ 0 then ⟨#[]⟩ else strOfNums (bytesL w z i u)

theorem fld_run (k : Nat) (hk : k < 4) : ∀ V, (Instr.index 101 (.agg #[.int .i64 0, .int .i64 2, .int .i64 4, .int .i64 8]) (.int .i64 (k : Int))).run Try.prog V = .ok (.int .i64 (if k = 0 then 0 else if k = 1 then 2 else if k = 2 then 4 else 8)) V := fun V => by
  obtain ⟨i0, hi, hz0, hz1, hz2⟩ := info_parts Try.infoInt
  refine run_index_arr (P := Try.prog) V 101 3 4 i0 _ .i64 .i64 k _ Try.underlying101 Try.underlying3 hi hz1 hk ?_
  match k, hk with
  | 0, _ => rfl
  | 1, _ => rfl
  | 2, _ => rfl
  | 3, _ => rfl
theorem chk_ok {w z : Int} {i : Bool} (h : chkV w z i = 0) : 0 ≤ w ∧ w ≤ 134217728 ∧ -1 ≤ z ∧ z ≤ 1099511627776 ∧ (i = true → z = w) ∧ (i = false → 0 ≤ descV w) := by
  unfold chkV at h
  by_cases hb : chkBad w z
  · rw [if_pos hb] at h; cases h
  · rw [if_neg hb] at h
    unfold chkBad at hb
    refine ⟨by omega, by omega, by omega, by omega, fun hi => ?_, fun hi => ?_⟩
    · rw [if_pos hi] at h
      by_cases hz : z = w
      · exact hz
      · rw [if_neg hz] at h; cases h
    · rw [if_neg (by rw [hi]; simp)] at h
      by_cases hz : descV w < 0
      · rw [if_pos hz] at h; cases h
      · omega
theorem field_zero {n : Int} {k : Nat} (h0 : 0 ≤ n) (h : n < 256 ^ k) : n / 256 ^ k = 0 := Int.ediv_eq_zero_of_lt h0 h
theorem little_ok {n : Int} {k : Nat} (h1 : 1 ≤ k) (h2 : k ≤ 8) (h0 : 0 ≤ n) (h : n < 256 ^ k) : IL.little n k = strOfNums (IL.leI n k) ∧ IL.littleE n k = 0 := by
  have hz := field_zero h0 h
  unfold IL.little IL.littleE
  rw [Int.toNat_natCast, if_neg (by omega), if_neg (by omega)]
  exact ⟨rfl, rfl⟩

end Go.Proofs.Ytfdbkpbgkpkckaa
