/-
  The walks of header.Check, header.Block, header.Of and of their references (printed by wip/bin/genhdck.py).
-/
import Derived.Test.YtfdbkpbgkpkckaaHdrDesc
import Derived.Test.YtfdbkpbgkpkckaaHdrRead
import Derived.Test.YtfdbkpbgkpkckaaParamsRef
namespace Go.Proofs.Ytfdbkpbgkpkckaa
open Go.RowKit
set_option linter.unusedVariables false
set_option maxRecDepth 100000

/-- The error of a header: 2 or 0. -/
def chkBad (w z : Int) : Prop := w < 0 ∨ 134217728 < w ∨ z < -1 ∨ 1099511627776 < z
instance (w z : Int) : Decidable (chkBad w z) := by unfold chkBad; infer_instance
def chkV (w z : Int) (i : Bool) : Int := if chkBad w z then 2 else if i = true then (if z = w then 0 else 2) else (if descV w < 0 then 2 else 0)

set_option maxHeartbeats 1600000 in
theorem hCheck_any (w z : Int) (i u : Bool) (W : World) (h1 : -9223372036854775808 ≤ w) (h2 : w ≤ 9223372036854775807) :
    Calls Try.prog 42 #[hdrVal w z i u] W fun r W' => r = .returned (.int .i64 (chkV w z i)) ∧ Below W.heap.size W W' := by
  unfold hdrVal
  by_cases c0 : w < 0
  · have HE : Hid (chkV w z i = 2) := if_pos (by unfold chkBad; omega)
    have g0 : decide (w < 0) = true := decide_eq_true c0
    clear c0
    go_enter Try.func42, Try.ntmps42
    go_wp2_with fail
    go_ret
    exact ⟨ret_int HE.out.symm, below_new _⟩
  by_cases c1 : 134217728 < w
  · have HE : Hid (chkV w z i = 2) := if_pos (by unfold chkBad; omega)
    have g0 : decide (w < 0) = false := decide_eq_false c0
    have g1 : decide (134217728 < w) = true := decide_eq_true c1
    clear c0 c1
    go_enter Try.func42, Try.ntmps42
    go_wp2_with fail
    go_ret
    exact ⟨ret_int HE.out.symm, below_new _⟩
  by_cases c2 : z < -1
  · have HE : Hid (chkV w z i = 2) := if_pos (by unfold chkBad; omega)
    have g0 : decide (w < 0) = false := decide_eq_false c0
    have g1 : decide (134217728 < w) = false := decide_eq_false c1
    have g2 : decide (z < -1) = true := decide_eq_true c2
    clear c0 c1 c2
    go_enter Try.func42, Try.ntmps42
    go_wp2_with fail
    go_ret
    exact ⟨ret_int HE.out.symm, below_new _⟩
  by_cases c3 : 1099511627776 < z
  · have HE : Hid (chkV w z i = 2) := if_pos (by unfold chkBad; omega)
    have g0 : decide (w < 0) = false := decide_eq_false c0
    have g1 : decide (134217728 < w) = false := decide_eq_false c1
    have g2 : decide (z < -1) = false := decide_eq_false c2
    have g3 : decide (1099511627776 < z) = true := decide_eq_true c3
    clear c0 c1 c2 c3
    go_enter Try.func42, Try.ntmps42
    go_wp2_with fail
    go_ret
    exact ⟨ret_int HE.out.symm, below_new _⟩
  have g0 : decide (w < 0) = false := decide_eq_false c0
  have g1 : decide (134217728 < w) = false := decide_eq_false c1
  have g2 : decide (z < -1) = false := decide_eq_false c2
  have g3 : decide (1099511627776 < z) = false := decide_eq_false c3
  have HT : Hid (z = w → chkV w z true = 0) := fun h => by unfold chkV; rw [if_neg (by unfold chkBad; omega), if_pos rfl, if_pos h]
  have HF : Hid (z ≠ w → chkV w z true = 2) := fun h => by unfold chkV; rw [if_neg (by unfold chkBad; omega), if_pos rfl, if_neg h]
  have KT : Hid (descV w < 0 → chkV w z false = 2) := fun h => by unfold chkV; rw [if_neg (by unfold chkBad; omega), if_neg (by simp), if_pos h]
  have KF : Hid (¬ descV w < 0 → chkV w z false = 0) := fun h => by unfold chkV; rw [if_neg (by unfold chkBad; omega), if_neg (by simp), if_neg h]
  have HD := Lib.hid (fun W => descriptor_any w W h1 h2)
  clear c0 c1 c2 c3
  cases i
  · by_cases hd : descV w < 0
    · have HE := Lib.hid (KT.out hd)
      have gd : decide (descV w < 0) = true := decide_eq_true hd
      generalize descV w = dv at *
      clear hd
      go_enter Try.func42, Try.ntmps42
      go_wp2_with fail
      refine (HD.out _).mono ?_
      rintro r W1 ⟨rfl, hB⟩
      go_wp2_with fail
      go_ret
      exact ⟨ret_int HE.out.symm, below_then (below_new _) hB⟩
    · have HE := Lib.hid (KF.out hd)
      have gd : decide (descV w < 0) = false := decide_eq_false hd
      generalize descV w = dv at *
      clear hd
      go_enter Try.func42, Try.ntmps42
      go_wp2_with fail
      refine (HD.out _).mono ?_
      rintro r W1 ⟨rfl, hB⟩
      go_wp2_with fail
      go_ret
      exact ⟨ret_int HE.out.symm, below_then (below_new _) hB⟩
  · by_cases hz : z = w
    · have HE := Lib.hid (HT.out hz)
      have gz : (z != w) = false := by rw [hz]; simp
      clear hz
      go_enter Try.func42, Try.ntmps42
      go_wp2_with fail
      go_ret
      exact ⟨ret_int HE.out.symm, below_new _⟩
    · have HE := Lib.hid (HF.out hz)
      have gz : (z != w) = true := by simpa using hz
      clear hz
      go_enter Try.func42, Try.ntmps42
      go_wp2_with fail
      go_ret
      exact ⟨ret_int HE.out.symm, below_new _⟩

set_option maxHeartbeats 1600000 in
theorem rhCheck_any (w z : Int) (i u : Bool) (W : World) (h1 : -9223372036854775808 ≤ w) (h2 : w ≤ 9223372036854775807) :
    Calls Try.prog 43 #[hdrVal w z i u] W fun r W' => r = .returned (.int .i64 (chkV w z i)) ∧ Below W.heap.size W W' := by
  unfold hdrVal
  by_cases c0 : w < 0
  · have HE : Hid (chkV w z i = 2) := if_pos (by unfold chkBad; omega)
    have g0 : decide (w < 0) = true := decide_eq_true c0
    clear c0
    go_enter Try.func43, Try.ntmps43
    go_wp2_with fail
    go_ret
    exact ⟨ret_int HE.out.symm, below_new _⟩
  by_cases c1 : 134217728 < w
  · have HE : Hid (chkV w z i = 2) := if_pos (by unfold chkBad; omega)
    have g0 : decide (w < 0) = false := decide_eq_false c0
    have g1 : decide (134217728 < w) = true := decide_eq_true c1
    clear c0 c1
    go_enter Try.func43, Try.ntmps43
    go_wp2_with fail
    go_ret
    exact ⟨ret_int HE.out.symm, below_new _⟩
  by_cases c2 : z < -1
  · have HE : Hid (chkV w z i = 2) := if_pos (by unfold chkBad; omega)
    have g0 : decide (w < 0) = false := decide_eq_false c0
    have g1 : decide (134217728 < w) = false := decide_eq_false c1
    have g2 : decide (z < -1) = true := decide_eq_true c2
    clear c0 c1 c2
    go_enter Try.func43, Try.ntmps43
    go_wp2_with fail
    go_ret
    exact ⟨ret_int HE.out.symm, below_new _⟩
  by_cases c3 : 1099511627776 < z
  · have HE : Hid (chkV w z i = 2) := if_pos (by unfold chkBad; omega)
    have g0 : decide (w < 0) = false := decide_eq_false c0
    have g1 : decide (134217728 < w) = false := decide_eq_false c1
    have g2 : decide (z < -1) = false := decide_eq_false c2
    have g3 : decide (1099511627776 < z) = true := decide_eq_true c3
    clear c0 c1 c2 c3
    go_enter Try.func43, Try.ntmps43
    go_wp2_with fail
    go_ret
    exact ⟨ret_int HE.out.symm, below_new _⟩
  have g0 : decide (w < 0) = false := decide_eq_false c0
  have g1 : decide (134217728 < w) = false := decide_eq_false c1
  have g2 : decide (z < -1) = false := decide_eq_false c2
  have g3 : decide (1099511627776 < z) = false := decide_eq_false c3
  have HT : Hid (z = w → chkV w z true = 0) := fun h => by unfold chkV; rw [if_neg (by unfold chkBad; omega), if_pos rfl, if_pos h]
  have HF : Hid (z ≠ w → chkV w z true = 2) := fun h => by unfold chkV; rw [if_neg (by unfold chkBad; omega), if_pos rfl, if_neg h]
  have KT : Hid (descV w < 0 → chkV w z false = 2) := fun h => by unfold chkV; rw [if_neg (by unfold chkBad; omega), if_neg (by simp), if_pos h]
  have KF : Hid (¬ descV w < 0 → chkV w z false = 0) := fun h => by unfold chkV; rw [if_neg (by unfold chkBad; omega), if_neg (by simp), if_neg h]
  have HD := Lib.hid (fun W => described_any w W h2)
  clear c0 c1 c2 c3
  cases i
  · have HI : Hid (descI w = decide (0 ≤ descV w)) := rfl
    generalize descN w = dn at *
    generalize descI w = di at *
    cases di
    · have HE := Lib.hid (KT.out (by have := of_decide_eq_false HI.out.symm; omega))
      go_enter Try.func43, Try.ntmps43
      go_wp2_with fail
      refine (HD.out _).mono ?_
      rintro r W1 ⟨rfl, rfl⟩
      go_wp2_with fail
      go_ret
      exact ⟨ret_int HE.out.symm, below_new _⟩
    · have HE := Lib.hid (KF.out (by have := of_decide_eq_true HI.out.symm; omega))
      go_enter Try.func43, Try.ntmps43
      go_wp2_with fail
      refine (HD.out _).mono ?_
      rintro r W1 ⟨rfl, rfl⟩
      go_wp2_with fail
      go_ret
      exact ⟨ret_int HE.out.symm, below_new _⟩
  · generalize descN w = dn at *
    generalize descI w = di at *
    by_cases hz : z = w
    · have HE := Lib.hid (HT.out hz)
      have gz : (z != w) = false := by rw [hz]; simp
      clear hz
      go_enter Try.func43, Try.ntmps43
      go_wp2_with fail
      refine (HD.out _).mono ?_
      rintro r W1 ⟨rfl, rfl⟩
      go_wp2_with fail
      go_ret
      exact ⟨ret_int HE.out.symm, below_new _⟩
    · have HE := Lib.hid (HF.out hz)
      have gz : (z != w) = true := by simpa using hz
      clear hz
      go_enter Try.func43, Try.ntmps43
      go_wp2_with fail
      refine (HD.out _).mono ?_
      rintro r W1 ⟨rfl, rfl⟩
      go_wp2_with fail
      go_ret
      exact ⟨ret_int HE.out.symm, below_new _⟩

/-- How many bytes a block of a header has at most; the error. -/
def blkN (w z : Int) (i : Bool) : Int := if chkV w z i ≠ 0 then 0 else min w 131072

set_option maxHeartbeats 1600000 in
theorem hBlock_any (w z : Int) (i u : Bool) (W : World) (h1 : -9223372036854775808 ≤ w) (h2 : w ≤ 9223372036854775807) :
    Calls Try.prog 40 #[hdrVal w z i u] W fun r W' => r = .returned (.tuple #[.int .i64 (blkN w z i), .int .i64 (chkV w z i)]) ∧ Below W.heap.size W W' := by
  have HC := Lib.hid (fun W => hCheck_any w z i u W h1 h2)
  have HB0 := Blk.new W #[.int .i64 w, .int .i64 z, .bool i, .bool u] 52
  have hB0 := below_new (w := W) (.cells #[.int .i64 w, .int .i64 z, .bool i, .bool u] 52)
  have HV1 : Hid (chkV w z i ≠ 0 → blkN w z i = 0) := fun h => if_pos h
  have HV2 : Hid (chkV w z i = 0 → blkN w z i = min w 131072) := fun h => if_neg (by simpa using h)
  generalize blkN w z i = b at *
  generalize chkV w z i = c at *
  unfold hdrVal at *
  go_enter Try.func40, Try.ntmps40
  go_wp2_with fail
  refine (HC.out _).mono ?_
  rintro r W1 ⟨rfl, hB⟩
  have HB1 := HB0.keep' hB
  have hB1 := below_then hB0 hB
  have k0 := HB1.cell 0 rfl
  clear HB0 hB0
  by_cases hc : c = 0
  · have HV := Lib.hid (HV2.out hc)
    have g0 : (c != 0) = false := by rw [hc]; rfl
    have H0 := Lib.hid hc
    by_cases hm : w ≤ 131072
    · have hm1 : min w 131072 = w := by omega
      clear hc
      go_wp2_with fail
      go_ret2
      exact ⟨ret_two (val_int (by rw [HV.out]; first | rfl | omega)) (val_int H0.out.symm), hB1⟩
    · have hm1 : min w 131072 = 131072 := by omega
      clear hc
      go_wp2_with fail
      go_ret2
      exact ⟨ret_two (val_int (by rw [HV.out]; first | rfl | omega)) (val_int H0.out.symm), hB1⟩
  · have HV := Lib.hid (HV1.out hc)
    have g0 : (c != 0) = true := by simpa using hc
    clear hc
    go_wp2_with fail
    go_ret2
    exact ⟨ret_two (val_int HV.out.symm) rfl, hB1⟩

set_option maxHeartbeats 1600000 in
theorem rhBlock_any (w z : Int) (i u : Bool) (W : World) (h1 : -9223372036854775808 ≤ w) (h2 : w ≤ 9223372036854775807) :
    Calls Try.prog 41 #[hdrVal w z i u] W fun r W' => r = .returned (.tuple #[.int .i64 (blkN w z i), .int .i64 (chkV w z i)]) ∧ Below W.heap.size W W' := by
  have HC := Lib.hid (fun W => rhCheck_any w z i u W h1 h2)
  have HB0 := Blk.new W #[.int .i64 w, .int .i64 z, .bool i, .bool u] 52
  have hB0 := below_new (w := W) (.cells #[.int .i64 w, .int .i64 z, .bool i, .bool u] 52)
  have HV1 : Hid (chkV w z i ≠ 0 → blkN w z i = 0) := fun h => if_pos h
  have HV2 : Hid (chkV w z i = 0 → blkN w z i = min w 131072) := fun h => if_neg (by simpa using h)
  generalize blkN w z i = b at *
  generalize chkV w z i = c at *
  unfold hdrVal at *
  go_enter Try.func41, Try.ntmps41
  go_wp2_with fail
  refine (HC.out _).mono ?_
  rintro r W1 ⟨rfl, hB⟩
  have HB1 := HB0.keep' hB
  have hB1 := below_then hB0 hB
  have k0 := HB1.cell 0 rfl
  clear HB0 hB0
  by_cases hc : c = 0
  · have HV := Lib.hid (HV2.out hc)
    have g0 : (c != 0) = false := by rw [hc]; rfl
    have H0 := Lib.hid hc
    by_cases hm : w ≤ 131072
    · have hm1 : min w 131072 = w := by omega
      clear hc
      go_wp2_with fail
      go_ret2
      exact ⟨ret_two (val_int (by rw [HV.out]; first | rfl | omega)) (val_int H0.out.symm), hB1⟩
    · have hm1 : min w 131072 = 131072 := by omega
      clear hc
      go_wp2_with fail
      go_ret2
      exact ⟨ret_two (val_int (by rw [HV.out]; first | rfl | omega)) (val_int H0.out.symm), hB1⟩
  · have HV := Lib.hid (HV1.out hc)
    have g0 : (c != 0) = true := by simpa using hc
    clear hc
    go_wp2_with fail
    go_ret2
    exact ⟨ret_two (val_int HV.out.symm) rfl, hB1⟩

end Go.Proofs.Ytfdbkpbgkpkckaa
