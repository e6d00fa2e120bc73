/-
  header.Bytes and its reference return the bytes of a header (printed by wip/bin/genhdbytesr.py).
-/
import Derived.Test.YtfdbkpbgkpkckaaHdrBytesA
import Derived.Test.YtfdbkpbgkpkckaaHdrBytesB
import Derived.Test.YtfdbkpbgkpkckaaHdrBytesR
import Derived.Test.YtfdbkpbgkpkckaaHdrBytesS
namespace Go.Proofs.Ytfdbkpbgkpkckaa
open Go.RowKit
set_option linter.unusedVariables false
set_option maxRecDepth 100000

set_option maxHeartbeats 1600000 in
theorem hBytes_bad (w z : Int) (i u : Bool) (W : World) (h1 : -9223372036854775808 ≤ w) (h2 : w ≤ 9223372036854775807) (hc : chkV w z i ≠ 0) :
    Calls Try.prog 38 #[hdrVal w z i u] W fun r W' => r = .returned (.tuple #[.string (bytB w z i u), .int .i64 (chkV w z i)]) ∧ Below W.heap.size W W' := by
  have HS : Hid (bytB w z i u = ⟨#[]⟩) := if_pos hc
  have HC := Lib.hid (fun W => hCheck_any w z i u W h1 h2)
  have g0 : (chkV w z i != 0) = true := by simpa using hc
  generalize bytB w z i u = S at *
  generalize chkV w z i = c at *
  have hB0 := below_new (w := W) (.cells #[.int .i64 w, .int .i64 z, .bool i, .bool u] 52)
  unfold hdrVal at *
  clear hc
  go_enter Try.func38, Try.ntmps38
  go_wp2_with fail
  refine (HC.out _).mono ?_
  rintro r W1 ⟨rfl, hY⟩
  have hB1 := below_then hB0 hY
  go_wp2_with fail
  go_ret2
  exact ⟨ret_two (by rw [HS.out]; rfl) rfl, hB1⟩

set_option maxHeartbeats 1600000 in
theorem rhBytes_bad (w z : Int) (i u : Bool) (W : World) (h1 : -9223372036854775808 ≤ w) (h2 : w ≤ 9223372036854775807) (hc : chkV w z i ≠ 0) :
    Calls Try.prog 39 #[hdrVal w z i u] W fun r W' => r = .returned (.tuple #[.string (bytB w z i u), .int .i64 (chkV w z i)]) ∧ Below W.heap.size W W' := by
  have HS : Hid (bytB w z i u = ⟨#[]⟩) := if_pos hc
  have HC := Lib.hid (fun W => rhCheck_any w z i u W h1 h2)
  have g0 : (chkV w z i != 0) = true := by simpa using hc
  generalize bytB w z i u = S at *
  generalize chkV w z i = c at *
  have hB0 := below_new (w := W) (.cells #[.int .i64 w, .int .i64 z, .bool i, .bool u] 52)
  unfold hdrVal at *
  clear hc
  go_enter Try.func39, Try.ntmps39
  go_wp2_with fail
  refine (HC.out _).mono ?_
  rintro r W1 ⟨rfl, hY⟩
  have hB1 := below_then hB0 hY
  go_wp2_with fail
  go_ret2
  exact ⟨ret_two (by rw [HS.out]; rfl) rfl, hB1⟩

theorem hBytes_any (w z : Int) (i u : Bool) (W : World) (h1 : -9223372036854775808 ≤ w) (h2 : w ≤ 9223372036854775807) :
    Calls Try.prog 38 #[hdrVal w z i u] W fun r W' => r = .returned (.tuple #[.string (bytB w z i u), .int .i64 (chkV w z i)]) ∧ Below W.heap.size W W' := by
  by_cases hc : chkV w z i = 0
  · rw [hc]
    have hck := chk_ok hc
    cases i
    · by_cases ha : z < 0
      · cases u
        · exact hBytes_ff0 w z W hc (by omega)
        · exact hBytes_ft0 w z W hc (by omega)
      by_cases hb : 256 ≤ z ∧ z < 65792
      · cases u
        · exact hBytes_ff1 w z W hc (by omega)
        · exact hBytes_ft1 w z W hc (by omega)
      by_cases hd : z < 4294967296
      · cases u
        · exact hBytes_ff2 w z W hc (by omega)
        · exact hBytes_ft2 w z W hc (by omega)
      · cases u
        · exact hBytes_ff3 w z W hc (by omega)
        · exact hBytes_ft3 w z W hc (by omega)
    · have hzw := hck.2.2.2.2.1 rfl
      by_cases ha : z < 256
      · cases u
        · exact hBytes_tf0 w z W hc (by omega)
        · exact hBytes_tt0 w z W hc (by omega)
      by_cases hb : 256 ≤ z ∧ z < 65792
      · cases u
        · exact hBytes_tf1 w z W hc (by omega)
        · exact hBytes_tt1 w z W hc (by omega)
      by_cases hd : z < 4294967296
      · cases u
        · exact hBytes_tf2 w z W hc (by omega)
        · exact hBytes_tt2 w z W hc (by omega)
      · cases u
        · exact hBytes_tf3 w z W hc (by omega)
        · exact hBytes_tt3 w z W hc (by omega)
  · exact hBytes_bad w z i u W h1 h2 hc

theorem rhBytes_any (w z : Int) (i u : Bool) (W : World) (h1 : -9223372036854775808 ≤ w) (h2 : w ≤ 9223372036854775807) :
    Calls Try.prog 39 #[hdrVal w z i u] W fun r W' => r = .returned (.tuple #[.string (bytB w z i u), .int .i64 (chkV w z i)]) ∧ Below W.heap.size W W' := by
  by_cases hc : chkV w z i = 0
  · rw [hc]
    have hck := chk_ok hc
    cases i
    · by_cases ha : z < 0
      · cases u
        · exact rhBytes_ff0 w z W hc (by omega)
        · exact rhBytes_ft0 w z W hc (by omega)
      by_cases hb : 256 ≤ z ∧ z < 65792
      · cases u
        · exact rhBytes_ff1 w z W hc (by omega)
        · exact rhBytes_ft1 w z W hc (by omega)
      by_cases hd : z < 4294967296
      · cases u
        · exact (by
          by_cases hq : z < 256
          · exact rhBytes_ff2a w z W hc (by omega) hq
          · exact rhBytes_ff2b w z W hc (by omega) (by omega))
        · exact (by
          by_cases hq : z < 256
          · exact rhBytes_ft2a w z W hc (by omega) hq
          · exact rhBytes_ft2b w z W hc (by omega) (by omega))
      · cases u
        · exact rhBytes_ff3 w z W hc (by omega)
        · exact rhBytes_ft3 w z W hc (by omega)
    · have hzw := hck.2.2.2.2.1 rfl
      by_cases ha : z < 256
      · cases u
        · exact rhBytes_tf0 w z W hc (by omega)
        · exact rhBytes_tt0 w z W hc (by omega)
      by_cases hb : 256 ≤ z ∧ z < 65792
      · cases u
        · exact rhBytes_tf1 w z W hc (by omega)
        · exact rhBytes_tt1 w z W hc (by omega)
      by_cases hd : z < 4294967296
      · cases u
        · exact rhBytes_tf2 w z W hc (by omega)
        · exact rhBytes_tt2 w z W hc (by omega)
      · cases u
        · exact rhBytes_tf3 w z W hc (by omega)
        · exact rhBytes_tt3 w z W hc (by omega)
  · exact rhBytes_bad w z i u W h1 h2 hc

end Go.Proofs.Ytfdbkpbgkpkckaa
