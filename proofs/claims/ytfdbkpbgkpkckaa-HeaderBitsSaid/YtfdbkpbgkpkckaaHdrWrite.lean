/-
  The walks of header.Write and of its reference (printed by wip/bin/genhdwrite.py).
-/
import Derived.Test.YtfdbkpbgkpkckaaHdrBytesJ
namespace Go.Proofs.Ytfdbkpbgkpkckaa
open Go.RowKit
set_option linter.unusedVariables false
set_option maxRecDepth 100000

/-- The bytes of an encoder's header; the error. -/
def wrB (l wd jb ov : Int) (ck : Bool) : ByteArray := if parE l wd jb ov ≠ 0 then ⟨#[]⟩ else bytB (winP l wd jb ov) (-1) false ck
def wrE (l wd jb ov : Int) : Int := if parE l wd jb ov ≠ 0 then parE l wd jb ov else chkV (winP l wd jb ov) (-1) false

set_option maxHeartbeats 1600000 in
theorem hWrite_any (l wd jb ov : Int) (sy ck : Bool) (w : World) :
    Calls Try.prog 44 #[parV l wd jb ov sy ck] w fun e w' => e = .returned (.tuple #[.string (wrB l wd jb ov ck), .int .i64 (wrE l wd jb ov)]) ∧ Below w.heap.size w w' := by
  have HO := Lib.hid (fun W => hOf_any l wd jb ov sy ck W)
  have hwb := win_bd l wd jb ov
  have HY := Lib.hid (fun W => hBytes_any (winP l wd jb ov) (-1) false ck W (by omega) (by omega))
  have hB0 := below_new (w := w) (.cells #[.int .i64 l, .int .i64 wd, .int .i64 jb, .int .i64 ov, .bool sy, .bool ck] 24)
  by_cases hc : parE l wd jb ov = 0
  · have HW : Hid (wrB l wd jb ov ck = bytB (winP l wd jb ov) (-1) false ck) := if_neg (by simpa using hc)
    have HE : Hid (wrE l wd jb ov = chkV (winP l wd jb ov) (-1) false) := if_neg (by simpa using hc)
    have HV : ofV l wd jb ov ck = hdrVal (winP l wd jb ov) (-1) false ck := if_neg (by simpa using hc)
    rw [hc, HV] at HO
    clear hc HV
    generalize wrB l wd jb ov ck = S at *
    generalize wrE l wd jb ov = E at *
    generalize bytB (winP l wd jb ov) (-1) false ck = bb at *
    generalize chkV (winP l wd jb ov) (-1) false = ce at *
    generalize winP l wd jb ov = wp at *
    unfold hdrVal parV at *
    go_enter Try.func44, Try.ntmps44
    go_wp2_with fail
    refine (HO.out _).mono ?_
    rintro r w1 ⟨rfl, hY⟩
    have hB1 := below_alloc (below_then hB0 hY) (.cells #[.int .i64 wp, .int .i64 (-1), .bool false, .bool ck] 52)
    go_wp2_with fail
    refine (HY.out _).mono ?_
    rintro r w2 ⟨rfl, hY2⟩
    go_wp2_with fail
    go_ret2
    exact ⟨ret_two (by rw [HW.out]; rfl) (val_int HE.out.symm), below_then hB1 hY2⟩
  · have HW : Hid (wrB l wd jb ov ck = ⟨#[]⟩) := if_pos hc
    have HE : Hid (wrE l wd jb ov = parE l wd jb ov) := if_pos hc
    have HV : ofV l wd jb ov ck = hdrVal 0 0 false false := if_pos hc
    rw [HV] at HO
    have g0 : (parE l wd jb ov != 0) = true := by simpa using hc
    clear hc HV HY hwb
    generalize wrB l wd jb ov ck = S at *
    generalize wrE l wd jb ov = E at *
    generalize parE l wd jb ov = pe at *
    unfold hdrVal parV at *
    go_enter Try.func44, Try.ntmps44
    go_wp2_with fail
    refine (HO.out _).mono ?_
    rintro r w1 ⟨rfl, hY⟩
    have hB1 := below_alloc (below_then hB0 hY) (.cells #[.int .i64 0, .int .i64 0, .bool false, .bool false] 52)
    go_wp2_with fail
    go_ret2
    exact ⟨ret_two (by rw [HW.out]; rfl) (val_int HE.out.symm), hB1⟩

set_option maxHeartbeats 1600000 in
theorem rhWrite_any (l wd jb ov : Int) (sy ck : Bool) (w : World) :
    Calls Try.prog 45 #[parV l wd jb ov sy ck] w fun e w' => e = .returned (.tuple #[.string (wrB l wd jb ov ck), .int .i64 (wrE l wd jb ov)]) ∧ Below w.heap.size w w' := by
  have HO := Lib.hid (fun W => rhOf_any l wd jb ov sy ck W)
  have hwb := win_bd l wd jb ov
  have HY := Lib.hid (fun W => rhBytes_any (winP l wd jb ov) (-1) false ck W (by omega) (by omega))
  have hB0 := below_new (w := w) (.cells #[.int .i64 l, .int .i64 wd, .int .i64 jb, .int .i64 ov, .bool sy, .bool ck] 24)
  by_cases hc : parE l wd jb ov = 0
  · have HW : Hid (wrB l wd jb ov ck = bytB (winP l wd jb ov) (-1) false ck) := if_neg (by simpa using hc)
    have HE : Hid (wrE l wd jb ov = chkV (winP l wd jb ov) (-1) false) := if_neg (by simpa using hc)
    have HV : ofV l wd jb ov ck = hdrVal (winP l wd jb ov) (-1) false ck := if_neg (by simpa using hc)
    rw [hc, HV] at HO
    clear hc HV
    generalize wrB l wd jb ov ck = S at *
    generalize wrE l wd jb ov = E at *
    generalize bytB (winP l wd jb ov) (-1) false ck = bb at *
    generalize chkV (winP l wd jb ov) (-1) false = ce at *
    generalize winP l wd jb ov = wp at *
    unfold hdrVal parV at *
    go_enter Try.func45, Try.ntmps45
    go_wp2_with fail
    refine (HO.out _).mono ?_
    rintro r w1 ⟨rfl, hY⟩
    have hB1 := below_alloc (below_then hB0 hY) (.cells #[.int .i64 wp, .int .i64 (-1), .bool false, .bool ck] 52)
    go_wp2_with fail
    refine (HY.out _).mono ?_
    rintro r w2 ⟨rfl, hY2⟩
    go_wp2_with fail
    go_ret2
    exact ⟨ret_two (by rw [HW.out]; rfl) (val_int HE.out.symm), below_then hB1 hY2⟩
  · have HW : Hid (wrB l wd jb ov ck = ⟨#[]⟩) := if_pos hc
    have HE : Hid (wrE l wd jb ov = parE l wd jb ov) := if_pos hc
    have HV : ofV l wd jb ov ck = hdrVal 0 0 false false := if_pos hc
    rw [HV] at HO
    have g0 : (parE l wd jb ov != 0) = true := by simpa using hc
    clear hc HV HY hwb
    generalize wrB l wd jb ov ck = S at *
    generalize wrE l wd jb ov = E at *
    generalize parE l wd jb ov = pe at *
    unfold hdrVal parV at *
    go_enter Try.func45, Try.ntmps45
    go_wp2_with fail
    refine (HO.out _).mono ?_
    rintro r w1 ⟨rfl, hY⟩
    have hB1 := below_alloc (below_then hB0 hY) (.cells #[.int .i64 0, .int .i64 0, .bool false, .bool false] 52)
    go_wp2_with fail
    go_ret2
    exact ⟨ret_two (by rw [HW.out]; rfl) (val_int HE.out.symm), hB1⟩

end Go.Proofs.Ytfdbkpbgkpkckaa
