/-
  The walk of the reference's end.
-/
import Derived.Test.YtboajmnckldmiaaXxhMath
import Derived.Test.YtboajmnckldmiaaXxhEnded
import Derived.WalkMore
import Derived.Deep.QuietTactic
import Derived.BigQuiet
namespace Go.Proofs.Ytboajmnckldmiaa
open Go.RowKit
set_option linter.unusedVariables false
set_option maxRecDepth 100000

theorem ext_zero (r : ByteArray) : r.extract 0 r.size = r := by apply ByteArray.ext; simp
theorem ext_ext (r : ByteArray) (k : Nat) : (r.extract k r.size).extract 1 (r.extract k r.size).size = r.extract (k + 1) r.size := by
  apply ByteArray.ext
  simp only [ByteArray.data_extract, ByteArray.size_extract]
  apply Array.ext'
  simp only [Array.toList_extract, List.extract]
  have hs : r.data.toList.length = r.size := by simp
  rw [List.take_of_length_le (l := List.drop k r.data.toList) (by rw [List.length_drop]; omega), List.drop_drop, List.take_of_length_le (by rw [List.length_drop]; omega), List.take_of_length_le (by rw [List.length_drop]; omega)]
theorem sb_ext (r : ByteArray) (k : Nat) (h : k < r.size) : sb (r.extract k r.size) 0 = sb r k := by
  have h1 : 0 < (r.extract k r.size).size := by rw [ByteArray.size_extract]; omega
  rw [← sb_get _ 0 h1, ← sb_get _ k h, ByteArray.getElem_extract]; rfl

set_option maxHeartbeats 8000000 in
theorem rend_lo (la lb lc ld t : Int) (s : ByteArray) (sd : Int) (w : World) (hl : LanIn ⟨la, lb, lc, ld⟩) (ht0 : 0 ≤ t ∧ t < 32) (hsd : 0 ≤ sd ∧ sd ≤ 18446744073709551615) (hs : s.size ≤ 9223372036854775807) :
    Calls Try.prog 64 #[.agg #[.int .u64 la, .int .u64 lb, .int .u64 lc, .int .u64 ld], .int .i64 t, .string s, .int .u64 sd] w fun e w' => e = .returned (.int .u64 (sumV ⟨la, lb, lc, ld⟩ t s sd)) ∧ Below w.heap.size w w' := by
  have HSUM : Hid (sumV ⟨la, lb, lc, ld⟩ t s sd = finV (restV (addV (addV sd pE) t) s)) := by show _ = _; unfold sumV; rw [if_neg (by omega)]; rfl
  have HCt : Hid (IntKind.u64.wrap t = t) := IntWalk.u64_in _ (by omega)
  have HH : Hid (IntKind.u64.wrap (IntKind.u64.wrap (sd + 2870177450012600261) + t) = addV (addV sd pE) t) := rfl
  have hHb := addV_in (addV sd pE) t
  have HB0 : Hid (Below w.heap.size w (w.alloc (.cells #[.int .u64 la, .int .u64 lb, .int .u64 lc, .int .u64 ld] 47))) := below_new _
  generalize addV (addV sd pE) t = H at *
  have g32 : ¬ (32 : Int) ≤ t := by omega
  go_enter Try.func64, Try.ntmps64
  go_wp2
  go_loopw [9, 2] (fun hv rv wr => ∃ (h : Int) (r : ByteArray), hv = .int .u64 h ∧ rv = .string r ∧ (0 ≤ h ∧ h ≤ 18446744073709551615) ∧ r.size ≤ 9223372036854775807 ∧ Hid (restV h r = restV H s) ∧ Below w.heap.size w wr) (fun _ rv _ => match rv with | .string r => r.size | _ => 0)
  case atStart => exact ⟨H, s, by first | exact val_int HH.out | exact val_int (by rw [HCt.out]; exact HH.out), rfl, hHb, hs, Lib.hid rfl, HB0.out⟩
  case round =>
    obtain ⟨h, r, rfl, rfl, hb, hr, HR, hB⟩ := hrel
    have he8 := ext_in r 8 hr
    have he4 := ext_in r 4 hr
    by_cases h8 : 8 ≤ r.size
    · have HV := Lib.hid (restV_8 h r h8)
      have f0 := rd_lo r 0 8
      obtain ⟨x, hx⟩ : ∃ x, rd r 0 8 = x := ⟨_, rfl⟩
      have HF := Lib.hid (fun W => rfield_any r 0 8 W (by omega) (by omega) hr)
      rw [hx] at HF f0
      have HG := Lib.hid (fun W => rround_any 0 x W (by omega) (by omega))
      have H8 : Hid (rest8 h r = addV (mulV (turnV (xorV h (roundV 0 x)) 27) pA) pD) := by show _ = _; unfold rest8; rw [hx]
      clear hx f0
      have hy := roundV_in 0 x
      generalize roundV 0 x = y at *
      have hX := xorV_in h y
      have HT := Lib.hid (fun W => turn_any (xorV h y) 27 W hX (by omega))
      have ht := turnV_in (xorV h y) 27
      have HXX : Hid (bits .xor .u64 h y = xorV h y) := rfl
      generalize xorV h y = z at *
      generalize turnV z 27 = t at *
      have h8r := rest8_in h r
      generalize rest8 h r = q at *
      have HP : Hid (IntKind.u64.wrap (mulV t 11400714785074694791 + 9650029242287828579) = q) := H8.out.symm
      have g8 : (8 : Int) ≤ (r.size : Int) := by omega
      have hz := ext_lt r 8 (by omega) (by omega)
      go_wp2_with fail
      refine (HF.out _).mono ?_
      rintro e w1 ⟨rfl, hB1⟩
      go_wp2_with fail
      refine (HG.out _).mono ?_
      rintro e w2 ⟨rfl, rfl⟩
      go_wp2_with fail
      rw [HXX.out]
      refine (HT.out _).mono ?_
      rintro e w2 ⟨rfl, rfl⟩
      go_wp2_with fail
      refine (times_any _ _ _).mono ?_
      rintro e w2 ⟨rfl, rfl⟩
      go_wp2
      go_roundw
      case rel => exact ⟨q, r.extract 8 r.size, val_int HP.out, rfl, h8r, he8, Lib.hid (HV.out.symm.trans HR.out), below_then hB hB1⟩
      case measure => exact hz
    · by_cases h4 : 4 ≤ r.size
      · have HV := Lib.hid (restV_4 h r (by omega) h4)
        have f0 := rd_lo r 0 4
        obtain ⟨x, hx⟩ : ∃ x, rd r 0 4 = x := ⟨_, rfl⟩
        have HF := Lib.hid (fun W => rfield_any r 0 4 W (by omega) (by omega) hr)
        rw [hx] at HF f0
        have H8 : Hid (rest4 h r = addV (mulV (turnV (xorV h (mulV x pA)) 23) pB) pC) := by show _ = _; unfold rest4; rw [hx]
        clear hx
        have hy := mulV_in x pA
        have HY : Hid (mulV x 11400714785074694791 = mulV x pA) := rfl
        generalize mulV x pA = y at *
        have hX := xorV_in h y
        have HT := Lib.hid (fun W => turn_any (xorV h y) 23 W hX (by omega))
        have ht := turnV_in (xorV h y) 23
        have HXX : Hid (bits .xor .u64 h y = xorV h y) := rfl
        generalize xorV h y = z at *
        generalize turnV z 23 = t at *
        have h8r := rest4_in h r
        generalize rest4 h r = q at *
        have HP : Hid (IntKind.u64.wrap (mulV t 14029467366897019727 + 1609587929392839161) = q) := H8.out.symm
        have g8 : ¬ (8 : Int) ≤ (r.size : Int) := by omega
        have g4 : (4 : Int) ≤ (r.size : Int) := by omega
        go_wp2_with fail
        refine (HF.out _).mono ?_
        rintro e w1 ⟨rfl, hB1⟩
        go_wp2_with fail
        refine (times_any _ _ _).mono ?_
        rintro e w2 ⟨rfl, rfl⟩
        rw [HY.out]
        go_wp2_with fail
        rw [HXX.out]
        refine (HT.out _).mono ?_
        rintro e w2 ⟨rfl, rfl⟩
        go_wp2_with fail
        refine (times_any _ _ _).mono ?_
        rintro e w2 ⟨rfl, rfl⟩
        go_wp2
        have HQR := Lib.hid (HV.out.symm.trans HR.out)
        have HQ3 := Lib.hid (And.intro (show (r.extract 4 r.size).size < 4 by rw [ByteArray.size_extract]; omega) he4)
        generalize r.extract 4 r.size = r3 at *
        clear HV HR H8 h8 h4 g8 g4 he8 he4
        have hr3 := HQ3.out.1
        have hl3 := HQ3.out.2
        go_loopw [9, 11] (fun hv iv wr => ∃ (h : Int) (k : Nat), hv = .int .u64 h ∧ iv = .int .i64 k ∧ k ≤ r3.size ∧ (0 ≤ h ∧ h ≤ 18446744073709551615) ∧ Hid (restV h (r3.extract k r3.size) = restV H s) ∧ Below w.heap.size w wr) (fun _ iv _ => r3.size - (intOf iv).toNat)
        case atStart => exact ⟨_, 0, val_int HP.out, rfl, Nat.zero_le _, h8r, Lib.hid (by rw [ext_zero]; exact HQR.out), below_then hB hB1⟩
        case round =>
          obtain ⟨h, k, rfl, rfl, hk, hb, HR, hB⟩ := hrel
          by_cases hlt : k < r3.size
          · have HV := Lib.hid (restV_1 h (r3.extract k r3.size) (by rw [ByteArray.size_extract]; omega) (by rw [ByteArray.size_extract]; omega))
            rw [ext_ext, sb_ext _ _ hlt] at HV
            obtain ⟨x, hx⟩ : ∃ x, sb r3 k = x := ⟨_, rfl⟩
            have HS := Lib.hid (sb_get r3 k hlt)
            have f0 := sb_lo r3 k
            rw [hx] at HV HS f0
            have H8 : Hid (rest1 h x = mulV (turnV (xorV h (mulV x pE)) 11) pA) := rfl
            have HC : Hid (IntKind.u64.wrap x = x) := IntWalk.u64_in _ (by omega)
            clear hx
            have hy := mulV_in x pE
            have hX := xorV_in h (mulV x pE)
            have HT := Lib.hid (fun W => turn_any (xorV h (mulV x pE)) 11 W hX (by omega))
            have HXX : Hid (bits .xor .u64 h (mulV x pE) = xorV h (mulV x pE)) := rfl
            have h8r := rest1_in h x
            have HP : Hid (mulV (turnV (xorV h (mulV x pE)) 11) 11400714785074694791 = rest1 h x) := rfl
            have HMY : Hid (mulV x 2870177450012600261 = mulV x pE) := rfl
            generalize rest1 h x = q at *
            generalize xorV h (mulV x pE) = z at *
            generalize mulV x pE = y at *
            generalize turnV z 11 = t at *
            have g1 : (k : Int) < (r3.size : Int) := by omega
            have g2 : (0 : Int) ≤ (k : Int) := by omega
            go_wp2_with fail
            rw [HS.out, HC.out]
            refine (times_any _ _ _).mono ?_
            rintro e w2 ⟨rfl, rfl⟩
            rw [HMY.out]
            go_wp2_with fail
            rw [HXX.out]
            refine (HT.out _).mono ?_
            rintro e w2 ⟨rfl, rfl⟩
            go_wp2_with fail
            refine (times_any _ _ _).mono ?_
            rintro e w2 ⟨rfl, rfl⟩
            go_wp2
            go_roundw
            case rel => exact ⟨q, k + 1, val_int HP.out, by go_num, by omega, h8r, Lib.hid (HV.out.symm.trans HR.out), hB⟩
            case measure => simp [intOf]; omega
          · obtain rfl : k = r3.size := by omega
            have HV := Lib.hid (restV_0 h (r3.extract r3.size r3.size) (by rw [ByteArray.size_extract]; omega))
            have HE : Hid (finV (restV H s) = finC (finB (finA h))) := by
              show _ = _
              rw [← HR.out, HV.out]; rfl
            have f1 : 0 ≤ finA h ∧ finA h ≤ 18446744073709551615 := mulV_in _ _
            have f2 : 0 ≤ finB (finA h) ∧ finB (finA h) ≤ 18446744073709551615 := mulV_in _ _
            have F1 : Hid (mulV (bits .xor .u64 h (h / 8589934592)) 14029467366897019727 = finA h) := rfl
            have F2 : Hid (mulV (bits .xor .u64 (finA h) (finA h / 536870912)) 1609587929392839161 = finB (finA h)) := rfl
            have F3 : Hid (bits .xor .u64 (finB (finA h)) (finB (finA h) / 4294967296) = finC (finB (finA h))) := rfl
            generalize finC (finB (finA h)) = y3 at *
            generalize finB (finA h) = y2 at *
            generalize finA h = y1 at *
            go_wp2_with fail
            refine (times_any _ _ _).mono ?_
            rintro e w2 ⟨rfl, rfl⟩
            rw [F1.out]
            go_wp2_with fail
            refine (times_any _ _ _).mono ?_
            rintro e w2 ⟨rfl, rfl⟩
            rw [F2.out]
            go_wp2
            go_ret
            refine ⟨ret_int ?_, hB⟩
            rw [HSUM.out, HE.out, ← F3.out]
      · have g8 : ¬ (8 : Int) ≤ (r.size : Int) := by omega
        have g4 : ¬ (4 : Int) ≤ (r.size : Int) := by omega
        have HQ3 := Lib.hid (And.intro (show r.size < 4 by omega) hr)
        go_wp2
        clear h8 h4 g8 g4 he8 he4
        have hr3 := HQ3.out.1
        have hl3 := HQ3.out.2
        go_loopw [9, 11] (fun hv iv wr => ∃ (h : Int) (k : Nat), hv = .int .u64 h ∧ iv = .int .i64 k ∧ k ≤ r.size ∧ (0 ≤ h ∧ h ≤ 18446744073709551615) ∧ Hid (restV h (r.extract k r.size) = restV H s) ∧ Below w.heap.size w wr) (fun _ iv _ => r.size - (intOf iv).toNat)
        case atStart => exact ⟨_, 0, rfl, rfl, Nat.zero_le _, hb, Lib.hid (by rw [ext_zero]; exact HR.out), hB⟩
        case round =>
          obtain ⟨h, k, rfl, rfl, hk, hb, HR, hB⟩ := hrel
          by_cases hlt : k < r.size
          · have HV := Lib.hid (restV_1 h (r.extract k r.size) (by rw [ByteArray.size_extract]; omega) (by rw [ByteArray.size_extract]; omega))
            rw [ext_ext, sb_ext _ _ hlt] at HV
            obtain ⟨x, hx⟩ : ∃ x, sb r k = x := ⟨_, rfl⟩
            have HS := Lib.hid (sb_get r k hlt)
            have f0 := sb_lo r k
            rw [hx] at HV HS f0
            have H8 : Hid (rest1 h x = mulV (turnV (xorV h (mulV x pE)) 11) pA) := rfl
            have HC : Hid (IntKind.u64.wrap x = x) := IntWalk.u64_in _ (by omega)
            clear hx
            have hy := mulV_in x pE
            have hX := xorV_in h (mulV x pE)
            have HT := Lib.hid (fun W => turn_any (xorV h (mulV x pE)) 11 W hX (by omega))
            have HXX : Hid (bits .xor .u64 h (mulV x pE) = xorV h (mulV x pE)) := rfl
            have h8r := rest1_in h x
            have HP : Hid (mulV (turnV (xorV h (mulV x pE)) 11) 11400714785074694791 = rest1 h x) := rfl
            have HMY : Hid (mulV x 2870177450012600261 = mulV x pE) := rfl
            generalize rest1 h x = q at *
            generalize xorV h (mulV x pE) = z at *
            generalize mulV x pE = y at *
            generalize turnV z 11 = t at *
            have g1 : (k : Int) < (r.size : Int) := by omega
            have g2 : (0 : Int) ≤ (k : Int) := by omega
            go_wp2_with fail
            rw [HS.out, HC.out]
            refine (times_any _ _ _).mono ?_
            rintro e w2 ⟨rfl, rfl⟩
            rw [HMY.out]
            go_wp2_with fail
            rw [HXX.out]
            refine (HT.out _).mono ?_
            rintro e w2 ⟨rfl, rfl⟩
            go_wp2_with fail
            refine (times_any _ _ _).mono ?_
            rintro e w2 ⟨rfl, rfl⟩
            go_wp2
            go_roundw
            case rel => exact ⟨q, k + 1, val_int HP.out, by go_num, by omega, h8r, Lib.hid (HV.out.symm.trans HR.out), hB⟩
            case measure => simp [intOf]; omega
          · obtain rfl : k = r.size := by omega
            have HV := Lib.hid (restV_0 h (r.extract r.size r.size) (by rw [ByteArray.size_extract]; omega))
            have HE : Hid (finV (restV H s) = finC (finB (finA h))) := by
              show _ = _
              rw [← HR.out, HV.out]; rfl
            have f1 : 0 ≤ finA h ∧ finA h ≤ 18446744073709551615 := mulV_in _ _
            have f2 : 0 ≤ finB (finA h) ∧ finB (finA h) ≤ 18446744073709551615 := mulV_in _ _
            have F1 : Hid (mulV (bits .xor .u64 h (h / 8589934592)) 14029467366897019727 = finA h) := rfl
            have F2 : Hid (mulV (bits .xor .u64 (finA h) (finA h / 536870912)) 1609587929392839161 = finB (finA h)) := rfl
            have F3 : Hid (bits .xor .u64 (finB (finA h)) (finB (finA h) / 4294967296) = finC (finB (finA h))) := rfl
            generalize finC (finB (finA h)) = y3 at *
            generalize finB (finA h) = y2 at *
            generalize finA h = y1 at *
            go_wp2_with fail
            refine (times_any _ _ _).mono ?_
            rintro e w2 ⟨rfl, rfl⟩
            rw [F1.out]
            go_wp2_with fail
            refine (times_any _ _ _).mono ?_
            rintro e w2 ⟨rfl, rfl⟩
            rw [F2.out]
            go_wp2
            go_ret
            refine ⟨ret_int ?_, hB⟩
            rw [HSUM.out, HE.out, ← F3.out]

end Go.Proofs.Ytboajmnckldmiaa
