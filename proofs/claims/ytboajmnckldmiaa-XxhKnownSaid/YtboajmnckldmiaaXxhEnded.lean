/-
  The walk of xxh.ended.
-/
import Derived.Test.YtboajmnckldmiaaXxhMath
import Derived.WalkMore
namespace Go.Proofs.Ytboajmnckldmiaa
open Go.RowKit
set_option linter.unusedVariables false
set_option maxRecDepth 100000

theorem ext_in (r : ByteArray) (k : Nat) (h : r.size ≤ 9223372036854775807) : (r.extract k r.size).size ≤ 9223372036854775807 := by rw [ByteArray.size_extract]; omega
theorem ext_lt (r : ByteArray) (k : Nat) (h : 1 ≤ r.size) (hk : 1 ≤ k) : (r.extract k r.size).size < r.size := by rw [ByteArray.size_extract]; omega

set_option maxHeartbeats 4000000 in
theorem ended_any (h0 : Int) (s : ByteArray) (w : World) (hh : 0 ≤ h0 ∧ h0 ≤ 18446744073709551615) (hs : s.size ≤ 9223372036854775807) :
    Calls Try.prog 73 #[.int .u64 h0, .string s] w fun e w' => e = .returned (.int .u64 (endV h0 s)) ∧ Below w.heap.size w w' := by
  go_enter Try.func73, Try.ntmps73
  go_wp2
  go_step3
  go_wp2
  go_step3
  go_wp2
  go_loopw [0, 1] (fun hv rv wr => ∃ (h : Int) (r : ByteArray), hv = .int .u64 h ∧ rv = .string r ∧ (0 ≤ h ∧ h ≤ 18446744073709551615) ∧ r.size ≤ 9223372036854775807 ∧ Hid (restV h r = restV h0 s) ∧ Below w.heap.size w wr) (fun _ rv _ => match rv with | .string r => r.size | _ => 0)
  case atStart => exact ⟨h0, s, rfl, rfl, hh, hs, Lib.hid rfl, Below.refl _ _⟩
  case round =>
    obtain ⟨h, r, rfl, rfl, hb, hr, HR, hB⟩ := hrel
    have he8 := ext_in r 8 hr
    have he4 := ext_in r 4 hr
    have he1 := ext_in r 1 hr
    by_cases h8 : 8 ≤ r.size
    · have HV := Lib.hid (restV_8 h r h8)
      have f0 := rd_lo r 0 8
      obtain ⟨x, hx⟩ : ∃ x, rd r 0 8 = x := ⟨_, rfl⟩
      have HF := Lib.hid (fun W => field_any r 8 W (by omega) h8 hr)
      rw [hx] at HF f0
      have HG := Lib.hid (fun W => round_any 0 x W (by omega) (by omega))
      have H8 : Hid (rest8 h r = addV (mulV (turnV (xorV h (roundV 0 x)) 27) pA) pD) := by show _ = _; unfold rest8; rw [hx]
      clear hx f0
      have hy := roundV_in 0 x
      generalize roundV 0 x = y at *
      have hX := xorV_in h y
      have HT := Lib.hid (fun W => rotl_any (xorV h y) 27 W hX (by omega))
      have ht := turnV_in (xorV h y) 27
      have HXX : Hid (bits .xor .u64 h y = xorV h y) := rfl
      generalize xorV h y = z at *
      generalize turnV z 27 = t at *
      have h8r := rest8_in h r
      generalize rest8 h r = q at *
      have HP : Hid (IntKind.u64.wrap (IntKind.u64.wrap (t * 11400714785074694791) + 9650029242287828579) = q) := H8.out.symm
      have g8 : (8 : Int) ≤ (r.size : Int) := by omega
      have hz := ext_lt r 8 (by omega) (by omega)
      go_wp2_with fail
      refine (HF.out _).mono ?_
      rintro e w1 ⟨rfl, hB1⟩
      go_wp2_with fail
      refine (HG.out _).mono ?_
      rintro e w2 ⟨rfl, rfl⟩
      go_wp2_with fail
      rw [HXX.out]
      refine (HT.out _).mono ?_
      rintro e w2 ⟨rfl, rfl⟩
      go_wp2
      go_roundw
      case rel => exact ⟨q, r.extract 8 r.size, val_int HP.out, rfl, h8r, he8, Lib.hid (HV.out.symm.trans HR.out), below_then hB hB1⟩
      case measure => exact hz
    · by_cases h4 : 4 ≤ r.size
      · have HV := Lib.hid (restV_4 h r (by omega) h4)
        have f0 := rd_lo r 0 4
        obtain ⟨x, hx⟩ : ∃ x, rd r 0 4 = x := ⟨_, rfl⟩
        have HF := Lib.hid (fun W => field_any r 4 W (by omega) h4 hr)
        rw [hx] at HF f0
        have H8 : Hid (rest4 h r = addV (mulV (turnV (xorV h (mulV x pA)) 23) pB) pC) := by show _ = _; unfold rest4; rw [hx]
        clear hx
        have hy := mulV_in x pA
        have HY : Hid (IntKind.u64.wrap (x * 11400714785074694791) = mulV x pA) := rfl
        generalize mulV x pA = y at *
        have hX := xorV_in h y
        have HT := Lib.hid (fun W => rotl_any (xorV h y) 23 W hX (by omega))
        have ht := turnV_in (xorV h y) 23
        have HXX : Hid (bits .xor .u64 h y = xorV h y) := rfl
        generalize xorV h y = z at *
        generalize turnV z 23 = t at *
        have h8r := rest4_in h r
        generalize rest4 h r = q at *
        have HP : Hid (IntKind.u64.wrap (IntKind.u64.wrap (t * 14029467366897019727) + 1609587929392839161) = q) := H8.out.symm
        have g8 : ¬ (8 : Int) ≤ (r.size : Int) := by omega
        have g4 : (4 : Int) ≤ (r.size : Int) := by omega
        have hz := ext_lt r 4 (by omega) (by omega)
        go_wp2_with fail
        refine (HF.out _).mono ?_
        rintro e w1 ⟨rfl, hB1⟩
        go_wp2_with fail
        rw [HY.out, HXX.out]
        refine (HT.out _).mono ?_
        rintro e w2 ⟨rfl, rfl⟩
        go_wp2
        go_roundw
        case rel => exact ⟨q, r.extract 4 r.size, val_int HP.out, rfl, h8r, he4, Lib.hid (HV.out.symm.trans HR.out), below_then hB hB1⟩
        case measure => exact hz
      · by_cases h1 : 1 ≤ r.size
        · have HV := Lib.hid (restV_1 h r (by omega) h1)
          obtain ⟨x, hx⟩ : ∃ x, sb r 0 = x := ⟨_, rfl⟩
          have HS := Lib.hid (sb_get r 0 h1)
          have f0 := sb_lo r 0
          rw [hx] at HV HS f0
          have H8 : Hid (rest1 h x = mulV (turnV (xorV h (mulV x pE)) 11) pA) := rfl
          clear hx
          have hy := mulV_in x pE
          have HY : Hid (IntKind.u64.wrap (x * 2870177450012600261) = mulV x pE) := rfl
          generalize mulV x pE = y at *
          have hX := xorV_in h y
          have HT := Lib.hid (fun W => rotl_any (xorV h y) 11 W hX (by omega))
          have ht := turnV_in (xorV h y) 11
          have HXX : Hid (bits .xor .u64 h y = xorV h y) := rfl
          generalize xorV h y = z at *
          generalize turnV z 11 = t at *
          have h8r := rest1_in h x
          generalize rest1 h x = q at *
          have HP : Hid (IntKind.u64.wrap (t * 11400714785074694791) = q) := H8.out.symm
          have g8 : ¬ (8 : Int) ≤ (r.size : Int) := by omega
          have g4 : ¬ (4 : Int) ≤ (r.size : Int) := by omega
          have g1 : (0 : Int) < (r.size : Int) := by omega
          have HC : Hid (IntKind.u64.wrap x = x) := IntWalk.u64_in _ (by omega)
          have hz := ext_lt r 1 (by omega) (by omega)
          go_wp2_with fail
          rw [HS.out, HC.out, HY.out, HXX.out]
          refine (HT.out _).mono ?_
          rintro e w2 ⟨rfl, rfl⟩
          go_wp2
          go_roundw
          case rel => exact ⟨q, r.extract 1 r.size, val_int HP.out, rfl, h8r, he1, Lib.hid (HV.out.symm.trans HR.out), hB⟩
          case measure => exact hz
        · have HV := Lib.hid (restV_0 h r (by omega))
          have g8 : ¬ (8 : Int) ≤ (r.size : Int) := by omega
          have g4 : ¬ (4 : Int) ≤ (r.size : Int) := by omega
          have g1 : ¬ (0 : Int) < (r.size : Int) := by omega
          have HE : Hid (endV h0 s = finC (finB (finA h))) := by
            show _ = _
            unfold endV; rw [← HR.out, HV.out]; rfl
          have f1 : 0 ≤ finA h ∧ finA h ≤ 18446744073709551615 := mulV_in _ _
          have f2 : 0 ≤ finB (finA h) ∧ finB (finA h) ≤ 18446744073709551615 := mulV_in _ _
          have F1 : Hid (IntKind.u64.wrap (bits .xor .u64 h (h / 8589934592) * 14029467366897019727) = finA h) := rfl
          have F2 : Hid (IntKind.u64.wrap (bits .xor .u64 (finA h) (finA h / 536870912) * 1609587929392839161) = finB (finA h)) := rfl
          have F3 : Hid (bits .xor .u64 (finB (finA h)) (finB (finA h) / 4294967296) = finC (finB (finA h))) := rfl
          go_wp2
          go_ret
          refine ⟨ret_int ?_, hB⟩
          rw [HE.out, ← F3.out, ← F2.out, ← F1.out]

end Go.Proofs.Ytboajmnckldmiaa
