/-
  The walk of the reference's end at 32 bytes and more.
-/
import Derived.Test.YtboajmnckldmiaaXxhMath
import Derived.Test.YtboajmnckldmiaaXxhEnd
import Derived.WalkMore
import Derived.Deep.QuietTactic
import Derived.BigQuiet
namespace Go.Proofs.Ytboajmnckldmiaa
open Go.RowKit
set_option linter.unusedVariables false
set_option maxRecDepth 100000


set_option maxHeartbeats 8000000 in
theorem rend_hi (la lb lc ld t : Int) (s : ByteArray) (sd : Int) (w : World) (hl : LanIn ⟨la, lb, lc, ld⟩) (ht0 : 32 ≤ t ∧ t ≤ 9223372036854775807) (hsd : 0 ≤ sd ∧ sd ≤ 18446744073709551615) (hs : s.size ≤ 9223372036854775807) :
    Calls Try.prog 64 #[.agg #[.int .u64 la, .int .u64 lb, .int .u64 lc, .int .u64 ld], .int .i64 t, .string s, .int .u64 sd] w fun e w' => e = .returned (.int .u64 (sumV ⟨la, lb, lc, ld⟩ t s sd)) ∧ Below w.heap.size w w' := by
  obtain ⟨ba, bb, bc, bd⟩ := hl
  simp only at ba bb bc bd
  have HSUM : Hid (sumV ⟨la, lb, lc, ld⟩ t s sd = finV (restV (addV (mergedV ⟨la, lb, lc, ld⟩) t) s)) := by show _ = _; unfold sumV; rw [if_pos (by omega)]; rfl
  have HCt : Hid (IntKind.u64.wrap t = t) := IntWalk.u64_in _ (by omega)
  have HM : Hid (mergedV ⟨la, lb, lc, ld⟩ = mergeV (mergeV (mergeV (mergeV (addV (addV (addV (turnV la 1) (turnV lb 7)) (turnV lc 12)) (turnV ld 18)) la) lb) lc) ld) := rfl
  have HL0 := Lib.hid (fun W => (turn_any la 1 W ba (by omega)).mono fun _ _ h => And.intro h.1 h.2.symm)
  have t0 := turnV_in la 1
  have HL1 := Lib.hid (fun W => (turn_any lb 7 W bb (by omega)).mono fun _ _ h => And.intro h.1 h.2.symm)
  have t1 := turnV_in lb 7
  have HL2 := Lib.hid (fun W => (turn_any lc 12 W bc (by omega)).mono fun _ _ h => And.intro h.1 h.2.symm)
  have t2 := turnV_in lc 12
  have HL3 := Lib.hid (fun W => (turn_any ld 18 W bd (by omega)).mono fun _ _ h => And.intro h.1 h.2.symm)
  have t3 := turnV_in ld 18
  generalize turnV la 1 = u0 at *
  generalize turnV lb 7 = u1 at *
  generalize turnV lc 12 = u2 at *
  generalize turnV ld 18 = u3 at *
  have hj := addV_in (addV (addV u0 u1) u2) u3
  have HJ : Hid (IntKind.u64.wrap (IntKind.u64.wrap (IntKind.u64.wrap (u0 + u1) + u2) + u3) = addV (addV (addV u0 u1) u2) u3) := rfl
  generalize addV (addV (addV u0 u1) u2) u3 = j at *
  have HG0 := Lib.hid (fun W => rmerge_any j la W hj ba)
  have bm0 := mergeV_in j la
  generalize mergeV j la = m0 at *
  have HG1 := Lib.hid (fun W => rmerge_any m0 lb W bm0 bb)
  have bm1 := mergeV_in m0 lb
  generalize mergeV m0 lb = m1 at *
  have HG2 := Lib.hid (fun W => rmerge_any m1 lc W bm1 bc)
  have bm2 := mergeV_in m1 lc
  generalize mergeV m1 lc = m2 at *
  have HG3 := Lib.hid (fun W => rmerge_any m2 ld W bm2 bd)
  have bm3 := mergeV_in m2 ld
  generalize mergeV m2 ld = m3 at *
  have HH : Hid (IntKind.u64.wrap (m3 + t) = addV (mergedV ⟨la, lb, lc, ld⟩) t) := by show _ = _; rw [HM.out]; rfl
  have hHb := addV_in (mergedV ⟨la, lb, lc, ld⟩) t
  generalize addV (mergedV ⟨la, lb, lc, ld⟩) t = H at *
  have g32 : (32 : Int) ≤ t := by omega
  have hb := Lb.new w ⟨la, lb, lc, ld⟩ 47
  have hB0 : Below w.heap.size w (w.alloc (.cells #[.int .u64 la, .int .u64 lb, .int .u64 lc, .int .u64 ld] 47)) := below_new _
  have p0 := hb.c0
  have p1 := hb.c1
  have p2 := hb.c2
  have p3 := hb.c3
  simp only at p0 p1 p2 p3
  go_enter Try.func64, Try.ntmps64
  go_wp2
  go_quiet (first | (go_at_call_of 74 (Value.int .u64 la); exact Calls.quiet_of_same (HL0.out _)) | (go_at_call_of 74 (Value.int .u64 lb); exact Calls.quiet_of_same (HL1.out _)) | (go_at_call_of 74 (Value.int .u64 lc); exact Calls.quiet_of_same (HL2.out _)) | (go_at_call_of 74 (Value.int .u64 ld); exact Calls.quiet_of_same (HL3.out _)))
  rw [HJ.out]
  have hb1 : Lb 47 ((w.alloc (.cells #[.int .u64 la, .int .u64 lb, .int .u64 lc, .int .u64 ld] 47)).drewN nq) w.heap.size ⟨la, lb, lc, ld⟩ := hb
  have HB0 := Lib.hid (below_drewN hB0 nq)
  clear hb hB0 p0 p1 p2 p3
  generalize (w.alloc (.cells #[.int .u64 la, .int .u64 lb, .int .u64 lc, .int .u64 ld] 47)).drewN nq = W1 at *
  have p0 := hb1.c0
  have p1 := hb1.c1
  have p2 := hb1.c2
  have p3 := hb1.c3
  simp only at p0 p1 p2 p3
  go_wp2
  go_loop [9, 10] (fun h i => (i = .int .i64 0 ∧ h = .int .u64 j) ∨ (i = .int .i64 1 ∧ h = .int .u64 m0) ∨ (i = .int .i64 2 ∧ h = .int .u64 m1) ∨ (i = .int .i64 3 ∧ h = .int .u64 m2) ∨ (i = .int .i64 4 ∧ h = .int .u64 m3)) (fun _ i => (4 - intOf i).toNat)
  case atStart => exact .inl ⟨rfl, rfl⟩
  case round =>
    rcases hrel with ⟨rfl, rfl⟩ | ⟨rfl, rfl⟩ | ⟨rfl, rfl⟩ | ⟨rfl, rfl⟩ | ⟨rfl, rfl⟩
    · go_wp2_with fail
      refine (HG0.out _).mono ?_
      rintro e w1 ⟨rfl, rfl⟩
      go_wp2
      go_round
      case rel => exact .inr (.inl ⟨rfl, rfl⟩)
      case measure => simp [intOf]
    · go_wp2_with fail
      refine (HG1.out _).mono ?_
      rintro e w1 ⟨rfl, rfl⟩
      go_wp2
      go_round
      case rel => exact .inr (.inr (.inl ⟨rfl, rfl⟩))
      case measure => simp [intOf]
    · go_wp2_with fail
      refine (HG2.out _).mono ?_
      rintro e w1 ⟨rfl, rfl⟩
      go_wp2
      go_round
      case rel => exact .inr (.inr (.inr (.inl ⟨rfl, rfl⟩)))
      case measure => simp [intOf]
    · go_wp2_with fail
      refine (HG3.out _).mono ?_
      rintro e w1 ⟨rfl, rfl⟩
      go_wp2
      go_round
      case rel => exact .inr (.inr (.inr (.inr (⟨rfl, rfl⟩))))
      case measure => simp [intOf]
    · go_wp2
      clear p0 p1 p2 p3 hb1
      go_loopw [9, 2] (fun hv rv wr => ∃ (h : Int) (r : ByteArray), hv = .int .u64 h ∧ rv = .string r ∧ (0 ≤ h ∧ h ≤ 18446744073709551615) ∧ r.size ≤ 9223372036854775807 ∧ Hid (restV h r = restV H s) ∧ Below w.heap.size w wr) (fun _ rv _ => match rv with | .string r => r.size | _ => 0)
      case atStart => exact ⟨H, s, by first | exact val_int HH.out | exact val_int (by rw [HCt.out]; exact HH.out), rfl, hHb, hs, Lib.hid rfl, HB0.out⟩
      case round =>
        obtain ⟨h, r, rfl, rfl, hb, hr, HR, hB⟩ := hrel
        have he8 := ext_in r 8 hr
        have he4 := ext_in r 4 hr
        by_cases h8 : 8 ≤ r.size
        · have HV := Lib.hid (restV_8 h r h8)
          have f0 := rd_lo r 0 8
          obtain ⟨x, hx⟩ : ∃ x, rd r 0 8 = x := ⟨_, rfl⟩
          have HF := Lib.hid (fun W => rfield_any r 0 8 W (by omega) (by omega) hr)
          rw [hx] at HF f0
          have HG := Lib.hid (fun W => rround_any 0 x W (by omega) (by omega))
          have H8 : Hid (rest8 h r = addV (mulV (turnV (xorV h (roundV 0 x)) 27) pA) pD) := by show _ = _; unfold rest8; rw [hx]
          clear hx f0
          have hy := roundV_in 0 x
          generalize roundV 0 x = y at *
          have hX := xorV_in h y
          have HT := Lib.hid (fun W => turn_any (xorV h y) 27 W hX (by omega))
          have ht := turnV_in (xorV h y) 27
          have HXX : Hid (bits .xor .u64 h y = xorV h y) := rfl
          generalize xorV h y = z at *
          generalize turnV z 27 = t at *
          have h8r := rest8_in h r
          generalize rest8 h r = q at *
          have HP : Hid (IntKind.u64.wrap (mulV t 11400714785074694791 + 9650029242287828579) = q) := H8.out.symm
          have g8 : (8 : Int) ≤ (r.size : Int) := by omega
          have hz := ext_lt r 8 (by omega) (by omega)
          go_wp2_with fail
          refine (HF.out _).mono ?_
          rintro e w1 ⟨rfl, hB1⟩
          go_wp2_with fail
          refine (HG.out _).mono ?_
          rintro e w2 ⟨rfl, rfl⟩
          go_wp2_with fail
          rw [HXX.out]
          refine (HT.out _).mono ?_
          rintro e w2 ⟨rfl, rfl⟩
          go_wp2_with fail
          refine (times_any _ _ _).mono ?_
          rintro e w2 ⟨rfl, rfl⟩
          go_wp2
          go_roundw
          case rel => exact ⟨q, r.extract 8 r.size, val_int HP.out, rfl, h8r, he8, Lib.hid (HV.out.symm.trans HR.out), below_then hB hB1⟩
          case measure => exact hz
        · by_cases h4 : 4 ≤ r.size
          · have HV := Lib.hid (restV_4 h r (by omega) h4)
            have f0 := rd_lo r 0 4
            obtain ⟨x, hx⟩ : ∃ x, rd r 0 4 = x := ⟨_, rfl⟩
            have HF := Lib.hid (fun W => rfield_any r 0 4 W (by omega) (by omega) hr)
            rw [hx] at HF f0
            have H8 : Hid (rest4 h r = addV (mulV (turnV (xorV h (mulV x pA)) 23) pB) pC) := by show _ = _; unfold rest4; rw [hx]
            clear hx
            have hy := mulV_in x pA
            have HY : Hid (mulV x 11400714785074694791 = mulV x pA) := rfl
            generalize mulV x pA = y at *
            have hX := xorV_in h y
            have HT := Lib.hid (fun W => turn_any (xorV h y) 23 W hX (by omega))
            have ht := turnV_in (xorV h y) 23
            have HXX : Hid (bits .xor .u64 h y = xorV h y) := rfl
            generalize xorV h y = z at *
            generalize turnV z 23 = t at *
            have h8r := rest4_in h r
            generalize rest4 h r = q at *
            have HP : Hid (IntKind.u64.wrap (mulV t 14029467366897019727 + 1609587929392839161) = q) := H8.out.symm
            have g8 : ¬ (8 : Int) ≤ (r.size : Int) := by omega
            have g4 : (4 : Int) ≤ (r.size : Int) := by omega
            go_wp2_with fail
            refine (HF.out _).mono ?_
            rintro e w1 ⟨rfl, hB1⟩
            go_wp2_with fail
            refine (times_any _ _ _).mono ?_
            rintro e w2 ⟨rfl, rfl⟩
            rw [HY.out]
            go_wp2_with fail
            rw [HXX.out]
            refine (HT.out _).mono ?_
            rintro e w2 ⟨rfl, rfl⟩
            go_wp2_with fail
            refine (times_any _ _ _).mono ?_
            rintro e w2 ⟨rfl, rfl⟩
            go_wp2
            have HQR := Lib.hid (HV.out.symm.trans HR.out)
            have HQ3 := Lib.hid (And.intro (show (r.extract 4 r.size).size < 4 by rw [ByteArray.size_extract]; omega) he4)
            generalize r.extract 4 r.size = r3 at *
            clear HV HR H8 h8 h4 g8 g4 he8 he4
            have hr3 := HQ3.out.1
            have hl3 := HQ3.out.2
            go_loopw [9, 11] (fun hv iv wr => ∃ (h : Int) (k : Nat), hv = .int .u64 h ∧ iv = .int .i64 k ∧ k ≤ r3.size ∧ (0 ≤ h ∧ h ≤ 18446744073709551615) ∧ Hid (restV h (r3.extract k r3.size) = restV H s) ∧ Below w.heap.size w wr) (fun _ iv _ => r3.size - (intOf iv).toNat)
            case atStart => exact ⟨_, 0, val_int HP.out, rfl, Nat.zero_le _, h8r, Lib.hid (by rw [ext_zero]; exact HQR.out), below_then hB hB1⟩
            case round =>
              obtain ⟨h, k, rfl, rfl, hk, hb, HR, hB⟩ := hrel
              by_cases hlt : k < r3.size
              · have HV := Lib.hid (restV_1 h (r3.extract k r3.size) (by rw [ByteArray.size_extract]; omega) (by rw [ByteArray.size_extract]; omega))
                rw [ext_ext, sb_ext _ _ hlt] at HV
                obtain ⟨x, hx⟩ : ∃ x, sb r3 k = x := ⟨_, rfl⟩
                have HS := Lib.hid (sb_get r3 k hlt)
                have f0 := sb_lo r3 k
                rw [hx] at HV HS f0
                have H8 : Hid (rest1 h x = mulV (turnV (xorV h (mulV x pE)) 11) pA) := rfl
                have HC : Hid (IntKind.u64.wrap x = x) := IntWalk.u64_in _ (by omega)
                clear hx
                have hy := mulV_in x pE
                have hX := xorV_in h (mulV x pE)
                have HT := Lib.hid (fun W => turn_any (xorV h (mulV x pE)) 11 W hX (by omega))
                have HXX : Hid (bits .xor .u64 h (mulV x pE) = xorV h (mulV x pE)) := rfl
                have h8r := rest1_in h x
                have HP : Hid (mulV (turnV (xorV h (mulV x pE)) 11) 11400714785074694791 = rest1 h x) := rfl
                have HMY : Hid (mulV x 2870177450012600261 = mulV x pE) := rfl
                generalize rest1 h x = q at *
                generalize xorV h (mulV x pE) = z at *
                generalize mulV x pE = y at *
                generalize turnV z 11 = t at *
                have g1 : (k : Int) < (r3.size : Int) := by omega
                have g2 : (0 : Int) ≤ (k : Int) := by omega
                go_wp2_with fail
                rw [HS.out, HC.out]
                refine (times_any _ _ _).mono ?_
                rintro e w2 ⟨rfl, rfl⟩
                rw [HMY.out]
                go_wp2_with fail
                rw [HXX.out]
                refine (HT.out _).mono ?_
                rintro e w2 ⟨rfl, rfl⟩
                go_wp2_with fail
                refine (times_any _ _ _).mono ?_
                rintro e w2 ⟨rfl, rfl⟩
                go_wp2
                go_roundw
                case rel => exact ⟨q, k + 1, val_int HP.out, by go_num, by omega, h8r, Lib.hid (HV.out.symm.trans HR.out), hB⟩
                case measure => simp [intOf]; omega
              · obtain rfl : k = r3.size := by omega
                have HV := Lib.hid (restV_0 h (r3.extract r3.size r3.size) (by rw [ByteArray.size_extract]; omega))
                have HE : Hid (finV (restV H s) = finC (finB (finA h))) := by
                  show _ = _
                  rw [← HR.out, HV.out]; rfl
                have f1 : 0 ≤ finA h ∧ finA h ≤ 18446744073709551615 := mulV_in _ _
                have f2 : 0 ≤ finB (finA h) ∧ finB (finA h) ≤ 18446744073709551615 := mulV_in _ _
                have F1 : Hid (mulV (bits .xor .u64 h (h / 8589934592)) 14029467366897019727 = finA h) := rfl
                have F2 : Hid (mulV (bits .xor .u64 (finA h) (finA h / 536870912)) 1609587929392839161 = finB (finA h)) := rfl
                have F3 : Hid (bits .xor .u64 (finB (finA h)) (finB (finA h) / 4294967296) = finC (finB (finA h))) := rfl
                generalize finC (finB (finA h)) = y3 at *
                generalize finB (finA h) = y2 at *
                generalize finA h = y1 at *
                go_wp2_with fail
                refine (times_any _ _ _).mono ?_
                rintro e w2 ⟨rfl, rfl⟩
                rw [F1.out]
                go_wp2_with fail
                refine (times_any _ _ _).mono ?_
                rintro e w2 ⟨rfl, rfl⟩
                rw [F2.out]
                go_wp2
                go_ret
                refine ⟨ret_int ?_, hB⟩
                rw [HSUM.out, HE.out, ← F3.out]
          · have g8 : ¬ (8 : Int) ≤ (r.size : Int) := by omega
            have g4 : ¬ (4 : Int) ≤ (r.size : Int) := by omega
            have HQ3 := Lib.hid (And.intro (show r.size < 4 by omega) hr)
            go_wp2
            clear h8 h4 g8 g4 he8 he4
            have hr3 := HQ3.out.1
            have hl3 := HQ3.out.2
            go_loopw [9, 11] (fun hv iv wr => ∃ (h : Int) (k : Nat), hv = .int .u64 h ∧ iv = .int .i64 k ∧ k ≤ r.size ∧ (0 ≤ h ∧ h ≤ 18446744073709551615) ∧ Hid (restV h (r.extract k r.size) = restV H s) ∧ Below w.heap.size w wr) (fun _ iv _ => r.size - (intOf iv).toNat)
            case atStart => exact ⟨_, 0, rfl, rfl, Nat.zero_le _, hb, Lib.hid (by rw [ext_zero]; exact HR.out), hB⟩
            case round =>
              obtain ⟨h, k, rfl, rfl, hk, hb, HR, hB⟩ := hrel
              by_cases hlt : k < r.size
              · have HV := Lib.hid (restV_1 h (r.extract k r.size) (by rw [ByteArray.size_extract]; omega) (by rw [ByteArray.size_extract]; omega))
                rw [ext_ext, sb_ext _ _ hlt] at HV
                obtain ⟨x, hx⟩ : ∃ x, sb r k = x := ⟨_, rfl⟩
                have HS := Lib.hid (sb_get r k hlt)
                have f0 := sb_lo r k
                rw [hx] at HV HS f0
                have H8 : Hid (rest1 h x = mulV (turnV (xorV h (mulV x pE)) 11) pA) := rfl
                have HC : Hid (IntKind.u64.wrap x = x) := IntWalk.u64_in _ (by omega)
                clear hx
                have hy := mulV_in x pE
                have hX := xorV_in h (mulV x pE)
                have HT := Lib.hid (fun W => turn_any (xorV h (mulV x pE)) 11 W hX (by omega))
                have HXX : Hid (bits .xor .u64 h (mulV x pE) = xorV h (mulV x pE)) := rfl
                have h8r := rest1_in h x
                have HP : Hid (mulV (turnV (xorV h (mulV x pE)) 11) 11400714785074694791 = rest1 h x) := rfl
                have HMY : Hid (mulV x 2870177450012600261 = mulV x pE) := rfl
                generalize rest1 h x = q at *
                generalize xorV h (mulV x pE) = z at *
                generalize mulV x pE = y at *
                generalize turnV z 11 = t at *
                have g1 : (k : Int) < (r.size : Int) := by omega
                have g2 : (0 : Int) ≤ (k : Int) := by omega
                go_wp2_with fail
                rw [HS.out, HC.out]
                refine (times_any _ _ _).mono ?_
                rintro e w2 ⟨rfl, rfl⟩
                rw [HMY.out]
                go_wp2_with fail
                rw [HXX.out]
                refine (HT.out _).mono ?_
                rintro e w2 ⟨rfl, rfl⟩
                go_wp2_with fail
                refine (times_any _ _ _).mono ?_
                rintro e w2 ⟨rfl, rfl⟩
                go_wp2
                go_roundw
                case rel => exact ⟨q, k + 1, val_int HP.out, by go_num, by omega, h8r, Lib.hid (HV.out.symm.trans HR.out), hB⟩
                case measure => simp [intOf]; omega
              · obtain rfl : k = r.size := by omega
                have HV := Lib.hid (restV_0 h (r.extract r.size r.size) (by rw [ByteArray.size_extract]; omega))
                have HE : Hid (finV (restV H s) = finC (finB (finA h))) := by
                  show _ = _
                  rw [← HR.out, HV.out]; rfl
                have f1 : 0 ≤ finA h ∧ finA h ≤ 18446744073709551615 := mulV_in _ _
                have f2 : 0 ≤ finB (finA h) ∧ finB (finA h) ≤ 18446744073709551615 := mulV_in _ _
                have F1 : Hid (mulV (bits .xor .u64 h (h / 8589934592)) 14029467366897019727 = finA h) := rfl
                have F2 : Hid (mulV (bits .xor .u64 (finA h) (finA h / 536870912)) 1609587929392839161 = finB (finA h)) := rfl
                have F3 : Hid (bits .xor .u64 (finB (finA h)) (finB (finA h) / 4294967296) = finC (finB (finA h))) := rfl
                generalize finC (finB (finA h)) = y3 at *
                generalize finB (finA h) = y2 at *
                generalize finA h = y1 at *
                go_wp2_with fail
                refine (times_any _ _ _).mono ?_
                rintro e w2 ⟨rfl, rfl⟩
                rw [F1.out]
                go_wp2_with fail
                refine (times_any _ _ _).mono ?_
                rintro e w2 ⟨rfl, rfl⟩
                rw [F2.out]
                go_wp2
                go_ret
                refine ⟨ret_int ?_, hB⟩
                rw [HSUM.out, HE.out, ← F3.out]

theorem rend_any (la lb lc ld t : Int) (s : ByteArray) (sd : Int) (w : World) (hl : LanIn ⟨la, lb, lc, ld⟩) (ht0 : 0 ≤ t ∧ t ≤ 9223372036854775807) (hsd : 0 ≤ sd ∧ sd ≤ 18446744073709551615) (hs : s.size ≤ 9223372036854775807) :
    Calls Try.prog 64 #[.agg #[.int .u64 la, .int .u64 lb, .int .u64 lc, .int .u64 ld], .int .i64 t, .string s, .int .u64 sd] w fun e w' => e = .returned (.int .u64 (sumV ⟨la, lb, lc, ld⟩ t s sd)) ∧ Below w.heap.size w w' := by
  by_cases h : t < 32
  · exact rend_lo la lb lc ld t s sd w hl (by omega) hsd hs
  · exact rend_hi la lb lc ld t s sd w hl (by omega) hsd hs

end Go.Proofs.Ytboajmnckldmiaa
