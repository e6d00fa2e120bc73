/-
  The walk of xxh.merged.
-/
import Derived.Test.YtboajmnckldmiaaXxhMath
import Derived.WalkMore
namespace Go.Proofs.Ytboajmnckldmiaa
open Go.RowKit
set_option linter.unusedVariables false
set_option maxRecDepth 100000

set_option maxHeartbeats 4000000 in
theorem merged_any (la lb lc ld : Int) (w : World) (hl : LanIn ⟨la, lb, lc, ld⟩) :
    Calls Try.prog 72 #[.agg #[.int .u64 la, .int .u64 lb, .int .u64 lc, .int .u64 ld]] w fun e w' => e = .returned (.int .u64 (mergedV ⟨la, lb, lc, ld⟩)) ∧ Below w.heap.size w w' := by
  obtain ⟨ba, bb, bc, bd⟩ := hl
  simp only at ba bb bc bd
  have HL0 := Lib.hid (fun W => rotl_any la 1 W ba (by omega))
  have t0 := turnV_in la 1
  have HL1 := Lib.hid (fun W => rotl_any lb 7 W bb (by omega))
  have t1 := turnV_in lb 7
  have HL2 := Lib.hid (fun W => rotl_any lc 12 W bc (by omega))
  have t2 := turnV_in lc 12
  have HL3 := Lib.hid (fun W => rotl_any ld 18 W bd (by omega))
  have t3 := turnV_in ld 18
  have HG0 := Lib.hid (fun W => round_any 0 la W (by omega) ba)
  have HG1 := Lib.hid (fun W => round_any 0 lb W (by omega) bb)
  have HG2 := Lib.hid (fun W => round_any 0 lc W (by omega) bc)
  have HG3 := Lib.hid (fun W => round_any 0 ld W (by omega) bd)
  have HM : Hid (mergedV ⟨la, lb, lc, ld⟩ = mergeV (mergeV (mergeV (mergeV (addV (addV (addV (turnV la 1) (turnV lb 7)) (turnV lc 12)) (turnV ld 18)) la) lb) lc) ld) := rfl
  generalize turnV la 1 = u0 at *
  generalize turnV lb 7 = u1 at *
  generalize turnV lc 12 = u2 at *
  generalize turnV ld 18 = u3 at *
  obtain ⟨s1, hs1⟩ : ∃ x, addV u0 u1 = x := ⟨_, rfl⟩
  have bs1 := addV_in u0 u1
  rw [hs1] at bs1
  have HS1 : Hid (IntKind.u64.wrap (u0 + u1) = s1) := hs1
  obtain ⟨s2, hs2⟩ : ∃ x, addV s1 u2 = x := ⟨_, rfl⟩
  have bs2 := addV_in s1 u2
  rw [hs2] at bs2
  have HS2 : Hid (IntKind.u64.wrap (s1 + u2) = s2) := hs2
  obtain ⟨s3, hs3⟩ : ∃ x, addV s2 u3 = x := ⟨_, rfl⟩
  have bs3 := addV_in s2 u3
  rw [hs3] at bs3
  have HS3 : Hid (IntKind.u64.wrap (s2 + u3) = s3) := hs3
  rw [hs1, hs2, hs3] at HM
  clear hs1 hs2 hs3
  obtain ⟨m0, hm0⟩ : ∃ x, mergeV s3 la = x := ⟨_, rfl⟩
  have bm0 := mergeV_in s3 la
  rw [hm0] at bm0
  have HH0 : Hid (IntKind.u64.wrap (IntKind.u64.wrap (bits .xor .u64 s3 (roundV 0 la) * 11400714785074694791) + 9650029242287828579) = m0) := hm0
  obtain ⟨m1, hm1⟩ : ∃ x, mergeV m0 lb = x := ⟨_, rfl⟩
  have bm1 := mergeV_in m0 lb
  rw [hm1] at bm1
  have HH1 : Hid (IntKind.u64.wrap (IntKind.u64.wrap (bits .xor .u64 m0 (roundV 0 lb) * 11400714785074694791) + 9650029242287828579) = m1) := hm1
  obtain ⟨m2, hm2⟩ : ∃ x, mergeV m1 lc = x := ⟨_, rfl⟩
  have bm2 := mergeV_in m1 lc
  rw [hm2] at bm2
  have HH2 : Hid (IntKind.u64.wrap (IntKind.u64.wrap (bits .xor .u64 m1 (roundV 0 lc) * 11400714785074694791) + 9650029242287828579) = m2) := hm2
  obtain ⟨m3, hm3⟩ : ∃ x, mergeV m2 ld = x := ⟨_, rfl⟩
  have bm3 := mergeV_in m2 ld
  rw [hm3] at bm3
  have HH3 : Hid (IntKind.u64.wrap (IntKind.u64.wrap (bits .xor .u64 m2 (roundV 0 ld) * 11400714785074694791) + 9650029242287828579) = m3) := hm3
  rw [hm0, hm1, hm2, hm3] at HM
  clear hm0 hm1 hm2 hm3
  have r0b := roundV_in 0 la
  generalize roundV 0 la = r0 at *
  have r1b := roundV_in 0 lb
  generalize roundV 0 lb = r1 at *
  have r2b := roundV_in 0 lc
  generalize roundV 0 lc = r2 at *
  have r3b := roundV_in 0 ld
  generalize roundV 0 ld = r3 at *
  have hi0 : ∀ V, (Instr.index 84 (.agg #[.int .u64 la, .int .u64 lb, .int .u64 lc, .int .u64 ld]) (.int .i64 0)).run Try.prog V = .ok (.int .u64 la) V := fun _ => by kernel_rfl
  have hi1 : ∀ V, (Instr.index 84 (.agg #[.int .u64 la, .int .u64 lb, .int .u64 lc, .int .u64 ld]) (.int .i64 1)).run Try.prog V = .ok (.int .u64 lb) V := fun _ => by kernel_rfl
  have hi2 : ∀ V, (Instr.index 84 (.agg #[.int .u64 la, .int .u64 lb, .int .u64 lc, .int .u64 ld]) (.int .i64 2)).run Try.prog V = .ok (.int .u64 lc) V := fun _ => by kernel_rfl
  have hi3 : ∀ V, (Instr.index 84 (.agg #[.int .u64 la, .int .u64 lb, .int .u64 lc, .int .u64 ld]) (.int .i64 3)).run Try.prog V = .ok (.int .u64 ld) V := fun _ => by kernel_rfl
  have hb := (Lb.new w ⟨la, lb, lc, ld⟩ 84).alloc (.cells #[.int .i64 1, .int .i64 7, .int .i64 12, .int .i64 18] 3)
  have p0 := hb.c0
  have p1 := hb.c1
  have p2 := hb.c2
  have p3 := hb.c3
  simp only at p0 p1 p2 p3
  go_enter Try.func72, Try.ntmps72
  go_wp2
  go_loop [3, 10] (fun h i => (i = .int .i64 0 ∧ h = (.int .u64 0)) ∨ (i = .int .i64 1 ∧ h = (.int .u64 u0)) ∨ (i = .int .i64 2 ∧ h = (.int .u64 s1)) ∨ (i = .int .i64 3 ∧ h = (.int .u64 s2)) ∨ (i = .int .i64 4 ∧ h = (.int .u64 s3))) (fun _ i => (4 - intOf i).toNat)
  case atStart => exact .inl ⟨rfl, rfl⟩
  case round =>
    rcases hrel with ⟨rfl, rfl⟩ | ⟨rfl, rfl⟩ | ⟨rfl, rfl⟩ | ⟨rfl, rfl⟩ | ⟨rfl, rfl⟩
    · go_wp2_with fail
      refine (HL0.out _).mono ?_
      rintro e w1 ⟨rfl, rfl⟩
      go_wp2
      go_round
      case rel => exact .inr (.inl ⟨rfl, rfl⟩)
      case measure => simp [intOf]
    · go_wp2_with fail
      refine (HL1.out _).mono ?_
      rintro e w1 ⟨rfl, rfl⟩
      go_wp2
      go_round
      case rel => exact .inr (.inr (.inl ⟨rfl, val_int HS1.out⟩))
      case measure => simp [intOf]
    · go_wp2_with fail
      refine (HL2.out _).mono ?_
      rintro e w1 ⟨rfl, rfl⟩
      go_wp2
      go_round
      case rel => exact .inr (.inr (.inr (.inl ⟨rfl, val_int HS2.out⟩)))
      case measure => simp [intOf]
    · go_wp2_with fail
      refine (HL3.out _).mono ?_
      rintro e w1 ⟨rfl, rfl⟩
      go_wp2
      go_round
      case rel => exact .inr (.inr (.inr (.inr (⟨rfl, val_int HS3.out⟩))))
      case measure => simp [intOf]
    · go_wp2
      go_loop [3, 24] (fun h i => (i = .int .i64 0 ∧ h = (.int .u64 s3)) ∨ (i = .int .i64 1 ∧ h = (.int .u64 m0)) ∨ (i = .int .i64 2 ∧ h = (.int .u64 m1)) ∨ (i = .int .i64 3 ∧ h = (.int .u64 m2)) ∨ (i = .int .i64 4 ∧ h = (.int .u64 m3))) (fun _ i => (4 - intOf i).toNat)
      case atStart => exact .inl ⟨rfl, rfl⟩
      case round =>
        rcases hrel with ⟨rfl, rfl⟩ | ⟨rfl, rfl⟩ | ⟨rfl, rfl⟩ | ⟨rfl, rfl⟩ | ⟨rfl, rfl⟩
        · go_wp2_with fail
          refine (HG0.out _).mono ?_
          rintro e w1 ⟨rfl, rfl⟩
          go_wp2
          go_round
          case rel => exact .inr (.inl ⟨rfl, val_int HH0.out⟩)
          case measure => simp [intOf]
        · go_wp2_with fail
          refine (HG1.out _).mono ?_
          rintro e w1 ⟨rfl, rfl⟩
          go_wp2
          go_round
          case rel => exact .inr (.inr (.inl ⟨rfl, val_int HH1.out⟩))
          case measure => simp [intOf]
        · go_wp2_with fail
          refine (HG2.out _).mono ?_
          rintro e w1 ⟨rfl, rfl⟩
          go_wp2
          go_round
          case rel => exact .inr (.inr (.inr (.inl ⟨rfl, val_int HH2.out⟩)))
          case measure => simp [intOf]
        · go_wp2_with fail
          refine (HG3.out _).mono ?_
          rintro e w1 ⟨rfl, rfl⟩
          go_wp2
          go_round
          case rel => exact .inr (.inr (.inr (.inr (⟨rfl, val_int HH3.out⟩))))
          case measure => simp [intOf]
        · go_wp2
          go_ret
          exact ⟨ret_int HM.out.symm, below_alloc (below_new _) _⟩

end Go.Proofs.Ytboajmnckldmiaa
