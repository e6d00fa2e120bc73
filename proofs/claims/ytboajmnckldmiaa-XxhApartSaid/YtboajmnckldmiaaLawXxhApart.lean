/- The statement cheesepresslaw05.XxhApart holds: for every input the law returns true, and the arguments read as before. -/
import Derived.Test.YtboajmnckldmiaaShell
import Derived.Test.YtboajmnckldmiaaKit
import Derived.Test.YtboajmnckldmiaaXxhKnown
import Derived.Test.YtboajmnckldmiaaXxhNums
namespace Go.Proofs.Ytboajmnckldmiaa.xxhApart
open Go.ChangeShapes Go.WideShapes Go.ChangeAt Go.RowKit
open Go.ChangeMaps (open_string shut_string)
set_option linter.unusedVariables false
set_option maxRecDepth 100000

set_option maxHeartbeats 8000000 in
theorem walk_n (n : Nat) (a b c sd : Int) (w : World) (hn : n = 1 ∨ n = 4 ∨ n = 8) (hc3 : modI c 3 = if n = 1 then 0 else if n = 4 then 1 else 2) (ha : 0 ≤ a ∧ a ≤ 18446744073709551615) (hb : 0 ≤ b ∧ b ≤ 18446744073709551615) (hc : -9223372036854775808 ≤ c ∧ c ≤ 9223372036854775807) (hsd : 0 ≤ sd ∧ sd ≤ 18446744073709551615) :
    Calls Try.prog 11 #[.int .u64 a, .int .u64 b, .int .i64 c, .int .u64 sd] w fun e w' => e = .returned (.bool true) ∧ Below w.heap.size w w' := by
  have HM := Lib.hid (fun W => Mod_any c 3 W hc.1 hc.2 (by omega))
  rw [hc3] at HM
  clear hc3 hc
  have hX := sOf_size a n
  have hY := sOf_size b n
  have hsz : n ≤ 8 := by omega
  have HS1 := Lib.hid (fun W => Seeded_any (sOf a n) sd W (by omega) hsd)
  have HS2 := Lib.hid (fun W => Seeded_any (sOf b n) sd W (by omega) hsd)
  have HLo := Lib.hid (fun W => Low05_any (sOf a n) W (by omega))
  have HOf := Lib.hid (fun W => Of05_any (sOf a n) W (by omega))
  have hq : ((seededV (sOf a n) sd == seededV (sOf b n) sd) == ((sOf a n).toList == (sOf b n).toList)) = true := by
    by_cases e : sOf a n = sOf b n
    · rw [e]; simp
    · have e1 : seededV (sOf a n) sd ≠ seededV (sOf b n) sd := fun h => e (apart n hn hX hY h)
      have e2 : (sOf a n).toList ≠ (sOf b n).toList := fun h => e (by
        rw [ByteArray.toList_eq, ByteArray.toList_eq] at h
        exact ByteArray.ext (Array.ext' h))
      rw [beq_eq_false_iff_ne.2 e1, beq_eq_false_iff_ne.2 e2]; rfl
  have hz : 0 ≤ seededV (sOf a n) 0 % 4294967296 ∧ seededV (sOf a n) 0 % 4294967296 < 4294967296 := by omega
  have hb0 : 0 ≤ seededV (sOf a n) 0 ∧ seededV (sOf a n) 0 ≤ 18446744073709551615 := sumV_in _ _ _ _
  have hm : seededV (sOf a n) 0 % 4294967296 = seededV (sOf a n) 0 % 4294967296 := rfl
  generalize hv1 : seededV (sOf a n) sd = v1 at *
  generalize hv2 : seededV (sOf b n) sd = v2 at *
  generalize hv3 : seededV (sOf a n) 0 = v3 at *
  have hw3 : IntKind.u64.wrap (v3 % 4294967296) = v3 % 4294967296 := IntWalk.u64_in _ (by omega)
  clear hv1 hv2 hv3 hm hX hY
  have HXY : Hid (((v1 == v2) == ((sOf a n).toList == (sOf b n).toList)) = true) := hq
  clear hq
  have HW3 := Lib.hid hw3
  clear hw3
  go_enter Try.func11, Try.ntmps11
  go_wp2_with fail
  refine (Known05_any _).mono ?_
  rintro e w1 ⟨rfl, hB1⟩
  go_wp2_with fail
  refine (HM.out _).mono ?_
  rintro e w2 ⟨rfl, rfl⟩
  have HB2 := Lib.hid (below_alloc hB1 (.cells #[.int .i64 1, .int .i64 4, .int .i64 8] 3))
  clear hB1
  rcases hn with rfl | rfl | rfl
  · go_wp2
    go_loopw [11, 12, 13] (fun xv yv iv wr => ∃ j : Nat, j ≤ 1 ∧ iv = .int .i64 j ∧ xv = .string (sOf a j) ∧ yv = .string (sOf b j) ∧ Below w.heap.size w wr) (fun _ _ iv _ => 1 - (intOf iv).toNat)
    case atStart => exact ⟨0, by omega, rfl, rfl, rfl, HB2.out⟩
    case round =>
      obtain ⟨j, hj, rfl, rfl, rfl, hB⟩ := hrel
      by_cases hlt : j < 1
      · have hmin : min (8 * j) 64 = 8 * j := by omega
        have hca := fun W => conv_one (a / 2 ^ (8 * j) % 256) W
        have hcb := conv_one (b / 2 ^ (8 * j) % 256) (wr.alloc (.cells #[.int .u8 (a / 2 ^ (8 * j) % 256)] 5))
        rw [World.size_alloc] at hcb
        have hra := fun W => run_add_byte (P := Try.prog) a j (by omega) W
        have hrb := fun W => run_add_byte (P := Try.prog) b j (by omega) W
        go_wp2
        go_roundw
        case rel => exact ⟨j + 1, by omega, by go_num, rfl, rfl, below_alloc (below_alloc hB _) _⟩
        case measure => simp [intOf]; omega
      · obtain rfl : j = 1 := by omega
        go_wp2_with fail
        refine (HS1.out _).mono ?_
        rintro e w3 ⟨rfl, hB3⟩
        go_wp2_with fail
        refine (HS2.out _).mono ?_
        rintro e w4 ⟨rfl, hB4⟩
        have hq := HXY.out
        have hw3 := HW3.out
        go_wp2_with fail
        refine (HLo.out _).mono ?_
        rintro e w5 ⟨rfl, hB5⟩
        go_wp2_with fail
        refine (HOf.out _).mono ?_
        rintro e w6 ⟨rfl, hB6⟩
        go_wp2
        go_ret
        exact ⟨rfl, below_then (below_then (below_then (below_then hB hB3) hB4) hB5) hB6⟩
  · go_wp2
    go_loopw [11, 12, 13] (fun xv yv iv wr => ∃ j : Nat, j ≤ 4 ∧ iv = .int .i64 j ∧ xv = .string (sOf a j) ∧ yv = .string (sOf b j) ∧ Below w.heap.size w wr) (fun _ _ iv _ => 4 - (intOf iv).toNat)
    case atStart => exact ⟨0, by omega, rfl, rfl, rfl, HB2.out⟩
    case round =>
      obtain ⟨j, hj, rfl, rfl, rfl, hB⟩ := hrel
      by_cases hlt : j < 4
      · have hmin : min (8 * j) 64 = 8 * j := by omega
        have hca := fun W => conv_one (a / 2 ^ (8 * j) % 256) W
        have hcb := conv_one (b / 2 ^ (8 * j) % 256) (wr.alloc (.cells #[.int .u8 (a / 2 ^ (8 * j) % 256)] 5))
        rw [World.size_alloc] at hcb
        have hra := fun W => run_add_byte (P := Try.prog) a j (by omega) W
        have hrb := fun W => run_add_byte (P := Try.prog) b j (by omega) W
        go_wp2
        go_roundw
        case rel => exact ⟨j + 1, by omega, by go_num, rfl, rfl, below_alloc (below_alloc hB _) _⟩
        case measure => simp [intOf]; omega
      · obtain rfl : j = 4 := by omega
        go_wp2_with fail
        refine (HS1.out _).mono ?_
        rintro e w3 ⟨rfl, hB3⟩
        go_wp2_with fail
        refine (HS2.out _).mono ?_
        rintro e w4 ⟨rfl, hB4⟩
        have hq := HXY.out
        have hw3 := HW3.out
        go_wp2_with fail
        refine (HLo.out _).mono ?_
        rintro e w5 ⟨rfl, hB5⟩
        go_wp2_with fail
        refine (HOf.out _).mono ?_
        rintro e w6 ⟨rfl, hB6⟩
        go_wp2
        go_ret
        exact ⟨rfl, below_then (below_then (below_then (below_then hB hB3) hB4) hB5) hB6⟩
  · go_wp2
    go_loopw [11, 12, 13] (fun xv yv iv wr => ∃ j : Nat, j ≤ 8 ∧ iv = .int .i64 j ∧ xv = .string (sOf a j) ∧ yv = .string (sOf b j) ∧ Below w.heap.size w wr) (fun _ _ iv _ => 8 - (intOf iv).toNat)
    case atStart => exact ⟨0, by omega, rfl, rfl, rfl, HB2.out⟩
    case round =>
      obtain ⟨j, hj, rfl, rfl, rfl, hB⟩ := hrel
      by_cases hlt : j < 8
      · have hmin : min (8 * j) 64 = 8 * j := by omega
        have hca := fun W => conv_one (a / 2 ^ (8 * j) % 256) W
        have hcb := conv_one (b / 2 ^ (8 * j) % 256) (wr.alloc (.cells #[.int .u8 (a / 2 ^ (8 * j) % 256)] 5))
        rw [World.size_alloc] at hcb
        have hra := fun W => run_add_byte (P := Try.prog) a j (by omega) W
        have hrb := fun W => run_add_byte (P := Try.prog) b j (by omega) W
        go_wp2
        go_roundw
        case rel => exact ⟨j + 1, by omega, by go_num, rfl, rfl, below_alloc (below_alloc hB _) _⟩
        case measure => simp [intOf]; omega
      · obtain rfl : j = 8 := by omega
        go_wp2_with fail
        refine (HS1.out _).mono ?_
        rintro e w3 ⟨rfl, hB3⟩
        go_wp2_with fail
        refine (HS2.out _).mono ?_
        rintro e w4 ⟨rfl, hB4⟩
        have hq := HXY.out
        have hw3 := HW3.out
        go_wp2_with fail
        refine (HLo.out _).mono ?_
        rintro e w5 ⟨rfl, hB5⟩
        go_wp2_with fail
        refine (HOf.out _).mono ?_
        rintro e w6 ⟨rfl, hB6⟩
        go_wp2
        go_ret
        exact ⟨rfl, below_then (below_then (below_then (below_then hB hB3) hB4) hB5) hB6⟩

theorem walk (a b c sd : Int) (w : World) (ha : 0 ≤ a ∧ a ≤ 18446744073709551615) (hb : 0 ≤ b ∧ b ≤ 18446744073709551615) (hc : -9223372036854775808 ≤ c ∧ c ≤ 9223372036854775807) (hsd : 0 ≤ sd ∧ sd ≤ 18446744073709551615) :
    Calls Try.prog 11 #[.int .u64 a, .int .u64 b, .int .i64 c, .int .u64 sd] w fun e w' => e = .returned (.bool true) ∧ Below w.heap.size w w' := by
  have h := modI_lo (n := c) (m := 3) (by omega)
  by_cases h0 : modI c 3 = 0
  · exact walk_n 1 a b c sd w (by omega) (by rw [h0]; rfl) ha hb hc hsd
  · by_cases h1 : modI c 3 = 1
    · exact walk_n 4 a b c sd w (by omega) (by rw [h1]; rfl) ha hb hc hsd
    · exact walk_n 8 a b c sd w (by omega) (by rw [show modI c 3 = 2 by omega]; rfl) ha hb hc hsd

/-! The step from the walk to the statement: the shell's text. -/
set_option maxRecDepth 100000 in
theorem lifted (os : Os) (started : os.Started) (H : Type) (enc : TypeId × Value → H) :
    ReturnsInHanded {} Try.checked os 11 .any (Rows.xxhApartSpec.pre6 enc Try.prog Try.f11 Rows.xxhApartRow.domain false) (Rows.xxhApartSpec.post enc Try.prog Try.f11 false true false false) := by
  refine returnsInHanded_of_change (C := Try.checked) own started (by kernel_rfl) Try.func11
    (ChangeSpec.witness6 (enc := enc) (C := Try.checked) false ⟨#[], #[.int .u64 0, .int .u64 0, .int .i64 0, .int .u64 0], []⟩ 8 (by kernel_rfl) (by kernel_rfl) (by kernel_rfl) (by kernel_rfl)) ?_
  intro W base args ds gs before hval0 hW hcnd _
  have hval : ∀ (j : Nat) t v, Try.f11.params[j]? = some t → args[j]? = some v → Value.okWide Try.prog W .any base t v := hval0
  have hW' := hW
  obtain ⟨p, q, hA0, hV, rfl, hfz, hnd⟩ := hW
  have hA : DataW.TrodAll enc Try.prog W 0 (fun _ => true) true Try.f11.params.toList args.toList ds p := hA0
  rw [Try.params11] at hA hval
  obtain ⟨v0, vs0, d0, ds0, p0, q0, hargs, rfl, rfl, h0, r0⟩ := trodAll_cons hA
  obtain ⟨v1, vs1, d1, ds1, p1, q1, rfl, rfl, rfl, h1, r1⟩ := trodAll_cons r0
  obtain ⟨v2, vs2, d2, ds2, p2, q2, rfl, rfl, rfl, h2, r2⟩ := trodAll_cons r1
  obtain ⟨v3, vs3, d3, ds3, p3, q3, rfl, rfl, rfl, h3, r3⟩ := trodAll_cons r2
  obtain ⟨rfl, rfl, rfl⟩ := trodAll_nil r3
  obtain rfl : args = #[v0, v1, v2, v3] := by cases args; simp_all
  obtain ⟨rfl, rfl⟩ := trodVars_none hV
  obtain ⟨a0, rfl, rfl, rfl, w0⟩ := open_int Try.underlying32 (hval 0 32 v0 rfl rfl) h0
  obtain ⟨a1, rfl, rfl, rfl, w1⟩ := open_int Try.underlying32 (hval 1 32 v1 rfl rfl) h1
  obtain ⟨a2, rfl, rfl, rfl, w2⟩ := open_int Try.underlying3 (hval 2 3 v2 rfl rfl) h2
  obtain ⟨a3, rfl, rfl, rfl, w3⟩ := open_int Try.underlying32 (hval 3 32 v3 rfl rfl) h3
  clear hA0 hval0
  refine (walk a0 a1 a2 a3 W (bounds_u64 w0) (bounds_u64 w1) (bounds_i64 w2) (bounds_u64 w3)).mono fun e W' ⟨he, bel⟩ => ?_
  subst he
  exact ⟨_, rfl, _, _, _, [], _, [], hW', trodAll_mk1 (shut_bool Try.underlying4 _), (trodAll_cons_mk (shut_int Try.underlying32 w0) (trodAll_cons_mk (shut_int Try.underlying32 w1) (trodAll_cons_mk (shut_int Try.underlying3 w2) (trodAll_cons_mk (shut_int Try.underlying32 w3) trodAll_mk0)))), rfl, bel.frame _, fun h => by cases h⟩

theorem over : Rows.xxhApartRow.holds Try.pinned (OpenSpec.ofChange Rows.xxhApartSpec) :=
  OpenClaim.holds_of_wide 11 Try.f11 rfl rfl rfl rfl rfl rfl rfl ⟨rfl, rfl, rfl, rfl, rfl⟩ rfl rfl rfl rfl rfl (by kernel_rfl) Try.func11 (by kernel_rfl)
    (of_decide_eq_true (by kernel_rfl)) (by unfold Func.isWrapper; first | (rw [if_pos (by decide +kernel)]; kernel_rfl) | (rw [if_neg (by decide +kernel)]; exact ⟨rfl, rfl⟩))
    (fun os started H enc _ => lifted os started H enc)

/-- The statement. -/
theorem proved : Rows.XxhApartSaid := over
#print axioms proved
end Go.Proofs.Ytboajmnckldmiaa.xxhApart
