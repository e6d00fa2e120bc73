/- The statement cheesepresslaw43.BoundNumbers holds: for every input the law returns true, and the arguments read as before. -/
import Derived.Test.YtfdbkpbgkpkckaaOpenStructs
import Derived.Test.YtfdbkpbgkpkckaaBoundJob
namespace Go.Proofs.Ytfdbkpbgkpkckaa.boundNumbers
open Go.ChangeShapes Go.WideShapes Go.ChangeAt Go.RowKit
open Go.ChangeMaps (open_string shut_string)
set_option linter.unusedVariables false
set_option maxRecDepth 100000

set_option maxHeartbeats 4000000 in
theorem walk (l wd jb ov : Int) (sy ck : Bool) (A : Option Addr) (xs : List Int) (c : Nat) (n b ws k r u j : Int) (w : World)
    (hl : -9223372036854775808 ≤ l ∧ l ≤ 9223372036854775807) (hwd : -9223372036854775808 ≤ wd ∧ wd ≤ 9223372036854775807) (hjb : -9223372036854775808 ≤ jb ∧ jb ≤ 9223372036854775807) (hov : -9223372036854775808 ≤ ov ∧ ov ≤ 9223372036854775807)
    (hs : SliceAt .i64 w w.heap.size A xs) (hwx : ∀ x ∈ xs, (Lit.int .i64 x).wf = true) (hlen : xs.length ≤ 9223372036854775807)
    (hn : -9223372036854775808 ≤ n ∧ n ≤ 9223372036854775807) (hb : -9223372036854775808 ≤ b ∧ b ≤ 9223372036854775807) (hws : -9223372036854775808 ≤ ws ∧ ws ≤ 9223372036854775807) (hk : -9223372036854775808 ≤ k ∧ k ≤ 9223372036854775807)
    (hr : -9223372036854775808 ≤ r ∧ r ≤ 9223372036854775807) (hu : -9223372036854775808 ≤ u ∧ u ≤ 9223372036854775807) (hj : -9223372036854775808 ≤ j ∧ j ≤ 9223372036854775807) :
    Calls Try.prog 5 #[.agg #[.int .i64 l, .int .i64 wd, .int .i64 jb, .int .i64 ov, .bool sy, .bool ck], .slice A xs.length c, .int .i64 n, .int .i64 b, .int .i64 ws, .int .i64 k, .int .i64 r, .int .i64 u, .int .i64 j] w fun e w' => e = .returned (.bool true) ∧ Below w.heap.size w w' := by
  clear hl hwd hjb hov hwx
  have FIN : ∀ (c1 : (60 < xs.length ∧ xs.length ≤ 70000) ∨ 70003 < xs.length),
      Calls Try.prog 5 #[.agg #[.int .i64 l, .int .i64 wd, .int .i64 jb, .int .i64 ov, .bool sy, .bool ck], .slice A xs.length c, .int .i64 n, .int .i64 b, .int .i64 ws, .int .i64 k, .int .i64 r, .int .i64 u, .int .i64 j] w fun e w' => e = .returned (.bool true) ∧ Below w.heap.size w w' := by
    intro c1
    have t0 : decide ((60 : Int) < (xs.length : Int)) = true := by simp; omega
    rcases c1 with c1 | c1
    · have t1 : decide ((xs.length : Int) ≤ 70000) = true := by simp; omega
      go_enter Try.func5, Try.ntmps5
      go_wp2_with fail
      refine (awake43_any _).mono ?_
      rintro e w1 ⟨rfl, hB⟩
      go_wp2
      go_ret
      exact ⟨rfl, below_then ((Below.refl _ _).alloc (Nat.le_refl _) _) hB⟩
    · have t1 : decide ((xs.length : Int) ≤ 70000) = false := by simp; omega
      have t2 : decide ((70003 : Int) < (xs.length : Int)) = true := by simp; omega
      go_enter Try.func5, Try.ntmps5
      go_wp2_with fail
      refine (awake43_any _).mono ?_
      rintro e w1 ⟨rfl, hB⟩
      go_wp2
      go_ret
      exact ⟨rfl, below_then ((Below.refl _ _).alloc (Nat.le_refl _) _) hB⟩
  by_cases c1 : (60 < xs.length ∧ xs.length ≤ 70000) ∨ 70003 < xs.length
  · exact FIN c1
  · clear FIN
    have REST : ∀ (t0 : (decide ((60 : Int) < (xs.length : Int)) = false) ∨ (decide ((60 : Int) < (xs.length : Int)) = true ∧ decide ((xs.length : Int) ≤ 70000) = false)) (t2 : decide ((70003 : Int) < (xs.length : Int)) = false),
        Calls Try.prog 5 #[.agg #[.int .i64 l, .int .i64 wd, .int .i64 jb, .int .i64 ov, .bool sy, .bool ck], .slice A xs.length c, .int .i64 n, .int .i64 b, .int .i64 ws, .int .i64 k, .int .i64 r, .int .i64 u, .int .i64 j] w fun e w' => e = .returned (.bool true) ∧ Below w.heap.size w w' := by
      intro t0 t2
      have HB := Lib.hid (fun W (hW : Below w.heap.size w W) => Blocks_any l wd jb ov sy ck A xs c w.heap.size W (hs.below hW) hW.size hlen)
      have HrB := Lib.hid (fun W (hW : Below w.heap.size w W) => rBlocks_any l wd jb ov sy ck A xs c w.heap.size W (hs.below hW) hW.size hlen)
      have HJ := Lib.hid (fun W => Job_any l wd jb ov sy ck W)
      have HrJ := Lib.hid (fun W => rJob_any l wd jb ov sy ck W)
      generalize blksV l wd jb ov xs = V1 at *
      generalize blksE l wd jb ov xs = V2 at *
      generalize jobN l wd jb ov sy = V3 at *
      generalize jobM l wd jb ov sy = V4 at *
      generalize parE l wd jb ov = V5 at *
      unfold parV at *
      have t3 : (V1 != V1) = false := by simp
      have t4 : (V2 != V2) = false := by simp
      have t5 : (outV n b != outV n b) = false := by simp
      have t6 : (outE n b != outE n b) = false := by simp
      have t7 : (V3 != V3) = false := by simp
      have t8 : (V4 != V4) = false := by simp
      have t9 : (V5 != V5) = false := by simp
      clear c1
      rcases t0 with t0 | ⟨t0, t1⟩
      all_goals (
        go_enter Try.func5, Try.ntmps5
        go_wp2_with fail
        refine (HB.out _ (below_new _)).mono ?_
        rintro e w1 ⟨rfl, hB1⟩
        have bB1 := below_then (below_new (w := w) (.cells #[.int .i64 l, .int .i64 wd, .int .i64 jb, .int .i64 ov, .bool sy, .bool ck] 24)) hB1
        have PB := (ParBox.new w l wd jb ov sy ck 24).keep hB1 (by simp)
        have HPB := Lib.hid PB
        obtain ⟨p0, p1, p2, p3, p4, p5⟩ := PB
        go_wp2_with fail
        refine (HrB.out _ bB1).mono ?_
        rintro e w2 ⟨rfl, hB2⟩
        have bB2 := below_then bB1 hB2
        go_wp2_with fail
        refine (Output_any n b _ hn hb).mono ?_
        rintro e w3 ⟨rfl, hB3⟩
        have bB3 := below_then bB2 hB3
        go_wp2_with fail
        refine (rOutput_any n b _ hn hb).mono ?_
        rintro e w4 ⟨rfl, rfl⟩
        have hsz : w.heap.size < w1.heap.size := by have := hB1.size; simp at this; omega
        have PB3 := (HPB.out.keep hB2 hsz).keep hB3 (Nat.lt_of_lt_of_le hsz hB2.size)
        clear p0 p1 p2 p3 p4 p5
        have HPB3 := Lib.hid PB3
        obtain ⟨p0, p1, p2, p3, p4, p5⟩ := PB3
        go_wp2_with fail
        refine (HJ.out _).mono ?_
        rintro e w4 ⟨rfl, hB4⟩
        have bB4 := below_then bB3 hB4
        have PB4 := HPB3.out.keep hB4 (Nat.lt_of_lt_of_le hsz (Nat.le_trans hB2.size hB3.size))
        clear p0 p1 p2 p3 p4 p5
        obtain ⟨p0, p1, p2, p3, p4, p5⟩ := PB4
        go_wp2_with fail
        refine (HrJ.out _).mono ?_
        rintro e w5 ⟨rfl, hB5⟩
        have bB5 := below_then bB4 hB5
        go_wp2_with fail
        refine (Buffers_any ws _ hws).mono ?_
        rintro e w6 ⟨rfl, hB6⟩
        have bB6 := below_then bB5 hB6
        go_wp2_with fail
        refine (rBuffers_any ws _ hws).mono ?_
        rintro e w7 ⟨rfl, hB7⟩
        have bB7 := below_then bB6 hB7
        go_wp2_with fail
        refine (Steps_any k r u j _ hk hr hu hj).mono ?_
        rintro e w8 ⟨rfl, hB8⟩
        have bB8 := below_then bB7 hB8
        go_wp2_with fail
        refine (rSteps_any k r u j _ hk hr hu hj).mono ?_
        rintro e w9 ⟨rfl, hB9⟩
        have bB9 := below_then bB8 hB9
        generalize bufV ws = U1 at *
        generalize bufE ws = U2 at *
        generalize stepsV k r u j = U3 at *
        generalize stepsE k r u j = U4 at *
        have s1 : (U1 == U1) = true := by simp
        have s2 : (U2 == U2) = true := by simp
        have s3 : (U3 == U3) = true := by simp
        have s4 : (U4 == U4) = true := by simp
        go_wp2_with fail
        refine (awake43_any _).mono ?_
        rintro e w10 ⟨rfl, hB10⟩
        go_wp2_with fail
        go_ret
        exact ⟨rfl, below_then bB9 hB10⟩)
    refine REST ?_ ?_
    · by_cases h : 60 < xs.length
      · exact .inr ⟨by simp; omega, by simp; omega⟩
      · exact .inl (by simp; omega)
    · simp; omega

/-! The step from the walk to the statement: the shell's text. -/
set_option maxRecDepth 100000 in
theorem lifted (os : Os) (started : os.Started) (H : Type) (enc : TypeId × Value → H) :
    ReturnsInHanded {} Try.checked os 5 .any (Rows.boundNumbersSpec.pre6 enc Try.prog Try.f5 Rows.boundNumbersRow.domain false) (Rows.boundNumbersSpec.post enc Try.prog Try.f5 false true false false) := by
  refine returnsInHanded_of_change (C := Try.checked) own started (by kernel_rfl) Try.func5
    (ChangeSpec.witness6 (enc := enc) (C := Try.checked) false ⟨#[], #[.agg #[.int .i64 0, .int .i64 0, .int .i64 0, .int .i64 0, .bool false, .bool false], .slice none 0 0, .int .i64 0, .int .i64 0, .int .i64 0, .int .i64 0, .int .i64 0, .int .i64 0, .int .i64 0], []⟩ 8 (by kernel_rfl) (by kernel_rfl) (by kernel_rfl) (by kernel_rfl)) ?_
  intro W base args ds gs before hval0 hW hcnd _
  have hval : ∀ (j : Nat) t v, Try.f5.params[j]? = some t → args[j]? = some v → Value.okWide Try.prog W .any base t v := hval0
  have hW' := hW
  obtain ⟨p, q, hA0, hV, rfl, hfz, hnd⟩ := hW
  have hA : DataW.TrodAll enc Try.prog W 0 (fun _ => true) true Try.f5.params.toList args.toList ds p := hA0
  rw [Try.params5] at hA hval
  obtain ⟨v0, vs0, d0, ds0, p0, q0, hargs, rfl, rfl, h0, r0⟩ := trodAll_cons hA
  obtain ⟨v1, vs1, d1, ds1, p1, q1, rfl, rfl, rfl, h1, r1⟩ := trodAll_cons r0
  obtain ⟨v2, vs2, d2, ds2, p2, q2, rfl, rfl, rfl, h2, r2⟩ := trodAll_cons r1
  obtain ⟨v3, vs3, d3, ds3, p3, q3, rfl, rfl, rfl, h3, r3⟩ := trodAll_cons r2
  obtain ⟨v4, vs4, d4, ds4, p4, q4, rfl, rfl, rfl, h4, r4⟩ := trodAll_cons r3
  obtain ⟨v5, vs5, d5, ds5, p5, q5, rfl, rfl, rfl, h5, r5⟩ := trodAll_cons r4
  obtain ⟨v6, vs6, d6, ds6, p6, q6, rfl, rfl, rfl, h6, r6⟩ := trodAll_cons r5
  obtain ⟨v7, vs7, d7, ds7, p7, q7, rfl, rfl, rfl, h7, r7⟩ := trodAll_cons r6
  obtain ⟨v8, vs8, d8, ds8, p8, q8, rfl, rfl, rfl, h8, r8⟩ := trodAll_cons r7
  obtain ⟨rfl, rfl, rfl⟩ := trodAll_nil r8
  obtain rfl : args = #[v0, v1, v2, v3, v4, v5, v6, v7, v8] := by cases args; simp_all
  obtain ⟨rfl, rfl⟩ := trodVars_none hV
  have k0 := h0
  have lt0 : ∀ x ∈ p0, x.block < W.heap.size := by obtain ⟨m, hm⟩ := k0; exact DataW.trod_lt m _ _ _ hm
  obtain ⟨pl0, pw0, pj0, po0, ps0, pc0, rfl, wpl0, wpw0, wpj0, wpo0⟩ := open_params (hval 0 24 v0 rfl rfl) h0
  obtain ⟨a1, len1, cap1, rfl⟩ := okWide_slice Try.underlying22 (hval 1 22 v1 rfl rfl)
  have k1 := h1
  have lt1 : ∀ x ∈ p1, x.block < W.heap.size := by obtain ⟨m, hm⟩ := k1; exact DataW.trod_lt m _ _ _ hm
  obtain ⟨z1, rfl, w1, b1, l1⟩ := open_sl Try.underlying22 Try.underlying3 (by kernel_rfl) h1
  obtain ⟨a2, rfl, rfl, rfl, w2⟩ := open_int Try.underlying3 (hval 2 3 v2 rfl rfl) h2
  obtain ⟨a3, rfl, rfl, rfl, w3⟩ := open_int Try.underlying3 (hval 3 3 v3 rfl rfl) h3
  obtain ⟨a4, rfl, rfl, rfl, w4⟩ := open_int Try.underlying3 (hval 4 3 v4 rfl rfl) h4
  obtain ⟨a5, rfl, rfl, rfl, w5⟩ := open_int Try.underlying3 (hval 5 3 v5 rfl rfl) h5
  obtain ⟨a6, rfl, rfl, rfl, w6⟩ := open_int Try.underlying3 (hval 6 3 v6 rfl rfl) h6
  obtain ⟨a7, rfl, rfl, rfl, w7⟩ := open_int Try.underlying3 (hval 7 3 v7 rfl rfl) h7
  obtain ⟨a8, rfl, rfl, rfl, w8⟩ := open_int Try.underlying3 (hval 8 3 v8 rfl rfl) h8
  clear hA0 hval0
  refine (walk pl0 pw0 pj0 po0 ps0 pc0 a1 z1 cap1 a2 a3 a4 a5 a6 a7 a8 W (bounds_i64 wpl0) (bounds_i64 wpw0) (bounds_i64 wpj0) (bounds_i64 wpo0) w1 b1 l1 (bounds_i64 w2) (bounds_i64 w3) (bounds_i64 w4) (bounds_i64 w5) (bounds_i64 w6) (bounds_i64 w7) (bounds_i64 w8)).mono fun e W' ⟨he, bel⟩ => ?_
  subst he
  exact ⟨_, rfl, _, _, _, [], _, [], hW', trodAll_mk1 (shut_bool Try.underlying4 _), (trodAll_cons_mk (Below.trod laidOut (by kernel_rfl) (of_decide_eq_true (by kernel_rfl)) k0 bel lt0) (trodAll_cons_mk (Below.trod laidOut (by kernel_rfl) (of_decide_eq_true (by kernel_rfl)) k1 bel lt1) (trodAll_cons_mk (shut_int Try.underlying3 w2) (trodAll_cons_mk (shut_int Try.underlying3 w3) (trodAll_cons_mk (shut_int Try.underlying3 w4) (trodAll_cons_mk (shut_int Try.underlying3 w5) (trodAll_cons_mk (shut_int Try.underlying3 w6) (trodAll_cons_mk (shut_int Try.underlying3 w7) (trodAll_cons_mk (shut_int Try.underlying3 w8) trodAll_mk0))))))))), rfl, bel.frame _, fun h => by cases h⟩

theorem over : Rows.boundNumbersRow.holds Try.pinned (OpenSpec.ofChange Rows.boundNumbersSpec) :=
  OpenClaim.holds_of_wide 5 Try.f5 rfl rfl rfl rfl rfl rfl rfl ⟨rfl, rfl, rfl, rfl, rfl⟩ rfl rfl rfl rfl rfl (by kernel_rfl) Try.func5 (by kernel_rfl)
    (of_decide_eq_true (by kernel_rfl)) (by unfold Func.isWrapper; first | (rw [if_pos (by decide +kernel)]; kernel_rfl) | (rw [if_neg (by decide +kernel)]; exact ⟨rfl, rfl⟩))
    (fun os started H enc _ => lifted os started H enc)

/-- The statement. -/
theorem proved : Rows.BoundNumbersSaid := over
#print axioms proved
end Go.Proofs.Ytfdbkpbgkpkckaa.boundNumbers
