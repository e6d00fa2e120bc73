/- The statement cheesepresslaw43.BoundGrows holds: for every input the law returns true, and the arguments read as before. -/
import Derived.Test.YtfdbkpbgkpkckaaShell
import Derived.Test.YtfdbkpbgkpkckaaKit
import Derived.Test.YtfdbkpbgkpkckaaBoundBlocksRef
namespace Go.Proofs.Ytfdbkpbgkpkckaa.boundGrows
open Go.ChangeShapes Go.WideShapes Go.ChangeAt Go.RowKit
open Go.ChangeMaps (open_string shut_string)
set_option linter.unusedVariables false
set_option maxRecDepth 100000

theorem grow_facts (k r u j : Int) (b : 1 ≤ k ∧ k ≤ 9999 ∧ 0 ≤ r ∧ r ≤ 9 ∧ 1 ≤ u ∧ u ≤ 1048575 ∧ 1 ≤ j ∧ j ≤ 1048575) :
    k * (r + 1) * (u + j) < (k + 1) * (r + 1) * (u + j) ∧ k * (r + 1) * (u + j) < k * (r + 1 + 1) * (u + j) ∧ k * (r + 1) * (u + j) < k * (r + 1) * (u + 1 + j) := by
  have h1 : 0 < (r + 1) * (u + j) := Int.mul_pos (by omega) (by omega)
  have h2 : 0 < k * (u + j) := Int.mul_pos (by omega) (by omega)
  have h3 : 0 < k * (r + 1) := Int.mul_pos (by omega) (by omega)
  refine ⟨?_, ?_, ?_⟩
  · have e : (k + 1) * (r + 1) * (u + j) = k * (r + 1) * (u + j) + (r + 1) * (u + j) := by
      rw [Int.mul_assoc, Int.add_mul, Int.one_mul, ← Int.mul_assoc]
    omega
  · have e : k * (r + 1 + 1) * (u + j) = k * (r + 1) * (u + j) + k * (u + j) := by
      rw [Int.mul_add k (r + 1) 1, Int.mul_one, Int.add_mul]
    omega
  · have e : k * (r + 1) * (u + 1 + j) = k * (r + 1) * (u + j) + k * (r + 1) := by
      rw [show u + 1 + j = (u + j) + 1 by omega, Int.mul_add (k * (r + 1)) (u + j) 1, Int.mul_one]
    omega

set_option maxHeartbeats 4000000 in
theorem walk (n b k r u j : Int) (w : World) (hn : -9223372036854775808 ≤ n ∧ n ≤ 9223372036854775807) (hb : -9223372036854775808 ≤ b ∧ b ≤ 9223372036854775807) (hk : -9223372036854775808 ≤ k ∧ k ≤ 9223372036854775807)
    (hr : -9223372036854775808 ≤ r ∧ r ≤ 9223372036854775807) (hu : -9223372036854775808 ≤ u ∧ u ≤ 9223372036854775807) (hj : -9223372036854775808 ≤ j ∧ j ≤ 9223372036854775807) :
    Calls Try.prog 4 #[.int .i64 n, .int .i64 b, .int .i64 k, .int .i64 r, .int .i64 u, .int .i64 j] w fun e w' => e = .returned (.bool true) ∧ Below w.heap.size w w' := by
  obtain ⟨N, hN⟩ : ∃ N, modI n 1099511627776 = N := ⟨_, rfl⟩
  obtain ⟨B, hBm⟩ : ∃ B, modI b 1073741824 = B := ⟨_, rfl⟩
  obtain ⟨K, hK⟩ : ∃ K, modI k 9999 = K := ⟨_, rfl⟩
  obtain ⟨R, hR⟩ : ∃ R, modI r 10 = R := ⟨_, rfl⟩
  obtain ⟨U, hU⟩ : ∃ U, modI u 524288 = U := ⟨_, rfl⟩
  obtain ⟨J, hJ⟩ : ∃ J, modI j 524288 = J := ⟨_, rfl⟩
  have bN := modI_lo (n := n) (m := 1099511627776) (by omega)
  have bB := modI_lo (n := b) (m := 1073741824) (by omega)
  have bK := modI_lo (n := k) (m := 9999) (by omega)
  have bR := modI_lo (n := r) (m := 10) (by omega)
  have bU := modI_lo (n := u) (m := 524288) (by omega)
  have bJ := modI_lo (n := j) (m := 524288) (by omega)
  rw [hN] at bN
  rw [hBm] at bB
  rw [hK] at bK
  rw [hR] at bR
  rw [hU] at bU
  rw [hJ] at bJ
  have HN := Lib.hid hN
  have HBm := Lib.hid hBm
  have HK := Lib.hid hK
  have HR := Lib.hid hR
  have HU := Lib.hid hU
  have HJ := Lib.hid hJ
  clear hN hBm hK hR hU hJ
  have O1 := Lib.hid (out_ok (n := N) (k := 1 + B) (by unfold outBad; omega))
  have O2 := Lib.hid (out_ok (n := N + 1) (k := 1 + B) (by unfold outBad; omega))
  have O3 := Lib.hid (out_ok (n := N) (k := 1 + B + 1) (by unfold outBad; omega))
  have S1 := Lib.hid (steps_ok (k := 1 + K) (r := R) (u := 1 + J + U) (j := 1 + J) (by unfold stepsBad; omega))
  have S2 := Lib.hid (steps_ok (k := 1 + K + 1) (r := R) (u := 1 + J + U) (j := 1 + J) (by unfold stepsBad; omega))
  have S3 := Lib.hid (steps_ok (k := 1 + K) (r := R + 1) (u := 1 + J + U) (j := 1 + J) (by unfold stepsBad; omega))
  have S4 := Lib.hid (steps_ok (k := 1 + K) (r := R) (u := 1 + J + U + 1) (j := 1 + J) (by unfold stepsBad; omega))
  obtain ⟨f1, f2, f3⟩ := grow_facts (1 + K) R (1 + J + U) (1 + J) (by omega)
  have b2 := steps_fit (1 + K) R (1 + J + U) (1 + J) (by omega)
  go_enter Try.func4, Try.ntmps4
  go_wp2_with fail
  refine (Mod_any n _ _ hn.1 hn.2 (by omega)).mono ?_
  rintro e w1 ⟨rfl, rfl⟩
  rw [HN.out]
  go_wp2_with fail
  refine (Mod_any b _ _ hb.1 hb.2 (by omega)).mono ?_
  rintro e w1 ⟨rfl, rfl⟩
  rw [HBm.out]
  go_wp2_with fail
  refine (Output_any N (1 + B) _ (by omega) (by omega)).mono ?_
  rintro e w1 ⟨rfl, hB1⟩
  rw [O1.out.1, O1.out.2]
  go_wp2_with fail
  refine (Output_any (N + 1) (1 + B) _ (by omega) (by omega)).mono ?_
  rintro e w2 ⟨rfl, hB2⟩
  rw [O2.out.1, O2.out.2]
  go_wp2_with fail
  refine (Output_any N (1 + B + 1) _ (by omega) (by omega)).mono ?_
  rintro e w3 ⟨rfl, hB3⟩
  rw [O3.out.1, O3.out.2]
  have t1 : (N + 1 + 3 * (1 + B) + 10 != N + 3 * (1 + B) + 10 + 1) = false := by simp; omega
  have t2 : (N + 3 * (1 + B + 1) + 10 != N + 3 * (1 + B) + 10 + 3) = false := by simp; omega
  have t3 : decide (N + 3 * (1 + B) + 10 < N + 10) = false := by simp; omega
  go_wp2_with fail
  clear t1 t2 t3
  refine (Mod_any k _ _ hk.1 hk.2 (by omega)).mono ?_
  rintro e w4 ⟨rfl, rfl⟩
  rw [HK.out]
  go_wp2_with fail
  refine (Mod_any r _ _ hr.1 hr.2 (by omega)).mono ?_
  rintro e w4 ⟨rfl, rfl⟩
  rw [HR.out]
  go_wp2_with fail
  refine (Mod_any j _ _ hj.1 hj.2 (by omega)).mono ?_
  rintro e w4 ⟨rfl, rfl⟩
  rw [HJ.out]
  go_wp2_with fail
  refine (Mod_any u _ _ hu.1 hu.2 (by omega)).mono ?_
  rintro e w4 ⟨rfl, rfl⟩
  rw [HU.out]
  go_wp2_with fail
  refine (Steps_any (1 + K) R (1 + J + U) (1 + J) _ (by omega) (by omega) (by omega) (by omega)).mono ?_
  rintro e w4 ⟨rfl, hB4⟩
  rw [S1.out.1, S1.out.2]
  go_wp2_with fail
  refine (Steps_any (1 + K + 1) R (1 + J + U) (1 + J) _ (by omega) (by omega) (by omega) (by omega)).mono ?_
  rintro e w5 ⟨rfl, hB5⟩
  rw [S2.out.1, S2.out.2]
  go_wp2_with fail
  refine (Steps_any (1 + K) (R + 1) (1 + J + U) (1 + J) _ (by omega) (by omega) (by omega) (by omega)).mono ?_
  rintro e w6 ⟨rfl, hB6⟩
  rw [S3.out.1, S3.out.2]
  go_wp2_with fail
  refine (Steps_any (1 + K) R (1 + J + U + 1) (1 + J) _ (by omega) (by omega) (by omega) (by omega)).mono ?_
  rintro e w7 ⟨rfl, hB7⟩
  rw [S4.out.1, S4.out.2]
  have g1 : decide ((1 + K) * (R + 1) * (1 + J + U + (1 + J)) < (1 + K + 1) * (R + 1) * (1 + J + U + (1 + J))) = true := by simpa using f1
  have g2 : decide ((1 + K) * (R + 1) * (1 + J + U + (1 + J)) < (1 + K) * (R + 1 + 1) * (1 + J + U + (1 + J))) = true := by simpa using f2
  have g3 : decide ((1 + K) * (R + 1) * (1 + J + U + (1 + J)) < (1 + K) * (R + 1) * (1 + J + U + 1 + (1 + J))) = true := by simpa using f3
  have g4 : ((1 + K) * (R + 1) * (1 + J + U + (1 + J)) == (1 + K) * (R + 1) * (1 + J + U + (1 + J))) = true := by simp
  generalize (1 + K + 1) * (R + 1) * (1 + J + U + (1 + J)) = V1 at *
  generalize (1 + K) * (R + 1 + 1) * (1 + J + U + (1 + J)) = V2 at *
  generalize (1 + K) * (R + 1) * (1 + J + U + 1 + (1 + J)) = V3 at *
  go_wp2_with fail
  refine (awake43_any _).mono ?_
  rintro e w8 ⟨rfl, hB8⟩
  go_wp2_with fail
  go_ret
  exact ⟨rfl, below_then (below_then (below_then (below_then (below_then (below_then (below_then hB1 hB2) hB3) hB4) hB5) hB6) hB7) hB8⟩

/-! The step from the walk to the statement: the shell's text. -/
set_option maxRecDepth 100000 in
theorem lifted (os : Os) (started : os.Started) (H : Type) (enc : TypeId × Value → H) :
    ReturnsInHanded {} Try.checked os 4 .any (Rows.boundGrowsSpec.pre6 enc Try.prog Try.f4 Rows.boundGrowsRow.domain false) (Rows.boundGrowsSpec.post enc Try.prog Try.f4 false true false false) := by
  refine returnsInHanded_of_change (C := Try.checked) own started (by kernel_rfl) Try.func4
    (ChangeSpec.witness6 (enc := enc) (C := Try.checked) false ⟨#[], #[.int .i64 0, .int .i64 0, .int .i64 0, .int .i64 0, .int .i64 0, .int .i64 0], []⟩ 8 (by kernel_rfl) (by kernel_rfl) (by kernel_rfl) (by kernel_rfl)) ?_
  intro W base args ds gs before hval0 hW hcnd _
  have hval : ∀ (j : Nat) t v, Try.f4.params[j]? = some t → args[j]? = some v → Value.okWide Try.prog W .any base t v := hval0
  have hW' := hW
  obtain ⟨p, q, hA0, hV, rfl, hfz, hnd⟩ := hW
  have hA : DataW.TrodAll enc Try.prog W 0 (fun _ => true) true Try.f4.params.toList args.toList ds p := hA0
  rw [Try.params4] at hA hval
  obtain ⟨v0, vs0, d0, ds0, p0, q0, hargs, rfl, rfl, h0, r0⟩ := trodAll_cons hA
  obtain ⟨v1, vs1, d1, ds1, p1, q1, rfl, rfl, rfl, h1, r1⟩ := trodAll_cons r0
  obtain ⟨v2, vs2, d2, ds2, p2, q2, rfl, rfl, rfl, h2, r2⟩ := trodAll_cons r1
  obtain ⟨v3, vs3, d3, ds3, p3, q3, rfl, rfl, rfl, h3, r3⟩ := trodAll_cons r2
  obtain ⟨v4, vs4, d4, ds4, p4, q4, rfl, rfl, rfl, h4, r4⟩ := trodAll_cons r3
  obtain ⟨v5, vs5, d5, ds5, p5, q5, rfl, rfl, rfl, h5, r5⟩ := trodAll_cons r4
  obtain ⟨rfl, rfl, rfl⟩ := trodAll_nil r5
  obtain rfl : args = #[v0, v1, v2, v3, v4, v5] := by cases args; simp_all
  obtain ⟨rfl, rfl⟩ := trodVars_none hV
  obtain ⟨a0, rfl, rfl, rfl, w0⟩ := open_int Try.underlying3 (hval 0 3 v0 rfl rfl) h0
  obtain ⟨a1, rfl, rfl, rfl, w1⟩ := open_int Try.underlying3 (hval 1 3 v1 rfl rfl) h1
  obtain ⟨a2, rfl, rfl, rfl, w2⟩ := open_int Try.underlying3 (hval 2 3 v2 rfl rfl) h2
  obtain ⟨a3, rfl, rfl, rfl, w3⟩ := open_int Try.underlying3 (hval 3 3 v3 rfl rfl) h3
  obtain ⟨a4, rfl, rfl, rfl, w4⟩ := open_int Try.underlying3 (hval 4 3 v4 rfl rfl) h4
  obtain ⟨a5, rfl, rfl, rfl, w5⟩ := open_int Try.underlying3 (hval 5 3 v5 rfl rfl) h5
  clear hA0 hval0
  refine (walk a0 a1 a2 a3 a4 a5 W (bounds_i64 w0) (bounds_i64 w1) (bounds_i64 w2) (bounds_i64 w3) (bounds_i64 w4) (bounds_i64 w5)).mono fun e W' ⟨he, bel⟩ => ?_
  subst he
  exact ⟨_, rfl, _, _, _, [], _, [], hW', trodAll_mk1 (shut_bool Try.underlying4 _), (trodAll_cons_mk (shut_int Try.underlying3 w0) (trodAll_cons_mk (shut_int Try.underlying3 w1) (trodAll_cons_mk (shut_int Try.underlying3 w2) (trodAll_cons_mk (shut_int Try.underlying3 w3) (trodAll_cons_mk (shut_int Try.underlying3 w4) (trodAll_cons_mk (shut_int Try.underlying3 w5) trodAll_mk0)))))), rfl, bel.frame _, fun h => by cases h⟩

theorem over : Rows.boundGrowsRow.holds Try.pinned (OpenSpec.ofChange Rows.boundGrowsSpec) :=
  OpenClaim.holds_of_wide 4 Try.f4 rfl rfl rfl rfl rfl rfl rfl ⟨rfl, rfl, rfl, rfl, rfl⟩ rfl rfl rfl rfl rfl (by kernel_rfl) Try.func4 (by kernel_rfl)
    (of_decide_eq_true (by kernel_rfl)) (by unfold Func.isWrapper; first | (rw [if_pos (by decide +kernel)]; kernel_rfl) | (rw [if_neg (by decide +kernel)]; exact ⟨rfl, rfl⟩))
    (fun os started H enc _ => lifted os started H enc)

/-- The statement. -/
theorem proved : Rows.BoundGrowsSaid := over
#print axioms proved
end Go.Proofs.Ytfdbkpbgkpkckaa.boundGrows
