/- The statement cheesepresslaw05.XxhStates holds: for every input the law returns true, and the arguments read as before. -/
import Derived.Test.YtboajmnckldmiaaOpenStructs
import Derived.Test.YtboajmnckldmiaaXxhAwake
import Derived.Deep.RegionHeld3
import Derived.Deep.DrawnRows
namespace Go.Proofs.Ytboajmnckldmiaa.xxhStates
open Go.ChangeShapes Go.WideShapes Go.ChangeAt Go.RowKit
open Go.ChangeMaps (open_string shut_string)
set_option linter.unusedVariables false
set_option maxRecDepth 100000

attribute [local go_sem ↓] Go.wp_at_zero Go.wp_at_succ
set_option maxHeartbeats 8000000 in
theorem walk (h0 h1 h2 h3 h4 : Int) (h5 : ByteArray) (h6 : Int) (s : ByteArray) (w : World) (b0 : 0 ≤ h0 ∧ h0 ≤ 18446744073709551615) (b1 : 0 ≤ h1 ∧ h1 ≤ 18446744073709551615) (b2 : 0 ≤ h2 ∧ h2 ≤ 18446744073709551615) (b3 : 0 ≤ h3 ∧ h3 ≤ 18446744073709551615) (b4 : -9223372036854775808 ≤ h4 ∧ h4 ≤ 9223372036854775807) (b5 : h5.size ≤ maxLen) (b6 : 0 ≤ h6 ∧ h6 ≤ 18446744073709551615) (hs : s.size ≤ maxLen) :
    Calls Try.prog 7 #[.agg #[.int .u64 h0, .int .u64 h1, .int .u64 h2, .int .u64 h3, .int .i64 h4, .string h5, .int .u64 h6], .string s] w fun e w' => e = .returned (.bool true) ∧ Below w.heap.size w w' := by
  have hs' : s.size ≤ 9223372036854775807 := hs
  have b5' : h5.size ≤ 9223372036854775807 := b5
  clear hs b5
  have hok : HshOk ⟨⟨h0, h1, h2, h3⟩, h4, h5, h6⟩ := ⟨⟨b0, b1, b2, b3⟩, b4, b5', b6⟩
  have HC0 := Hs.new w ⟨⟨h0, h1, h2, h3⟩, h4, h5, h6⟩ 49
  have hBw := below_new (w := w) (.cells #[.int .u64 h0, .int .u64 h1, .int .u64 h2, .int .u64 h3, .int .i64 h4, .string h5, .int .u64 h6] 49)
  by_cases hl : 60 < h5.size ∨ 200 < s.size
  · have haw : ∀ (b : Bool), (60 < h5.size) = (b = true) → True := fun _ _ => trivial
    clear haw
    by_cases hl1 : 60 < h5.size
    · go_enter Try.func7, Try.ntmps7
      go_wp2_with fail
      refine (awake05_any _).mono ?_
      rintro e w1 ⟨rfl, hB⟩
      go_wp2
      go_ret
      exact ⟨rfl, below_then hBw hB⟩
    · have hl2 : 200 < s.size := by omega
      clear hl
      go_enter Try.func7, Try.ntmps7
      go_wp2_with fail
      refine (awake05_any _).mono ?_
      rintro e w1 ⟨rfl, hB⟩
      go_wp2
      go_ret
      exact ⟨rfl, below_then hBw hB⟩
  · have hl1 : ¬ 60 < h5.size := by omega
    have hl2 : ¬ 200 < s.size := by omega
    clear hl
    have HA := Lib.hid (fun W => Add05_H ⟨⟨h0, h1, h2, h3⟩, h4, h5, h6⟩ s W hok (by omega))
    have HrA := Lib.hid (fun W => rAdd05_any h0 h1 h2 h3 h4 h5 h6 s W hok (by omega))
    have HS := Lib.hid (fun W => Sum05_H ⟨⟨h0, h1, h2, h3⟩, h4, h5, h6⟩ W hok)
    have HrS := Lib.hid (fun W => rSum05_any h0 h1 h2 h3 h4 h5 h6 W hok)
    have HC := Lib.hid (fun W => Check05_H ⟨⟨h0, h1, h2, h3⟩, h4, h5, h6⟩ W hok)
    have HrC := Lib.hid (fun W => rCheck05_any h0 h1 h2 h3 h4 h5 h6 W b5' b6)
    have HN := Lib.hid (fun W => New05_any h6 W b6)
    have HrN := Lib.hid (fun W => rNew05_any h6 W b6)
    generalize addO ⟨⟨h0, h1, h2, h3⟩, h4, h5, h6⟩ s = k at *
    generalize addE ⟨⟨h0, h1, h2, h3⟩, h4, h5, h6⟩ s = ke at *
    generalize sumO ⟨⟨h0, h1, h2, h3⟩, h4, h5, h6⟩ = x at *
    generalize checkH ⟨⟨h0, h1, h2, h3⟩, h4, h5, h6⟩ = c at *
    generalize newH h6 = n at *
    obtain ⟨⟨k0, k1, k2, k3⟩, k4, k5, k6⟩ := k
    obtain ⟨⟨n0, n1, n2, n3⟩, n4, n5, n6⟩ := n
    unfold Hsh.val at HA HrA HS HC HN HrN
    simp only at HA HrA HS HC HN HrN
    have HP := Lib.hid (fun V (hV : Below (w.alloc (.cells #[.int .u64 h0, .int .u64 h1, .int .u64 h2, .int .u64 h3, .int .i64 h4, .string h5, .int .u64 h6] 49)).heap.size (w.alloc (.cells #[.int .u64 h0, .int .u64 h1, .int .u64 h2, .int .u64 h3, .int .i64 h4, .string h5, .int .u64 h6] 49)) V) => HC0.keep' hV)
    have hB0 := Below.refl (w.alloc (.cells #[.int .u64 h0, .int .u64 h1, .int .u64 h2, .int .u64 h3, .int .i64 h4, .string h5, .int .u64 h6] 49)).heap.size (w.alloc (.cells #[.int .u64 h0, .int .u64 h1, .int .u64 h2, .int .u64 h3, .int .i64 h4, .string h5, .int .u64 h6] 49))
    have HZ0 : Hid (w.heap.size < (w.alloc (.cells #[.int .u64 h0, .int .u64 h1, .int .u64 h2, .int .u64 h3, .int .i64 h4, .string h5, .int .u64 h6] 49)).heap.size) := by simp [Hid]
    have hq1 := fun V => run_eqH V k0 k1 k2 k3 k4 k5 k6
    have hq2 := fun V => run_eqH V n0 n1 n2 n3 n4 n5 n6
    have HQ1 := Lib.hid hq1
    have HQ2 := Lib.hid hq2
    clear hq1 hq2 HC0 hok b0 b1 b2 b3 b4
    go_enter Try.func7, Try.ntmps7
    go_wp2_with fail
    generalize hW0 : w.alloc (.cells #[.int .u64 h0, .int .u64 h1, .int .u64 h2, .int .u64 h3, .int .i64 h4, .string h5, .int .u64 h6] 49) = W0 at *
    clear hW0
    refine (HA.out _).mono ?_
    rintro e w1 ⟨rfl, hB1⟩
    have bB1 := below_then hB0 hB1
    have GA1 := Hs.new w1 ⟨⟨k0, k1, k2, k3⟩, k4, k5, k6⟩ 49
    have bC1 := below_alloc bB1 (.cells #[.int .u64 k0, .int .u64 k1, .int .u64 k2, .int .u64 k3, .int .i64 k4, .string k5, .int .u64 k6] 49)
    have xp := HP.out _ bC1
    have p0 := xp.c0
    have p1 := xp.c1
    have p2 := xp.c2
    have p3 := xp.c3
    have p4 := xp.c4
    have p5 := xp.c5
    have p6 := xp.c6
    simp only at p0 p1 p2 p3 p4 p5 p6
    clear xp
    go_wp2_with fail
    refine (HrA.out _).mono ?_
    rintro e w2 ⟨rfl, hB2⟩
    clear p0 p1 p2 p3 p4 p5 p6
    have bB2 := below_then bC1 hB2
    have gA2 := (GA1.keep' hB2)
    have GA2 := gA2.alloc (.cells #[.int .u64 k0, .int .u64 k1, .int .u64 k2, .int .u64 k3, .int .i64 k4, .string k5, .int .u64 k6] 49)
    have GB2 := Hs.new w2 ⟨⟨k0, k1, k2, k3⟩, k4, k5, k6⟩ 49
    have bC2 := below_alloc bB2 (.cells #[.int .u64 k0, .int .u64 k1, .int .u64 k2, .int .u64 k3, .int .i64 k4, .string k5, .int .u64 k6] 49)
    have hz1 := bB1.size
    have hz2 := hB2.size
    rw [World.size_alloc] at hz2
    clear GA1 gA2 hB1 bB1 bC1 hB2 bB2
    have xp := HP.out _ bC2
    have p0 := xp.c0
    have p1 := xp.c1
    have p2 := xp.c2
    have p3 := xp.c3
    have p4 := xp.c4
    have p5 := xp.c5
    have p6 := xp.c6
    simp only at p0 p1 p2 p3 p4 p5 p6
    clear xp
    go_wp2_with fail
    refine (HS.out _).mono ?_
    rintro e w3 ⟨rfl, hB3⟩
    clear p0 p1 p2 p3 p4 p5 p6
    have bB3 := below_then bC2 hB3
    have GA3 := GA2.keep' hB3
    have GB3 := GB2.keep' hB3
    clear GA2 GB2 bC2 hB3
    have xp := HP.out _ bB3
    have p0 := xp.c0
    have p1 := xp.c1
    have p2 := xp.c2
    have p3 := xp.c3
    have p4 := xp.c4
    have p5 := xp.c5
    have p6 := xp.c6
    simp only at p0 p1 p2 p3 p4 p5 p6
    clear xp
    go_wp2_with fail
    refine (HrS.out _).mono ?_
    rintro e w4 ⟨rfl, hB4⟩
    clear p0 p1 p2 p3 p4 p5 p6
    have bB4 := below_then bB3 hB4
    have GA4 := GA3.keep' hB4
    have GB4 := GB3.keep' hB4
    clear GA3 GB3 bB3 hB4
    have HPA := Lib.hid (fun V (hV : Below w4.heap.size w4 V) => And.intro (HP.out _ (below_then bB4 hV)) (And.intro (GA4.keep' hV) (GB4.keep' hV)))
    have hB4r := Below.refl w4.heap.size w4
    clear GA4 GB4
    obtain ⟨xp, xa, xb⟩ := HPA.out _ hB4r
    have p0 := xp.c0
    have p1 := xp.c1
    have p2 := xp.c2
    have p3 := xp.c3
    have p4 := xp.c4
    have p5 := xp.c5
    have p6 := xp.c6
    have a0 := xa.c0
    have a1 := xa.c1
    have a2 := xa.c2
    have a3 := xa.c3
    have a4 := xa.c4
    have a5 := xa.c5
    have a6 := xa.c6
    have b0 := xb.c0
    have b1 := xb.c1
    have b2 := xb.c2
    have b3 := xb.c3
    have b4 := xb.c4
    have b5 := xb.c5
    have b6 := xb.c6
    simp only at p0 p1 p2 p3 p4 p5 p6 a0 a1 a2 a3 a4 a5 a6 b0 b1 b2 b3 b4 b5 b6
    clear xp xa xb
    have hq1 := HQ1.out
    have hq2 := HQ2.out
    go_wp2
    go_region_held3 (fun w' => Below w4.heap.size w4 w' ∧ w'.cell? ⟨w.heap.size, 0, none⟩ = some (.int .u64 h0) ∧ w'.cell? ⟨w.heap.size, 1, none⟩ = some (.int .u64 h1) ∧ w'.cell? ⟨w.heap.size, 2, none⟩ = some (.int .u64 h2) ∧ w'.cell? ⟨w.heap.size, 3, none⟩ = some (.int .u64 h3) ∧ w'.cell? ⟨w.heap.size, 4, none⟩ = some (.int .i64 h4) ∧ w'.cell? ⟨w.heap.size, 5, none⟩ = some (.string h5) ∧ w'.cell? ⟨w.heap.size, 6, none⟩ = some (.int .u64 h6) ∧ w'.cell? ⟨w1.heap.size, 0, none⟩ = some (.int .u64 k0) ∧ w'.cell? ⟨w1.heap.size, 1, none⟩ = some (.int .u64 k1) ∧ w'.cell? ⟨w1.heap.size, 2, none⟩ = some (.int .u64 k2) ∧ w'.cell? ⟨w1.heap.size, 3, none⟩ = some (.int .u64 k3) ∧ w'.cell? ⟨w1.heap.size, 4, none⟩ = some (.int .i64 k4) ∧ w'.cell? ⟨w1.heap.size, 5, none⟩ = some (.string k5) ∧ w'.cell? ⟨w1.heap.size, 6, none⟩ = some (.int .u64 k6) ∧ w'.cell? ⟨w2.heap.size, 0, none⟩ = some (.int .u64 k0) ∧ w'.cell? ⟨w2.heap.size, 1, none⟩ = some (.int .u64 k1) ∧ w'.cell? ⟨w2.heap.size, 2, none⟩ = some (.int .u64 k2) ∧ w'.cell? ⟨w2.heap.size, 3, none⟩ = some (.int .u64 k3) ∧ w'.cell? ⟨w2.heap.size, 4, none⟩ = some (.int .i64 k4) ∧ w'.cell? ⟨w2.heap.size, 5, none⟩ = some (.string k5) ∧ w'.cell? ⟨w2.heap.size, 6, none⟩ = some (.int .u64 k6))
      ((refine ⟨?_, ?_, ?_, ?_, ?_, ?_, ?_, ?_, ?_, ?_, ?_, ?_, ?_, ?_, ?_, ?_, ?_, ?_, ?_, ?_, ?_, ?_⟩ <;> first | assumption | exact below_drew (by assumption)))
      (first
        | (go_at_call 41; refine (HC.out _).mono ?_; rintro r w5 ⟨rfl, hB5⟩; have hBn := below_then (by first | assumption | exact And.left (by assumption)) hB5; obtain ⟨xp, xa, xb⟩ := HPA.out _ hBn; have qp0 := xp.c0; have qp1 := xp.c1; have qp2 := xp.c2; have qp3 := xp.c3; have qp4 := xp.c4; have qp5 := xp.c5; have qp6 := xp.c6; have qa0 := xa.c0; have qa1 := xa.c1; have qa2 := xa.c2; have qa3 := xa.c3; have qa4 := xa.c4; have qa5 := xa.c5; have qa6 := xa.c6; have qb0 := xb.c0; have qb1 := xb.c1; have qb2 := xb.c2; have qb3 := xb.c3; have qb4 := xb.c4; have qb5 := xb.c5; have qb6 := xb.c6; simp only at qp0 qp1 qp2 qp3 qp4 qp5 qp6 qa0 qa1 qa2 qa3 qa4 qa5 qa6 qb0 qb1 qb2 qb3 qb4 qb5 qb6; clear xp xa xb)
        | (go_at_call 42; refine (HrC.out _).mono ?_; rintro r w5 ⟨rfl, hB5⟩; have hBn := below_then (by first | assumption | exact And.left (by assumption)) hB5; obtain ⟨xp, xa, xb⟩ := HPA.out _ hBn; have qp0 := xp.c0; have qp1 := xp.c1; have qp2 := xp.c2; have qp3 := xp.c3; have qp4 := xp.c4; have qp5 := xp.c5; have qp6 := xp.c6; have qa0 := xa.c0; have qa1 := xa.c1; have qa2 := xa.c2; have qa3 := xa.c3; have qa4 := xa.c4; have qa5 := xa.c5; have qa6 := xa.c6; have qb0 := xb.c0; have qb1 := xb.c1; have qb2 := xb.c2; have qb3 := xb.c3; have qb4 := xb.c4; have qb5 := xb.c5; have qb6 := xb.c6; simp only at qp0 qp1 qp2 qp3 qp4 qp5 qp6 qa0 qa1 qa2 qa3 qa4 qa5 qa6 qb0 qb1 qb2 qb3 qb4 qb5 qb6; clear xp xa xb)
        | (go_at_call 43; refine (HN.out _).mono ?_; rintro r w5 ⟨rfl, hB5⟩; have hBn := below_then (by first | assumption | exact And.left (by assumption)) hB5; obtain ⟨xp, xa, xb⟩ := HPA.out _ hBn; have qp0 := xp.c0; have qp1 := xp.c1; have qp2 := xp.c2; have qp3 := xp.c3; have qp4 := xp.c4; have qp5 := xp.c5; have qp6 := xp.c6; have qa0 := xa.c0; have qa1 := xa.c1; have qa2 := xa.c2; have qa3 := xa.c3; have qa4 := xa.c4; have qa5 := xa.c5; have qa6 := xa.c6; have qb0 := xb.c0; have qb1 := xb.c1; have qb2 := xb.c2; have qb3 := xb.c3; have qb4 := xb.c4; have qb5 := xb.c5; have qb6 := xb.c6; simp only at qp0 qp1 qp2 qp3 qp4 qp5 qp6 qa0 qa1 qa2 qa3 qa4 qa5 qa6 qb0 qb1 qb2 qb3 qb4 qb5 qb6; clear xp xa xb)
        | (go_at_call 44; refine (HrN.out _).mono ?_; rintro r w5 ⟨rfl, hB5⟩; have hBn := below_then (by first | assumption | exact And.left (by assumption)) hB5; obtain ⟨xp, xa, xb⟩ := HPA.out _ hBn; have qp0 := xp.c0; have qp1 := xp.c1; have qp2 := xp.c2; have qp3 := xp.c3; have qp4 := xp.c4; have qp5 := xp.c5; have qp6 := xp.c6; have qa0 := xa.c0; have qa1 := xa.c1; have qa2 := xa.c2; have qa3 := xa.c3; have qa4 := xa.c4; have qa5 := xa.c5; have qa6 := xa.c6; have qb0 := xb.c0; have qb1 := xb.c1; have qb2 := xb.c2; have qb3 := xb.c3; have qb4 := xb.c4; have qb5 := xb.c5; have qb6 := xb.c6; simp only at qp0 qp1 qp2 qp3 qp4 qp5 qp6 qa0 qa1 qa2 qa3 qa4 qa5 qa6 qb0 qb1 qb2 qb3 qb4 qb5 qb6; clear xp xa xb)
        | (go_at_call 36; refine (awake05_any _).mono ?_; rintro r w5 ⟨rfl, hB5⟩; have hBn := below_then (by first | assumption | exact And.left (by assumption)) hB5; obtain ⟨xp, xa, xb⟩ := HPA.out _ hBn; have qp0 := xp.c0; have qp1 := xp.c1; have qp2 := xp.c2; have qp3 := xp.c3; have qp4 := xp.c4; have qp5 := xp.c5; have qp6 := xp.c6; have qa0 := xa.c0; have qa1 := xa.c1; have qa2 := xa.c2; have qa3 := xa.c3; have qa4 := xa.c4; have qa5 := xa.c5; have qa6 := xa.c6; have qb0 := xb.c0; have qb1 := xb.c1; have qb2 := xb.c2; have qb3 := xb.c3; have qb4 := xb.c4; have qb5 := xb.c5; have qb6 := xb.c6; simp only at qp0 qp1 qp2 qp3 qp4 qp5 qp6 qa0 qa1 qa2 qa3 qa4 qa5 qa6 qb0 qb1 qb2 qb3 qb4 qb5 qb6; clear xp xa xb))
    all_goals (
      go_wp2
      go_ret
      exact ⟨rfl, below_then hBw (below_then bB4 (by assumption))⟩)

/-! The step from the walk to the statement: the shell's text. -/
set_option maxRecDepth 100000 in
theorem lifted (os : Os) (started : os.Started) (H : Type) (enc : TypeId × Value → H) :
    ReturnsInHanded {} Try.checked os 7 .any (Rows.xxhStatesSpec.pre6 enc Try.prog Try.f7 Rows.xxhStatesRow.domain false) (Rows.xxhStatesSpec.post enc Try.prog Try.f7 false true false false) := by
  refine returnsInHanded_of_change (C := Try.checked) own started (by kernel_rfl) Try.func7
    (ChangeSpec.witness6 (enc := enc) (C := Try.checked) false ⟨#[], #[.agg #[.int .u64 0, .int .u64 0, .int .u64 0, .int .u64 0, .int .i64 0, .string ByteArray.empty, .int .u64 0], .string ByteArray.empty], []⟩ 8 (by kernel_rfl) (by kernel_rfl) (by kernel_rfl) (by kernel_rfl)) ?_
  intro W base args ds gs before hval0 hW hcnd _
  have hval : ∀ (j : Nat) t v, Try.f7.params[j]? = some t → args[j]? = some v → Value.okWide Try.prog W .any base t v := hval0
  have hW' := hW
  obtain ⟨p, q, hA0, hV, rfl, hfz, hnd⟩ := hW
  have hA : DataW.TrodAll enc Try.prog W 0 (fun _ => true) true Try.f7.params.toList args.toList ds p := hA0
  rw [Try.params7] at hA hval
  obtain ⟨v0, vs0, d0, ds0, p0, q0, hargs, rfl, rfl, h0, r0⟩ := trodAll_cons hA
  obtain ⟨v1, vs1, d1, ds1, p1, q1, rfl, rfl, rfl, h1, r1⟩ := trodAll_cons r0
  obtain ⟨rfl, rfl, rfl⟩ := trodAll_nil r1
  obtain rfl : args = #[v0, v1] := by cases args; simp_all
  obtain ⟨rfl, rfl⟩ := trodVars_none hV
  have k0 := h0
  have lt0 : ∀ x ∈ p0, x.block < W.heap.size := by obtain ⟨m, hm⟩ := k0; exact DataW.trod_lt m _ _ _ hm
  obtain ⟨xa0, xb0, xc0, xd0, xt0, xs0, xe0, rfl, wxa0, wxb0, wxc0, wxd0, wxt0, wxs0, wxe0⟩ := open_hash (hval 0 49 v0 rfl rfl) h0
  obtain ⟨a1, rfl, rfl, rfl, w1⟩ := open_string Try.underlying9 (hval 1 9 v1 rfl rfl) h1
  clear hA0 hval0
  refine (walk xa0 xb0 xc0 xd0 xt0 xs0 xe0 a1 W (bounds_u64 wxa0) (bounds_u64 wxb0) (bounds_u64 wxc0) (bounds_u64 wxd0) (bounds_i64 wxt0) wxs0 (bounds_u64 wxe0) w1).mono fun e W' ⟨he, bel⟩ => ?_
  subst he
  exact ⟨_, rfl, _, _, _, [], _, [], hW', trodAll_mk1 (shut_bool Try.underlying4 _), (trodAll_cons_mk (Below.trod laidOut (by kernel_rfl) (of_decide_eq_true (by kernel_rfl)) k0 bel lt0) (trodAll_cons_mk (shut_string Try.underlying9 w1) trodAll_mk0)), rfl, bel.frame _, fun h => by cases h⟩

theorem over : Rows.xxhStatesRow.holds Try.pinned (OpenSpec.ofChange Rows.xxhStatesSpec) :=
  OpenClaim.holds_of_wide 7 Try.f7 rfl rfl rfl rfl rfl rfl rfl ⟨rfl, rfl, rfl, rfl, rfl⟩ rfl rfl rfl rfl rfl (by kernel_rfl) Try.func7 (by kernel_rfl)
    (of_decide_eq_true (by kernel_rfl)) (by unfold Func.isWrapper; first | (rw [if_pos (by decide +kernel)]; kernel_rfl) | (rw [if_neg (by decide +kernel)]; exact ⟨rfl, rfl⟩))
    (fun os started H enc _ => lifted os started H enc)

/-- The statement. -/
theorem proved : Rows.XxhStatesSaid := over
#print axioms proved
end Go.Proofs.Ytboajmnckldmiaa.xxhStates
