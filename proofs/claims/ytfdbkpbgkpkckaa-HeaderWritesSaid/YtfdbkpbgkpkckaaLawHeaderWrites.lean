/-
  HeaderWrites: for every header and every parameters header.Check, Bytes, Block, Write and Of return what their references return, and the chapter's examples hold. No condition.
-/
import Derived.Test.YtfdbkpbgkpkckaaHdrLaw
import Derived.Test.YtfdbkpbgkpkckaaShell
import Derived.Test.YtfdbkpbgkpkckaaOpenStructs
import Derived.Deep.RegionHeld3
import Derived.Deep.DrawnRows
namespace Go.Proofs.Ytfdbkpbgkpkckaa.headerWrites
open Go.ChangeShapes Go.WideShapes Go.ChangeAt Go.RowKit
open Go.ChangeMaps (open_string shut_string)
set_option linter.unusedVariables false
set_option maxRecDepth 100000
attribute [local go_sem ↓] Go.wp_at_zero Go.wp_at_succ

set_option maxHeartbeats 16000000 in
theorem walk (a z : Int) (i u : Bool) (l wd jb ov : Int) (sy ck : Bool) (W : World) (ha : -9223372036854775808 ≤ a ∧ a ≤ 9223372036854775807) (hz : -9223372036854775808 ≤ z ∧ z ≤ 9223372036854775807)
    (hl : -9223372036854775808 ≤ l ∧ l ≤ 9223372036854775807) (hwd : -9223372036854775808 ≤ wd ∧ wd ≤ 9223372036854775807) (hjb : -9223372036854775808 ≤ jb ∧ jb ≤ 9223372036854775807) (hov : -9223372036854775808 ≤ ov ∧ ov ≤ 9223372036854775807) :
    Calls Try.prog 10 #[.agg #[.int .i64 a, .int .i64 z, .bool i, .bool u], .agg #[.int .i64 l, .int .i64 wd, .int .i64 jb, .int .i64 ov, .bool sy, .bool ck]] W fun e W' => e = .returned (.bool true) ∧ Below W.heap.size W W' := by
  have HA := Lib.hid (fun W => awake29_any W)
  have C1 := Lib.hid (fun W => hBytes_any a z i u W ha.1 ha.2)
  have C2 := Lib.hid (fun W => rhBytes_any a z i u W ha.1 ha.2)
  have C3 := Lib.hid (fun W => hBlock_any a z i u W ha.1 ha.2)
  have C4 := Lib.hid (fun W => rhBlock_any a z i u W ha.1 ha.2)
  have C5 := Lib.hid (fun W => hCheck_any a z i u W ha.1 ha.2)
  have C6 := Lib.hid (fun W => rhCheck_any a z i u W ha.1 ha.2)
  have D1 := Lib.hid (fun W => hWrite_any l wd jb ov sy ck W)
  have D2 := Lib.hid (fun W => rhWrite_any l wd jb ov sy ck W)
  have D3 := Lib.hid (fun W => hOf_any l wd jb ov sy ck W)
  have D4 := Lib.hid (fun W => rhOf_any l wd jb ov sy ck W)
  have hof : ∃ b1 b2 b3 b4, ofV l wd jb ov ck = hdrVal b1 b2 b3 b4 := by unfold ofV; split <;> exact ⟨_, _, _, _, rfl⟩
  obtain ⟨b1, b2, b3, b4, hof⟩ := hof
  rw [hof] at D3 D4
  clear hof
  generalize bytB a z i u = bb at *
  generalize chkV a z i = cv at *
  generalize blkN a z i = bn at *
  generalize wrB l wd jb ov ck = wb at *
  generalize wrE l wd jb ov = we at *
  generalize parE l wd jb ov = pe at *
  unfold hdrVal parV at *
  have HB0 := (Blk.new W #[.int .i64 a, .int .i64 z, .bool i, .bool u] 52).alloc (.cells #[.int .i64 l, .int .i64 wd, .int .i64 jb, .int .i64 ov, .bool sy, .bool ck] 24)
  have HP0 := Blk.new (W.alloc (.cells #[.int .i64 a, .int .i64 z, .bool i, .bool u] 52)) #[.int .i64 l, .int .i64 wd, .int .i64 jb, .int .i64 ov, .bool sy, .bool ck] 24
  have hB0 := below_alloc (below_new (w := W) (.cells #[.int .i64 a, .int .i64 z, .bool i, .bool u] 52)) (.cells #[.int .i64 l, .int .i64 wd, .int .i64 jb, .int .i64 ov, .bool sy, .bool ck] 24)
  rw [World.size_alloc] at HP0
  go_enter Try.func10, Try.ntmps10
  go_upto_region 1 with fail
  generalize (W.alloc (.cells #[.int .i64 a, .int .i64 z, .bool i, .bool u] 52)).alloc (.cells #[.int .i64 l, .int .i64 wd, .int .i64 jb, .int .i64 ov, .bool sy, .bool ck] 24) = w0 at *
  have k0 := HB0.cell 0 rfl
  have k1 := HB0.cell 1 rfl
  have k2 := HB0.cell 2 rfl
  have k3 := HB0.cell 3 rfl
  go_wp2_with fail
  refine (C1.out _).mono ?_
  rintro r w1 ⟨rfl, hY⟩
  have HB1 := HB0.keep' hY
  have HP1 := HP0.keep' hY
  have hB1 := below_then hB0 hY
  clear HB0 HP0 hB0 hY k0 k1 k2 k3 C1
  have k0 := HB1.cell 0 rfl
  have k1 := HB1.cell 1 rfl
  have k2 := HB1.cell 2 rfl
  have k3 := HB1.cell 3 rfl
  go_wp2_with fail
  refine (C2.out _).mono ?_
  rintro r w2 ⟨rfl, hY⟩
  have HB2 := HB1.keep' hY
  have HP2 := HP1.keep' hY
  have hB2 := below_then hB1 hY
  clear HB1 HP1 hB1 hY k0 k1 k2 k3 C2
  have k0 := HB2.cell 0 rfl
  have k1 := HB2.cell 1 rfl
  have k2 := HB2.cell 2 rfl
  have k3 := HB2.cell 3 rfl
  go_wp2_with fail
  refine (C3.out _).mono ?_
  rintro r w3 ⟨rfl, hY⟩
  have HB3 := HB2.keep' hY
  have HP3 := HP2.keep' hY
  have hB3 := below_then hB2 hY
  clear HB2 HP2 hB2 hY k0 k1 k2 k3 C3
  have k0 := HB3.cell 0 rfl
  have k1 := HB3.cell 1 rfl
  have k2 := HB3.cell 2 rfl
  have k3 := HB3.cell 3 rfl
  go_wp2_with fail
  refine (C4.out _).mono ?_
  rintro r w4 ⟨rfl, hY⟩
  have HB4 := HB3.keep' hY
  have HP4 := HP3.keep' hY
  have hB4 := below_then hB3 hY
  clear HB3 HP3 hB3 hY k0 k1 k2 k3 C4
  have k0 := HB4.cell 0 rfl
  have k1 := HB4.cell 1 rfl
  have k2 := HB4.cell 2 rfl
  have k3 := HB4.cell 3 rfl
  go_wp2_with fail
  have g1 : (cv != cv) = false := by simp
  go_region_held3 (fun w' => Below W.heap.size W w' ∧ Blk 52 w' W.heap.size #[.int .i64 a, .int .i64 z, .bool i, .bool u] ∧ Blk 24 w' (W.heap.size + 1) #[.int .i64 l, .int .i64 wd, .int .i64 jb, .int .i64 ov, .bool sy, .bool ck] ∧ w'.cell? ⟨W.heap.size, 0, none⟩ = some (.int .i64 a) ∧ w'.cell? ⟨W.heap.size, 1, none⟩ = some (.int .i64 z) ∧ w'.cell? ⟨W.heap.size, 2, none⟩ = some (.bool i) ∧ w'.cell? ⟨W.heap.size, 3, none⟩ = some (.bool u))
    ((refine ⟨?_, ?_, ?_, ?_, ?_, ?_, ?_⟩ <;> first | assumption | exact below_drew (by assumption) | exact Blk.drew (by assumption) | go_keep))
    (first
      | (go_at_call 42; refine (C5.out _).mono ?_; rintro r w5 ⟨rfl, hB5⟩; have hBn := below_then (by first | assumption | exact And.left (by assumption)) hB5; have hHn := Blk.keep' (T := 52) (by first | assumption | exact And.left (And.right (by assumption))) hB5; have hPn := Blk.keep' (T := 24) (by first | assumption | exact And.left (And.right (And.right (by assumption)))) hB5; have q0 := hHn.cell 0 rfl; have q1 := hHn.cell 1 rfl; have q2 := hHn.cell 2 rfl; have q3 := hHn.cell 3 rfl)
      | (go_at_call 43; refine (C6.out _).mono ?_; rintro r w5 ⟨rfl, hB5⟩; have hBn := below_then (by first | assumption | exact And.left (by assumption)) hB5; have hHn := Blk.keep' (T := 52) (by first | assumption | exact And.left (And.right (by assumption))) hB5; have hPn := Blk.keep' (T := 24) (by first | assumption | exact And.left (And.right (And.right (by assumption)))) hB5; have q0 := hHn.cell 0 rfl; have q1 := hHn.cell 1 rfl; have q2 := hHn.cell 2 rfl; have q3 := hHn.cell 3 rfl))
  all_goals (
    have HP5 := hPn
    have hB5' := hBn
    clear hBn hHn hPn q0 q1 q2 q3 HB4 HP4 hB4 hB5 k0 k1 k2 k3 C5 C6 g1
    have p0 := HP5.cell 0 rfl
    have p1 := HP5.cell 1 rfl
    have p2 := HP5.cell 2 rfl
    have p3 := HP5.cell 3 rfl
    have p4 := HP5.cell 4 rfl
    have p5 := HP5.cell 5 rfl
    go_wp2_with fail
    refine (D1.out _).mono ?_
    rintro r w6 ⟨rfl, hY⟩
    have HP6 := HP5.keep' hY
    have hB6 := below_then hB5' hY
    clear HP5 hB5' hY p0 p1 p2 p3 p4 p5 D1
    have p0 := HP6.cell 0 rfl
    have p1 := HP6.cell 1 rfl
    have p2 := HP6.cell 2 rfl
    have p3 := HP6.cell 3 rfl
    have p4 := HP6.cell 4 rfl
    have p5 := HP6.cell 5 rfl
    go_wp2_with fail
    refine (D2.out _).mono ?_
    rintro r w7 ⟨rfl, hY⟩
    have HP7 := HP6.keep' hY
    have hB7 := below_then hB6 hY
    clear HP6 hB6 hY p0 p1 p2 p3 p4 p5 D2
    have p0 := HP7.cell 0 rfl
    have p1 := HP7.cell 1 rfl
    have p2 := HP7.cell 2 rfl
    have p3 := HP7.cell 3 rfl
    have p4 := HP7.cell 4 rfl
    have p5 := HP7.cell 5 rfl
    go_wp2_with fail
    refine (D3.out _).mono ?_
    rintro r w8 ⟨rfl, hY⟩
    have HP8 := (HP7.keep' hY).alloc (.cells #[.int .i64 b1, .int .i64 b2, .bool b3, .bool b4] 52)
    have HO8 := Blk.new w8 #[.int .i64 b1, .int .i64 b2, .bool b3, .bool b4] 52
    have hB8 := below_alloc (below_then hB7 hY) (.cells #[.int .i64 b1, .int .i64 b2, .bool b3, .bool b4] 52)
    clear HP7 hB7 hY p0 p1 p2 p3 p4 p5 D3
    go_upto_region 10 with fail
    generalize w8.alloc (.cells #[.int .i64 b1, .int .i64 b2, .bool b3, .bool b4] 52) = w9 at *
    generalize w8.heap.size = g8 at *
    have p0 := HP8.cell 0 rfl
    have p1 := HP8.cell 1 rfl
    have p2 := HP8.cell 2 rfl
    have p3 := HP8.cell 3 rfl
    have p4 := HP8.cell 4 rfl
    have p5 := HP8.cell 5 rfl
    go_wp2_with fail
    refine (D4.out _).mono ?_
    rintro r w10 ⟨rfl, hY⟩
    have HO10 := HO8.keep' hY
    have hB10 := below_alloc (below_then hB8 hY) (.cells #[.int .i64 b1, .int .i64 b2, .bool b3, .bool b4] 52)
    have hlo := HO10.lt
    have o0 := HO10.cell 0 rfl
    have o1 := HO10.cell 1 rfl
    have o2 := HO10.cell 2 rfl
    have o3 := HO10.cell 3 rfl
    clear HP8 HO8 hB8 hY p0 p1 p2 p3 p4 p5 D4
    go_wp2_with fail
    refine (HA.out _).mono ?_
    rintro r w11 ⟨rfl, hY⟩
    have hB11 := below_then hB10 hY
    go_wp2_with fail
    go_ret
    exact ⟨rfl, hB11⟩)

/-! The step from the walk to the statement: the shell's text. -/
set_option maxRecDepth 100000 in
theorem lifted (os : Os) (started : os.Started) (H : Type) (enc : TypeId × Value → H) :
    ReturnsInHanded {} Try.checked os 10 .any (Rows.headerWritesSpec.pre6 enc Try.prog Try.f10 Rows.headerWritesRow.domain false) (Rows.headerWritesSpec.post enc Try.prog Try.f10 false true false false) := by
  refine returnsInHanded_of_change (C := Try.checked) own started (by kernel_rfl) Try.func10
    (ChangeSpec.witness6 (enc := enc) (C := Try.checked) false ⟨#[], #[.agg #[.int .i64 0, .int .i64 0, .bool false, .bool false], .agg #[.int .i64 0, .int .i64 0, .int .i64 0, .int .i64 0, .bool false, .bool false]], []⟩ 8 (by kernel_rfl) (by kernel_rfl) (by kernel_rfl) (by kernel_rfl)) ?_
  intro W base args ds gs before hval0 hW hcnd _
  have hval : ∀ (j : Nat) t v, Try.f10.params[j]? = some t → args[j]? = some v → Value.okWide Try.prog W .any base t v := hval0
  have hW' := hW
  obtain ⟨p, q, hA0, hV, rfl, hfz, hnd⟩ := hW
  have hA : DataW.TrodAll enc Try.prog W 0 (fun _ => true) true Try.f10.params.toList args.toList ds p := hA0
  rw [Try.params10] at hA hval
  obtain ⟨v0, vs0, d0, ds0, p0, q0, hargs, rfl, rfl, h0, r0⟩ := trodAll_cons hA
  obtain ⟨v1, vs1, d1, ds1, p1, q1, rfl, rfl, rfl, h1, r1⟩ := trodAll_cons r0
  obtain ⟨rfl, rfl, rfl⟩ := trodAll_nil r1
  obtain rfl : args = #[v0, v1] := by cases args; simp_all
  obtain ⟨rfl, rfl⟩ := trodVars_none hV
  have k0 := h0
  have lt0 : ∀ x ∈ p0, x.block < W.heap.size := by obtain ⟨m, hm⟩ := k0; exact DataW.trod_lt m _ _ _ hm
  obtain ⟨hw0, hz0, hi0, hu0, rfl, whw0, whz0⟩ := open_header (hval 0 52 v0 rfl rfl) h0
  have k1 := h1
  have lt1 : ∀ x ∈ p1, x.block < W.heap.size := by obtain ⟨m, hm⟩ := k1; exact DataW.trod_lt m _ _ _ hm
  obtain ⟨pl1, pw1, pj1, po1, ps1, pc1, rfl, wpl1, wpw1, wpj1, wpo1⟩ := open_params (hval 1 24 v1 rfl rfl) h1
  clear hA0 hval0
  refine (walk hw0 hz0 hi0 hu0 pl1 pw1 pj1 po1 ps1 pc1 W (bounds_i64 whw0) (bounds_i64 whz0) (bounds_i64 wpl1) (bounds_i64 wpw1) (bounds_i64 wpj1) (bounds_i64 wpo1)).mono fun e W' ⟨he, bel⟩ => ?_
  subst he
  exact ⟨_, rfl, _, _, _, [], _, [], hW', trodAll_mk1 (shut_bool Try.underlying4 _), (trodAll_cons_mk (Below.trod laidOut (by kernel_rfl) (of_decide_eq_true (by kernel_rfl)) k0 bel lt0) (trodAll_cons_mk (Below.trod laidOut (by kernel_rfl) (of_decide_eq_true (by kernel_rfl)) k1 bel lt1) trodAll_mk0)), rfl, bel.frame _, fun h => by cases h⟩

theorem over : Rows.headerWritesRow.holds Try.pinned (OpenSpec.ofChange Rows.headerWritesSpec) :=
  OpenClaim.holds_of_wide 10 Try.f10 rfl rfl rfl rfl rfl rfl rfl ⟨rfl, rfl, rfl, rfl, rfl⟩ rfl rfl rfl rfl rfl (by kernel_rfl) Try.func10 (by kernel_rfl)
    (of_decide_eq_true (by kernel_rfl)) (by unfold Func.isWrapper; first | (rw [if_pos (by decide +kernel)]; kernel_rfl) | (rw [if_neg (by decide +kernel)]; exact ⟨rfl, rfl⟩))
    (fun os started H enc _ => lifted os started H enc)

/-- The statement. -/
theorem proved : Rows.HeaderWritesSaid := over
#print axioms proved

end Go.Proofs.Ytfdbkpbgkpkckaa.headerWrites
