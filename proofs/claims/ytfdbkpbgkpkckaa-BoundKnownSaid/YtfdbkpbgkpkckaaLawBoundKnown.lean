/- The statement cheesepresslaw43.BoundKnown holds: the law returns true. -/
import Derived.Test.YtfdbkpbgkpkckaaShell
import Derived.Test.YtfdbkpbgkpkckaaBoundKnown
namespace Go.Proofs.Ytfdbkpbgkpkckaa.boundKnown
open Go.ChangeShapes Go.WideShapes Go.ChangeAt Go.RowKit
open Go.ChangeMaps (open_string shut_string)
set_option linter.unusedVariables false
set_option maxRecDepth 100000
attribute [local go_sem ↓] Go.wp_at_zero Go.wp_at_succ

set_option maxHeartbeats 16000000 in
theorem walk (w : World) :
    Calls Try.prog 8 #[] w fun e w' => e = .returned (.bool true) ∧ Below w.heap.size w w' := by
  have HP := Lib.hid (fun W => params43_any W)
  unfold parV at HP
  obtain ⟨k1, k2, k3, ⟨k4, k5⟩, ⟨k6, k7⟩, k8, ⟨k9, k10⟩, ⟨k11, k12⟩, k13, k14, k15, ⟨k16, k17, k18⟩, k19, k20⟩ := known_nums
  have HB0 := Lib.hid (fun W => Blocks_any 1 10 4096 0 false false none [] 0 0 W (.inl rfl) (Nat.zero_le _) (by simp))
  rw [k1, k2] at HB0
  have HB1 := Lib.hid (fun W : World => Blocks_any 1 10 4096 0 false false (some ⟨W.heap.size, 0, none⟩) [-1] 1 (W.heap.size + 1) (W.alloc (.cells #[.int .i64 (-1)] 3)) (slice_new1 W .i64 3 (-1)) (by simp) (by simp))
  rw [k3] at HB1
  have HO1 := Lib.hid (fun W => Output_any 0 1 W (by omega) (by omega))
  rw [k4, k5] at HO1
  have HO2 := Lib.hid (fun W => Output_any 100 2 W (by omega) (by omega))
  rw [k6, k7] at HO2
  have HO3 := Lib.hid (fun W => Output_any 0 0 W (by omega) (by omega))
  rw [k8] at HO3
  have HU1 := Lib.hid (fun W => Buffers_any 1 W (by omega))
  rw [k9, k10] at HU1
  have HU2 := Lib.hid (fun W => Buffers_any 64 W (by omega))
  rw [k11, k12] at HU2
  have HU3 := Lib.hid (fun W => Buffers_any 0 W (by omega))
  rw [k13] at HU3
  have HS1 := Lib.hid (fun W => Steps_any 0 1 5 3 W (by omega) (by omega) (by omega) (by omega))
  rw [k14] at HS1
  have HS2 := Lib.hid (fun W => Steps_any 1 0 1 2 W (by omega) (by omega) (by omega) (by omega))
  rw [k15] at HS2
  have HJ1 := Lib.hid (fun W => Job_any 1 10 4096 0 false false W)
  rw [k16, k17, k18] at HJ1
  have HJ2 := Lib.hid (fun W => Job_any 1 10 4096 0 true false W)
  rw [k19, k20, k18] at HJ2
  have HW1 := Lib.hid (fun W => whole43_yes 5000 2 5 5025 W (by omega) known_whole.1 known_whole.2.1 known_whole.2.2.1 known_whole.2.2.2)
  have HW2 := Lib.hid (fun W => whole43_yes 0 1 1 13 W (by omega) known_none.1 known_none.2.1 known_none.2.2.1 known_none.2.2.2)
  have HH9 := Lib.hid (fun W => Holds_any 1 10 4096 0 false false ByteArray.empty (zs 9) W (by decide) (by rw [zs_size]; omega))
  rw [known_holds.1, known_holds.2.1] at HH9
  have HH14 := Lib.hid (fun W => Holds_any 1 10 4096 0 false false ByteArray.empty (zs 14) W (by decide) (by rw [zs_size]; omega))
  rw [known_holds.1, known_holds.2.2] at HH14
  generalize bufV 0 = n1 at *
  generalize outV 0 0 = n2 at *
  generalize stepsV 0 1 5 3 = n3 at *
  generalize stepsV 1 0 1 2 = n4 at *
  generalize blksV 1 10 4096 0 [-1] = n5 at *
  unfold parV at HB0 HB1 HJ1 HJ2
  simp only [List.length_nil, List.length_cons] at HB0 HB1
  obtain ⟨Z9, hmk, hcv⟩ := make43 9 (by omega)
  have HK9 := Lib.hid (fun V U h => hcv V U h)
  have HC9 := Lib.hid (fun V => hcv V _ (Below.refl _ _))
  have HD9 := Lib.hid (fun V => hcv V _ (below_drew (Below.refl (V.alloc (.cells Z9 5)).heap.size (V.alloc (.cells Z9 5)))))
  have HM9 : Hid (∀ V, (Instr.makeSlice 50 (.int .i64 9) (.int .i64 9)).run Try.prog V = .ok (.slice (some ⟨V.heap.size, 0, none⟩) 9 9) (V.alloc (.cells Z9 5))) := hmk
  clear hmk hcv
  generalize zs 9 = z9 at *
  obtain ⟨Z14, hmk, hcv⟩ := make43 14 (by omega)
  have HK14 := Lib.hid (fun V U h => hcv V U h)
  have HC14 := Lib.hid (fun V => hcv V _ (Below.refl _ _))
  have HD14 := Lib.hid (fun V => hcv V _ (below_drew (Below.refl (V.alloc (.cells Z14 5)).heap.size (V.alloc (.cells Z14 5)))))
  have HM14 : Hid (∀ V, (Instr.makeSlice 50 (.int .i64 14) (.int .i64 14)).run Try.prog V = .ok (.slice (some ⟨V.heap.size, 0, none⟩) 14 14) (V.alloc (.cells Z14 5))) := hmk
  clear hmk hcv
  generalize zs 14 = z14 at *
  clear k1 k2 k3 k4 k5 k6 k7 k8 k9 k10 k11 k12 k13 k14 k15 k16 k17 k18 k19 k20
  have hX0 := Below.refl w.heap.size w
  go_enter Try.func8, Try.ntmps8
  go_wp2_with fail
  refine (HP.out _).mono ?_
  rintro e v1 ⟨rfl, hY1⟩
  have hX1 := below_then (by first | exact hX0 | exact below_alloc hX0 _) hY1
  go_wp2_with fail
  refine (HB0.out _).mono ?_
  rintro e v2 ⟨rfl, hY2⟩
  have hX2 := below_then (by first | exact hX1 | exact below_alloc hX1 _) hY2
  go_wp2_with fail
  refine (HP.out _).mono ?_
  rintro e v3 ⟨rfl, hY3⟩
  have hX3 := below_then (by first | exact hX2 | exact below_alloc hX2 _) hY3
  go_wp2_with fail
  refine (HB1.out _).mono ?_
  rintro e v4 ⟨rfl, hY4⟩
  have hX4 := below_then (by first | exact hX3 | exact below_alloc hX3 _) hY4
  go_wp2_with fail
  refine (HW1.out _).mono ?_
  rintro e v5 ⟨rfl, hY5⟩
  have hX5 := below_then (by first | exact hX4 | exact below_alloc hX4 _) hY5
  go_wp2_with fail
  refine (HW2.out _).mono ?_
  rintro e v6 ⟨rfl, hY6⟩
  have hX6 := below_then (by first | exact hX5 | exact below_alloc hX5 _) hY6
  go_wp2_with fail
  refine (HO1.out _).mono ?_
  rintro e v7 ⟨rfl, hY7⟩
  have hX7 := below_then (by first | exact hX6 | exact below_alloc hX6 _) hY7
  go_wp2_with fail
  refine (HO2.out _).mono ?_
  rintro e v8 ⟨rfl, hY8⟩
  have hX8 := below_then (by first | exact hX7 | exact below_alloc hX7 _) hY8
  go_wp2_with fail
  refine (HO3.out _).mono ?_
  rintro e v9 ⟨rfl, hY9⟩
  have hX9 := below_then (by first | exact hX8 | exact below_alloc hX8 _) hY9
  go_wp2_with fail
  refine (HU1.out _).mono ?_
  rintro e v10 ⟨rfl, hY10⟩
  have hX10 := below_then (by first | exact hX9 | exact below_alloc hX9 _) hY10
  go_wp2_with fail
  refine (HU2.out _).mono ?_
  rintro e v11 ⟨rfl, hY11⟩
  have hX11 := below_then (by first | exact hX10 | exact below_alloc hX10 _) hY11
  go_wp2_with fail
  refine (HU3.out _).mono ?_
  rintro e v12 ⟨rfl, hY12⟩
  have hX12 := below_then (by first | exact hX11 | exact below_alloc hX11 _) hY12
  go_wp2_with fail
  refine (HS1.out _).mono ?_
  rintro e v13 ⟨rfl, hY13⟩
  have hX13 := below_then (by first | exact hX12 | exact below_alloc hX12 _) hY13
  go_wp2_with fail
  refine (HS2.out _).mono ?_
  rintro e v14 ⟨rfl, hY14⟩
  have hX14 := below_then (by first | exact hX13 | exact below_alloc hX13 _) hY14
  go_wp2_with fail
  refine (HP.out _).mono ?_
  rintro e v15 ⟨rfl, hY15⟩
  have hX15 := below_alloc (below_then hX14 hY15) (.cells #[.int .i64 1, .int .i64 10, .int .i64 4096, .int .i64 0, .bool true, .bool false] 24)
  have hsb := ParBox.new v15 1 10 4096 0 true false 24
  go_wp2_with fail
  generalize hWs : v15.alloc (.cells #[.int .i64 1, .int .i64 10, .int .i64 4096, .int .i64 0, .bool true, .bool false] 24) = Ws at *
  have hlt : v15.heap.size < Ws.heap.size := by rw [← hWs]; simp
  clear hWs
  refine (HP.out _).mono ?_
  rintro e v16 ⟨rfl, hY16⟩
  have hX16 := below_then hX15 hY16
  go_wp2_with fail
  refine (HJ1.out _).mono ?_
  rintro e v17 ⟨rfl, hY17⟩
  have hX17 := below_then hX16 hY17
  obtain ⟨q0, q1, q2, q3, q4, q5⟩ := hsb.keep (below_then hY16 hY17) hlt
  go_wp2_with fail
  refine (HJ2.out _).mono ?_
  rintro e v18 ⟨rfl, hY18⟩
  have hX18 := below_then hX17 hY18
  clear q0 q1 q2 q3 q4 q5 hsb hlt
  go_wp2_with fail
  have hcA := HC9.out
  have hcB := HD9.out
  have hmA := HM9.out
  have hrz := Below.refl (v18.alloc (.cells Z9 5)).heap.size (v18.alloc (.cells Z9 5))
  have hrd := below_drew hrz
  have hr0 := Below.refl v18.heap.size v18
  go_cut [15, 7] (fun sA sB wx => sA = .bool true ∧ sB = .int .i64 0 ∧ Below v18.heap.size v18 wx)
  case first =>
    go_region_with
      (first
        | (go_at_call 14; refine (HP.out _).mono ?_; rintro e6 w6 ⟨rfl, hB6⟩; have hB7 := below_then (by first | exact hr0 | exact below_drew hr0 | exact below_alloc hr0 _ | exact below_drew (below_alloc hr0 _)) hB6; first | (with_reducible have hc6 := HK9.out v18 _ (below_then hrz hB6)) | (with_reducible have hc6 := HK9.out v18 _ (below_then hrd hB6)) | skip)
        | (go_at_call 30; refine (HH9.out _).mono ?_; rintro e8 w8 ⟨rfl, hB8⟩; have hB9 := below_then (by first | exact hB7 | exact below_drew hB7 | exact below_alloc hB7 _ | exact below_drew (below_alloc hB7 _)) hB8))
    all_goals (
      go_wp2_with fail
      go_simp
      go_meet
      case rel => exact ⟨rfl, rfl, hB9⟩)
  obtain ⟨rfl, rfl, hX19⟩ := hcut
  generalize wc = v19 at *
  clear hcA hcB hmA hrz hrd hr0
  have bX19 := below_then hX18 hX19
  go_wp2_with fail
  have hcA := HC14.out
  have hcB := HD14.out
  have hmA := HM14.out
  have hrz := Below.refl (v19.alloc (.cells Z14 5)).heap.size (v19.alloc (.cells Z14 5))
  have hrd := below_drew hrz
  have hr0 := Below.refl v19.heap.size v19
  go_cut [16, 9] (fun sA sB wx => sA = .bool false ∧ sB = .int .i64 0 ∧ Below v19.heap.size v19 wx)
  case first =>
    go_region_with
      (first
        | (go_at_call 14; refine (HP.out _).mono ?_; rintro e6 w6 ⟨rfl, hB6⟩; have hB7 := below_then (by first | exact hr0 | exact below_drew hr0 | exact below_alloc hr0 _ | exact below_drew (below_alloc hr0 _)) hB6; first | (with_reducible have hc6 := HK14.out v19 _ (below_then hrz hB6)) | (with_reducible have hc6 := HK14.out v19 _ (below_then hrd hB6)) | skip)
        | (go_at_call 30; refine (HH14.out _).mono ?_; rintro e8 w8 ⟨rfl, hB8⟩; have hB9 := below_then (by first | exact hB7 | exact below_drew hB7 | exact below_alloc hB7 _ | exact below_drew (below_alloc hB7 _)) hB8))
    all_goals (
      go_wp2_with fail
      go_simp
      go_meet
      case rel => exact ⟨rfl, rfl, hB9⟩)
  obtain ⟨rfl, rfl, hX20⟩ := hcut
  generalize wc = v20 at *
  clear hcA hcB hmA hrz hrd hr0
  have bX20 := below_then bX19 hX20
  go_wp2_with fail
  refine (awake43_any _).mono ?_
  rintro e vz ⟨rfl, hYz⟩
  go_wp2
  go_ret
  exact ⟨rfl, below_then bX20 hYz⟩

/-! The step from the walk to the statement: the shell's text. -/
set_option maxRecDepth 100000 in
theorem lifted (os : Os) (started : os.Started) (H : Type) (enc : TypeId × Value → H) :
    ReturnsInHanded {} Try.checked os 8 .any (Rows.boundKnownSpec.pre6 enc Try.prog Try.f8 Rows.boundKnownRow.domain false) (Rows.boundKnownSpec.post enc Try.prog Try.f8 false true false false) := by
  refine returnsInHanded_of_change (C := Try.checked) own started (by kernel_rfl) Try.func8
    (ChangeSpec.witness6 (enc := enc) (C := Try.checked) false ⟨#[], #[], []⟩ 8 (by kernel_rfl) (by kernel_rfl) (by kernel_rfl) (by kernel_rfl)) ?_
  intro W base args ds gs before hval0 hW hcnd _
  have hval : ∀ (j : Nat) t v, Try.f8.params[j]? = some t → args[j]? = some v → Value.okWide Try.prog W .any base t v := hval0
  have hW' := hW
  obtain ⟨p, q, hA0, hV, rfl, hfz, hnd⟩ := hW
  have hA : DataW.TrodAll enc Try.prog W 0 (fun _ => true) true Try.f8.params.toList args.toList ds p := hA0
  rw [Try.params8] at hA hval
  obtain ⟨rfl, rfl, rfl⟩ := trodAll_none hA
  obtain ⟨rfl, rfl⟩ := trodVars_none hV
  clear hA0 hval0
  refine (walk  W ).mono fun e W' ⟨he, bel⟩ => ?_
  subst he
  exact ⟨_, rfl, _, _, _, [], _, [], hW', trodAll_mk1 (shut_bool Try.underlying4 _), rfl, rfl, bel.frame _, fun h => by cases h⟩

theorem over : Rows.boundKnownRow.holds Try.pinned (OpenSpec.ofChange Rows.boundKnownSpec) :=
  OpenClaim.holds_of_wide 8 Try.f8 rfl rfl rfl rfl rfl rfl rfl ⟨rfl, rfl, rfl, rfl, rfl⟩ rfl rfl rfl rfl rfl (by kernel_rfl) Try.func8 (by kernel_rfl)
    (of_decide_eq_true (by kernel_rfl)) (by unfold Func.isWrapper; first | (rw [if_pos (by decide +kernel)]; kernel_rfl) | (rw [if_neg (by decide +kernel)]; exact ⟨rfl, rfl⟩))
    (fun os started H enc _ => lifted os started H enc)

/-- The statement. -/
theorem proved : Rows.BoundKnownSaid := over
#print axioms proved
end Go.Proofs.Ytfdbkpbgkpkckaa.boundKnown
