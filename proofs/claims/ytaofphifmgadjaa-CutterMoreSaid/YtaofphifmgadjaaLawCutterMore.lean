/- The statement cheesepresslaw35.CutterMore holds: for every input the law returns true, and the arguments read as before. -/
import Derived.Test.YtaofphifmgadjaaShell
import Derived.Test.YtaofphifmgadjaaCutMore
import Derived.Deep.QuietTactic
import Derived.BigQuiet
import Derived.Deep.DeepCutAuto
namespace Go.Proofs.Ytaofphifmgadjaa.cutterMore
open Go.ChangeShapes Go.WideShapes Go.ChangeAt Go.RowKit
open Go.ChangeMaps (open_string shut_string)
set_option linter.unusedVariables false
set_option maxRecDepth 100000
attribute [local go_sem ↓] Go.wp_at_zero Go.wp_at_succ

set_option maxHeartbeats 16000000 in
theorem walk (A : Option Addr) (nums : List Int) (c : Nat) (job : Int) (m : ByteArray) (w : World) (hS : SliceAt .i64 w w.heap.size A nums) (hwf : ∀ x ∈ nums, (Lit.int .i64 x).wf = true) (hln : nums.length ≤ 9223372036854775807) (hjob : -9223372036854775808 ≤ job ∧ job ≤ 9223372036854775807) (hm' : m.size ≤ maxLen) :
    Calls Try.prog 10 #[.slice A nums.length c, .int .i64 job, .string m] w fun e w' => e = .returned (.bool true) ∧ Below w.heap.size w w' := by
  have hm : m.size ≤ 9223372036854775807 := hm'
  clear hm'
  by_cases hm60 : 60 < m.size
  · have g0 : (60 : Int) < (m.size : Int) := by omega
    go_enter Try.func10, Try.ntmps10
    go_wp2_with fail
    refine (awake35_any _).mono ?_
    rintro e w1 ⟨rfl, hB⟩
    go_wp2
    go_ret
    exact ⟨rfl, hB⟩
  have g0 : ¬ (60 : Int) < (m.size : Int) := by omega
  have HM := Lib.hid (made35_any A nums c w.heap.size job w hS (Nat.le_refl _) hwf hln hjob)
  clear hS hwf hln hjob
  unfold MadeOut at HM
  go_enter Try.func10, Try.ntmps10
  go_wp2_with fail
  refine HM.out.mono ?_
  rintro e w1 ⟨jb, sy, s, rfl, hj1, hj2, hs4, hB1⟩
  clear HM
  have hj : 16 ≤ jb ∧ jb ≤ 2097152 := by omega
  have hpb := job_ok hj
  have hsm : (s ++ m).size ≤ 460 := by rw [ByteArray.size_append]; omega
  have hadd := fun V => run_string_add_sum (P := Try.prog) V s m (by omega)
  have HE1 := Lib.hid (fun W => Ends35_cap jb sy s W hj (by omega))
  have HE2 := Lib.hid (fun W => Ends35_cap jb sy (s ++ m) W hj (by omega))
  have JA := jobs_all sy hj (s := s) (by omega)
  have JB := jobs_all sy hj (s := s ++ m) (by omega)
  have HMO := ends_more 1 10 jb 0 sy s m hpb (by omega)
  have e0 : jobsN jb sy s = (endsL jb sy s 0).length := rfl
  have e1 : jobsN jb sy (s ++ m) = (endsL jb sy (s ++ m) 0).length := rfl
  rw [e0, e1] at HMO
  have hpl : atK jb sy s ((endsL jb sy s 0).length - 1) ≤ s.size := JA.le _
  have hus : (s.extract (atK jb sy s ((endsL jb sy s 0).length - 1)) s.size).size ≤ 400 := by rw [ByteArray.size_extract]; omega
  have HF : ∀ W, Calls Try.prog 37 #[.agg #[.int .i64 1, .int .i64 10, .int .i64 jb, .int .i64 0, .bool sy, .bool false], .string (s.extract (atK jb sy s ((endsL jb sy s 0).length - 1)) s.size)] W fun e w' => e = .returned (.tuple #[.bool (fullV 1 10 jb 0 sy (s.extract (atK jb sy s ((endsL jb sy s 0).length - 1)) s.size)), .int .i64 0]) ∧ Below W.heap.size W w' := fun W => by
    have := Full35_any 1 10 jb 0 sy false (s.extract (atK jb sy s ((endsL jb sy s 0).length - 1)) s.size) W (by omega)
    rw [ask_ok hpb (by omega)] at this
    exact this
  have HF := Lib.hid HF
  generalize fullV 1 10 jb 0 sy (s.extract (atK jb sy s ((endsL jb sy s 0).length - 1)) s.size) = f at *
  have ja1 := JA.one
  have ja2 := JA.few
  have jb1 := JB.one
  have jb2 := JB.few
  have J4 := Lib.hid JA.get
  have J0 := Lib.hid JA.zero
  clear JA JB e0 e1
  generalize endsL jb sy (s ++ m) 0 = ys at *
  generalize s ++ m = t at *
  generalize endsL jb sy s 0 = xs at *
  generalize atK jb sy s = a at *
  obtain ⟨p, hp⟩ : ∃ p, a (xs.length - 1) = p := ⟨_, rfl⟩
  obtain ⟨n, hn⟩ : ∃ n : Nat, n = if f = true then xs.length else xs.length - 1 := ⟨_, rfl⟩
  obtain ⟨hxy, hnx, htk⟩ := HMO n hn
  have hny : n ≤ ys.length := Nat.le_trans hnx hxy
  rw [hp] at hpl hus HF
  have HP := Lib.hid hp
  have HNF := Lib.hid hn
  have HTK := Lib.hid htk
  clear hp hn htk HMO
  unfold EndsCap at HE1 HE2
  have HPB : Hid (∀ V, Below (w1.alloc (.cells #[.int .i64 1, .int .i64 10, .int .i64 jb, .int .i64 0, .bool sy, .bool false] 49)).heap.size (w1.alloc (.cells #[.int .i64 1, .int .i64 10, .int .i64 jb, .int .i64 0, .bool sy, .bool false] 49)) V → ParBox V w1.heap.size 1 10 jb 0 sy false) := fun V hV => (ParBox.new w1 1 10 jb 0 sy false 49).keep hV (by simp)
  have hB0 := Below.refl (w1.alloc (.cells #[.int .i64 1, .int .i64 10, .int .i64 jb, .int .i64 0, .bool sy, .bool false] 49)).heap.size (w1.alloc (.cells #[.int .i64 1, .int .i64 10, .int .i64 jb, .int .i64 0, .bool sy, .bool false] 49))
  have hBw := below_alloc hB1 (.cells #[.int .i64 1, .int .i64 10, .int .i64 jb, .int .i64 0, .bool sy, .bool false] 49)
  clear hB1
  obtain ⟨q0, q1, q2, q3, q4, q5⟩ := HPB.out _ hB0
  go_wp2_with fail
  generalize hW0 : w1.alloc (.cells #[.int .i64 1, .int .i64 10, .int .i64 jb, .int .i64 0, .bool sy, .bool false] 49) = W0 at *
  clear hW0
  refine (HE1.out _).mono ?_
  rintro e w2 ⟨A1, c1, rfl, hc1, hS1, hB2⟩
  have bB2 := below_then hB0 hB2
  clear q0 q1 q2 q3 q4 q5
  obtain ⟨q0, q1, q2, q3, q4, q5⟩ := HPB.out w2 bB2
  go_wp2_with fail
  refine (HE2.out _).mono ?_
  rintro e w3 ⟨A2, c2, rfl, hc2, hS2, hB3⟩
  have bB3 := below_then bB2 hB3
  have hS1' := (hS1.below hB3).more hB3.size
  obtain ⟨A3, c3, hc3, hcut1, hS3⟩ := slice_head (P := Try.prog) (t := 41) (by kernel_rfl) (fun _ => by kernel_rfl) hS1' n c1 hnx hc1
  obtain ⟨A4, c4, hc4, hcut2, hS4⟩ := slice_head (P := Try.prog) (t := 41) (by kernel_rfl) (fun _ => by kernel_rfl) hS2 n c2 hny hc2
  have e3 : (xs.take n).length = n := by rw [List.length_take]; omega
  have e4 : (ys.take n).length = n := by rw [List.length_take]; omega
  have HSI : Hid (∀ V, Below w3.heap.size w3 V → Calls Try.prog 30 #[.slice A3 n c3, .slice A4 n c4] V fun e w' => e = .returned (.bool true) ∧ Below V.heap.size V w') := fun V hV => by
    have := SameInts_any A3 A4 (xs.take n) (ys.take n) c3 c4 w3.heap.size V (hS3.below hV) (hS4.below hV) hV.size (by omega) (by omega)
    rw [e3, e4, ← HTK.out, sameI_yes] at this
    exact this
  have HC1 := Lib.hid hcut1
  have HC2 := Lib.hid hcut2
  have hgx : ∀ i, i < xs.length → ∃ b1 o1, A1 = some ⟨b1, o1, none⟩ ∧ w3.cell? ⟨b1, o1 + i, none⟩ = some (.int .i64 (a (i + 1) : Int)) := fun i hi => by
    obtain ⟨b1, o1, x1, h1, h2, h3⟩ := hS1'.get hi
    rw [J4.out i hi] at h2
    injection h2 with h2
    subst h2
    exact ⟨b1, o1, h1, h3⟩
  have HGX := Lib.hid hgx
  clear q0 q1 q2 q3 q4 q5 hS1 hS2 hS1' hS3 hS4 hcut1 hcut2 e3 e4 hgx hadd
  obtain ⟨q0, q1, q2, q3, q4, q5⟩ := HPB.out w3 bB3
  have g3 : ((xs.length : Int) == 0) = false := by rw [beq_eq_false_iff_ne]; omega
  have g4 : ¬ (ys.length : Int) < (xs.length : Int) := by omega
  have h3r := Below.refl w3.heap.size w3
  by_cases hN1 : 1 < xs.length
  · obtain ⟨b1, o1, rfl, hcx⟩ := HGX.out (xs.length - 2) (by omega)
    rw [show xs.length - 2 + 1 = xs.length - 1 by omega, HP.out] at hcx
    have hcx1 : w3.cell? ⟨b1, o1 + (xs.length - 1 - 1), none⟩ = some (.int .i64 (p : Int)) := by rw [show xs.length - 1 - 1 = xs.length - 2 by omega]; exact hcx
    have hcx2 : w3.cell? ⟨b1, o1 + ((xs.length : Int) - 1 - 1).toNat, none⟩ = some (.int .i64 (p : Int)) := by rw [show ((xs.length : Int) - 1 - 1).toNat = xs.length - 2 by omega]; exact hcx
    have g5 : (0 : Int) < (xs.length : Int) - 1 := by omega
    have g6 : (0 : Int) ≤ (xs.length : Int) - 1 - 1 := by omega
    have g7 : (xs.length : Int) - 1 - 1 < (xs.length : Int) := by omega
    have HFZ := HF
    have k1 : (0 : Int) ≤ (p : Int) := by omega
    have k2 : (p : Int) ≤ (s.size : Int) := by omega
    go_wp2_with fail
    go_cut [15, 16] (fun s15 s16 wx => s15 = .bool f ∧ s16 = .int .i64 0 ∧ Below w3.heap.size w3 wx)
    case first =>
      go_region_with
        (first
          | (go_at_call 37; refine (HFZ.out _).mono ?_; rintro e6 w6 ⟨rfl, hB6⟩; have hB7 := below_then (by first | exact h3r | exact below_drew h3r) hB6))
      all_goals (
        go_wp2_with fail
        go_meet
        exact ⟨rfl, rfl, hB7⟩)
    case rest =>
      obtain ⟨rfl, rfl, hB7⟩ := hcut
      generalize wc = w6 at *
      have h6r := Below.refl w6.heap.size w6
      clear q0 q1 q2 q3 q4 q5
      cases f
      · have HNN : Hid (n = xs.length - 1) := HNF.out
        clear HNF
        go_wp2_with fail
        rw [show ((xs.length : Int) - 1) = (n : Int) by have := HNN.out; omega]
        have hcut1 := HC1.out
        have hcut2 := HC2.out
        have h36 := hB7
        go_region_with
          (first
            | (go_at_call 30; refine (HSI.out _ (by first | exact h36 | exact below_drew h36)).mono ?_; rintro e8 w8 ⟨rfl, hB8⟩; have hB9 := below_then (by first | exact h6r | exact below_drew h6r) hB8)
            | (go_at_call 36; refine (awake35_any _).mono ?_; rintro e9 w9 ⟨rfl, hB10⟩; have hB11 := below_then hB9 hB10))
        all_goals (
          go_wp2
          go_ret
          exact ⟨rfl, below_then hBw (below_then (below_then bB3 h36) hB11)⟩)
      · have HNN : Hid (n = xs.length) := HNF.out
        clear HNF
        go_wp2_with fail
        rw [show (xs.length : Int) = (n : Int) by have := HNN.out; omega]
        have hcut1 := HC1.out
        have hcut2 := HC2.out
        have h36 := hB7
        go_region_with
          (first
            | (go_at_call 30; refine (HSI.out _ (by first | exact h36 | exact below_drew h36)).mono ?_; rintro e8 w8 ⟨rfl, hB8⟩; have hB9 := below_then (by first | exact h6r | exact below_drew h6r) hB8)
            | (go_at_call 36; refine (awake35_any _).mono ?_; rintro e9 w9 ⟨rfl, hB10⟩; have hB11 := below_then hB9 hB10))
        all_goals (
          go_wp2
          go_ret
          exact ⟨rfl, below_then hBw (below_then (below_then bB3 h36) hB11)⟩)
  · have hp0 : p = 0 := by
      have := HP.out
      rw [show xs.length - 1 = 0 by omega, J0.out] at this
      exact this.symm
    subst hp0
    have HFZ : Hid (∀ W, Calls Try.prog 37 #[.agg #[.int .i64 1, .int .i64 10, .int .i64 jb, .int .i64 0, .bool sy, .bool false], .string s] W fun e w' => e = .returned (.tuple #[.bool f, .int .i64 0]) ∧ Below W.heap.size W w') := by have := HF.out; rw [ByteArray.extract_zero_size] at this; exact this
    have k2 : (0 : Int) ≤ (s.size : Int) := by omega
    have g5 : ¬ (0 : Int) < (xs.length : Int) - 1 := by omega
    go_wp2_with fail
    go_cut [15, 16] (fun s15 s16 wx => s15 = .bool f ∧ s16 = .int .i64 0 ∧ Below w3.heap.size w3 wx)
    case first =>
      go_region_with
        (first
          | (go_at_call 37; (first | refine (HFZ.out _).mono ?_ | refine (HF.out _).mono ?_); rintro e6 w6 ⟨rfl, hB6⟩; have hB7 := below_then (by first | exact h3r | exact below_drew h3r) hB6))
      all_goals (
        go_wp2_with fail
        go_meet
        exact ⟨rfl, rfl, hB7⟩)
    case rest =>
      obtain ⟨rfl, rfl, hB7⟩ := hcut
      generalize wc = w6 at *
      have h6r := Below.refl w6.heap.size w6
      clear q0 q1 q2 q3 q4 q5
      cases f
      · have HNN : Hid (n = xs.length - 1) := HNF.out
        clear HNF
        go_wp2_with fail
        rw [show ((xs.length : Int) - 1) = (n : Int) by have := HNN.out; omega]
        have hcut1 := HC1.out
        have hcut2 := HC2.out
        have h36 := hB7
        go_region_with
          (first
            | (go_at_call 30; refine (HSI.out _ (by first | exact h36 | exact below_drew h36)).mono ?_; rintro e8 w8 ⟨rfl, hB8⟩; have hB9 := below_then (by first | exact h6r | exact below_drew h6r) hB8)
            | (go_at_call 36; refine (awake35_any _).mono ?_; rintro e9 w9 ⟨rfl, hB10⟩; have hB11 := below_then hB9 hB10))
        all_goals (
          go_wp2
          go_ret
          exact ⟨rfl, below_then hBw (below_then (below_then bB3 h36) hB11)⟩)
      · have HNN : Hid (n = xs.length) := HNF.out
        clear HNF
        go_wp2_with fail
        rw [show (xs.length : Int) = (n : Int) by have := HNN.out; omega]
        have hcut1 := HC1.out
        have hcut2 := HC2.out
        have h36 := hB7
        go_region_with
          (first
            | (go_at_call 30; refine (HSI.out _ (by first | exact h36 | exact below_drew h36)).mono ?_; rintro e8 w8 ⟨rfl, hB8⟩; have hB9 := below_then (by first | exact h6r | exact below_drew h6r) hB8)
            | (go_at_call 36; refine (awake35_any _).mono ?_; rintro e9 w9 ⟨rfl, hB10⟩; have hB11 := below_then hB9 hB10))
        all_goals (
          go_wp2
          go_ret
          exact ⟨rfl, below_then hBw (below_then (below_then bB3 h36) hB11)⟩)

/-! The step from the walk to the statement: the shell's text. -/
set_option maxRecDepth 100000 in
theorem lifted (os : Os) (started : os.Started) (H : Type) (enc : TypeId × Value → H) :
    ReturnsInHanded {} Try.checked os 10 .any (Rows.cutterMoreSpec.pre6 enc Try.prog Try.f10 Rows.cutterMoreRow.domain false) (Rows.cutterMoreSpec.post enc Try.prog Try.f10 false true false false) := by
  refine returnsInHanded_of_change (C := Try.checked) own started (by kernel_rfl) Try.func10
    (ChangeSpec.witness6 (enc := enc) (C := Try.checked) false ⟨#[], #[.slice none 0 0, .int .i64 0, .string ByteArray.empty], []⟩ 8 (by kernel_rfl) (by kernel_rfl) (by kernel_rfl) (by kernel_rfl)) ?_
  intro W base args ds gs before hval0 hW hcnd _
  have hval : ∀ (j : Nat) t v, Try.f10.params[j]? = some t → args[j]? = some v → Value.okWide Try.prog W .any base t v := hval0
  have hW' := hW
  obtain ⟨p, q, hA0, hV, rfl, hfz, hnd⟩ := hW
  have hA : DataW.TrodAll enc Try.prog W 0 (fun _ => true) true Try.f10.params.toList args.toList ds p := hA0
  rw [Try.params10] at hA hval
  obtain ⟨v0, vs0, d0, ds0, p0, q0, hargs, rfl, rfl, h0, r0⟩ := trodAll_cons hA
  obtain ⟨v1, vs1, d1, ds1, p1, q1, rfl, rfl, rfl, h1, r1⟩ := trodAll_cons r0
  obtain ⟨v2, vs2, d2, ds2, p2, q2, rfl, rfl, rfl, h2, r2⟩ := trodAll_cons r1
  obtain ⟨rfl, rfl, rfl⟩ := trodAll_nil r2
  obtain rfl : args = #[v0, v1, v2] := by cases args; simp_all
  obtain ⟨rfl, rfl⟩ := trodVars_none hV
  obtain ⟨a0, len0, cap0, rfl⟩ := okWide_slice Try.underlying41 (hval 0 41 v0 rfl rfl)
  have k0 := h0
  have lt0 : ∀ x ∈ p0, x.block < W.heap.size := by obtain ⟨m, hm⟩ := k0; exact DataW.trod_lt m _ _ _ hm
  obtain ⟨z0, rfl, w0, b0, l0⟩ := open_sl Try.underlying41 Try.underlying3 (by kernel_rfl) h0
  obtain ⟨a1, rfl, rfl, rfl, w1⟩ := open_int Try.underlying3 (hval 1 3 v1 rfl rfl) h1
  obtain ⟨a2, rfl, rfl, rfl, w2⟩ := open_string Try.underlying9 (hval 2 9 v2 rfl rfl) h2
  clear hA0 hval0
  refine (walk a0 z0 cap0 a1 a2 W w0 b0 l0 (bounds_i64 w1) w2).mono fun e W' ⟨he, bel⟩ => ?_
  subst he
  exact ⟨_, rfl, _, _, _, [], _, [], hW', trodAll_mk1 (shut_bool Try.underlying4 _), (trodAll_cons_mk (Below.trod laidOut (by kernel_rfl) (of_decide_eq_true (by kernel_rfl)) k0 bel lt0) (trodAll_cons_mk (shut_int Try.underlying3 w1) (trodAll_cons_mk (shut_string Try.underlying9 w2) trodAll_mk0))), rfl, bel.frame _, fun h => by cases h⟩

theorem over : Rows.cutterMoreRow.holds Try.pinned (OpenSpec.ofChange Rows.cutterMoreSpec) :=
  OpenClaim.holds_of_wide 10 Try.f10 rfl rfl rfl rfl rfl rfl rfl ⟨rfl, rfl, rfl, rfl, rfl⟩ rfl rfl rfl rfl rfl (by kernel_rfl) Try.func10 (by kernel_rfl)
    (of_decide_eq_true (by kernel_rfl)) (by unfold Func.isWrapper; first | (rw [if_pos (by decide +kernel)]; kernel_rfl) | (rw [if_neg (by decide +kernel)]; exact ⟨rfl, rfl⟩))
    (fun os started H enc _ => lifted os started H enc)

/-- The statement. -/
theorem proved : Rows.CutterMoreSaid := over
#print axioms proved
end Go.Proofs.Ytaofphifmgadjaa.cutterMore
