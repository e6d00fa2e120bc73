/- The statement cheesepresslaw35.CutterJobs holds: for every input the law returns true, and the arguments read as before. -/
import Derived.Test.YtaofphifmgadjaaShell
import Derived.Test.YtaofphifmgadjaaCutMade
import Derived.Test.YtaofphifmgadjaaCutLaws
import Derived.Deep.QuietTactic
import Derived.BigQuiet
import Derived.Deep.DeepCutAuto
import Derived.Deep.LoopGhost
namespace Go.Proofs.Ytaofphifmgadjaa.cutterJobs
open Go.ChangeShapes Go.WideShapes Go.ChangeAt Go.RowKit
open Go.ChangeMaps (open_string shut_string)
set_option linter.unusedVariables false
set_option maxRecDepth 100000
attribute [local go_sem ↓] Go.wp_at_zero Go.wp_at_succ

set_option maxHeartbeats 16000000 in
theorem walk (A : Option Addr) (nums : List Int) (c : Nat) (job : Int) (w : World) (hS : SliceAt .i64 w w.heap.size A nums) (hwf : ∀ x ∈ nums, (Lit.int .i64 x).wf = true) (hln : nums.length ≤ 9223372036854775807) (hjob : -9223372036854775808 ≤ job ∧ job ≤ 9223372036854775807) :
    Calls Try.prog 12 #[.slice A nums.length c, .int .i64 job] w fun e w' => e = .returned (.bool true) ∧ Below w.heap.size w w' := by
  have HM := Lib.hid (made35_any A nums c w.heap.size job w hS (Nat.le_refl _) hwf hln hjob)
  clear hS hwf hln hjob
  unfold MadeOut at HM
  go_enter Try.func12, Try.ntmps12
  go_wp2_with fail
  refine HM.out.mono ?_
  rintro e w1 ⟨jb, sy, s, rfl, hj1, hj2, hs4, hB1⟩
  clear HM
  have hj : 16 ≤ jb ∧ jb ≤ 2097152 := by omega
  have hpb := job_ok hj
  have hz : ∀ t : ByteArray, t.size ≤ 400 → askE 1 10 jb 0 t = 0 := fun t ht => ask_ok hpb (by omega)
  obtain ⟨he1, he2⟩ := ends_small sy hj (s := s) (by omega)
  have HE := Lib.hid (fun W => Ends35_any 1 10 jb 0 sy false s W (by omega))
  rw [he1, he2] at HE
  have HL := Lib.hid (fun W => Longest_ok 1 10 jb 0 sy false W hpb)
  unfold parV at HL
  have HF : Hid (∀ t : ByteArray, t.size ≤ 400 → ∀ W, Calls Try.prog 37 #[.agg #[.int .i64 1, .int .i64 10, .int .i64 jb, .int .i64 0, .bool sy, .bool false], .string t] W fun e w' => e = .returned (.tuple #[.bool (fullV 1 10 jb 0 sy t), .int .i64 0]) ∧ Below W.heap.size W w') := fun t ht W => by
    have := Full35_any 1 10 jb 0 sy false t W (by omega)
    rw [hz t ht] at this
    exact this
  have HR := Lib.hid (fun (t : ByteArray) (ht : t.size ≤ 400) W => Ends35_any 1 10 jb 0 sy false t W (by omega))
  have JA := jobs_all sy hj (s := s) (by omega)
  generalize endsL jb sy s 0 = xs at *
  generalize atK jb sy s = a at *
  obtain ⟨ja1, ja2, ja3, ja4, ja5, ja6, ja7, ja8, ja9, ja10, ja11, ja12, ja13⟩ := JA
  have J3 := Lib.hid ja3
  have J4 := Lib.hid ja4
  have J5 := Lib.hid ja5
  have J6 := Lib.hid ja6
  have J7 := Lib.hid ja7
  have J8 := Lib.hid ja8
  have J9 := Lib.hid ja9
  have J10 := Lib.hid ja10
  have J11 := Lib.hid ja11
  have J13 := Lib.hid ja13
  clear ja3 ja4 ja5 ja6 ja7 ja8 ja9 ja10 ja11 ja12 ja13 he1 he2 hz
  unfold EndsOut at HE HR
  generalize longV jb sy = L at *
  have HPB : Hid (∀ V, Below (w1.alloc (.cells #[.int .i64 1, .int .i64 10, .int .i64 jb, .int .i64 0, .bool sy, .bool false] 49)).heap.size (w1.alloc (.cells #[.int .i64 1, .int .i64 10, .int .i64 jb, .int .i64 0, .bool sy, .bool false] 49)) V → ParBox V w1.heap.size 1 10 jb 0 sy false) := fun V hV => (ParBox.new w1 1 10 jb 0 sy false 49).keep hV (by simp)
  have hB0 := Below.refl (w1.alloc (.cells #[.int .i64 1, .int .i64 10, .int .i64 jb, .int .i64 0, .bool sy, .bool false] 49)).heap.size (w1.alloc (.cells #[.int .i64 1, .int .i64 10, .int .i64 jb, .int .i64 0, .bool sy, .bool false] 49))
  have hBw := below_alloc hB1 (.cells #[.int .i64 1, .int .i64 10, .int .i64 jb, .int .i64 0, .bool sy, .bool false] 49)
  clear hB1
  obtain ⟨q0, q1, q2, q3, q4, q5⟩ := HPB.out _ hB0
  go_wp2_with fail
  generalize hW0 : w1.alloc (.cells #[.int .i64 1, .int .i64 10, .int .i64 jb, .int .i64 0, .bool sy, .bool false] 49) = W0 at *
  clear hW0
  refine (HE.out _).mono ?_
  rintro e w2 ⟨A1, c1, rfl, hS1, hB2⟩
  have bB2 := below_then hB0 hB2
  clear q0 q1 q2 q3 q4 q5
  obtain ⟨q0, q1, q2, q3, q4, q5⟩ := HPB.out w2 bB2
  go_wp2_with fail
  refine (HL.out _).mono ?_
  rintro e w3 ⟨rfl, hB3⟩
  have bB3 := below_then bB2 hB3
  obtain ⟨b1, o1, x1, rfl, hx1, hc1⟩ := (hS1.below hB3).get (i := xs.length - 1) (by omega)
  have HC : Hid (∀ V, Below w3.heap.size w3 V → ∀ i, i < xs.length → V.cell? ⟨b1, o1 + i, none⟩ = some (.int .i64 (a (i + 1) : Int))) := fun V hV i hi =>
    ((hS1.below hB3).more hB3.size).cell_all (J4.out i hi) V hV
  have hlast : x1 = (s.size : Int) := by
    have h1 := J4.out (xs.length - 1) (by omega)
    rw [show xs.length - 1 + 1 = xs.length by omega, J6.out, hx1] at h1
    injection h1
  subst hlast
  have hc1' : w3.cell? ⟨b1, o1 + ((xs.length : Int) - 1).toNat, none⟩ = some (.int .i64 (s.size : Int)) := by
    rw [show ((xs.length : Int) - 1).toNat = xs.length - 1 by omega]; exact hc1
  clear hS1 hx1 q0 q1 q2 q3 q4 q5
  have g1 : (0 : Int) ≤ (xs.length : Int) - 1 := by omega
  have g2 : (xs.length : Int) - 1 < (xs.length : Int) := by omega
  have g3 : ((xs.length : Int) == 0) = false := by rw [beq_eq_false_iff_ne]; omega
  by_cases h0 : s.size = 0
  · have e1 : s.toList = [] := by rw [ByteArray.toList_eq]; exact List.eq_nil_of_length_eq_zero (by simpa using h0)
    have g4 : ((xs.length : Int) == 1) = true := by rw [J7.out h0]; rfl
    go_wp2_with fail
    refine (awake35_any _).mono ?_
    rintro e w4 ⟨rfl, hB4⟩
    go_wp2
    go_ret
    exact ⟨rfl, below_then hBw (below_then bB3 hB4)⟩
  · have e2 : s.toList.isEmpty = false := by
      rw [ByteArray.toList_eq]
      cases hh : s.data.toList with
      | nil => exfalso; apply h0; have := congrArg List.length hh; simpa using this
      | cons a b => rfl
    have e1 : (s.toList == []) = false := by
      cases hh : s.toList with
      | nil => rw [hh] at e2; cases e2
      | cons a b => rfl
    go_wp2_with fail
    clear hc1 hc1' g1 g2 g3 e1 e2
    have HUP := Lib.hid (J8.out h0)
    go_loopg [11, 12] xs.length (fun g fv iv wr => ∃ i : Nat, i ≤ xs.length ∧ g = xs.length - i ∧ iv = .int .i64 i ∧ fv = .int .i64 (a i : Int) ∧ Below w3.heap.size w3 wr)
    case atStart => exact ⟨0, Nat.zero_le _, by omega, rfl, by rw [J3.out]; rfl, Below.refl _ _⟩
    case round =>
      obtain ⟨i, hi, rfl, rfl, rfl, hBr⟩ := hrel
      by_cases hlt : i < xs.length
      · have hup := HUP.out i hlt
        have hlo := J9.out i hlt
        have hqs := J5.out (i + 1)
        have HFU := Lib.hid (J10.out i)
        have HPL := Lib.hid (fun h => J11.out h i)
        have HRE := Lib.hid (J13.out i)
        have HCQ : Hid (∀ V, Below w3.heap.size w3 V → V.cell? ⟨b1, o1 + i, none⟩ = some (.int .i64 (a (i + 1) : Int))) := fun V hV => HC.out V hV i hlt
        generalize hq : a (i + 1) = q at *
        generalize hp : a i = p at *
        have HQ := Lib.hid hq
        clear hq hp
        have hcq := HCQ.out wr hBr
        have bBr := below_then bB3 hBr
        obtain ⟨q0, q1, q2, q3, q4, q5⟩ := HPB.out wr bBr
        have g0 : (i : Int) < (xs.length : Int) := by omega
        have g1 : (0 : Int) ≤ (i : Int) := by omega
        have g2 : ¬ (q : Int) ≤ (p : Int) := by omega
        have g3 : ¬ (s.size : Int) < (q : Int) := by omega
        have g4 : ¬ L < (q : Int) - (p : Int) := by omega
        have hus : (s.extract p q).size ≤ 400 := by rw [ByteArray.size_extract]; omega
        have HFW := Lib.hid (fun W => HF.out (s.extract p q) hus W)
        have hps : p ≤ q := by omega
        have k1 : (0 : Int) ≤ (p : Int) := by omega
        have k2 : (p : Int) ≤ (q : Int) := by omega
        have k3 : (q : Int) ≤ (s.size : Int) := by omega
        obtain ⟨f, hf⟩ : ∃ f, fullV 1 10 jb 0 sy (s.extract p q) = f := ⟨_, rfl⟩
        rw [hf] at HFU HFW
        clear hf
        have hBrr := Below.refl wr.heap.size wr
        go_wp2_with fail
        go_cut [13, 14] (fun s13 s14 wx => s13 = .bool f ∧ s14 = .int .i64 0 ∧ Below wr.heap.size wr wx)
        case first =>
          go_region_with
            (first
              | (go_at_call 37; refine (HFW.out _).mono ?_; rintro e6 w6 ⟨rfl, hB6⟩; have hB7 := below_then (by first | exact hBrr | exact below_drew hBrr) hB6))
          all_goals (
            go_wp2_with fail
            go_meet
            exact ⟨rfl, rfl, hB7⟩)
        case rest =>
          obtain ⟨rfl, rfl, hB7⟩ := hcut
          generalize wc = w6 at *
          have bB7 := below_then bBr hB7
          have bR7 : Below w3.heap.size w3 w6 := hBr.trans (hB7.mono hBr.size)
          have hcq7 := HCQ.out _ bR7
          clear q0 q1 q2 q3 q4 q5 hcq hB7 hBrr HFW
          obtain ⟨q0, q1, q2, q3, q4, q5⟩ := HPB.out _ bB7
          have hwr : IntKind.i64.wrap ((xs.length : Int) - 1) = (xs.length : Int) - 1 := by rw [IntKind.wrap_i64]; omega
          have hB6r := Below.refl w6.heap.size w6
          go_wp2_with fail
          go_cut [143] (fun s143 wx => s143 = .bool false ∧ Below w6.heap.size w6 wx)
          case first =>
            by_cases hl2 : i + 1 < xs.length
            · have hf := HFU.out hl2
              subst hf
              have g5 : (i : Int) < (xs.length : Int) - 1 := by omega
              have G6 := Lib.hid (fun h => (by rw [HPL.out h hl2]; simp : ((q : Int) - (p : Int) != jb) = false))
              cases sy
              all_goals (
                try (have g6 := G6.out rfl)
                go_quiet (fail)
                go_wp2_with fail
                go_meet
                exact ⟨rfl, below_drewN hB6r nq⟩)
            · have g5 : decide ((i : Int) < (xs.length : Int) - 1) = false := by rw [decide_eq_false_iff_not]; omega
              go_quiet (fail)
              go_wp2_with fail
              go_meet
              exact ⟨rfl, below_drewN hB6r nq⟩
          case rest =>
            obtain ⟨rfl, hB8⟩ := hcut
            generalize wc = w7 at *
            have bB8 := below_then bB7 hB8
            have bR8 : Below w3.heap.size w3 w7 := bR7.trans (hB8.mono bR7.size)
            clear q0 q1 q2 q3 q4 q5 hcq7 hB8 hB6r
            by_cases hl2 : i + 1 < xs.length
            · have g5 : (i : Int) < (xs.length : Int) - 1 := by omega
              obtain ⟨ys, hy1, hy2, hy3, hy4⟩ := HRE.out hl2
              have hzs : (s.extract q s.size).size ≤ 400 := by rw [ByteArray.size_extract]; omega
              have HRW := Lib.hid (fun W => HR.out (s.extract q s.size) hzs W)
              rw [hy1, hy2] at HRW
              have hy3a : ys.length ≤ xs.length - (i + 1) := by omega
              have g7 : (ys.length : Int) = (xs.length : Int) - 1 - (i : Int) := by omega
              have G7 := Lib.hid (show ((ys.length : Int) != (xs.length : Int) - 1 - (i : Int)) = false by rw [← g7]; simp)
              have HY := Lib.hid hy4
              clear hy1 hy2 hy3 hy4 g7
              have k4 : (0 : Int) ≤ (q : Int) := by omega
              have cN := HCQ.out _ bR8
              obtain ⟨q0, q1, q2, q3, q4, q5⟩ := HPB.out _ bB8
              have hBrr2 := Below.refl w7.heap.size w7
              go_wp2_with fail
              go_cut [15, 16] (fun s15 s16 wx => ∃ A8 c8, s15 = .slice A8 ys.length c8 ∧ s16 = .int .i64 0 ∧ SliceAt .i64 wx wx.heap.size A8 ys ∧ Below w7.heap.size w7 wx)
              case first =>
                go_region_with
                  (first
                    | (go_at_call 35; refine (HRW.out _).mono ?_; rintro e8 w8 ⟨A8, c8, rfl, hS8, hB8⟩; have hB9 := below_then (by first | exact hBrr2 | exact below_drew hBrr2) hB8; have HS8 := Lib.hid hS8; clear hS8))
                all_goals (
                  go_wp2_with fail
                  go_meet
                  exact ⟨A8, c8, rfl, rfl, HS8.out, hB9⟩)
              case rest =>
                obtain ⟨A8, c8, rfl, rfl, hS8, hB9⟩ := hcut
                generalize wc = w8 at *
                have rB9 : Below w3.heap.size w3 w8 := bR8.trans (hB9.mono bR8.size)
                have HS8 := Lib.hid hS8
                have g7 := G7.out
                have hwr : IntKind.i64.wrap ((xs.length : Int) - 1) = (xs.length : Int) - 1 := by rw [IntKind.wrap_i64]; omega
                clear q0 q1 q2 q3 q4 q5 cN hS8 hB9 hBrr2
                go_wp2_with fail
                go_hide hQ
                go_loopg [17] ys.length (fun g2 kv wq => ∃ k : Nat, k ≤ ys.length ∧ g2 = ys.length - k ∧ kv = .int .i64 k ∧ Below w8.heap.size w8 wq)
                case atStart => exact ⟨0, Nat.zero_le _, by omega, rfl, Below.refl _ _⟩
                case round =>
                  obtain ⟨k, hk, rfl, rfl, hBq⟩ := hrel
                  have rBq : Below w3.heap.size w3 wr := rB9.trans (hBq.mono rB9.size)
                  have cN := HCQ.out _ rBq
                  by_cases hkn : k < ys.length
                  · obtain ⟨b8, o8, y, rfl, hy, hcy⟩ := (HS8.out.below hBq).get hkn
                    obtain ⟨y', hy1, hy2⟩ := HY.out k hkn
                    have hyy : y = y' := by rw [hy] at hy1; injection hy1
                    subst hyy
                    have cM := HC.out _ rBq (i + 1 + k) (by omega)
                    rw [← hy2] at cM
                    have cM' : wr.cell? ⟨b1, o1 + ((i : Int) + 1 + (k : Int)).toNat, none⟩ = some (.int .i64 (y + (q : Int))) := by
                      rw [show ((i : Int) + 1 + (k : Int)).toNat = i + 1 + k by omega]; exact cM
                    have k9 : 0 ≤ y + (q : Int) ∧ y + (q : Int) ≤ 400 := by rw [hy2]; have := J5.out (i + 1 + k + 1); omega
                    obtain ⟨k10, k11⟩ := k9
                    clear hy hy1 hy2
                    have k5 : (0 : Int) ≤ (i : Int) + 1 + (k : Int) := by omega
                    have k6 : (i : Int) + 1 + (k : Int) < (xs.length : Int) := by omega
                    have k7 : (0 : Int) ≤ (k : Int) := by omega
                    have k8 : (k : Int) < (ys.length : Int) := by omega
                    go_wp2_with fail
                    go_quiet (fail)
                    go_wp2_with fail
                    go_roundg (ys.length - (k + 1))
                    case measure => omega
                    case rel => exact ⟨k + 1, by omega, rfl, by go_num, ⟨hBq.os, hBq.tape, hBq.output, hBq.size, hBq.block⟩⟩
                  · have k8 : ¬ (k : Int) < (ys.length : Int) := by omega
                    go_wp2_with fail
                    subst hQ
                    go_wp2_with fail
                    go_roundg (xs.length - (i + 1))
                    case measure => omega
                    case rel => exact ⟨i + 1, by omega, rfl, by go_num, by rw [HQ.out], rBq⟩
            · have g5 : decide ((i : Int) < (xs.length : Int) - 1) = false := by rw [decide_eq_false_iff_not]; omega
              have cN := HCQ.out _ bR8
              go_wp2_with fail
              go_roundg (xs.length - (i + 1))
              case measure => omega
              case rel => exact ⟨i + 1, by omega, rfl, by go_num, by rw [HQ.out], bR8⟩
      · have hiN : i = xs.length := by omega
        have g0 : ¬ (i : Int) < (xs.length : Int) := by omega
        go_wp2_with fail
        refine (awake35_any _).mono ?_
        rintro e w4 ⟨rfl, hB4⟩
        go_wp2
        go_ret
        exact ⟨rfl, below_then hBw (below_then (below_then bB3 hBr) hB4)⟩

/-! The step from the walk to the statement: the shell's text. -/
set_option maxRecDepth 100000 in
theorem lifted (os : Os) (started : os.Started) (H : Type) (enc : TypeId × Value → H) :
    ReturnsInHanded {} Try.checked os 12 .any (Rows.cutterJobsSpec.pre6 enc Try.prog Try.f12 Rows.cutterJobsRow.domain false) (Rows.cutterJobsSpec.post enc Try.prog Try.f12 false true false false) := by
  refine returnsInHanded_of_change (C := Try.checked) own started (by kernel_rfl) Try.func12
    (ChangeSpec.witness6 (enc := enc) (C := Try.checked) false ⟨#[], #[.slice none 0 0, .int .i64 0], []⟩ 8 (by kernel_rfl) (by kernel_rfl) (by kernel_rfl) (by kernel_rfl)) ?_
  intro W base args ds gs before hval0 hW hcnd _
  have hval : ∀ (j : Nat) t v, Try.f12.params[j]? = some t → args[j]? = some v → Value.okWide Try.prog W .any base t v := hval0
  have hW' := hW
  obtain ⟨p, q, hA0, hV, rfl, hfz, hnd⟩ := hW
  have hA : DataW.TrodAll enc Try.prog W 0 (fun _ => true) true Try.f12.params.toList args.toList ds p := hA0
  rw [Try.params12] at hA hval
  obtain ⟨v0, vs0, d0, ds0, p0, q0, hargs, rfl, rfl, h0, r0⟩ := trodAll_cons hA
  obtain ⟨v1, vs1, d1, ds1, p1, q1, rfl, rfl, rfl, h1, r1⟩ := trodAll_cons r0
  obtain ⟨rfl, rfl, rfl⟩ := trodAll_nil r1
  obtain rfl : args = #[v0, v1] := by cases args; simp_all
  obtain ⟨rfl, rfl⟩ := trodVars_none hV
  obtain ⟨a0, len0, cap0, rfl⟩ := okWide_slice Try.underlying41 (hval 0 41 v0 rfl rfl)
  have k0 := h0
  have lt0 : ∀ x ∈ p0, x.block < W.heap.size := by obtain ⟨m, hm⟩ := k0; exact DataW.trod_lt m _ _ _ hm
  obtain ⟨z0, rfl, w0, b0, l0⟩ := open_sl Try.underlying41 Try.underlying3 (by kernel_rfl) h0
  obtain ⟨a1, rfl, rfl, rfl, w1⟩ := open_int Try.underlying3 (hval 1 3 v1 rfl rfl) h1
  clear hA0 hval0
  refine (walk a0 z0 cap0 a1 W w0 b0 l0 (bounds_i64 w1)).mono fun e W' ⟨he, bel⟩ => ?_
  subst he
  exact ⟨_, rfl, _, _, _, [], _, [], hW', trodAll_mk1 (shut_bool Try.underlying4 _), (trodAll_cons_mk (Below.trod laidOut (by kernel_rfl) (of_decide_eq_true (by kernel_rfl)) k0 bel lt0) (trodAll_cons_mk (shut_int Try.underlying3 w1) trodAll_mk0)), rfl, bel.frame _, fun h => by cases h⟩

theorem over : Rows.cutterJobsRow.holds Try.pinned (OpenSpec.ofChange Rows.cutterJobsSpec) :=
  OpenClaim.holds_of_wide 12 Try.f12 rfl rfl rfl rfl rfl rfl rfl ⟨rfl, rfl, rfl, rfl, rfl⟩ rfl rfl rfl rfl rfl (by kernel_rfl) Try.func12 (by kernel_rfl)
    (of_decide_eq_true (by kernel_rfl)) (by unfold Func.isWrapper; first | (rw [if_pos (by decide +kernel)]; kernel_rfl) | (rw [if_neg (by decide +kernel)]; exact ⟨rfl, rfl⟩))
    (fun os started H enc _ => lifted os started H enc)

/-- The statement. -/
theorem proved : Rows.CutterJobsSaid := over
#print axioms proved
end Go.Proofs.Ytaofphifmgadjaa.cutterJobs
