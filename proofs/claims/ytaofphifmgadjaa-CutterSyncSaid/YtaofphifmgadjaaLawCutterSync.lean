/- The statement cheesepresslaw35.CutterSync holds: for every input the law returns true, and the arguments read as before. -/
import Derived.Test.YtaofphifmgadjaaShell
import Derived.Test.YtaofphifmgadjaaCutMore
import Derived.Deep.QuietTactic
import Derived.BigQuiet
import Derived.Deep.DeepCutAuto
import Derived.Deep.LoopGhost
namespace Go.Proofs.Ytaofphifmgadjaa.cutterSync
open Go.ChangeShapes Go.WideShapes Go.ChangeAt Go.RowKit
open Go.ChangeMaps (open_string shut_string)
set_option linter.unusedVariables false
set_option maxRecDepth 100000
attribute [local go_sem ↓] Go.wp_at_zero Go.wp_at_succ

theorem after_facts (jb : Int) (s t : ByteArray) (h2 : 2 ≤ (endsL jb true s 0).length) :
    (t.size = 0 → endsL jb true (s.extract 0 (atK jb true s 1) ++ t) 0 = [(atK jb true s 1 : Int)]) ∧
    (t.size ≠ 0 → (endsL jb true (s.extract 0 (atK jb true s 1) ++ t) 0).length = (endsL jb true t 0).length + 1 ∧ (endsL jb true (s.extract 0 (atK jb true s 1) ++ t) 0)[0]? = some (atK jb true s 1 : Int) ∧
      ∀ i (y : Int), (endsL jb true t 0)[i]? = some y → (endsL jb true (s.extract 0 (atK jb true s 1) ++ t) 0)[i + 1]? = some (y + (atK jb true s 1 : Int))) := by
  have h := ends_after jb true s t h2
  have e : atK jb true s 1 = posE jb true s 0 := rfl
  rw [e, h]
  refine ⟨fun h0 => by rw [if_pos h0], fun h0 => ?_⟩
  rw [if_neg h0]
  refine ⟨by simp, rfl, fun i y hy => ?_⟩
  simp [hy]

set_option maxHeartbeats 16000000 in
theorem walk (A : Option Addr) (nums : List Int) (c : Nat) (A' : Option Addr) (nums' : List Int) (c' : Nat) (job : Int) (w : World)
    (hS : SliceAt .i64 w w.heap.size A nums) (hwf : ∀ x ∈ nums, (Lit.int .i64 x).wf = true) (hln : nums.length ≤ 9223372036854775807)
    (hS' : SliceAt .i64 w w.heap.size A' nums') (hwf' : ∀ x ∈ nums', (Lit.int .i64 x).wf = true) (hln' : nums'.length ≤ 9223372036854775807) (hjob : -9223372036854775808 ≤ job ∧ job ≤ 9223372036854775807) :
    Calls Try.prog 9 #[.slice A nums.length c, .slice A' nums'.length c', .int .i64 job] w fun e w' => e = .returned (.bool true) ∧ Below w.heap.size w w' := by
  have HM := Lib.hid (made35_any A nums c w.heap.size job w hS (Nat.le_refl _) hwf hln hjob)
  have HI := Lib.hid (fun W (hW : Below w.heap.size w W) => Input_any A' nums' c' w.heap.size 400 W (hS'.below hW) hW.size hwf' hln' (by omega))
  clear hS hwf hln hjob hS' hwf' hln'
  unfold MadeOut at HM
  go_enter Try.func9, Try.ntmps9
  go_wp2_with fail
  refine HM.out.mono ?_
  rintro e w1 ⟨jb, sy, s, rfl, hj1, hj2, hs4, hB1⟩
  clear HM
  have hBw := below_alloc hB1 (.cells #[.int .i64 1, .int .i64 10, .int .i64 jb, .int .i64 0, .bool true, .bool false] 49)
  have hj : 16 ≤ jb ∧ jb ≤ 2097152 := by omega
  have HE := Lib.hid (fun (u : ByteArray) (hu : u.size ≤ 1000) W => Ends35_cap jb true u W hj (by omega))
  have JA := jobs_all true hj (s := s) (by omega)
  have JT := Lib.hid (fun (u : ByteArray) (hu : u.size ≤ 1000) => jobs_all true hj (s := u) (by omega))
  have AF := Lib.hid (fun t => after_facts jb s t)
  have HES := Lib.hid (fun W => HE.out s (by omega) W)
  generalize hxs : endsL jb true s 0 = xs at *
  generalize ha : atK jb true s = a at *
  have J1 := JA.one
  have J3 := Lib.hid JA.zero
  have J4 := Lib.hid JA.get
  have J5 := Lib.hid JA.le
  have J12 : Hid (∀ i, i + 1 < xs.length → leastC jb ≤ (a (i + 1) : Int) - a i) := fun i hi => JA.sync rfl i hi
  have J2 := JA.few
  clear hxs ha JA
  unfold EndsCap at HE HES
  have HPB : Hid (∀ V, Below (w1.alloc (.cells #[.int .i64 1, .int .i64 10, .int .i64 jb, .int .i64 0, .bool true, .bool false] 49)).heap.size (w1.alloc (.cells #[.int .i64 1, .int .i64 10, .int .i64 jb, .int .i64 0, .bool true, .bool false] 49)) V → ParBox V w1.heap.size 1 10 jb 0 true false) := fun V hV => (ParBox.new w1 1 10 jb 0 true false 49).keep hV (by simp)
  have hB0 := Below.refl (w1.alloc (.cells #[.int .i64 1, .int .i64 10, .int .i64 jb, .int .i64 0, .bool true, .bool false] 49)).heap.size (w1.alloc (.cells #[.int .i64 1, .int .i64 10, .int .i64 jb, .int .i64 0, .bool true, .bool false] 49))
  have hW1 : Below w.heap.size w (w1.alloc (.cells #[.int .i64 1, .int .i64 10, .int .i64 jb, .int .i64 0, .bool true, .bool false] 49)) := hBw
  clear hB1
  go_wp2_with fail
  generalize hW0 : w1.alloc (.cells #[.int .i64 1, .int .i64 10, .int .i64 jb, .int .i64 0, .bool true, .bool false] 49) = W0 at *
  clear hW0
  refine (HI.out _ hW1).mono ?_
  rintro e w2 ⟨t, rfl, ht4, hB2⟩
  have bB2 := below_then hB0 hB2
  obtain ⟨q0, q1, q2, q3, q4, q5⟩ := HPB.out w2 bB2
  go_wp2_with fail
  refine (HES.out _).mono ?_
  rintro e w3 ⟨A1, c1, rfl, hc1, hS1, hB3⟩
  have bB3 := below_then bB2 hB3
  clear q0 q1 q2 q3 q4 q5
  obtain ⟨q0, q1, q2, q3, q4, q5⟩ := HPB.out w3 bB3
  obtain ⟨b1, o1, x1, rfl, hx1, hcx1⟩ := hS1.get (i := 0) (by omega)
  have HC : Hid (∀ V, Below w3.heap.size w3 V → ∀ i, i < xs.length → V.cell? ⟨b1, o1 + i, none⟩ = some (.int .i64 (a (i + 1) : Int))) := fun V hV i hi =>
    hS1.cell_all (J4.out i hi) V hV
  clear hS1 hx1 hcx1
  have g3 : ((xs.length : Int) == 0) = false := by rw [beq_eq_false_iff_ne]; omega
  have h3r := Below.refl w3.heap.size w3
  go_wp2_with fail
  clear q0 q1 q2 q3 q4 q5 g3
  go_hide hQ
  go_loopg [12, 13] xs.length (fun g fv iv wr => ∃ i : Nat, i + 1 ≤ xs.length ∧ g = xs.length - i ∧ iv = .int .i64 i ∧ fv = .int .i64 (a i : Int) ∧ Below w3.heap.size w3 wr)
  case atStart => exact ⟨0, J1, by omega, rfl, by rw [J3.out]; rfl, h3r⟩
  case round =>
    obtain ⟨i, hi, rfl, rfl, rfl, hBr⟩ := hrel
    have bBr := below_then bB3 hBr
    obtain ⟨q0, q1, q2, q3, q4, q5⟩ := HPB.out wr bBr
    have hwr : IntKind.i64.wrap ((xs.length : Int) - 1) = (xs.length : Int) - 1 := by rw [IntKind.wrap_i64]; omega
    by_cases hlt : i + 1 < xs.length
    · have hlo := J12.out i hlt
      have hqs := J5.out (i + 1)
      have hps := J5.out i
      have hcq := HC.out wr hBr i (by omega)
      generalize hq : a (i + 1) = q at *
      generalize hp : a i = p at *
      have HQ := Lib.hid hq
      clear hq hp
      unfold leastC at hlo
      have g0 : (i : Int) < (xs.length : Int) - 1 := by omega
      have g1 : (0 : Int) ≤ (i : Int) := by omega
      have g1' : (i : Int) < (xs.length : Int) := by omega
      have g2 : ¬ (q : Int) - (p : Int) < 16 := by omega
      have g4 : ¬ (q : Int) - (p : Int) < jb / 4 := by omega
      have hpq : p ≤ q := by omega
      have hw1 : IntKind.i64.wrap ((q : Int) - (p : Int)) = (q : Int) - (p : Int) := by rw [IntKind.wrap_i64]; omega
      have g2d : decide ((q : Int) - (p : Int) < 16) = false := by rw [decide_eq_false_iff_not]; exact g2
      have g4d : decide ((q : Int) - (p : Int) < jb / 4) = false := by rw [decide_eq_false_iff_not]; exact g4
      clear hlo
      go_wp2_with fail
      go_quiet (fail)
      have hcq2 : (wr.drewN nq).cell? ⟨b1, o1 + i, none⟩ = some (.int .i64 (q : Int)) := hcq
      have hBr2 : Below w3.heap.size w3 (wr.drewN nq) := below_drewN hBr nq
      clear q0 q1 q2 q3 q4 q5 hcq
      generalize wr.drewN nq = w7 at *
      go_wp2_with fail
      go_roundg (xs.length - (i + 1))
      case measure => omega
      case rel => exact ⟨i + 1, by omega, rfl, by go_num, by rw [HQ.out], hBr2⟩
    · have g0 : ¬ (i : Int) < (xs.length : Int) - 1 := by omega
      go_wp2_with fail
      subst hQ
      clear g0 hwr hi hlt
      by_cases hN1 : 1 < xs.length
      · have g5 : ¬ (xs.length : Int) < 2 := by omega
        have hc0 := HC.out wr hBr 0 (by omega)
        obtain ⟨af1, af2⟩ := AF.out t (by omega)
        have hq1 := J5.out 1
        rw [show o1 + 0 = o1 by omega] at hc0
        rw [show a (0 + 1) = a 1 from rfl] at hc0
        generalize hq1' : a 1 = q at *
        have HA01 : Hid (a (0 + 1) = q) := hq1'
        clear hq1'
        have hsq : (s.extract 0 q ++ t).size ≤ 1000 := by rw [ByteArray.size_append, ByteArray.size_extract]; omega
        have hadd : ∀ V, (Op.stringOp .add (s.extract 0 q) t).run Try.prog V = .ok (.string (s.extract 0 q ++ t)) V := fun V => run_string_add_sum V _ _ (by rw [ByteArray.size_extract]; omega)
        have HEA := Lib.hid (fun W => HE.out (s.extract 0 q ++ t) hsq W)
        have HEB := Lib.hid (fun W => HE.out t (by omega) W)
        have JB := JT.out t (by omega)
        generalize endsL jb true (s.extract 0 q ++ t) 0 = zs at *
        generalize endsL jb true t 0 = bs at *
        generalize atK jb true t = d at *
        have D1 := JB.one
        have D2 := JB.few
        have D4 := Lib.hid JB.get
        have D5 := Lib.hid JB.le
        clear JB
        have AF1 := Lib.hid af1
        have AF2 := Lib.hid af2
        clear af1 af2
        have k1 : (0 : Int) ≤ (q : Int) := by omega
        have k2 : (q : Int) ≤ (s.size : Int) := by omega
        have k3 : ¬ (q : Int) < 0 := by omega
        have k4 : ¬ (s.size : Int) < (q : Int) := by omega
        have k5 : (0 : Int) < (xs.length : Int) := by omega
        have hrr := Below.refl wr.heap.size wr
        go_wp2_with fail
        go_cut [11, 14] (fun s11 s14 wx => ∃ A8 c8, s14 = .slice A8 zs.length c8 ∧ s11 = .int .i64 0 ∧ SliceAt .i64 wx wx.heap.size A8 zs ∧ Below wr.heap.size wr wx)
        case first =>
          go_region_with
            (first
              | (go_at_call 35; refine (HEA.out _).mono ?_; rintro e8 w8 ⟨A8, c8, rfl, hcz, hS8, hB8⟩; have hB9 := below_then (by first | exact hrr | exact below_drew hrr) hB8; have HS8 := Lib.hid hS8; clear hS8))
          all_goals (
            go_wp2_with fail
            go_meet
            exact ⟨A8, c8, rfl, rfl, HS8.out, hB9⟩)
        case rest =>
          obtain ⟨A8, c8, rfl, rfl, hS8, hB9⟩ := hcut
          generalize wc = w8 at *
          have rB8 : Below w3.heap.size w3 w8 := hBr.trans (hB9.mono hBr.size)
          have bB8 := below_then bBr hB9
          clear q0 q1 q2 q3 q4 q5 hc0 hrr
          obtain ⟨q0, q1, q2, q3, q4, q5⟩ := HPB.out w8 bB8
          go_wp2_with fail
          refine (HEB.out _).mono ?_
          rintro e w9 ⟨A9, c9, rfl, hc9, hS9, hBn⟩
          have rB9 : Below w3.heap.size w3 w9 := rB8.trans (hBn.mono rB8.size)
          have bB9 := below_then bB8 hBn
          have hc0 := HC.out w9 rB9 0 (by omega)
          have hZ := (hS8.below hBn).more hBn.size
          clear q0 q1 q2 q3 q4 q5 hS8 hB9 hBn
          rw [show o1 + 0 = o1 by omega, HA01.out] at hc0
          have h9r := Below.refl w9.heap.size w9
          by_cases h0 : t.size = 0
          · have e1 : t.toList = [] := by rw [ByteArray.toList_eq]; exact List.eq_nil_of_length_eq_zero (by simpa using h0)
            have hzq := AF1.out h0
            have HSI : Hid (Calls Try.prog 30 #[.slice A8 zs.length c8, .slice (some ⟨w9.heap.size, 0, none⟩) 1 1] (w9.alloc (.cells #[.int .i64 (q : Int)] 3)) fun e w' => e = .returned (.bool true) ∧ Below (w9.alloc (.cells #[.int .i64 (q : Int)] 3)).heap.size (w9.alloc (.cells #[.int .i64 (q : Int)] 3)) w') := by
              have h1 : SliceAt .i64 (w9.alloc (.cells #[.int .i64 (q : Int)] 3)) (w9.alloc (.cells #[.int .i64 (q : Int)] 3)).heap.size A8 zs := (hZ.below (below_new _)).more (by simp)
              have h2 : SliceAt .i64 (w9.alloc (.cells #[.int .i64 (q : Int)] 3)) (w9.alloc (.cells #[.int .i64 (q : Int)] 3)).heap.size (some ⟨w9.heap.size, 0, none⟩) [(q : Int)] := (slice_new1 w9 .i64 3 (q : Int)).more (by simp)
              have := SameInts_any A8 (some ⟨w9.heap.size, 0, none⟩) zs [(q : Int)] c8 1 _ _ h1 h2 (Nat.le_refl _) (by rw [hzq]; simp) (by simp)
              rw [hzq, sameI_yes] at this
              rw [hzq]
              exact this
            clear hzq hZ hS9
            go_wp2_with fail
            refine HSI.out.mono ?_
            rintro e w10 ⟨rfl, hB10⟩
            go_wp2_with fail
            refine (awake35_any _).mono ?_
            rintro e w11 ⟨rfl, hB11⟩
            go_wp2
            go_ret
            exact ⟨rfl, below_then hBw (below_then bB9 (below_then (below_then (below_new _) hB10) hB11))⟩
          · have e2 : t.toList.isEmpty = false := by
              rw [ByteArray.toList_eq]
              cases hh : t.data.toList with
              | nil => exfalso; apply h0; have := congrArg List.length hh; simpa using this
              | cons a b => rfl
            have e1 : (t.toList == []) = false := by
              cases hh : t.toList with
              | nil => rw [hh] at e2; cases e2
              | cons a b => rfl
            obtain ⟨z1, z2, z3⟩ := AF2.out h0
            have z1a : (zs.length : Int) = (bs.length : Int) + 1 := by omega
            have z1b : ((zs.length : Int) != (bs.length : Int) + 1) = false := by rw [z1a]; simp
            have Z1 : Hid (zs.length = bs.length + 1) := z1
            have Z3 := Lib.hid z3
            obtain ⟨b8, o8, y8, rfl, hy8, hcz0⟩ := hZ.get (i := 0) (by omega)
            have HCZ : Hid (∀ V, Below w9.heap.size w9 V → ∀ i (y : Int), zs[i]? = some y → V.cell? ⟨b8, o8 + i, none⟩ = some (.int .i64 y)) := fun V hV i y hy => hZ.cell_all hy V hV
            have hcz := HCZ.out w9 h9r 0 (q : Int) z2
            rw [show o8 + 0 = o8 by omega] at hcz
            have Z2 := Lib.hid z2
            have HS9 := Lib.hid hS9
            have k6 : (0 : Int) < (zs.length : Int) := by omega
            clear z1 z1a z2 z3 hZ hS9 hy8 hcz0
            go_wp2_with fail
            go_quiet (fail)
            have h9d : Below w9.heap.size w9 (w9.drewN nq) := below_drewN h9r nq
            clear hcz hc0 z1b
            generalize w9.drewN nq = wd at *
            go_wp2_with fail
            go_loopg [17] bs.length (fun g2 kv wq => ∃ k : Nat, k ≤ bs.length ∧ g2 = bs.length - k ∧ kv = .int .i64 k ∧ Below w9.heap.size w9 wq)
            case atStart => exact ⟨0, Nat.zero_le _, by omega, rfl, h9d⟩
            case round =>
              obtain ⟨k, hk, rfl, rfl, hBq⟩ := hrel
              by_cases hkn : k < bs.length
              · obtain ⟨b9, o9, y, rfl, hy, hcy⟩ := (HS9.out.below hBq).get hkn
                have hyd : y = (d (k + 1) : Int) := by
                  have h1 := D4.out k hkn
                  rw [hy] at h1
                  injection h1
                have hy0 : 0 ≤ y ∧ y ≤ 400 := by rw [hyd]; have := D5.out (k + 1); omega
                obtain ⟨hy1, hy2⟩ := hy0
                have hcz := HCZ.out wr hBq (k + 1) _ (Z3.out k y hy)
                have hcz' : wr.cell? ⟨b8, o8 + ((k : Int) + 1).toNat, none⟩ = some (.int .i64 (y + (q : Int))) := by
                  rw [show ((k : Int) + 1).toNat = k + 1 by omega]; exact hcz
                have hc0 := HC.out wr (rB9.trans (hBq.mono rB9.size)) 0 (by omega)
                rw [show o1 + 0 = o1 by omega, HA01.out] at hc0
                clear hy hyd
                have m1 : (0 : Int) ≤ (k : Int) := by omega
                have m2 : (k : Int) < (bs.length : Int) := by omega
                have m3 : (0 : Int) ≤ (k : Int) + 1 := by omega
                have m4 : (k : Int) + 1 < (zs.length : Int) := by have := Z1.out; omega
                go_wp2_with fail
                go_quiet (fail)
                go_wp2_with fail
                go_roundg (bs.length - (k + 1))
                case measure => omega
                case rel => exact ⟨k + 1, by omega, rfl, by go_num, ⟨hBq.os, hBq.tape, hBq.output, hBq.size, hBq.block⟩⟩
              · have m2 : ¬ (k : Int) < (bs.length : Int) := by omega
                go_wp2_with fail
                refine (awake35_any _).mono ?_
                rintro e w11 ⟨rfl, hB11⟩
                go_wp2
                go_ret
                exact ⟨rfl, below_then hBw (below_then (below_then bB9 hBq) hB11)⟩
      · have g5 : (xs.length : Int) < 2 := by omega
        go_wp2_with fail
        refine (awake35_any _).mono ?_
        rintro e w4 ⟨rfl, hB4⟩
        go_wp2
        go_ret
        exact ⟨rfl, below_then hBw (below_then bBr hB4)⟩

/-! The step from the walk to the statement: the shell's text. -/
set_option maxRecDepth 100000 in
theorem lifted (os : Os) (started : os.Started) (H : Type) (enc : TypeId × Value → H) :
    ReturnsInHanded {} Try.checked os 9 .any (Rows.cutterSyncSpec.pre6 enc Try.prog Try.f9 Rows.cutterSyncRow.domain false) (Rows.cutterSyncSpec.post enc Try.prog Try.f9 false true false false) := by
  refine returnsInHanded_of_change (C := Try.checked) own started (by kernel_rfl) Try.func9
    (ChangeSpec.witness6 (enc := enc) (C := Try.checked) false ⟨#[], #[.slice none 0 0, .slice none 0 0, .int .i64 0], []⟩ 8 (by kernel_rfl) (by kernel_rfl) (by kernel_rfl) (by kernel_rfl)) ?_
  intro W base args ds gs before hval0 hW hcnd _
  have hval : ∀ (j : Nat) t v, Try.f9.params[j]? = some t → args[j]? = some v → Value.okWide Try.prog W .any base t v := hval0
  have hW' := hW
  obtain ⟨p, q, hA0, hV, rfl, hfz, hnd⟩ := hW
  have hA : DataW.TrodAll enc Try.prog W 0 (fun _ => true) true Try.f9.params.toList args.toList ds p := hA0
  rw [Try.params9] at hA hval
  obtain ⟨v0, vs0, d0, ds0, p0, q0, hargs, rfl, rfl, h0, r0⟩ := trodAll_cons hA
  obtain ⟨v1, vs1, d1, ds1, p1, q1, rfl, rfl, rfl, h1, r1⟩ := trodAll_cons r0
  obtain ⟨v2, vs2, d2, ds2, p2, q2, rfl, rfl, rfl, h2, r2⟩ := trodAll_cons r1
  obtain ⟨rfl, rfl, rfl⟩ := trodAll_nil r2
  obtain rfl : args = #[v0, v1, v2] := by cases args; simp_all
  obtain ⟨rfl, rfl⟩ := trodVars_none hV
  obtain ⟨a0, len0, cap0, rfl⟩ := okWide_slice Try.underlying41 (hval 0 41 v0 rfl rfl)
  have k0 := h0
  have lt0 : ∀ x ∈ p0, x.block < W.heap.size := by obtain ⟨m, hm⟩ := k0; exact DataW.trod_lt m _ _ _ hm
  obtain ⟨z0, rfl, w0, b0, l0⟩ := open_sl Try.underlying41 Try.underlying3 (by kernel_rfl) h0
  obtain ⟨a1, len1, cap1, rfl⟩ := okWide_slice Try.underlying41 (hval 1 41 v1 rfl rfl)
  have k1 := h1
  have lt1 : ∀ x ∈ p1, x.block < W.heap.size := by obtain ⟨m, hm⟩ := k1; exact DataW.trod_lt m _ _ _ hm
  obtain ⟨z1, rfl, w1, b1, l1⟩ := open_sl Try.underlying41 Try.underlying3 (by kernel_rfl) h1
  obtain ⟨a2, rfl, rfl, rfl, w2⟩ := open_int Try.underlying3 (hval 2 3 v2 rfl rfl) h2
  clear hA0 hval0
  refine (walk a0 z0 cap0 a1 z1 cap1 a2 W w0 b0 l0 w1 b1 l1 (bounds_i64 w2)).mono fun e W' ⟨he, bel⟩ => ?_
  subst he
  exact ⟨_, rfl, _, _, _, [], _, [], hW', trodAll_mk1 (shut_bool Try.underlying4 _), (trodAll_cons_mk (Below.trod laidOut (by kernel_rfl) (of_decide_eq_true (by kernel_rfl)) k0 bel lt0) (trodAll_cons_mk (Below.trod laidOut (by kernel_rfl) (of_decide_eq_true (by kernel_rfl)) k1 bel lt1) (trodAll_cons_mk (shut_int Try.underlying3 w2) trodAll_mk0))), rfl, bel.frame _, fun h => by cases h⟩

theorem over : Rows.cutterSyncRow.holds Try.pinned (OpenSpec.ofChange Rows.cutterSyncSpec) :=
  OpenClaim.holds_of_wide 9 Try.f9 rfl rfl rfl rfl rfl rfl rfl ⟨rfl, rfl, rfl, rfl, rfl⟩ rfl rfl rfl rfl rfl (by kernel_rfl) Try.func9 (by kernel_rfl)
    (of_decide_eq_true (by kernel_rfl)) (by unfold Func.isWrapper; first | (rw [if_pos (by decide +kernel)]; kernel_rfl) | (rw [if_neg (by decide +kernel)]; exact ⟨rfl, rfl⟩))
    (fun os started H enc _ => lifted os started H enc)

/-- The statement. -/
theorem proved : Rows.CutterSyncSaid := over
#print axioms proved
end Go.Proofs.Ytaofphifmgadjaa.cutterSync
