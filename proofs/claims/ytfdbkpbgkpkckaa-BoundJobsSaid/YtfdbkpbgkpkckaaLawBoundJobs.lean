/- The statement cheesepresslaw43.BoundJobs holds: for every input the law returns true, and the arguments read as before. -/
import Derived.Test.YtfdbkpbgkpkckaaShell
import Derived.Test.YtfdbkpbgkpkckaaBoundPlain
import Derived.Test.YtfdbkpbgkpkckaaBoundWhole3
import Derived.Test.YtfdbkpbgkpkckaaCutCap
import Derived.Test.YtfdbkpbgkpkckaaKitInput
import Derived.Deep.QuietTactic
import Derived.BigQuiet
import Derived.Deep.DeepCutAuto
import Derived.Deep.LoopGhost
namespace Go.Proofs.Ytfdbkpbgkpkckaa.boundJobs
open Go.ChangeShapes Go.WideShapes Go.ChangeAt Go.RowKit
open Go.ChangeMaps (open_string shut_string)
set_option linter.unusedVariables false
set_option maxRecDepth 100000
attribute [local go_sem ↓] Go.wp_at_zero Go.wp_at_succ

set_option maxHeartbeats 16000000 in
theorem walk (A : Option Addr) (nums : List Int) (c : Nat) (job more : Int) (w : World) (hS : SliceAt .i64 w w.heap.size A nums) (hwf : ∀ x ∈ nums, (Lit.int .i64 x).wf = true) (hln : nums.length ≤ 9223372036854775807) (hjob : -9223372036854775808 ≤ job ∧ job ≤ 9223372036854775807) (hmore : -9223372036854775808 ≤ more ∧ more ≤ 9223372036854775807) :
    Calls Try.prog 7 #[.slice A nums.length c, .int .i64 job, .int .i64 more] w fun e w' => e = .returned (.bool true) ∧ Below w.heap.size w w' := by
  have HI := Lib.hid (Input_any A nums c w.heap.size 300 w hS (Nat.le_refl _) hwf hln (by omega))
  have M1 := Lib.hid (fun W => Mod_any job 100 W hjob.1 hjob.2 (by omega))
  have M2 := Lib.hid (fun W => Mod_any job 3 W hjob.1 hjob.2 (by omega))
  have M3 := Lib.hid (fun W => Mod_any more 100 W hmore.1 hmore.2 (by omega))
  have b1 := modI_lo (n := job) (m := 100) (by omega)
  have b2 := modI_lo (n := job) (m := 3) (by omega)
  have b3 := modI_lo (n := more) (m := 100) (by omega)
  generalize modI job 100 = m1 at *
  generalize modI job 3 = m2 at *
  generalize modI more 100 = m3 at *
  clear hS hwf hln hjob hmore
  unfold StrOut at HI
  obtain ⟨sy, hsy⟩ : ∃ sy, (m2 == 0) = sy := ⟨_, rfl⟩
  obtain ⟨jb, hjb⟩ : ∃ jb, 16 + m1 = jb := ⟨_, rfl⟩
  have hj1 : 16 ≤ jb := by omega
  have hj2 : jb ≤ 115 := by omega
  have HSY := Lib.hid hsy
  have HJB := Lib.hid hjb
  clear hsy hjb
  go_enter Try.func7, Try.ntmps7
  go_wp2_with fail
  refine HI.out.mono ?_
  rintro e w1 ⟨s, rfl, hs3, hB1⟩
  clear HI
  go_wp2_with fail
  refine (params43_any _).mono ?_
  rintro e w2 ⟨rfl, hB2⟩
  unfold parV
  have hBa := below_then hB1 hB2
  clear hB1 hB2
  go_wp2_with fail
  refine (M1.out _).mono ?_
  rintro e w3 ⟨rfl, rfl⟩
  go_wp2_with fail
  refine (M2.out _).mono ?_
  rintro e w3 ⟨rfl, rfl⟩
  rw [HJB.out]
  go_wp2_with fail
  rw [HSY.out]
  clear b1 b2
  have hj : 16 ≤ jb ∧ jb ≤ 2097152 := by omega
  have hpb := jobp_ok hj
  have hz : ∀ u : ByteArray, u.size ≤ 400 → askE 1 10 jb 0 u = 0 := fun u hu => ask_ok hpb (by omega)
  have HE := Lib.hid (fun W => Ends35_cap jb sy s W hj (by omega))
  have JA := jobs_all sy hj (s := s) (by omega)
  have hzs := hz s (by omega)
  obtain ⟨e1, e2, e3⟩ := whole_ok sy hzs
  have hbd := whole_bd sy hzs
  have HW := Lib.hid (fun W => Whole_any 1 10 jb 0 sy false s W (by omega))
  rw [e3, e1, hzs] at HW
  have hbl : ¬ blksBad 1 10 jb 0 (lensE jb sy s (List.range (jobsN jb sy s))) := by
    unfold blksBad
    rw [lens_ok jb sy s (by omega), lensE_len]
    have := (jobs_facts jb sy s).2.2.2
    simp only [Bool.true_eq_false, or_false]
    intro h
    rcases h with h | h
    · exact hpb h
    · omega
  obtain ⟨bk1, bk2⟩ := blks_ok hbl
  have HBK : Hid (∀ (A : Option Addr) (c B : Nat) (W : World), SliceAt .i64 W B A (lensE jb sy s (List.range (jobsN jb sy s))) → B ≤ W.heap.size → Calls Try.prog 17 #[.agg #[.int .i64 1, .int .i64 10, .int .i64 jb, .int .i64 0, .bool sy, .bool false], .slice A (jobsN jb sy s) c] W fun e w' => e = .returned (.tuple #[.int .i64 (wholeB 1 10 jb 0 sy s), .int .i64 0]) ∧ Below W.heap.size W w') := fun A c B W hS hB => by
    have := Blocks_any 1 10 jb 0 sy false A (lensE jb sy s (List.range (jobsN jb sy s))) c B W hS hB (by rw [lensE_len]; have := (jobs_facts jb sy s).2.2.2; omega)
    rw [bk1, bk2, ← e2, lensE_len] at this
    exact this
  have hou : ¬ outBad (s.size : Int) (wholeB 1 10 jb 0 sy s) := by unfold outBad; omega
  obtain ⟨o1, o2⟩ := out_ok hou
  have HOU := Lib.hid (fun W => Output_any (s.size : Int) (wholeB 1 10 jb 0 sy s) W (by omega) (by omega))
  rw [o1, o2] at HOU
  have hq1 : atK jb sy s 1 ≤ s.size := atK_le jb sy s 1
  have hus : (s.extract 0 (atK jb sy s 1)).size ≤ 400 := by rw [ByteArray.size_extract]; omega
  have HU : Hid (∀ W, Calls Try.prog 28 #[.agg #[.int .i64 1, .int .i64 10, .int .i64 jb, .int .i64 0, .bool sy, .bool false], .string (s.extract 0 (atK jb sy s 1))] W fun e w' => ∃ x y : Int, e = .returned (.tuple #[.int .i64 1, .int .i64 x, .int .i64 y, .int .i64 0]) ∧ Below W.heap.size W w') := fun W => by
    have h := Whole_any 1 10 jb 0 sy false (s.extract 0 (atK jb sy s 1)) W (by omega)
    have ha := hz (s.extract 0 (atK jb sy s 1)) hus
    rw [(whole_ok sy ha).1, first_alone, ha] at h
    exact h.mono fun e w' h => ⟨_, _, h⟩
  have HQ : Hid (sy = false → ∀ W, Calls Try.prog 28 #[.agg #[.int .i64 1, .int .i64 10, .int .i64 (jb + m3), .int .i64 0, .bool sy, .bool false], .string s] W fun e w' => ∃ J x y : Int, J ≤ (jobsN jb sy s : Int) ∧ e = .returned (.tuple #[.int .i64 J, .int .i64 x, .int .i64 y, .int .i64 0]) ∧ Below W.heap.size W w') := fun h0 W => by
    subst h0
    have hj' : 16 ≤ jb + m3 ∧ jb + m3 ≤ 2097152 := by omega
    have h := Whole_any 1 10 (jb + m3) 0 false false s W (by omega)
    have ha : askE 1 10 (jb + m3) 0 s = 0 := ask_ok (jobp_ok hj') (by omega)
    rw [(whole_ok false ha).1, ha] at h
    exact h.mono fun e w' h => ⟨_, _, _, by have := jobs_less s hj hj' (by omega); omega, h⟩
  have LS0 : Hid (lensE jb sy s (List.range 0) = []) := rfl
  have LSS := Lib.hid (lensE_succ jb sy s)
  have LSL := Lib.hid (lensE_len jb sy s)
  have hN : (endsL jb sy s 0).length = jobsN jb sy s := rfl
  rw [← hN] at HW HBK HQ
  clear hpb hz hzs e1 e2 e3 hbl bk1 bk2 hou o1 o2 hN
  have J1 := JA.one
  have J2 := JA.few
  have J3 := Lib.hid JA.zero
  have J4 := Lib.hid JA.get
  have J5 := Lib.hid JA.le
  have J7 := Lib.hid JA.empty
  have J8 := Lib.hid JA.up
  clear JA
  generalize endsL jb sy s 0 = xs at *
  generalize atK jb sy s = a at *
  generalize wholeB 1 10 jb 0 sy s = B at *
  unfold EndsCap at HE
  have HPB : Hid (∀ V, Below (w2.alloc (.cells #[.int .i64 1, .int .i64 10, .int .i64 jb, .int .i64 0, .bool sy, .bool false] 24)).heap.size (w2.alloc (.cells #[.int .i64 1, .int .i64 10, .int .i64 jb, .int .i64 0, .bool sy, .bool false] 24)) V → ParBox V w2.heap.size 1 10 jb 0 sy false) := fun V hV => (ParBox.new w2 1 10 jb 0 sy false 24).keep hV (by simp)
  have hB0 := Below.refl (w2.alloc (.cells #[.int .i64 1, .int .i64 10, .int .i64 jb, .int .i64 0, .bool sy, .bool false] 24)).heap.size (w2.alloc (.cells #[.int .i64 1, .int .i64 10, .int .i64 jb, .int .i64 0, .bool sy, .bool false] 24))
  have hBw := below_alloc hBa (.cells #[.int .i64 1, .int .i64 10, .int .i64 jb, .int .i64 0, .bool sy, .bool false] 24)
  clear hBa
  obtain ⟨q0, q1, q2, q3, q4, q5⟩ := HPB.out _ hB0
  go_wp2_with fail
  generalize hW0 : w2.alloc (.cells #[.int .i64 1, .int .i64 10, .int .i64 jb, .int .i64 0, .bool sy, .bool false] 24) = W0 at *
  clear hW0
  refine (HE.out _).mono ?_
  rintro e w3 ⟨A1, c1, rfl, hc1, hS1, hB3⟩
  have bB3 := below_then hB0 hB3
  clear q0 q1 q2 q3 q4 q5
  obtain ⟨q0, q1, q2, q3, q4, q5⟩ := HPB.out w3 bB3
  go_wp2_with fail
  refine (HW.out _).mono ?_
  rintro e w4 ⟨rfl, hB4⟩
  have bB4 := below_then bB3 hB4
  obtain ⟨b1, o1, x1, rfl, hx1, hcx1⟩ := (hS1.below hB4).get (i := 0) (by omega)
  have HC : Hid (∀ V, Below w4.heap.size w4 V → ∀ i, i < xs.length → V.cell? ⟨b1, o1 + i, none⟩ = some (.int .i64 (a (i + 1) : Int))) := fun V hV i hi =>
    ((hS1.below hB4).more hB4.size).cell_all (J4.out i hi) V hV
  clear hS1 hx1 hcx1 q0 q1 q2 q3 q4 q5
  have g3 : ((xs.length : Int) == 0) = false := by rw [beq_eq_false_iff_ne]; omega
  have h4r := Below.refl w4.heap.size w4
  obtain ⟨i0, hi, hz0, hz1, hz2⟩ := info_parts Try.infoInt
  go_wp2_with fail
  go_hide hQ
  go_loopw [15, 16, 17] (fun lv fv iv wr => ∃ i : Nat, i ≤ xs.length ∧ iv = .int .i64 i ∧ fv = .int .i64 (a i : Int) ∧ wr.ownsRow w4.heap.size 3 1 lv i ((lensE jb sy s (List.range i)).map (Value.int .i64)) ∧ Below w4.heap.size w4 wr) (fun _ _ iv _ => xs.length - (intOf iv).toNat)
  case atStart => exact ⟨0, Nat.zero_le _, rfl, by rw [J3.out]; rfl, by rw [LS0.out]; exact World.ownsRow_nil _ _ _ _, h4r⟩
  case round =>
    obtain ⟨i, hi1, rfl, rfl, hown, hBr⟩ := hrel
    obtain ⟨D, cd, rfl⟩ := owns_slice hown
    by_cases hlt : i < xs.length
    · have hup : a i ≤ a (i + 1) := by
        by_cases h0 : s.size = 0
        · have h1 := J5.out i
          have h2 := J5.out (i + 1)
          omega
        · exact Nat.le_of_lt (J8.out h0 i hlt)
      have hqs := J5.out (i + 1)
      have LSi := Lib.hid (LSS.out i)
      have HCQ : Hid (∀ V, Below w4.heap.size w4 V → V.cell? ⟨b1, o1 + i, none⟩ = some (.int .i64 (a (i + 1) : Int))) := fun V hV => HC.out V hV i hlt
      generalize hq : a (i + 1) = q at *
      generalize hp : a i = p at *
      have HQQ := Lib.hid hq
      clear hq hp
      have hcq := HCQ.out wr hBr
      have hBrs := hBr.size
      have g0 : (i : Int) < (xs.length : Int) := by omega
      have g1 : (0 : Int) ≤ (i : Int) := by omega
      have g2 : ¬ (q : Int) < (p : Int) := by omega
      have g4 : ¬ (s.size : Int) < (q : Int) := by omega
      have hwr : IntKind.i64.wrap ((q : Int) - (p : Int)) = (q : Int) - (p : Int) := by rw [IntKind.wrap_i64]; omega
      generalize hL : lensE jb sy s (List.range i) = Ls at *
      have HL := Lib.hid hL
      clear hL
      go_wp2_with fail
      go_region_held3 (fun w' => w'.cell? ⟨b1, o1 + i, none⟩ = some (.int .i64 (q : Int))) (first | go_keep | exact HCQ.out _ (by assumption)) (first | (refine step_append_sl _ (by rfl) _ _ _ (by rfl) w4.heap.size 3 i0 (.int .i64 0) 8 Try.underlying22 hi hz0 hz1 hz2 rfl _ i (Ls.map (Value.int .i64)) (by rfl) ((hown.alloc _).drew) (k := .i64) (B := wr.heap.size + 1) (xs := [(q : Int) - (p : Int)]) 1 (by rfl) ((slice_new1 wr .i64 3 ((q : Int) - (p : Int))).keep (fun _ _ => rfl)) (by simp only [maxLen, List.length_singleton]; omega) (by simp only [List.length_singleton]; omega) (by simp; omega) ?_; intro v' w6 hown' hgrow hblk; have hB6 : Below w4.heap.size w4 w6 := (below_drew (hBr.alloc hBr.size _)).grown hgrow (by simp; omega) (fun z hz => (hown.lt z hz).1)))
      obtain ⟨D', cd', rfl⟩ := owns_slice hown'
      clear hown hgrow hblk
      go_wp2_with fail
      go_roundw
      case rel => exact ⟨i + 1, by omega, by go_num, by rw [HQQ.out], by rw [LSi.out, List.map_append]; simpa using hown', hB6⟩
      case measure => simp [intOf] <;> omega
    · have hiN : i = xs.length := by omega
      have g0 : ¬ (i : Int) < (xs.length : Int) := by omega
      go_wp2_with fail
      subst hQ
      subst hiN
      have bBr := below_then bB4 hBr
      obtain ⟨q0, q1, q2, q3, q4, q5⟩ := HPB.out wr bBr
      have hLl := LSL.out xs.length
      generalize hL : lensE jb sy s (List.range xs.length) = Ls at *
      clear hL
      rw [← hLl] at hown
      have hS5 := SliceAt.of_own hown
      rw [hLl] at hown
      have HLl := Lib.hid hLl
      have hcd := own_cap hown
      clear hown hLl hi1 g0
      go_wp2_with fail
      refine (HBK.out D cd wr.heap.size wr hS5 (Nat.le_refl _)).mono ?_
      rintro e w5 ⟨rfl, hB5⟩
      have bB5 := below_then bBr hB5
      clear q0 q1 q2 q3 q4 q5 hS5
      go_wp2_with fail
      refine (HOU.out _).mono ?_
      rintro e w6 ⟨rfl, hB6⟩
      have bB6 := below_then bB5 hB6
      have r46 : Below w4.heap.size w4 w6 := hBr.trans ((below_then hB5 hB6).mono hBr.size)
      obtain ⟨q0, q1, q2, q3, q4, q5⟩ := HPB.out w6 bB6
      have HC0 : Hid (∀ V, Below w4.heap.size w4 V → V.cell? ⟨b1, o1, none⟩ = some (.int .i64 (a 1 : Int))) := fun V hV => by
        have := HC.out V hV 0 (by omega)
        rw [show o1 + 0 = o1 by omega] at this
        exact this
      have hc0 := HC0.out w6 r46
      generalize a 1 = p1 at *
      have k1 : (0 : Int) ≤ (p1 : Int) := by omega
      have k2 : (p1 : Int) ≤ (s.size : Int) := by omega
      have k5 : (0 : Int) < (xs.length : Int) := by omega
      have k6 : 0 < xs.length := by omega
      have k7 : xs ≠ [] := by intro hh; rw [hh] at k6; simp at k6
      have h6r := Below.refl w6.heap.size w6
      go_wp2_with fail
      go_cut [20, 21, 22, 23] (fun s20 s21 s22 s23 wx => ∃ x y : Int, s20 = .int .i64 1 ∧ s21 = .int .i64 x ∧ s22 = .int .i64 y ∧ s23 = .int .i64 0 ∧ Below w6.heap.size w6 wx)
      case first =>
        go_region_held3 (fun w' => w'.cell? ⟨w2.heap.size, 0, none⟩ = some (.int .i64 1) ∧ w'.cell? ⟨w2.heap.size, 1, none⟩ = some (.int .i64 10) ∧ w'.cell? ⟨w2.heap.size, 2, none⟩ = some (.int .i64 jb) ∧ w'.cell? ⟨w2.heap.size, 3, none⟩ = some (.int .i64 0) ∧ w'.cell? ⟨w2.heap.size, 4, none⟩ = some (.bool sy) ∧ w'.cell? ⟨w2.heap.size, 5, none⟩ = some (.bool false) ∧ w'.cell? ⟨b1, o1, none⟩ = some (.int .i64 (p1 : Int))) (first | go_keep | (refine ⟨?_, ?_, ?_, ?_, ?_, ?_, ?_⟩ <;> first | assumption | go_keep)) (first | (go_at_call 28; refine (HU.out _).mono ?_; rintro e8 w8 ⟨x8, y8, rfl, hB8⟩; have hB9 := below_then (by first | exact h6r | exact below_drew h6r) hB8; obtain ⟨d0, d1, d2, d3, d4, d5⟩ := HPB.out w8 (below_then bB6 hB9); have d6 := HC0.out w8 (r46.trans (hB9.mono r46.size))))
        all_goals (
          go_wp2_with fail
          go_meet
          exact ⟨_, _, rfl, rfl, rfl, rfl, hB9⟩)
      case rest =>
        obtain ⟨x8, y8, rfl, rfl, rfl, rfl, hB9⟩ := hcut
        generalize wc = w8 at *
        have bB8 := below_then bB6 hB9
        clear q0 q1 q2 q3 q4 q5 hc0 h6r hB9
        obtain ⟨q0, q1, q2, q3, q4, q5⟩ := HPB.out w8 bB8
        cases sy
        · have HQ2 := Lib.hid (HQ.out rfl)
          have hb := (Blk.new w8 #[.int .i64 1, .int .i64 10, .int .i64 jb, .int .i64 0, .bool false, .bool false] 24).drew
          have hst := hb.set 2 (.int .i64 (jb + m3))
          have f2 := hb.fz 2
          have p2 := hb.cell 2 rfl
          have z0 := hst.cell 0 rfl
          have z1 := hst.cell 1 rfl
          have z2 := hst.cell 2 rfl
          have z3 := hst.cell 3 rfl
          have z4 := hst.cell 4 rfl
          have z5 := hst.cell 5 rfl
          have hBd := (below_drew (below_new (w := w8) (.cells #[.int .i64 1, .int .i64 10, .int .i64 jb, .int .i64 0, .bool false, .bool false] 24))).setCell (p := ⟨w8.heap.size, 2, none⟩) (Nat.le_refl _) (.int .i64 (jb + m3))
          have q2d : (w8.alloc (.cells #[.int .i64 1, .int .i64 10, .int .i64 jb, .int .i64 0, .bool false, .bool false] 24)).drew.cell? ⟨w2.heap.size, 2, none⟩ = some (.int .i64 jb) := ((below_drew (below_new (w := w8) (.cells #[.int .i64 1, .int .i64 10, .int .i64 jb, .int .i64 0, .bool false, .bool false] 24))).cell (p := ⟨w2.heap.size, 2, none⟩) (cell_lt' q2)).trans q2
          clear hb hst
          go_wp2_with fail
          go_region_with (first | (go_at_call 15; refine (M3.out _).mono ?_; rintro e9 w9 ⟨rfl, rfl⟩))
          all_goals (
            go_wp2_with fail
            refine (HQ2.out _).mono ?_
            rintro e w10 ⟨J, x10, y10, hJ, rfl, hB10⟩
            go_wp2_with fail
            refine (awake43_any _).mono ?_
            rintro e w11 ⟨rfl, hB11⟩
            go_wp2
            go_ret
            exact ⟨rfl, below_then hBw (below_then bB8 (below_then (below_then (below_drew (below_new _)) hB10) hB11))⟩)
        · go_wp2_with fail
          refine (awake43_any _).mono ?_
          rintro e w9 ⟨rfl, hB9⟩
          go_wp2
          go_ret
          exact ⟨rfl, below_then hBw (below_then bB8 hB9)⟩

/-! The step from the walk to the statement: the shell's text. -/
set_option maxRecDepth 100000 in
theorem lifted (os : Os) (started : os.Started) (H : Type) (enc : TypeId × Value → H) :
    ReturnsInHanded {} Try.checked os 7 .any (Rows.boundJobsSpec.pre6 enc Try.prog Try.f7 Rows.boundJobsRow.domain false) (Rows.boundJobsSpec.post enc Try.prog Try.f7 false true false false) := by
  refine returnsInHanded_of_change (C := Try.checked) own started (by kernel_rfl) Try.func7
    (ChangeSpec.witness6 (enc := enc) (C := Try.checked) false ⟨#[], #[.slice none 0 0, .int .i64 0, .int .i64 0], []⟩ 8 (by kernel_rfl) (by kernel_rfl) (by kernel_rfl) (by kernel_rfl)) ?_
  intro W base args ds gs before hval0 hW hcnd _
  have hval : ∀ (j : Nat) t v, Try.f7.params[j]? = some t → args[j]? = some v → Value.okWide Try.prog W .any base t v := hval0
  have hW' := hW
  obtain ⟨p, q, hA0, hV, rfl, hfz, hnd⟩ := hW
  have hA : DataW.TrodAll enc Try.prog W 0 (fun _ => true) true Try.f7.params.toList args.toList ds p := hA0
  rw [Try.params7] at hA hval
  obtain ⟨v0, vs0, d0, ds0, p0, q0, hargs, rfl, rfl, h0, r0⟩ := trodAll_cons hA
  obtain ⟨v1, vs1, d1, ds1, p1, q1, rfl, rfl, rfl, h1, r1⟩ := trodAll_cons r0
  obtain ⟨v2, vs2, d2, ds2, p2, q2, rfl, rfl, rfl, h2, r2⟩ := trodAll_cons r1
  obtain ⟨rfl, rfl, rfl⟩ := trodAll_nil r2
  obtain rfl : args = #[v0, v1, v2] := by cases args; simp_all
  obtain ⟨rfl, rfl⟩ := trodVars_none hV
  obtain ⟨a0, len0, cap0, rfl⟩ := okWide_slice Try.underlying22 (hval 0 22 v0 rfl rfl)
  have k0 := h0
  have lt0 : ∀ x ∈ p0, x.block < W.heap.size := by obtain ⟨m, hm⟩ := k0; exact DataW.trod_lt m _ _ _ hm
  obtain ⟨z0, rfl, w0, b0, l0⟩ := open_sl Try.underlying22 Try.underlying3 (by kernel_rfl) h0
  obtain ⟨a1, rfl, rfl, rfl, w1⟩ := open_int Try.underlying3 (hval 1 3 v1 rfl rfl) h1
  obtain ⟨a2, rfl, rfl, rfl, w2⟩ := open_int Try.underlying3 (hval 2 3 v2 rfl rfl) h2
  clear hA0 hval0
  refine (walk a0 z0 cap0 a1 a2 W w0 b0 l0 (bounds_i64 w1) (bounds_i64 w2)).mono fun e W' ⟨he, bel⟩ => ?_
  subst he
  exact ⟨_, rfl, _, _, _, [], _, [], hW', trodAll_mk1 (shut_bool Try.underlying4 _), (trodAll_cons_mk (Below.trod laidOut (by kernel_rfl) (of_decide_eq_true (by kernel_rfl)) k0 bel lt0) (trodAll_cons_mk (shut_int Try.underlying3 w1) (trodAll_cons_mk (shut_int Try.underlying3 w2) trodAll_mk0))), rfl, bel.frame _, fun h => by cases h⟩

theorem over : Rows.boundJobsRow.holds Try.pinned (OpenSpec.ofChange Rows.boundJobsSpec) :=
  OpenClaim.holds_of_wide 7 Try.f7 rfl rfl rfl rfl rfl rfl rfl ⟨rfl, rfl, rfl, rfl, rfl⟩ rfl rfl rfl rfl rfl (by kernel_rfl) Try.func7 (by kernel_rfl)
    (of_decide_eq_true (by kernel_rfl)) (by unfold Func.isWrapper; first | (rw [if_pos (by decide +kernel)]; kernel_rfl) | (rw [if_neg (by decide +kernel)]; exact ⟨rfl, rfl⟩))
    (fun os started H enc _ => lifted os started H enc)

/-- The statement. -/
theorem proved : Rows.BoundJobsSaid := over
#print axioms proved
end Go.Proofs.Ytfdbkpbgkpkckaa.boundJobs
