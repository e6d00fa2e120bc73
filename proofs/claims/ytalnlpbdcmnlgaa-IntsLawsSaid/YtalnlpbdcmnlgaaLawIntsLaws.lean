/- The statement cheesepresslaw01.IntsLaws holds: for every input the law returns true, and the arguments read as before. -/
import Derived.Test.YtalnlpbdcmnlgaaShell
import Derived.Test.YtalnlpbdcmnlgaaKit
import Derived.Test.YtalnlpbdcmnlgaaIntsKnown
import Derived.Test.YtalnlpbdcmnlgaaIntsPlain
namespace Go.Proofs.Ytalnlpbdcmnlgaa.intsLaws
open Go.ChangeShapes Go.WideShapes Go.ChangeAt Go.RowKit
open Go.ChangeMaps (open_string shut_string)
set_option linter.unusedVariables false

set_option maxRecDepth 100000 in
set_option maxHeartbeats 6400000 in
theorem walk (x y z : Int) (A : Option Addr) (xs : List Int) (c : Nat) (A' : Option Addr) (ys : List Int) (c' : Nat) (w : World)
    (hx : -9223372036854775808 ≤ x ∧ x ≤ 9223372036854775807) (hy : -9223372036854775808 ≤ y ∧ y ≤ 9223372036854775807) (hz : -9223372036854775808 ≤ z ∧ z ≤ 9223372036854775807)
    (h : SliceAt .i64 w w.heap.size A xs) (hb : ∀ x ∈ xs, (Lit.int .i64 x).wf = true) (hl : xs.length ≤ 9223372036854775807)
    (h' : SliceAt .i64 w w.heap.size A' ys) (hb' : ∀ x ∈ ys, (Lit.int .i64 x).wf = true) (hl' : ys.length ≤ 9223372036854775807) :
    Calls Try.prog 9 #[.int .i64 x, .int .i64 y, .int .i64 z, .slice A xs.length c, .slice A' ys.length c'] w fun e w' => e = .returned (.bool true) ∧ Below w.heap.size w w' := by
  obtain ⟨i0, hi, hz0, hz1, hz2⟩ := info_parts Try.infoInt
  have HB := Lib.hid hb
  have HB' := Lib.hid hb'
  have hX := modI_lo (n := x) (m := 1048576) (by omega)
  have hY := modI_lo (n := y) (m := 524288) (by omega)
  have hZ := modI_lo (n := z) (m := 524288) (by omega)
  have HT := Lib.hid (times_small _ _ _ hX hY hZ)
  have mx := Mod_any x 1048576
  have my := Mod_any y 524288
  have mz := Mod_any z 524288
  generalize modI x 1048576 = X at *
  generalize modI y 524288 = Y at *
  generalize modI z 524288 = Z at *
  have MX := Lib.hid mx
  have MY := Lib.hid my
  have MZ := Lib.hid mz
  clear hb hb' mx my mz
  go_enter Try.func9, Try.ntmps9
  go_wp2_with fail
  refine (known_any _).mono ?_
  rintro e w1 ⟨rfl, hW1⟩
  go_wp2_with fail
  refine (MX.out _ hx.1 hx.2 (by omega)).mono ?_
  rintro e w2 ⟨rfl, rfl⟩
  go_wp2_with fail
  refine (MY.out _ hy.1 hy.2 (by omega)).mono ?_
  rintro e w2 ⟨rfl, rfl⟩
  go_wp2_with fail
  refine (MZ.out _ hz.1 hz.2 (by omega)).mono ?_
  rintro e w2 ⟨rfl, rfl⟩
  go_wp2_with fail
  refine (Plus_any Y Z _).mono ?_
  rintro e w2 ⟨rfl, hW2⟩
  rw [HT.out.2.2.2.2.1.1, HT.out.2.2.2.2.1.2]
  go_wp2_with fail
  refine (Times_any X (Y + Z) _ (by omega) (by omega)).mono ?_
  rintro e w3 ⟨rfl, rfl⟩
  rw [HT.out.1.1, HT.out.1.2]
  go_wp2_with fail
  refine (Times_any X Y _ (by omega) (by omega)).mono ?_
  rintro e w3 ⟨rfl, rfl⟩
  rw [HT.out.2.1.1, HT.out.2.1.2]
  go_wp2_with fail
  refine (Times_any Z X _ (by omega) (by omega)).mono ?_
  rintro e w3 ⟨rfl, rfl⟩
  rw [HT.out.2.2.1.1, HT.out.2.2.1.2]
  go_wp2_with fail
  refine (Plus_any (Z * X) (X * Y) _).mono ?_
  rintro e w3 ⟨rfl, hW3⟩
  rw [HT.out.2.2.2.1.1, HT.out.2.2.2.1.2]
  have hB3 : Below w.heap.size w w3 := below_then (below_then hW1 hW2) hW3
  clear hW1 hW2 hW3 MX MY MZ
  generalize X * (Y + Z) = XYZ at *
  go_wp2_with fail
  have hz_w3 : w.heap.size ≤ w3.heap.size := hB3.size
  have h1 : SliceAt .i64 w3 w.heap.size A xs := h.below hB3
  clear h HT
  go_loopw [22, 24] (fun v i wr => ∃ j : Nat, j ≤ xs.length ∧ j ≤ 10 ∧ i = .int .i64 j ∧ wr.ownsRow w3.heap.size 3 1 v j ((mods xs j).map (Value.int .i64)) ∧ Below w3.heap.size w3 wr) (fun _ i _ => 10 - (intOf i).toNat)
  case atStart => exact ⟨0, Nat.zero_le _, Nat.zero_le _, rfl, World.ownsRow_nil _ _ _ _, Below.refl _ _⟩
  case round =>
    obtain ⟨j, hj, hj10, rfl, hown, hWr⟩ := hrel
    by_cases hc : j < xs.length ∧ j < 10
    · obtain ⟨hc1, hc2⟩ := hc
      obtain ⟨b, off, q, rfl, hq, hcell⟩ := (h1.below (hWr.mono hz_w3)).get hc1
      have hqw := bounds_i64 (HB.out q (mem_of_get hq))
      have HS := Lib.hid (mods_succ xs j q hq)
      have hBs := hWr.size
      clear hq
      go_wp2_with fail
      refine (Mod_any q 1048576 _ hqw.1 hqw.2 (by omega)).mono ?_
      rintro e wq ⟨rfl, rfl⟩
      go_wp2_with (at_builtin; refine wpList_append_own _ rfl _ _ 32 rfl w3.heap.size 3 i0 (.int .i64 0) 1 8 Try.underlying32 hi hz0 hz1 hz2 rfl (by decide) _ _ _ rfl (hown.alloc _) ⟨wr.heap.size, 0, none⟩ 1 1 [.int .i64 (modI q 1048576)] rfl rfl (cell_one_new _ _ _) (by simp [Value.oneCell']) (by simp only [maxLen]; omega) (by omega) (by simp; omega) ?_; intro v' wa hown' hgrow _)
      have hWa : Below w3.heap.size w3 wa := (hWr.alloc hWr.size _).grown hgrow (by simp; omega) (fun x hx => (hown.lt x hx).1)
      clear hWr hown hgrow
      go_wp2_with fail
      go_roundw
      case rel => exact ⟨j + 1, by omega, by omega, by go_num, by rw [HS.out]; simpa using hown', hWa⟩
      case measure => simp [intOf]; omega
    · by_cases hA : j < xs.length
      · go_wp2_with fail
        obtain ⟨A1, c1, rfl⟩ := owns_slice hown
        have hm1 := mods_length xs j hj
        have HP1 := Lib.hid (mods_small xs j)
        generalize mods xs j = P at *
        obtain rfl : j = P.length := hm1.symm
        have sP : SliceAt .i64 wr wr.heap.size A1 P := SliceAt.of_own hown
        obtain ⟨W1, rfl⟩ : ∃ W1 : World, W1 = wr := ⟨_, rfl⟩
        have hW1 := hWr
        have hz_W1 : w.heap.size ≤ W1.heap.size := Nat.le_trans hB3.size hWr.size
        have h2 : SliceAt .i64 W1 w.heap.size A' ys := h'.below (hB3.trans (hWr.mono hB3.size))
        clear hown hc hWr
        go_loopw [23, 25] (fun v i wr => ∃ j : Nat, j ≤ ys.length ∧ j ≤ 10 ∧ i = .int .i64 j ∧ wr.ownsRow W1.heap.size 3 1 v j ((mods ys j).map (Value.int .i64)) ∧ Below W1.heap.size W1 wr) (fun _ i _ => 10 - (intOf i).toNat)
        case atStart => exact ⟨0, Nat.zero_le _, Nat.zero_le _, rfl, World.ownsRow_nil _ _ _ _, Below.refl _ _⟩
        case round =>
          obtain ⟨j, hj, hj10, rfl, hown, hWr⟩ := hrel
          by_cases hc : j < ys.length ∧ j < 10
          · obtain ⟨hc1, hc2⟩ := hc
            obtain ⟨b, off, q, rfl, hq, hcell⟩ := (h2.below (hWr.mono hz_W1)).get hc1
            have hqw := bounds_i64 (HB'.out q (mem_of_get hq))
            have HS := Lib.hid (mods_succ ys j q hq)
            have hBs := hWr.size
            clear hq
            go_wp2_with fail
            refine (Mod_any q 1048576 _ hqw.1 hqw.2 (by omega)).mono ?_
            rintro e wq ⟨rfl, rfl⟩
            go_wp2_with (at_builtin; refine wpList_append_own _ rfl _ _ 32 rfl W1.heap.size 3 i0 (.int .i64 0) 1 8 Try.underlying32 hi hz0 hz1 hz2 rfl (by decide) _ _ _ rfl (hown.alloc _) ⟨wr.heap.size, 0, none⟩ 1 1 [.int .i64 (modI q 1048576)] rfl rfl (cell_one_new _ _ _) (by simp [Value.oneCell']) (by simp only [maxLen]; omega) (by omega) (by simp; omega) ?_; intro v' wa hown' hgrow _)
            have hWa : Below W1.heap.size W1 wa := (hWr.alloc hWr.size _).grown hgrow (by simp; omega) (fun x hx => (hown.lt x hx).1)
            clear hWr hown hgrow
            go_wp2_with fail
            go_roundw
            case rel => exact ⟨j + 1, by omega, by omega, by go_num, by rw [HS.out]; simpa using hown', hWa⟩
            case measure => simp [intOf]; omega
          · by_cases hA : j < ys.length
            · go_wp2_with fail
              obtain ⟨A2, c2, rfl⟩ := owns_slice hown
              have hm2 := mods_length ys j hj
              have HP2 := Lib.hid (mods_small ys j)
              generalize mods ys j = Q at *
              obtain rfl : j = Q.length := hm2.symm
              have sQ : SliceAt .i64 wr wr.heap.size A2 Q := SliceAt.of_own hown
              have sP' : SliceAt .i64 wr W1.heap.size A1 P := sP.below hWr
              have SP := Lib.hid (sum_small P HP1.out (by omega))
              have SQ := Lib.hid (sum_small Q HP2.out (by omega))
              have bP := sum_small_lo P HP1.out
              have bQ := sum_small_lo Q HP2.out
              have SPQ : Hid (sumV (P ++ Q) = P.sum + Q.sum ∧ sumE (P ++ Q) = 0) := by
                have := sum_small (P ++ Q) (fun x hx => (List.mem_append.1 hx).elim (HP1.out x) (HP2.out x)) (by simp; omega)
                rw [List.sum_append] at this
                exact this
              have SUT : Hid (sumV [Q.sum, P.sum] = P.sum + Q.sum ∧ sumE [Q.sum, P.sum] = 0) := by
                have := plus_ok (x := Q.sum) (y := P.sum) (by omega)
                rw [Int.add_comm] at this
                exact this
              generalize P.sum = T at *
              generalize Q.sum = U at *
              generalize T + U = TU at *
              refine (Sum_any A1 P c1 W1.heap.size _ sP' (by omega)).mono ?_
              rintro e wq ⟨rfl, rfl⟩
              rw [SP.out.1, SP.out.2]
              go_wp2_with fail
              refine (Sum_any A2 Q c2 wr.heap.size _ sQ (by omega)).mono ?_
              rintro e wq ⟨rfl, rfl⟩
              rw [SQ.out.1, SQ.out.2]
              have hWs := hWr.size
              have hbs : ∀ W, (Instr.buildSlice 32 0 #[]).run Try.prog W = .ok (.slice (some ⟨W.heap.size, 0, none⟩) 0 0) (W.alloc (.cells #[] 3)) := fun _ => by kernel_rfl
              have hown0 := World.ownsRow_made (e := 3) (size := 1) (base := wr.heap.size) wr #[] 0 (Nat.le_refl _) (by simp [maxLen]) (by simp)
              go_wp2_with (first
                | (at_builtin
                   refine wpList_append_sl _ rfl (.tmp 141) (.tmp 142) 32 rfl wr.heap.size 3 i0 (.int .i64 0) 8 Try.underlying32 hi hz0 hz1 hz2 rfl (.slice (some ⟨wr.heap.size, 0, none⟩) 0 0) 0 [] rfl hown0 (k := .i64) (B := W1.heap.size) c1 rfl (sP'.keep fun p hp => World.cell?_alloc_lt _ _ _ (by omega)) (by simp only [maxLen]; omega) (by omega) (by simp) ?_
                   intro v1 wa hownA hgrowA hatA
                   have hWA : Below wr.heap.size wr wa := ((Below.refl _ _).alloc (Nat.le_refl _) _).grown hgrowA (by simp) (fun x hx => (hown0.lt x hx).1)
                   have hWAs := hWA.size)
                | (at_builtin
                   refine wpList_append_sl _ rfl (.tmp 143) (.tmp 144) 32 rfl wr.heap.size 3 i0 (.int .i64 0) 8 Try.underlying32 hi hz0 hz1 hz2 rfl v1 _ _ rfl hownA (k := .i64) (B := wr.heap.size) c2 rfl (sQ.below hWA) (by simp only [maxLen]; omega) (by omega) (by omega) ?_
                   intro v2 wb hownB hgrowB hatB
                   have hWB : Below wr.heap.size wr wb := hWA.grown hgrowB hWAs (fun x hx => (hownA.lt x hx).1)))
              obtain ⟨A3, c3, rfl⟩ := owns_slice hownB
              have hl3 : 0 + P.length + Q.length = (P ++ Q).length := by simp
              rw [List.nil_append, ← List.map_append, hl3] at hownB
              rw [hl3]
              have sPQ : SliceAt .i64 wb wb.heap.size A3 (P ++ Q) := SliceAt.of_own hownB
              have hl4 : (P ++ Q).length ≤ 1000 := by simp; omega
              generalize P ++ Q = PQ at *
              go_wp2_with fail
              refine (Sum_any A3 PQ c3 wb.heap.size _ sPQ (by omega)).mono ?_
              rintro e wq ⟨rfl, rfl⟩
              rw [SPQ.out.1, SPQ.out.2]
              go_wp2_with fail
              refine (Plus_any U T _).mono ?_
              rintro e wc ⟨rfl, hWc⟩
              rw [SUT.out.1, SUT.out.2]
              go_wp2_with fail
              go_ret
              exact ⟨rfl, below_then (below_then (below_then (below_then hB3 hW1) hWr) hWB) hWc⟩
            · go_wp2_with fail
              obtain ⟨A2, c2, rfl⟩ := owns_slice hown
              have hm2 := mods_length ys j hj
              have HP2 := Lib.hid (mods_small ys j)
              generalize mods ys j = Q at *
              obtain rfl : j = Q.length := hm2.symm
              have sQ : SliceAt .i64 wr wr.heap.size A2 Q := SliceAt.of_own hown
              have sP' : SliceAt .i64 wr W1.heap.size A1 P := sP.below hWr
              have SP := Lib.hid (sum_small P HP1.out (by omega))
              have SQ := Lib.hid (sum_small Q HP2.out (by omega))
              have bP := sum_small_lo P HP1.out
              have bQ := sum_small_lo Q HP2.out
              have SPQ : Hid (sumV (P ++ Q) = P.sum + Q.sum ∧ sumE (P ++ Q) = 0) := by
                have := sum_small (P ++ Q) (fun x hx => (List.mem_append.1 hx).elim (HP1.out x) (HP2.out x)) (by simp; omega)
                rw [List.sum_append] at this
                exact this
              have SUT : Hid (sumV [Q.sum, P.sum] = P.sum + Q.sum ∧ sumE [Q.sum, P.sum] = 0) := by
                have := plus_ok (x := Q.sum) (y := P.sum) (by omega)
                rw [Int.add_comm] at this
                exact this
              generalize P.sum = T at *
              generalize Q.sum = U at *
              generalize T + U = TU at *
              refine (Sum_any A1 P c1 W1.heap.size _ sP' (by omega)).mono ?_
              rintro e wq ⟨rfl, rfl⟩
              rw [SP.out.1, SP.out.2]
              go_wp2_with fail
              refine (Sum_any A2 Q c2 wr.heap.size _ sQ (by omega)).mono ?_
              rintro e wq ⟨rfl, rfl⟩
              rw [SQ.out.1, SQ.out.2]
              have hWs := hWr.size
              have hbs : ∀ W, (Instr.buildSlice 32 0 #[]).run Try.prog W = .ok (.slice (some ⟨W.heap.size, 0, none⟩) 0 0) (W.alloc (.cells #[] 3)) := fun _ => by kernel_rfl
              have hown0 := World.ownsRow_made (e := 3) (size := 1) (base := wr.heap.size) wr #[] 0 (Nat.le_refl _) (by simp [maxLen]) (by simp)
              go_wp2_with (first
                | (at_builtin
                   refine wpList_append_sl _ rfl (.tmp 141) (.tmp 142) 32 rfl wr.heap.size 3 i0 (.int .i64 0) 8 Try.underlying32 hi hz0 hz1 hz2 rfl (.slice (some ⟨wr.heap.size, 0, none⟩) 0 0) 0 [] rfl hown0 (k := .i64) (B := W1.heap.size) c1 rfl (sP'.keep fun p hp => World.cell?_alloc_lt _ _ _ (by omega)) (by simp only [maxLen]; omega) (by omega) (by simp) ?_
                   intro v1 wa hownA hgrowA hatA
                   have hWA : Below wr.heap.size wr wa := ((Below.refl _ _).alloc (Nat.le_refl _) _).grown hgrowA (by simp) (fun x hx => (hown0.lt x hx).1)
                   have hWAs := hWA.size)
                | (at_builtin
                   refine wpList_append_sl _ rfl (.tmp 143) (.tmp 144) 32 rfl wr.heap.size 3 i0 (.int .i64 0) 8 Try.underlying32 hi hz0 hz1 hz2 rfl v1 _ _ rfl hownA (k := .i64) (B := wr.heap.size) c2 rfl (sQ.below hWA) (by simp only [maxLen]; omega) (by omega) (by omega) ?_
                   intro v2 wb hownB hgrowB hatB
                   have hWB : Below wr.heap.size wr wb := hWA.grown hgrowB hWAs (fun x hx => (hownA.lt x hx).1)))
              obtain ⟨A3, c3, rfl⟩ := owns_slice hownB
              have hl3 : 0 + P.length + Q.length = (P ++ Q).length := by simp
              rw [List.nil_append, ← List.map_append, hl3] at hownB
              rw [hl3]
              have sPQ : SliceAt .i64 wb wb.heap.size A3 (P ++ Q) := SliceAt.of_own hownB
              have hl4 : (P ++ Q).length ≤ 1000 := by simp; omega
              generalize P ++ Q = PQ at *
              go_wp2_with fail
              refine (Sum_any A3 PQ c3 wb.heap.size _ sPQ (by omega)).mono ?_
              rintro e wq ⟨rfl, rfl⟩
              rw [SPQ.out.1, SPQ.out.2]
              go_wp2_with fail
              refine (Plus_any U T _).mono ?_
              rintro e wc ⟨rfl, hWc⟩
              rw [SUT.out.1, SUT.out.2]
              go_wp2_with fail
              go_ret
              exact ⟨rfl, below_then (below_then (below_then (below_then hB3 hW1) hWr) hWB) hWc⟩
      · go_wp2_with fail
        obtain ⟨A1, c1, rfl⟩ := owns_slice hown
        have hm1 := mods_length xs j hj
        have HP1 := Lib.hid (mods_small xs j)
        generalize mods xs j = P at *
        obtain rfl : j = P.length := hm1.symm
        have sP : SliceAt .i64 wr wr.heap.size A1 P := SliceAt.of_own hown
        obtain ⟨W1, rfl⟩ : ∃ W1 : World, W1 = wr := ⟨_, rfl⟩
        have hW1 := hWr
        have hz_W1 : w.heap.size ≤ W1.heap.size := Nat.le_trans hB3.size hWr.size
        have h2 : SliceAt .i64 W1 w.heap.size A' ys := h'.below (hB3.trans (hWr.mono hB3.size))
        clear hown hc hWr
        go_loopw [23, 25] (fun v i wr => ∃ j : Nat, j ≤ ys.length ∧ j ≤ 10 ∧ i = .int .i64 j ∧ wr.ownsRow W1.heap.size 3 1 v j ((mods ys j).map (Value.int .i64)) ∧ Below W1.heap.size W1 wr) (fun _ i _ => 10 - (intOf i).toNat)
        case atStart => exact ⟨0, Nat.zero_le _, Nat.zero_le _, rfl, World.ownsRow_nil _ _ _ _, Below.refl _ _⟩
        case round =>
          obtain ⟨j, hj, hj10, rfl, hown, hWr⟩ := hrel
          by_cases hc : j < ys.length ∧ j < 10
          · obtain ⟨hc1, hc2⟩ := hc
            obtain ⟨b, off, q, rfl, hq, hcell⟩ := (h2.below (hWr.mono hz_W1)).get hc1
            have hqw := bounds_i64 (HB'.out q (mem_of_get hq))
            have HS := Lib.hid (mods_succ ys j q hq)
            have hBs := hWr.size
            clear hq
            go_wp2_with fail
            refine (Mod_any q 1048576 _ hqw.1 hqw.2 (by omega)).mono ?_
            rintro e wq ⟨rfl, rfl⟩
            go_wp2_with (at_builtin; refine wpList_append_own _ rfl _ _ 32 rfl W1.heap.size 3 i0 (.int .i64 0) 1 8 Try.underlying32 hi hz0 hz1 hz2 rfl (by decide) _ _ _ rfl (hown.alloc _) ⟨wr.heap.size, 0, none⟩ 1 1 [.int .i64 (modI q 1048576)] rfl rfl (cell_one_new _ _ _) (by simp [Value.oneCell']) (by simp only [maxLen]; omega) (by omega) (by simp; omega) ?_; intro v' wa hown' hgrow _)
            have hWa : Below W1.heap.size W1 wa := (hWr.alloc hWr.size _).grown hgrow (by simp; omega) (fun x hx => (hown.lt x hx).1)
            clear hWr hown hgrow
            go_wp2_with fail
            go_roundw
            case rel => exact ⟨j + 1, by omega, by omega, by go_num, by rw [HS.out]; simpa using hown', hWa⟩
            case measure => simp [intOf]; omega
          · by_cases hA : j < ys.length
            · go_wp2_with fail
              obtain ⟨A2, c2, rfl⟩ := owns_slice hown
              have hm2 := mods_length ys j hj
              have HP2 := Lib.hid (mods_small ys j)
              generalize mods ys j = Q at *
              obtain rfl : j = Q.length := hm2.symm
              have sQ : SliceAt .i64 wr wr.heap.size A2 Q := SliceAt.of_own hown
              have sP' : SliceAt .i64 wr W1.heap.size A1 P := sP.below hWr
              have SP := Lib.hid (sum_small P HP1.out (by omega))
              have SQ := Lib.hid (sum_small Q HP2.out (by omega))
              have bP := sum_small_lo P HP1.out
              have bQ := sum_small_lo Q HP2.out
              have SPQ : Hid (sumV (P ++ Q) = P.sum + Q.sum ∧ sumE (P ++ Q) = 0) := by
                have := sum_small (P ++ Q) (fun x hx => (List.mem_append.1 hx).elim (HP1.out x) (HP2.out x)) (by simp; omega)
                rw [List.sum_append] at this
                exact this
              have SUT : Hid (sumV [Q.sum, P.sum] = P.sum + Q.sum ∧ sumE [Q.sum, P.sum] = 0) := by
                have := plus_ok (x := Q.sum) (y := P.sum) (by omega)
                rw [Int.add_comm] at this
                exact this
              generalize P.sum = T at *
              generalize Q.sum = U at *
              generalize T + U = TU at *
              refine (Sum_any A1 P c1 W1.heap.size _ sP' (by omega)).mono ?_
              rintro e wq ⟨rfl, rfl⟩
              rw [SP.out.1, SP.out.2]
              go_wp2_with fail
              refine (Sum_any A2 Q c2 wr.heap.size _ sQ (by omega)).mono ?_
              rintro e wq ⟨rfl, rfl⟩
              rw [SQ.out.1, SQ.out.2]
              have hWs := hWr.size
              have hbs : ∀ W, (Instr.buildSlice 32 0 #[]).run Try.prog W = .ok (.slice (some ⟨W.heap.size, 0, none⟩) 0 0) (W.alloc (.cells #[] 3)) := fun _ => by kernel_rfl
              have hown0 := World.ownsRow_made (e := 3) (size := 1) (base := wr.heap.size) wr #[] 0 (Nat.le_refl _) (by simp [maxLen]) (by simp)
              go_wp2_with (first
                | (at_builtin
                   refine wpList_append_sl _ rfl (.tmp 141) (.tmp 142) 32 rfl wr.heap.size 3 i0 (.int .i64 0) 8 Try.underlying32 hi hz0 hz1 hz2 rfl (.slice (some ⟨wr.heap.size, 0, none⟩) 0 0) 0 [] rfl hown0 (k := .i64) (B := W1.heap.size) c1 rfl (sP'.keep fun p hp => World.cell?_alloc_lt _ _ _ (by omega)) (by simp only [maxLen]; omega) (by omega) (by simp) ?_
                   intro v1 wa hownA hgrowA hatA
                   have hWA : Below wr.heap.size wr wa := ((Below.refl _ _).alloc (Nat.le_refl _) _).grown hgrowA (by simp) (fun x hx => (hown0.lt x hx).1)
                   have hWAs := hWA.size)
                | (at_builtin
                   refine wpList_append_sl _ rfl (.tmp 143) (.tmp 144) 32 rfl wr.heap.size 3 i0 (.int .i64 0) 8 Try.underlying32 hi hz0 hz1 hz2 rfl v1 _ _ rfl hownA (k := .i64) (B := wr.heap.size) c2 rfl (sQ.below hWA) (by simp only [maxLen]; omega) (by omega) (by omega) ?_
                   intro v2 wb hownB hgrowB hatB
                   have hWB : Below wr.heap.size wr wb := hWA.grown hgrowB hWAs (fun x hx => (hownA.lt x hx).1)))
              obtain ⟨A3, c3, rfl⟩ := owns_slice hownB
              have hl3 : 0 + P.length + Q.length = (P ++ Q).length := by simp
              rw [List.nil_append, ← List.map_append, hl3] at hownB
              rw [hl3]
              have sPQ : SliceAt .i64 wb wb.heap.size A3 (P ++ Q) := SliceAt.of_own hownB
              have hl4 : (P ++ Q).length ≤ 1000 := by simp; omega
              generalize P ++ Q = PQ at *
              go_wp2_with fail
              refine (Sum_any A3 PQ c3 wb.heap.size _ sPQ (by omega)).mono ?_
              rintro e wq ⟨rfl, rfl⟩
              rw [SPQ.out.1, SPQ.out.2]
              go_wp2_with fail
              refine (Plus_any U T _).mono ?_
              rintro e wc ⟨rfl, hWc⟩
              rw [SUT.out.1, SUT.out.2]
              go_wp2_with fail
              go_ret
              exact ⟨rfl, below_then (below_then (below_then (below_then hB3 hW1) hWr) hWB) hWc⟩
            · go_wp2_with fail
              obtain ⟨A2, c2, rfl⟩ := owns_slice hown
              have hm2 := mods_length ys j hj
              have HP2 := Lib.hid (mods_small ys j)
              generalize mods ys j = Q at *
              obtain rfl : j = Q.length := hm2.symm
              have sQ : SliceAt .i64 wr wr.heap.size A2 Q := SliceAt.of_own hown
              have sP' : SliceAt .i64 wr W1.heap.size A1 P := sP.below hWr
              have SP := Lib.hid (sum_small P HP1.out (by omega))
              have SQ := Lib.hid (sum_small Q HP2.out (by omega))
              have bP := sum_small_lo P HP1.out
              have bQ := sum_small_lo Q HP2.out
              have SPQ : Hid (sumV (P ++ Q) = P.sum + Q.sum ∧ sumE (P ++ Q) = 0) := by
                have := sum_small (P ++ Q) (fun x hx => (List.mem_append.1 hx).elim (HP1.out x) (HP2.out x)) (by simp; omega)
                rw [List.sum_append] at this
                exact this
              have SUT : Hid (sumV [Q.sum, P.sum] = P.sum + Q.sum ∧ sumE [Q.sum, P.sum] = 0) := by
                have := plus_ok (x := Q.sum) (y := P.sum) (by omega)
                rw [Int.add_comm] at this
                exact this
              generalize P.sum = T at *
              generalize Q.sum = U at *
              generalize T + U = TU at *
              refine (Sum_any A1 P c1 W1.heap.size _ sP' (by omega)).mono ?_
              rintro e wq ⟨rfl, rfl⟩
              rw [SP.out.1, SP.out.2]
              go_wp2_with fail
              refine (Sum_any A2 Q c2 wr.heap.size _ sQ (by omega)).mono ?_
              rintro e wq ⟨rfl, rfl⟩
              rw [SQ.out.1, SQ.out.2]
              have hWs := hWr.size
              have hbs : ∀ W, (Instr.buildSlice 32 0 #[]).run Try.prog W = .ok (.slice (some ⟨W.heap.size, 0, none⟩) 0 0) (W.alloc (.cells #[] 3)) := fun _ => by kernel_rfl
              have hown0 := World.ownsRow_made (e := 3) (size := 1) (base := wr.heap.size) wr #[] 0 (Nat.le_refl _) (by simp [maxLen]) (by simp)
              go_wp2_with (first
                | (at_builtin
                   refine wpList_append_sl _ rfl (.tmp 141) (.tmp 142) 32 rfl wr.heap.size 3 i0 (.int .i64 0) 8 Try.underlying32 hi hz0 hz1 hz2 rfl (.slice (some ⟨wr.heap.size, 0, none⟩) 0 0) 0 [] rfl hown0 (k := .i64) (B := W1.heap.size) c1 rfl (sP'.keep fun p hp => World.cell?_alloc_lt _ _ _ (by omega)) (by simp only [maxLen]; omega) (by omega) (by simp) ?_
                   intro v1 wa hownA hgrowA hatA
                   have hWA : Below wr.heap.size wr wa := ((Below.refl _ _).alloc (Nat.le_refl _) _).grown hgrowA (by simp) (fun x hx => (hown0.lt x hx).1)
                   have hWAs := hWA.size)
                | (at_builtin
                   refine wpList_append_sl _ rfl (.tmp 143) (.tmp 144) 32 rfl wr.heap.size 3 i0 (.int .i64 0) 8 Try.underlying32 hi hz0 hz1 hz2 rfl v1 _ _ rfl hownA (k := .i64) (B := wr.heap.size) c2 rfl (sQ.below hWA) (by simp only [maxLen]; omega) (by omega) (by omega) ?_
                   intro v2 wb hownB hgrowB hatB
                   have hWB : Below wr.heap.size wr wb := hWA.grown hgrowB hWAs (fun x hx => (hownA.lt x hx).1)))
              obtain ⟨A3, c3, rfl⟩ := owns_slice hownB
              have hl3 : 0 + P.length + Q.length = (P ++ Q).length := by simp
              rw [List.nil_append, ← List.map_append, hl3] at hownB
              rw [hl3]
              have sPQ : SliceAt .i64 wb wb.heap.size A3 (P ++ Q) := SliceAt.of_own hownB
              have hl4 : (P ++ Q).length ≤ 1000 := by simp; omega
              generalize P ++ Q = PQ at *
              go_wp2_with fail
              refine (Sum_any A3 PQ c3 wb.heap.size _ sPQ (by omega)).mono ?_
              rintro e wq ⟨rfl, rfl⟩
              rw [SPQ.out.1, SPQ.out.2]
              go_wp2_with fail
              refine (Plus_any U T _).mono ?_
              rintro e wc ⟨rfl, hWc⟩
              rw [SUT.out.1, SUT.out.2]
              go_wp2_with fail
              go_ret
              exact ⟨rfl, below_then (below_then (below_then (below_then hB3 hW1) hWr) hWB) hWc⟩

/-! The step from the walk to the statement: the shell's text. -/
set_option maxRecDepth 100000 in
theorem lifted (os : Os) (started : os.Started) (H : Type) (enc : TypeId × Value → H) :
    ReturnsInHanded {} Try.checked os 9 .any (Rows.intsLawsSpec.pre6 enc Try.prog Try.f9 Rows.intsLawsRow.domain false) (Rows.intsLawsSpec.post enc Try.prog Try.f9 false true false false) := by
  refine returnsInHanded_of_change (C := Try.checked) own started (by kernel_rfl) Try.func9
    (ChangeSpec.witness6 (enc := enc) (C := Try.checked) false ⟨#[], #[.int .i64 0, .int .i64 0, .int .i64 0, .slice none 0 0, .slice none 0 0], []⟩ 8 (by kernel_rfl) (by kernel_rfl) (by kernel_rfl) (by kernel_rfl)) ?_
  intro W base args ds gs before hval0 hW hcnd _
  have hval : ∀ (j : Nat) t v, Try.f9.params[j]? = some t → args[j]? = some v → Value.okWide Try.prog W .any base t v := hval0
  have hW' := hW
  obtain ⟨p, q, hA0, hV, rfl, hfz, hnd⟩ := hW
  have hA : DataW.TrodAll enc Try.prog W 0 (fun _ => true) true Try.f9.params.toList args.toList ds p := hA0
  rw [Try.params9] at hA hval
  obtain ⟨v0, vs0, d0, ds0, p0, q0, hargs, rfl, rfl, h0, r0⟩ := trodAll_cons hA
  obtain ⟨v1, vs1, d1, ds1, p1, q1, rfl, rfl, rfl, h1, r1⟩ := trodAll_cons r0
  obtain ⟨v2, vs2, d2, ds2, p2, q2, rfl, rfl, rfl, h2, r2⟩ := trodAll_cons r1
  obtain ⟨v3, vs3, d3, ds3, p3, q3, rfl, rfl, rfl, h3, r3⟩ := trodAll_cons r2
  obtain ⟨v4, vs4, d4, ds4, p4, q4, rfl, rfl, rfl, h4, r4⟩ := trodAll_cons r3
  obtain ⟨rfl, rfl, rfl⟩ := trodAll_nil r4
  obtain rfl : args = #[v0, v1, v2, v3, v4] := by cases args; simp_all
  obtain ⟨rfl, rfl⟩ := trodVars_none hV
  obtain ⟨a0, rfl, rfl, rfl, w0⟩ := open_int Try.underlying3 (hval 0 3 v0 rfl rfl) h0
  obtain ⟨a1, rfl, rfl, rfl, w1⟩ := open_int Try.underlying3 (hval 1 3 v1 rfl rfl) h1
  obtain ⟨a2, rfl, rfl, rfl, w2⟩ := open_int Try.underlying3 (hval 2 3 v2 rfl rfl) h2
  obtain ⟨a3, len3, cap3, rfl⟩ := okWide_slice Try.underlying32 (hval 3 32 v3 rfl rfl)
  have k3 := h3
  have lt3 : ∀ x ∈ p3, x.block < W.heap.size := by obtain ⟨m, hm⟩ := k3; exact DataW.trod_lt m _ _ _ hm
  obtain ⟨z3, rfl, w3, b3, l3⟩ := open_sl Try.underlying32 Try.underlying3 (by kernel_rfl) h3
  obtain ⟨a4, len4, cap4, rfl⟩ := okWide_slice Try.underlying32 (hval 4 32 v4 rfl rfl)
  have k4 := h4
  have lt4 : ∀ x ∈ p4, x.block < W.heap.size := by obtain ⟨m, hm⟩ := k4; exact DataW.trod_lt m _ _ _ hm
  obtain ⟨z4, rfl, w4, b4, l4⟩ := open_sl Try.underlying32 Try.underlying3 (by kernel_rfl) h4
  clear hA0 hval0
  refine (walk a0 a1 a2 a3 z3 cap3 a4 z4 cap4 W (bounds_i64 w0) (bounds_i64 w1) (bounds_i64 w2) w3 b3 l3 w4 b4 l4).mono fun e W' ⟨he, bel⟩ => ?_
  subst he
  exact ⟨_, rfl, _, _, _, [], _, [], hW', trodAll_mk1 (shut_bool Try.underlying4 _), (trodAll_cons_mk (shut_int Try.underlying3 w0) (trodAll_cons_mk (shut_int Try.underlying3 w1) (trodAll_cons_mk (shut_int Try.underlying3 w2) (trodAll_cons_mk (Below.trod laidOut (by kernel_rfl) (of_decide_eq_true (by kernel_rfl)) k3 bel lt3) (trodAll_cons_mk (Below.trod laidOut (by kernel_rfl) (of_decide_eq_true (by kernel_rfl)) k4 bel lt4) trodAll_mk0))))), rfl, bel.frame _, fun h => by cases h⟩

theorem over : Rows.intsLawsRow.holds Try.pinned (OpenSpec.ofChange Rows.intsLawsSpec) :=
  OpenClaim.holds_of_wide 9 Try.f9 rfl rfl rfl rfl rfl rfl rfl ⟨rfl, rfl, rfl, rfl, rfl⟩ rfl rfl rfl rfl rfl (by kernel_rfl) Try.func9 (by kernel_rfl)
    (of_decide_eq_true (by kernel_rfl)) (by unfold Func.isWrapper; first | (rw [if_pos (by decide +kernel)]; kernel_rfl) | (rw [if_neg (by decide +kernel)]; exact ⟨rfl, rfl⟩))
    (fun os started H enc _ => lifted os started H enc)

/-- The statement. -/
theorem proved : Rows.IntsLawsSaid := over
#print axioms proved
end Go.Proofs.Ytalnlpbdcmnlgaa.intsLaws
