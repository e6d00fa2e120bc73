/-
  The walks of the references of bound.Blocks; the parameters of the chapter's examples; awake.
-/
import Derived.Test.YtfdbkpbgkpkckaaBoundBlocks
import Derived.Test.YtfdbkpbgkpkckaaParamsRef
import Derived.Test.YtfdbkpbgkpkckaaRegions
import Derived.Deep.RegionHeld3
import Derived.Deep.DrawnRows
import Derived.Deep.QuietTactic
import Derived.BigQuiet
import Derived.IntWalk
namespace Go.Proofs.Ytfdbkpbgkpkckaa
open Go.RowKit
set_option linter.unusedVariables false
set_option maxRecDepth 100000

set_option maxHeartbeats 800000 in
theorem rblocks_any (l wd jb ov : Int) (sy ck : Bool) (n : Int) (w : World) (h : ¬ parBad l wd jb ov) (hn : 0 ≤ n ∧ n ≤ 4611686018427387904) :
    Calls Try.prog 56 #[parV l wd jb ov sy ck, .int .i64 n] w fun e w' => e = .returned (.int .i64 (manyV (blkV wd) n)) ∧ Below w.heap.size w w' := by
  have HB := Lib.hid (fun W => rBlock_ok l wd jb ov sy ck W h)
  have hZ := blkV_lo wd (by unfold parBad at h; omega)
  obtain ⟨Z, hZe⟩ : ∃ Z, Z = blkV wd := ⟨_, rfl⟩
  have HZ : Hid (min ((2 : Int) ^ wd.toNat) 131072 = Z) := hZe.symm
  rw [← hZe] at hZ ⊢
  clear h hZe
  unfold parV at *
  have d1 : 0 ≤ (n + Z - 1) / Z := Int.ediv_nonneg (by omega) (by omega)
  have d2 : (n + Z - 1) / Z ≤ n + Z - 1 := Int.ediv_le_self _ (by omega)
  have d3 : Hid (manyV Z n = max 1 ((n + Z - 1) / Z)) := rfl
  go_enter Try.func56, Try.ntmps56
  go_wp2_with fail
  refine (HB.out _).mono ?_
  rintro e w1 ⟨rfl, hB⟩
  rw [HZ.out]
  go_wp2
  all_goals (
    go_ret
    exact ⟨ret_int (by rw [d3.out]; omega), below_then ((Below.refl _ _).alloc (Nat.le_refl _) _) hB⟩)

attribute [local go_sem ↓] Go.wp_at_zero Go.wp_at_succ
set_option maxHeartbeats 1600000 in
theorem rBlocks_any (l wd jb ov : Int) (sy ck : Bool) (A : Option Addr) (xs : List Int) (c B : Nat) (w : World) (h : SliceAt .i64 w B A xs) (hB : B ≤ w.heap.size) (hl : xs.length ≤ 9223372036854775807) :
    Calls Try.prog 21 #[parV l wd jb ov sy ck, .slice A xs.length c] w fun e w' => e = .returned (.tuple #[.int .i64 (blksV l wd jb ov xs), .int .i64 (blksE l wd jb ov xs)]) ∧ Below w.heap.size w w' := by
  have HC := Lib.hid (fun W => rCheck_any l wd jb ov sy ck W)
  by_cases hp : parBad l wd jb ov
  · have HR := Lib.hid (blks_bad (xs := xs) (l := l) (wd := wd) (jb := jb) (ov := ov) (.inl hp))
    have HE := Lib.hid (parE_bad hp)
    clear hp
    unfold parV at *
    go_enter Try.func21, Try.ntmps21
    go_wp2_with fail
    refine (HC.out _).mono ?_
    rintro e w1 ⟨rfl, hB1⟩
    rw [HE.out]
    go_wp2
    go_ret2
    exact ⟨ret_two (val_int HR.out.1.symm) (val_int HR.out.2.symm), below_then ((Below.refl _ _).alloc (Nat.le_refl _) _) hB1⟩
  · have HE := Lib.hid (parE_ok hp)
    have HM := Lib.hid (fun n W hn => rblocks_any l wd jb ov sy ck n W hp hn)
    have hZ := blkV_lo wd (by unfold parBad at hp; omega)
    by_cases hlen : 70000 < xs.length
    · have HR := Lib.hid (blks_bad (xs := xs) (l := l) (wd := wd) (jb := jb) (ov := ov) (.inr (.inl hlen)))
      clear hp
      unfold parV at *
      go_enter Try.func21, Try.ntmps21
      go_wp2_with fail
      refine (HC.out _).mono ?_
      rintro e w1 ⟨rfl, hB1⟩
      rw [HE.out]
      go_wp2
      go_ret2
      exact ⟨ret_two (val_int HR.out.1.symm) (val_int HR.out.2.symm), below_then ((Below.refl _ _).alloc (Nat.le_refl _) _) hB1⟩
    · have hl7 : xs.length ≤ 70000 := by omega
      have HNP := Lib.hid (fun (ha : xs.all lenOk = true) => (blks_ok (l := l) (wd := wd) (jb := jb) (ov := ov) (xs := xs) (by unfold blksBad; rw [ha]; simp; exact ⟨hp, by omega⟩)))
      have HBP := Lib.hid (fun (ha : xs.all lenOk = false) => (blks_bad (l := l) (wd := wd) (jb := jb) (ov := ov) (xs := xs) (.inr (.inr ha))))
      obtain ⟨Z, hZe⟩ : ∃ Z, Z = blkV wd := ⟨_, rfl⟩
      rw [← hZe] at hZ HM HNP
      clear hp hZe
      unfold parV at *
      have HA := Lib.hid (fun j x (h : xs[j]? = some x) => @blkSum_succ Z xs j x h)
      have HN := Lib.hid (fun j x (h : xs[j]? = some x) => @all_not lenOk xs j x h)
      have HS := Lib.hid (fun j x (h : xs[j]? = some x) => @all_take_succ lenOk xs j x h)
      have HBD := Lib.hid (fun ys => blkSum_bd Z hZ ys)
      have HML := Lib.hid (manyV_lo Z)
      go_enter Try.func21, Try.ntmps21
      go_wp2_with fail
      refine (HC.out _).mono ?_
      rintro e w1 ⟨rfl, hB1⟩
      rw [HE.out]
      have hsz : w.heap.size + 1 ≤ w1.heap.size := by have := hB1.size; simp at this; omega
      have PB : ∀ V : World, Below w1.heap.size w1 V → (V.cell? ⟨w.heap.size, 0, none⟩ = some (.int .i64 l) ∧ V.cell? ⟨w.heap.size, 1, none⟩ = some (.int .i64 wd) ∧ V.cell? ⟨w.heap.size, 2, none⟩ = some (.int .i64 jb) ∧ V.cell? ⟨w.heap.size, 3, none⟩ = some (.int .i64 ov) ∧ V.cell? ⟨w.heap.size, 4, none⟩ = some (.bool sy) ∧ V.cell? ⟨w.heap.size, 5, none⟩ = some (.bool ck)) := by
        intro V hV
        have hc : ∀ o, V.cell? ⟨w.heap.size, o, none⟩ = (w.alloc (.cells #[.int .i64 l, .int .i64 wd, .int .i64 jb, .int .i64 ov, .bool sy, .bool ck] 24)).cell? ⟨w.heap.size, o, none⟩ := fun o => (hV.cell (p := ⟨w.heap.size, o, none⟩) (by simp only; omega)).trans (hB1.cell (p := ⟨w.heap.size, o, none⟩) (by simp))
        refine ⟨(hc 0).trans (World.cell?_alloc_at _ _ _ _ rfl), (hc 1).trans (World.cell?_alloc_at _ _ _ _ rfl), (hc 2).trans (World.cell?_alloc_at _ _ _ _ rfl), (hc 3).trans (World.cell?_alloc_at _ _ _ _ rfl), (hc 4).trans (World.cell?_alloc_at _ _ _ _ rfl), (hc 5).trans (World.cell?_alloc_at _ _ _ _ rfl)⟩
      have HP := Lib.hid PB
      have h1 : SliceAt .i64 w1 B A xs := (h.below ((((Below.refl _ _).alloc (Nat.le_refl _) _) : Below w.heap.size w _).mono hB)).below (hB1.mono (by simp; omega))
      have hB2 : Below w.heap.size w w1 := below_then ((Below.refl _ _).alloc (Nat.le_refl _) _) hB1
      clear PB h
      go_wp2
      go_loopw [7] (fun i wr => ∃ j : Nat, j ≤ xs.length ∧ i = .int .i64 j ∧ Hid ((xs.take j).all lenOk = true) ∧ Below w1.heap.size w1 wr) (fun i _ => xs.length - (intOf i).toNat)
      case atStart => exact ⟨0, Nat.zero_le _, rfl, rfl, Below.refl _ _⟩
      case round =>
        obtain ⟨j, hj, rfl, HT, hw⟩ := hrel
        by_cases hlt : j < xs.length
        · obtain ⟨b, off, x, rfl, hx, hcx⟩ := (h1.below (hw.mono (by omega))).get hlt
          have g1 : (0 : Int) ≤ (j : Int) := by omega
          have g2 : (j : Int) < (xs.length : Int) := by omega
          have HX := Lib.hid hx
          clear hx
          by_cases hlo : x < 0
          · have HR : Hid (blksV l wd jb ov xs = 0 ∧ blksE l wd jb ov xs = 2) := HBP.out (HN.out j x HX.out (by simp [lenOk]; omega))
            go_wp2
            go_ret2
            exact ⟨ret_two (val_int HR.out.1.symm) (val_int HR.out.2.symm), below_then hB2 hw⟩
          · have hlo' : decide (x < 0) = false := by simpa using hlo
            by_cases hhi : 1048576 < x
            · have HR : Hid (blksV l wd jb ov xs = 0 ∧ blksE l wd jb ov xs = 2) := HBP.out (HN.out j x HX.out (by simp [lenOk]; omega))
              go_wp2
              go_ret2
              exact ⟨ret_two (val_int HR.out.1.symm) (val_int HR.out.2.symm), below_then hB2 hw⟩
            · have hhi' : decide (1048576 < x) = false := by simpa using hhi
              have HT2 := Lib.hid (HS.out j x HX.out HT.out (lenOk_iff.2 (by omega)))
              clear HT
              go_wp2
              go_roundw
              case rel => exact ⟨j + 1, by omega, by go_num, HT2, hw⟩
              case measure => simp [intOf] <;> omega
        · obtain rfl : j = xs.length := by omega
          have HALL : Hid (xs.all lenOk = true) := by have := HT.out; rwa [List.take_length] at this
          have HR := Lib.hid (HNP.out HALL.out)
          clear HT
          go_wp2
          go_hide hQ
          go_loopw [8, 9] (fun n i wq => ∃ j : Nat, j ≤ xs.length ∧ i = .int .i64 j ∧ n = .int .i64 (blkSum Z (xs.take j)) ∧ Below w1.heap.size w1 wq) (fun _ i _ => xs.length - (intOf i).toNat)
          case atStart => exact ⟨0, Nat.zero_le _, rfl, rfl, hw⟩
          case round =>
            obtain ⟨j, hj2, rfl, rfl, hw2⟩ := hrel
            by_cases hlt2 : j < xs.length
            · obtain ⟨b, off, x, rfl, hx, hcx⟩ := (h1.below (hw2.mono (by omega))).get hlt2
              obtain ⟨p0, p1, p2, p3, p4, p5⟩ := HP.out _ hw2
              have g1 : (0 : Int) ≤ (j : Int) := by omega
              have g2 : (j : Int) < (xs.length : Int) := by omega
              have hxo : 0 ≤ x ∧ x ≤ 1048576 := lenOk_iff.1 (List.all_eq_true.1 HALL.out x (List.mem_of_getElem? hx))
              have HA2 := Lib.hid (HA.out j x hx)
              have hsum : -1 ≤ blkSum Z (xs.take j) ∧ blkSum Z (xs.take j) ≤ 100000000000 := by
                have := HBD.out (xs.take j) (by rw [List.all_eq_true]; intro y hy; exact List.all_eq_true.1 HALL.out y (List.mem_of_mem_take hy))
                rw [List.length_take] at this; omega
              have hml := HML.out x hZ (by omega)
              have HMx := Lib.hid (fun W => HM.out x W (by omega))
              generalize blkSum Z (xs.take j) = q at *
              generalize manyV Z x = mv at *
              have HX := Lib.hid hx
              clear hx
              go_wp2
              have HXC := Lib.hid (fun V hV => (h1.more (B' := w1.heap.size) (by omega)).cell_all HX.out V hV)
              go_region_held3 (fun w' => Below w1.heap.size w1 w' ∧ w'.cell? ⟨w.heap.size, 0, none⟩ = some (.int .i64 l) ∧ w'.cell? ⟨w.heap.size, 1, none⟩ = some (.int .i64 wd) ∧ w'.cell? ⟨w.heap.size, 2, none⟩ = some (.int .i64 jb) ∧ w'.cell? ⟨w.heap.size, 3, none⟩ = some (.int .i64 ov) ∧ w'.cell? ⟨w.heap.size, 4, none⟩ = some (.bool sy) ∧ w'.cell? ⟨w.heap.size, 5, none⟩ = some (.bool ck) ∧ w'.cell? ⟨b, off + j, none⟩ = some (.int .i64 x)) (refine ⟨?_, ?_, ?_, ?_, ?_, ?_, ?_, ?_⟩ <;> first | assumption | (exact below_drew (by assumption)) | go_keep) ((go_at_call 56; refine (HMx.out _).mono ?_; rintro e w3 ⟨rfl, hB3⟩; have hB4 : Below w1.heap.size w1 w3 := below_then (by first | assumption | exact And.left (by assumption)) hB3; obtain ⟨q0, q1, q2, q3, q4, q5⟩ := HP.out _ hB4; have q6 := HXC.out _ hB4))
              rw [show IntKind.i64.wrap (q + mv) = q + mv from IntWalk.i64_in _ (by omega)]
              go_wp2
              go_roundw
              case rel => exact ⟨j + 1, by omega, by go_num, val_int HA2.out.symm, hB4⟩
              case measure => simp [intOf] <;> omega
            · obtain rfl : j = xs.length := by omega
              rw [List.take_length]
              go_wp2
              subst hQ
              go_wp2
              go_ret2
              exact ⟨ret_two (val_int HR.out.1.symm) (val_int HR.out.2.symm), below_then hB2 hw2⟩

/-- The parameters of the chapter's examples. -/
theorem params43_any (w : World) :
    Calls Try.prog 14 #[] w fun e w' => e = .returned (parV 1 10 4096 0 false false) ∧ Below w.heap.size w w' := by
  unfold parV
  go_enter Try.func14, Try.ntmps14
  go_wp2
  exact bodyPost_ret (v := .agg #[.int .i64 1, .int .i64 10, .int .i64 4096, .int .i64 0, .bool false, .bool false]) (by simp [results, Try.results14, go_sem]) rfl ⟨rfl, (Below.refl _ _).alloc (Nat.le_refl _) _⟩

theorem aw_facts : blksV 1 10 4096 0 [0, 1, 1024, 1025] = 5 ∧ blksE 1 10 4096 0 [0, 1, 1024, 1025] = 0 ∧ stepsV 2 1 5 3 = 32 ∧ stepsE 2 1 5 3 = 0 := by decide +kernel

set_option maxHeartbeats 800000 in
theorem awake43_any (w : World) :
    Calls Try.prog 18 #[] w fun e w' => e = .returned (.bool true) ∧ Below w.heap.size w w' := by
  have HF := Lib.hid aw_facts
  go_enter Try.func18, Try.ntmps18
  go_wp2_with fail
  refine (params43_any _).mono ?_
  rintro e w1 ⟨rfl, hB1⟩
  unfold parV
  go_wp2_with fail
  refine (Blocks_any 1 10 4096 0 false false _ [0, 1, 1024, 1025] 4 _ _ (slice_lit w1 .i64 3 [0, 1, 1024, 1025] _ rfl) (by simp) (by simp)).mono ?_
  rintro e w2 ⟨rfl, hB2⟩
  rw [HF.out.1, HF.out.2.1]
  go_wp2_with fail
  refine (Steps_any 2 1 5 3 _ (by omega) (by omega) (by omega) (by omega)).mono ?_
  rintro e w3 ⟨rfl, hB3⟩
  rw [HF.out.2.2.1, HF.out.2.2.2]
  go_wp2_with fail
  go_ret
  exact ⟨rfl, below_then (below_then (below_alloc hB1 _) hB2) hB3⟩

end Go.Proofs.Ytfdbkpbgkpkckaa
