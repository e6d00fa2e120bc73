/-
  The contracts of roll.First and its reference.
-/
import Derived.Test.YtaofphifmgadjaaRollFirst
import Derived.RegionTactic
import Derived.BigRegion
namespace Go.Proofs.Ytaofphifmgadjaa
open Go.RowKit Go.Shelf
set_option linter.unusedVariables false
set_option maxRecDepth 100000

/-- The first number of a list that is f at least. -/
def firstL (ps : List Int) (f : Int) : Option Int := ps.find? fun p => decide (f ≤ p)

theorem firstL_hit {s : ByteArray} {n : Nat} {f v : Int} {b : Bool} (h : FirstIs s n f v b) : v = (firstL (hitAt s n (List.range (s.size - 15))) f).getD 0 ∧ b = (firstL (hitAt s n (List.range (s.size - 15))) f).isSome := by
  have e : firstL (hitAt s n (List.range (s.size - 15))) f = ((List.range (s.size - 15)).find? (okAt s n f)).map fun k : Nat => 16 + (k : Int) := by
    unfold firstL hitAt
    rw [List.find?_map, List.find?_filter]
    congr 1
    congr 1
    funext k
    simp [okAt, Bool.and_comm]
  rw [e]
  rcases h with ⟨x, hx, ho, hn, rfl, rfl⟩ | ⟨hn, rfl, rfl⟩
  · have : (List.range (s.size - 15)).find? (okAt s n f) = some x := List.find?_range_eq_some.2 ⟨ho, List.mem_range.2 hx, fun j hj => by simp [hn j hj]⟩
    rw [this]
    exact ⟨rfl, rfl⟩
  · have : (List.range (s.size - 15)).find? (okAt s n f) = none := List.find?_range_eq_none.2 fun i hi => by simp [hn i hi]
    rw [this]
    exact ⟨rfl, rfl⟩

theorem firstL_step {ps : List Int} {f x : Int} {j : Nat} (hx : ps[j]? = some x) (h : firstL (ps.take j) f = none) (hf : ¬ f ≤ x) : firstL (ps.take (j + 1)) f = none := by
  unfold firstL at h ⊢
  rw [List.take_add_one, hx, List.find?_append, h]
  simp [hf]
theorem firstL_hit_at {ps : List Int} {f x : Int} {j : Nat} (hx : ps[j]? = some x) (h : firstL (ps.take j) f = none) (hf : f ≤ x) : firstL ps f = some x := by
  have e : ps = ps.take (j + 1) ++ ps.drop (j + 1) := (List.take_append_drop _ _).symm
  unfold firstL at h ⊢
  rw [e, List.find?_append, List.take_add_one, hx, List.find?_append, h]
  simp [hf]

/-- Whether the error is none. -/
def badF (s : ByteArray) (f n : Int) : Prop := (n < 1 ∨ 32 < n) ∨ f < 0 ∨ (s.size : Int) < f
instance (s : ByteArray) (f n : Int) : Decidable (badF s f n) := by unfold badF; infer_instance
def firstO (s : ByteArray) (f n : Int) : Option Int := if badF s f n then none else firstL (placesV s n) f
def firstE (s : ByteArray) (f n : Int) : Int := if badF s f n then 2 else 0
theorem first_bad {s : ByteArray} {f n : Int} (h : badF s f n) : (firstO s f n).getD 0 = 0 ∧ (firstO s f n).isSome = false ∧ firstE s f n = 2 := by
  unfold firstO firstE; rw [if_pos h, if_pos h]; exact ⟨rfl, rfl, rfl⟩
theorem first_ok {s : ByteArray} {f n : Int} (h : ¬ badF s f n) : firstO s f n = firstL (placesV s n) f ∧ firstE s f n = 0 := by
  unfold firstO firstE; rw [if_neg h, if_neg h]; exact ⟨rfl, rfl⟩

set_option maxHeartbeats 1600000 in
theorem First_any (s : ByteArray) (f n : Int) (w : World) (hs : s.size ≤ 1048576) :
    Calls Try.prog 31 #[.string s, .int .i64 f, .int .i64 n] w fun e w' => e = .returned (.tuple #[.int .i64 ((firstO s f n).getD 0), .bool (firstO s f n).isSome, .int .i64 (firstE s f n)]) ∧ Below w.heap.size w w' := by
  by_cases hb : badF s f n
  · have HF := Lib.hid (first_bad hb)
    by_cases hn : n < 1 ∨ 32 < n
    · have HE := Lib.hid (hits_bad (h := 0) hn).2
      clear hb hn
      go_enter Try.func31, Try.ntmps31
      go_wp2
      go_step3
      go_wp2_with fail
      refine (asked34_any s n _ hs).mono ?_
      rintro e w1 ⟨rfl, rfl⟩
      rw [HE.out]
      go_wp2
      obtain ⟨W0, hW0⟩ : ∃ W0, W0 = ((((w.alloc (.cells #[.int .i64 f] 3)).alloc (.cells #[.int .i64 n] 3)).alloc (.cells #[.int .i64 0] 3)).alloc (.cells #[.bool false] 4)).alloc (.cells #[.int .i64 2] 24) := ⟨_, rfl⟩
      have d2 : Boxed W0 (w.heap.size + 1 + 1) 3 (.int .i64 0) := by rw [hW0]; exact ((boxed_at (by simp) _ _).alloc _).alloc _
      have d3 : Boxed W0 (w.heap.size + 1 + 1 + 1) 4 (.bool false) := by rw [hW0]; exact (boxed_at (by simp) _ _).alloc _
      have d4 : Boxed W0 (w.heap.size + 1 + 1 + 1 + 1) 24 (.int .i64 2) := by rw [hW0]; exact boxed_at (by simp) _ _
      have hB0 : Below w.heap.size w W0 := by
        rw [hW0]
        exact (((((Below.refl _ w).alloc (Nat.le_refl _) _).alloc (by simp) _).alloc (by simp; omega) _).alloc (by simp; omega) _).alloc (by simp; omega) _
      rw [← hW0]
      clear hW0
      have e2 := d2.frozen
      have e3 := d3.frozen
      have e4 := d4.frozen
      have k2 := d2.cell
      have k3 := d3.cell
      have k4 := d4.cell
      go_region
      go_wp2
      have f2 := (((d2.set (.int .i64 0)).other (B' := w.heap.size + 1 + 1 + 1) (by omega) (.bool false)).other (B' := w.heap.size + 1 + 1 + 1 + 1) (by omega) (.int .i64 2)).cell
      have f3 := (((d3.other (B' := w.heap.size + 1 + 1) (by omega) (.int .i64 0)).set (.bool false)).other (B' := w.heap.size + 1 + 1 + 1 + 1) (by omega) (.int .i64 2)).cell
      have f4 := (((d4.other (B' := w.heap.size + 1 + 1) (by omega) (.int .i64 0)).other (B' := w.heap.size + 1 + 1 + 1) (by omega) (.bool false)).set (.int .i64 2)).cell
      have hB' : Below w.heap.size w _ := ((hB0.setCell (p := ⟨w.heap.size + 1 + 1, 0, none⟩) (by simp only; omega) (.int .i64 0)).setCell (p := ⟨w.heap.size + 1 + 1 + 1, 0, none⟩) (by simp only; omega) (.bool false)).setCell (p := ⟨w.heap.size + 1 + 1 + 1 + 1, 0, none⟩) (by simp only; omega) (.int .i64 2)
      generalize ((W0.setCell ⟨w.heap.size + 1 + 1, 0, none⟩ (.int .i64 0)).setCell ⟨w.heap.size + 1 + 1 + 1, 0, none⟩ (.bool false)).setCell ⟨w.heap.size + 1 + 1 + 1 + 1, 0, none⟩ (.int .i64 2) = V at *
      have g2 : V.drew.cell? ⟨w.heap.size + 1 + 1, 0, none⟩ = _ := f2
      have g3 : V.drew.cell? ⟨w.heap.size + 1 + 1 + 1, 0, none⟩ = _ := f3
      have g4 : V.drew.cell? ⟨w.heap.size + 1 + 1 + 1 + 1, 0, none⟩ = _ := f4
      rw [Exit.noGoto_ret]
      refine bodyPost_ret (results_cell3 rfl _ _ _ ⟨w.heap.size + 1 + 1, 0, none⟩ ⟨w.heap.size + 1 + 1 + 1, 0, none⟩ ⟨w.heap.size + 1 + 1 + 1 + 1, 0, none⟩ (.int .i64 0) (.bool false) (.int .i64 2) rfl rfl rfl (by simp [loadVar, g2, go_sem]) (by simp [loadVar, g3, go_sem]) (by simp [loadVar, g4, go_sem])) rfl ?_
      exact ⟨ret_three (val_int HF.out.1.symm) (val_bool HF.out.2.1.symm) (val_int HF.out.2.2.symm), below_drewN hB' 1⟩
    · have HE := Lib.hid (hits_ok (h := 0) (n := n) hn).2
      have hf : f < 0 ∨ (s.size : Int) < f := by unfold badF at hb; omega
      by_cases hf0 : f < 0
      · skip
        clear hb hn hf
        go_enter Try.func31, Try.ntmps31
        go_wp2
        go_step3
        go_wp2_with fail
        refine (asked34_any s n _ hs).mono ?_
        rintro e w1 ⟨rfl, rfl⟩
        rw [HE.out]
        go_wp2
        obtain ⟨W0, hW0⟩ : ∃ W0, W0 = ((((w.alloc (.cells #[.int .i64 f] 3)).alloc (.cells #[.int .i64 n] 3)).alloc (.cells #[.int .i64 0] 3)).alloc (.cells #[.bool false] 4)).alloc (.cells #[.int .i64 2] 24) := ⟨_, rfl⟩
        have d2 : Boxed W0 (w.heap.size + 1 + 1) 3 (.int .i64 0) := by rw [hW0]; exact ((boxed_at (by simp) _ _).alloc _).alloc _
        have d3 : Boxed W0 (w.heap.size + 1 + 1 + 1) 4 (.bool false) := by rw [hW0]; exact (boxed_at (by simp) _ _).alloc _
        have d4 : Boxed W0 (w.heap.size + 1 + 1 + 1 + 1) 24 (.int .i64 2) := by rw [hW0]; exact boxed_at (by simp) _ _
        have hB0 : Below w.heap.size w W0 := by
          rw [hW0]
          exact (((((Below.refl _ w).alloc (Nat.le_refl _) _).alloc (by simp) _).alloc (by simp; omega) _).alloc (by simp; omega) _).alloc (by simp; omega) _
        rw [← hW0]
        clear hW0
        have e2 := d2.frozen
        have e3 := d3.frozen
        have e4 := d4.frozen
        have k2 := d2.cell
        have k3 := d3.cell
        have k4 := d4.cell
        go_region
        go_wp2
        have f2 := (((d2.set (.int .i64 0)).other (B' := w.heap.size + 1 + 1 + 1) (by omega) (.bool false)).other (B' := w.heap.size + 1 + 1 + 1 + 1) (by omega) (.int .i64 2)).cell
        have f3 := (((d3.other (B' := w.heap.size + 1 + 1) (by omega) (.int .i64 0)).set (.bool false)).other (B' := w.heap.size + 1 + 1 + 1 + 1) (by omega) (.int .i64 2)).cell
        have f4 := (((d4.other (B' := w.heap.size + 1 + 1) (by omega) (.int .i64 0)).other (B' := w.heap.size + 1 + 1 + 1) (by omega) (.bool false)).set (.int .i64 2)).cell
        have hB' : Below w.heap.size w _ := ((hB0.setCell (p := ⟨w.heap.size + 1 + 1, 0, none⟩) (by simp only; omega) (.int .i64 0)).setCell (p := ⟨w.heap.size + 1 + 1 + 1, 0, none⟩) (by simp only; omega) (.bool false)).setCell (p := ⟨w.heap.size + 1 + 1 + 1 + 1, 0, none⟩) (by simp only; omega) (.int .i64 2)
        generalize ((W0.setCell ⟨w.heap.size + 1 + 1, 0, none⟩ (.int .i64 0)).setCell ⟨w.heap.size + 1 + 1 + 1, 0, none⟩ (.bool false)).setCell ⟨w.heap.size + 1 + 1 + 1 + 1, 0, none⟩ (.int .i64 2) = V at *
        have g2 : V.drew.cell? ⟨w.heap.size + 1 + 1, 0, none⟩ = _ := f2
        have g3 : V.drew.cell? ⟨w.heap.size + 1 + 1 + 1, 0, none⟩ = _ := f3
        have g4 : V.drew.cell? ⟨w.heap.size + 1 + 1 + 1 + 1, 0, none⟩ = _ := f4
        rw [Exit.noGoto_ret]
        refine bodyPost_ret (results_cell3 rfl _ _ _ ⟨w.heap.size + 1 + 1, 0, none⟩ ⟨w.heap.size + 1 + 1 + 1, 0, none⟩ ⟨w.heap.size + 1 + 1 + 1 + 1, 0, none⟩ (.int .i64 0) (.bool false) (.int .i64 2) rfl rfl rfl (by simp [loadVar, g2, go_sem]) (by simp [loadVar, g3, go_sem]) (by simp [loadVar, g4, go_sem])) rfl ?_
        exact ⟨ret_three (val_int HF.out.1.symm) (val_bool HF.out.2.1.symm) (val_int HF.out.2.2.symm), below_drewN hB' 1⟩
      · have hf1 : (s.size : Int) < f := by omega
        clear hb hn hf
        go_enter Try.func31, Try.ntmps31
        go_wp2
        go_step3
        go_wp2_with fail
        refine (asked34_any s n _ hs).mono ?_
        rintro e w1 ⟨rfl, rfl⟩
        rw [HE.out]
        go_wp2
        obtain ⟨W0, hW0⟩ : ∃ W0, W0 = ((((w.alloc (.cells #[.int .i64 f] 3)).alloc (.cells #[.int .i64 n] 3)).alloc (.cells #[.int .i64 0] 3)).alloc (.cells #[.bool false] 4)).alloc (.cells #[.int .i64 2] 24) := ⟨_, rfl⟩
        have d2 : Boxed W0 (w.heap.size + 1 + 1) 3 (.int .i64 0) := by rw [hW0]; exact ((boxed_at (by simp) _ _).alloc _).alloc _
        have d3 : Boxed W0 (w.heap.size + 1 + 1 + 1) 4 (.bool false) := by rw [hW0]; exact (boxed_at (by simp) _ _).alloc _
        have d4 : Boxed W0 (w.heap.size + 1 + 1 + 1 + 1) 24 (.int .i64 2) := by rw [hW0]; exact boxed_at (by simp) _ _
        have hB0 : Below w.heap.size w W0 := by
          rw [hW0]
          exact (((((Below.refl _ w).alloc (Nat.le_refl _) _).alloc (by simp) _).alloc (by simp; omega) _).alloc (by simp; omega) _).alloc (by simp; omega) _
        rw [← hW0]
        clear hW0
        have e2 := d2.frozen
        have e3 := d3.frozen
        have e4 := d4.frozen
        have k2 := d2.cell
        have k3 := d3.cell
        have k4 := d4.cell
        go_region
        go_wp2
        have f2 := (((d2.set (.int .i64 0)).other (B' := w.heap.size + 1 + 1 + 1) (by omega) (.bool false)).other (B' := w.heap.size + 1 + 1 + 1 + 1) (by omega) (.int .i64 2)).cell
        have f3 := (((d3.other (B' := w.heap.size + 1 + 1) (by omega) (.int .i64 0)).set (.bool false)).other (B' := w.heap.size + 1 + 1 + 1 + 1) (by omega) (.int .i64 2)).cell
        have f4 := (((d4.other (B' := w.heap.size + 1 + 1) (by omega) (.int .i64 0)).other (B' := w.heap.size + 1 + 1 + 1) (by omega) (.bool false)).set (.int .i64 2)).cell
        have hB' : Below w.heap.size w _ := ((hB0.setCell (p := ⟨w.heap.size + 1 + 1, 0, none⟩) (by simp only; omega) (.int .i64 0)).setCell (p := ⟨w.heap.size + 1 + 1 + 1, 0, none⟩) (by simp only; omega) (.bool false)).setCell (p := ⟨w.heap.size + 1 + 1 + 1 + 1, 0, none⟩) (by simp only; omega) (.int .i64 2)
        generalize ((W0.setCell ⟨w.heap.size + 1 + 1, 0, none⟩ (.int .i64 0)).setCell ⟨w.heap.size + 1 + 1 + 1, 0, none⟩ (.bool false)).setCell ⟨w.heap.size + 1 + 1 + 1 + 1, 0, none⟩ (.int .i64 2) = V at *
        have g2 : V.drew.cell? ⟨w.heap.size + 1 + 1, 0, none⟩ = _ := f2
        have g3 : V.drew.cell? ⟨w.heap.size + 1 + 1 + 1, 0, none⟩ = _ := f3
        have g4 : V.drew.cell? ⟨w.heap.size + 1 + 1 + 1 + 1, 0, none⟩ = _ := f4
        rw [Exit.noGoto_ret]
        refine bodyPost_ret (results_cell3 rfl _ _ _ ⟨w.heap.size + 1 + 1, 0, none⟩ ⟨w.heap.size + 1 + 1 + 1, 0, none⟩ ⟨w.heap.size + 1 + 1 + 1 + 1, 0, none⟩ (.int .i64 0) (.bool false) (.int .i64 2) rfl rfl rfl (by simp [loadVar, g2, go_sem]) (by simp [loadVar, g3, go_sem]) (by simp [loadVar, g4, go_sem])) rfl ?_
        exact ⟨ret_three (val_int HF.out.1.symm) (val_bool HF.out.2.1.symm) (val_int HF.out.2.2.symm), below_drewN hB' 1⟩
  · obtain ⟨k, rfl⟩ : ∃ k : Nat, n = k := ⟨n.toNat, by unfold badF at hb; omega⟩
    have hn : ¬ ((k : Int) < 1 ∨ 32 < (k : Int)) := by unfold badF at hb; omega
    have ho := first_ok hb
    rw [ho.1, ho.2, places_ok s hn]
    refine (callsIn_wide.1 (First_in 6 (Nat.le_refl _) s hs f (by unfold badF at hb; omega) k (by omega) (by omega) w)).mono ?_
    rintro e w' ⟨⟨v, b, rfl, hf⟩, hB⟩
    obtain ⟨rfl, rfl⟩ := firstL_hit hf.out
    exact ⟨rfl, hB⟩

set_option maxHeartbeats 1600000 in
theorem rFirst_any (s : ByteArray) (f n : Int) (w : World) (hs : s.size ≤ 1048576) :
    Calls Try.prog 32 #[.string s, .int .i64 f, .int .i64 n] w fun e w' => e = .returned (.tuple #[.int .i64 ((firstO s f n).getD 0), .bool (firstO s f n).isSome, .int .i64 (firstE s f n)]) ∧ Below w.heap.size w w' := by
  by_cases hb : badF s f n
  · have HF := Lib.hid (first_bad hb)
    by_cases hn : n < 1 ∨ 32 < n
    · have HE := Lib.hid (hits_bad (h := 0) hn).2
      clear hb hn
      go_enter Try.func32, Try.ntmps32
      go_wp2_with fail
      refine (rPlaces_any s n _ hs).mono ?_
      rintro e w1 ⟨A, c, rfl, _, hB⟩
      rw [HE.out]
      go_wp2
      go_ret3
      exact ⟨ret_three (val_int HF.out.1.symm) (val_bool HF.out.2.1.symm) (val_int HF.out.2.2.symm), hB⟩
    · have HE := Lib.hid (hits_ok (h := 0) (n := n) hn).2
      have hf : f < 0 ∨ (s.size : Int) < f := by unfold badF at hb; omega
      clear hb hn
      by_cases hf0 : f < 0
      · go_enter Try.func32, Try.ntmps32
        go_wp2_with fail
        refine (rPlaces_any s n _ hs).mono ?_
        rintro e w1 ⟨A, c, rfl, _, hB⟩
        rw [HE.out]
        go_wp2
        go_ret3
        exact ⟨ret_three (val_int HF.out.1.symm) (val_bool HF.out.2.1.symm) (val_int HF.out.2.2.symm), hB⟩
      · have hf1 : (s.size : Int) < f := by omega
        go_enter Try.func32, Try.ntmps32
        go_wp2_with fail
        refine (rPlaces_any s n _ hs).mono ?_
        rintro e w1 ⟨A, c, rfl, _, hB⟩
        rw [HE.out]
        go_wp2
        go_ret3
        exact ⟨ret_three (val_int HF.out.1.symm) (val_bool HF.out.2.1.symm) (val_int HF.out.2.2.symm), hB⟩
  · have hn : ¬ (n < 1 ∨ 32 < n) := by unfold badF at hb; omega
    have HE := Lib.hid (hits_ok (h := 0) (n := n) hn).2
    have hf0 : ¬ f < 0 := by unfold badF at hb; omega
    have hf1 : ¬ (s.size : Int) < f := by unfold badF at hb; omega
    have ho := first_ok hb
    rw [ho.1, ho.2]
    have hl := places_len s n
    clear ho hb hn
    go_enter Try.func32, Try.ntmps32
    go_wp2_with fail
    refine (rPlaces_any s n _ hs).mono ?_
    rintro e w1 ⟨A, c, rfl, hsA, hB⟩
    rw [HE.out]
    generalize hps : placesV s n = ps at *
    have HPS := Lib.hid hps
    clear hps
    go_wp2
    go_loop [11] (fun i => ∃ j : Nat, j ≤ ps.length ∧ i = .int .i64 j ∧ Hid (firstL (ps.take j) f = none)) (fun i => ps.length - (intOf i).toNat)
    case atStart => exact ⟨0, Nat.zero_le _, rfl, rfl⟩
    case round =>
      obtain ⟨j, hj, rfl, hno⟩ := hrel
      by_cases hlt : j < ps.length
      · obtain ⟨b, off, x, rfl, hx, hcx⟩ := hsA.get hlt
        have g1 : (0 : Int) ≤ (j : Int) := by omega
        have g2 : (j : Int) < (ps.length : Int) := by omega
        by_cases hfx : f ≤ x
        · have HV := Lib.hid (firstL_hit_at hx hno.out hfx)
          clear hx
          go_wp2
          go_ret3
          rw [HPS.out, HV.out]
          exact ⟨rfl, hB⟩
        · have HV := Lib.hid (firstL_step hx hno.out hfx)
          clear hx
          go_wp2
          go_round
          case rel => exact ⟨j + 1, by omega, by go_num, HV⟩
          case measure => simp [intOf]; omega
      · obtain rfl : j = ps.length := by omega
        have HV : Hid (firstL ps f = none) := by have := hno.out; rw [List.take_length] at this; exact this
        go_wp2
        go_ret3
        rw [HPS.out, HV.out]
        exact ⟨rfl, hB⟩

end Go.Proofs.Ytaofphifmgadjaa
