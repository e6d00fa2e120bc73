/-
  The contracts of roll.Places and its reference.
-/
import Derived.Test.YtaofphifmgadjaaRollPlaces
namespace Go.Proofs.Ytaofphifmgadjaa
open Go.RowKit Go.Shelf
set_option linter.unusedVariables false
set_option maxRecDepth 100000

/-- The places that hit. -/
def placesV (s : ByteArray) (n : Int) : List Int := if n < 1 ∨ 32 < n then [] else hitAt s n.toNat (List.range (s.size - 15))
theorem places_bad (s : ByteArray) {n : Int} (h : n < 1 ∨ 32 < n) : placesV s n = [] := if_pos h
theorem places_ok (s : ByteArray) {n : Nat} (h : ¬ ((n : Int) < 1 ∨ 32 < (n : Int))) : placesV s n = hitAt s n (List.range (s.size - 15)) := if_neg h
theorem places_len (s : ByteArray) (n : Int) : (placesV s n).length ≤ s.size := by
  unfold placesV
  split
  · simp
  · exact Nat.le_trans (hitAt_len _ _ _) (by rw [List.length_range]; omega)

theorem Places_any (s : ByteArray) (n : Int) (w : World) (hs : s.size ≤ 1048576) :
    Calls Try.prog 28 #[.string s, .int .i64 n] w fun e w' => ∃ A c, e = .returned (.tuple #[.slice A (placesV s n).length c, .int .i64 (hitsE n)]) ∧ SliceAt .i64 w' w'.heap.size A (placesV s n) ∧ Below w.heap.size w w' := by
  by_cases hb : n < 1 ∨ 32 < n
  · have HE := Lib.hid (hits_bad (h := 0) hb).2
    have HP := Lib.hid (places_bad s hb)
    clear hb
    go_enter Try.func28, Try.ntmps28
    go_wp2_with fail
    refine (asked34_any s n _ hs).mono ?_
    rintro e w1 ⟨rfl, rfl⟩
    rw [HE.out]
    go_wp2_with fail
    go_ret2
    rw [HP.out]
    exact ⟨none, 0, ret_two rfl (val_int HE.out.symm), SliceAt.nil_, (Below.refl _ _).alloc (Nat.le_refl _) _⟩
  · obtain ⟨k, rfl⟩ : ∃ k : Nat, n = k := ⟨n.toNat, by omega⟩
    refine (callsIn_wide.1 (Places_in 6 (Nat.le_refl _) s hs k (by omega) (by omega) w)).mono ?_
    rintro e w' ⟨v, rfl, hown, hB⟩
    obtain ⟨A, c, rfl⟩ := owns_slice hown
    rw [places_ok s hb, (hits_ok (h := 0) hb).2]
    exact ⟨A, c, rfl, SliceAt.of_own hown, hB⟩

set_option maxHeartbeats 1600000 in
theorem rPlaces_any (s : ByteArray) (n : Int) (w : World) (hs : s.size ≤ 1048576) :
    Calls Try.prog 29 #[.string s, .int .i64 n] w fun e w' => ∃ A c, e = .returned (.tuple #[.slice A (placesV s n).length c, .int .i64 (hitsE n)]) ∧ SliceAt .i64 w' w'.heap.size A (placesV s n) ∧ Below w.heap.size w w' := by
  by_cases hb : n < 1 ∨ 32 < n
  · have HE := Lib.hid (hits_bad (h := 0) hb)
    have HP := Lib.hid (places_bad s hb)
    clear hb
    go_enter Try.func29, Try.ntmps29
    go_wp2_with fail
    refine (rHits_any 0 n _ (by omega)).mono ?_
    rintro e w1 ⟨rfl, rfl⟩
    rw [HE.out.2]
    go_wp2_with fail
    go_ret2
    rw [HP.out]
    exact ⟨none, 0, ret_two rfl (val_int HE.out.2.symm), SliceAt.nil_, Below.refl _ _⟩
  · obtain ⟨k, rfl⟩ : ∃ k : Nat, n = k := ⟨n.toNat, by omega⟩
    have hk1 : 1 ≤ k := by omega
    have hk2 : k ≤ 32 := by omega
    have HE : ∀ h, Hid (hitsV h k = hitB h k ∧ hitsE k = 0) := fun h => hits_ok (h := h) hb
    have HP := Lib.hid (places_ok s hb)
    have HL := Lib.hid (winsAll_len s)
    have HG := Lib.hid (winsAll_get s)
    obtain ⟨i0, hi, hz0, hz1, hz2⟩ := info_parts Try.infoInt
    clear hb
    go_enter Try.func29, Try.ntmps29
    go_wp2_with fail
    refine (rHits_any 0 k _ (by omega)).mono ?_
    rintro e w1 ⟨rfl, rfl⟩
    rw [(HE 0).out.2]
    go_wp2_with fail
    refine (rAll_any s _ hs).mono ?_
    rintro e w2 ⟨A, c, rfl, hsA, hB⟩
    go_wp2_with fail
    go_loopw [9, 10] (fun v i wr => ∃ j : Nat, j ≤ s.size - 15 ∧ i = .int .i64 j ∧ wr.ownsRow w2.heap.size 3 1 v (hitAt s k (List.range j)).length ((hitAt s k (List.range j)).map (Value.int .i64)) ∧ Below w2.heap.size w2 wr) (fun _ i _ => s.size - (intOf i).toNat)
    case atStart => exact ⟨0, Nat.zero_le _, rfl, World.ownsRow_nil _ _ _ _, Below.refl _ _⟩
    case round =>
      obtain ⟨j, hj, rfl, hown, hB2⟩ := hrel
      obtain ⟨A1, c1, rfl⟩ := owns_slice hown
      by_cases hlt : j < s.size - 15
      · have hle : (hitAt s k (List.range j)).length ≤ 1048576 := by have := hitAt_len s k (List.range j); rw [List.length_range] at this; omega
        have hlen := HL.out
        obtain ⟨b1, off, x, rfl, hx, hcx⟩ := (hsA.below hB2).get (show j < (winsAll s).length by omega)
        rw [HG.out j hlt] at hx
        injection hx with hx
        subst hx
        have g1 : (0 : Int) ≤ (j : Int) := by omega
        have g2 : (j : Int) < ((winsAll s).length : Int) := by omega
        have HEj := HE (winH s j)
        have hwl := winH_lo s j
        clear hlen
        cases hh : hitB (winH s j) k with
        | true =>
          have HS : Hid (hitAt s k (List.range (j + 1)) = hitAt s k (List.range j) ++ [16 + (j : Int)]) := by rw [List.range_succ]; exact hitAt_yes s k _ j hh
          have HH := Lib.hid hh
          clear hh
          generalize winH s j = H at *
          go_wp2_with fail
          refine (rHits_any H k _ hwl).mono ?_
          rintro e w3 ⟨rfl, rfl⟩
          rw [HEj.out.1, HEj.out.2, HH.out]
          go_wp2_with (at_builtin; refine wpList_append_own _ rfl _ _ 41 rfl w2.heap.size 3 i0 (.int .i64 0) 1 8 Try.underlying41 hi hz0 hz1 hz2 rfl (by decide) _ _ _ rfl (hown.alloc _) ⟨wr.heap.size, 0, none⟩ 1 1 [.int .i64 ((j : Int) + 16)] rfl rfl (cell_one_new _ _ _) (by simp [Value.oneCell']) (by simp only [maxLen]; omega) (by omega) (by have := hB2.size; simp; omega) ?_; intro v' w1 hown' hgrow _; obtain ⟨A', c', rfl⟩ := owns_slice hown')
          have hB' : Below w2.heap.size w2 w1 := (hB2.alloc hB2.size _).grown hgrow (by have := hB2.size; simp; omega) (fun x hx => (hown.lt x hx).1)
          clear hgrow hown
          go_roundw
          case rel => exact ⟨j + 1, by omega, by go_num, by rw [HS.out, show (16 : Int) + (j : Int) = (j : Int) + 16 from Int.add_comm _ _]; simpa using hown', hB'⟩
          case measure => simp [intOf]; omega
        | false =>
          have HS : Hid (hitAt s k (List.range (j + 1)) = hitAt s k (List.range j)) := by rw [List.range_succ]; exact hitAt_no s k _ j hh
          have HH := Lib.hid hh
          clear hh
          generalize winH s j = H at *
          go_wp2_with fail
          refine (rHits_any H k _ hwl).mono ?_
          rintro e w3 ⟨rfl, rfl⟩
          rw [HEj.out.1, HEj.out.2, HH.out]
          go_wp2
          go_roundw
          case rel => exact ⟨j + 1, by omega, by go_num, by rw [HS.out]; exact hown, hB2⟩
          case measure => simp [intOf]; omega
      · obtain rfl : j = s.size - 15 := by omega
        have hge : ¬ (s.size - 15 < (winsAll s).length) := by have := HL.out; omega
        go_wp2
        go_ret2
        rw [HP.out]
        exact ⟨A1, c1, ret_two rfl (val_int (HE 0).out.2.symm), SliceAt.of_own hown, below_then hB hB2⟩

end Go.Proofs.Ytaofphifmgadjaa
