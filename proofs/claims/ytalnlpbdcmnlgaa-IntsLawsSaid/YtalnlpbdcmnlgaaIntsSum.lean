/-
  The walks of ints.Plus, Sum, Times and of their references.
-/
import Derived.Test.YtalnlpbdcmnlgaaRows
import Derived.Test.YtalnlpbdcmnlgaaCommon
import Derived.Test.YtalnlpbdcmnlgaaSlices
import Derived.WalkLawsBesides
namespace Go.Proofs.Ytalnlpbdcmnlgaa
open Go.RowKit
set_option linter.unusedVariables false

/-- s and the numbers of a list, as long as each number and each sum is from 0 to 2^40. -/
def addUp (s : Int) : List Int → Option Int
  | [] => some s
  | x :: l => if x < 0 ∨ 1099511627776 < x ∨ 1099511627776 - x < s then none else addUp (s + x) l

/-- The sum of a list, and its error. -/
def sumV (xs : List Int) : Int := (addUp 0 xs).getD 0
def sumE (xs : List Int) : Int := if (addUp 0 xs).isSome then 0 else 2

theorem addUp_drop {xs : List Int} {j : Nat} {x : Int} (s : Int) (h : xs[j]? = some x) :
    addUp s (xs.drop j) = if x < 0 ∨ 1099511627776 < x ∨ 1099511627776 - x < s then none else addUp (s + x) (xs.drop (j + 1)) := by
  have hj : j < xs.length := by
    rcases Nat.lt_or_ge j xs.length with h' | h'
    · exact h'
    · rw [List.getElem?_eq_none h'] at h; cases h
  have hx : xs[j] = x := by rw [List.getElem?_eq_getElem hj] at h; injection h
  rw [List.drop_eq_getElem_cons hj, hx]
  rfl

theorem sum_none {xs : List Int} (h : addUp 0 xs = none) : sumV xs = 0 ∧ sumE xs = 2 := by simp [sumV, sumE, h]
theorem sum_some {xs : List Int} {s : Int} (h : addUp 0 xs = some s) : sumV xs = s ∧ sumE xs = 0 := by simp [sumV, sumE, h]

theorem ret_sum {s e s' e' : Int} (h : s' = s ∧ e' = e) : Ending.returned (.tuple #[.int .i64 s, .int .i64 e]) = .returned (.tuple #[.int .i64 s', .int .i64 e']) := by
  obtain ⟨rfl, rfl⟩ := h; rfl

set_option maxHeartbeats 800000 in
theorem added_any (A : Option Addr) (xs : List Int) (c B : Nat) (w : World) (h : SliceAt .i64 w B A xs) (hl : xs.length ≤ 9223372036854775807) :
    Calls Try.prog 35 #[.slice A xs.length c] w fun e w' => e = .returned (.tuple #[.int .i64 (sumV xs), .int .i64 (sumE xs)]) ∧ w = w' := by
  go_enter Try.func35, Try.ntmps35
  go_wp2
  go_loop [4, 9] (fun t i => ∃ (j : Nat) (s : Int), j ≤ xs.length ∧ i = .int .i64 j ∧ t = .int .i64 s ∧ 0 ≤ s ∧ s ≤ 1099511627776 ∧ Hid (addUp 0 xs = addUp s (xs.drop j))) (fun _ i => xs.length - (intOf i).toNat)
  case atStart => exact ⟨0, 0, Nat.zero_le _, rfl, rfl, by omega, by omega, rfl⟩
  case round =>
    obtain ⟨j, s, hj, rfl, rfl, hs0, hs1, HS⟩ := hrel
    by_cases hlt : j < xs.length
    · obtain ⟨b, off, x, rfl, hx, hc⟩ := h.get hlt
      have HX := Lib.hid (addUp_drop s hx)
      clear hx h
      by_cases c1 : x < 0
      · have c2 : ¬ 1099511627776 < x := by omega
        have HR := Lib.hid (sum_none (xs := xs) (by rw [HS.out, HX.out, if_pos (by omega)]))
        go_wp2
        go_ret2
        exact ⟨ret_sum HR.out, rfl⟩
      · by_cases c2 : 1099511627776 < x
        · have HR := Lib.hid (sum_none (xs := xs) (by rw [HS.out, HX.out, if_pos (by omega)]))
          go_wp2
          go_ret2
          exact ⟨ret_sum HR.out, rfl⟩
        · by_cases c3 : 1099511627776 - x < s
          · have HR := Lib.hid (sum_none (xs := xs) (by rw [HS.out, HX.out, if_pos (by omega)]))
            go_wp2
            go_ret2
            exact ⟨ret_sum HR.out, rfl⟩
          · go_wp2
            go_round
            case rel => exact ⟨j + 1, s + x, by omega, by go_num, rfl, by omega, by omega, by rw [HS.out, HX.out, if_neg (by omega)]; rfl⟩
            case measure => simp [intOf]; omega
    · have HR := Lib.hid (sum_some (xs := xs) (s := s) (by rw [HS.out, List.drop_of_length_le (by omega)]; rfl))
      go_wp2
      go_ret2
      exact ⟨ret_sum HR.out, rfl⟩

theorem Sum_any (A : Option Addr) (xs : List Int) (c B : Nat) (w : World) (h : SliceAt .i64 w B A xs) (hl : xs.length ≤ 9223372036854775807) :
    Calls Try.prog 20 #[.slice A xs.length c] w fun e w' => e = .returned (.tuple #[.int .i64 (sumV xs), .int .i64 (sumE xs)]) ∧ w = w' := by
  go_enter Try.func20, Try.ntmps20
  go_wp2_with (go_at_call 35; refine (added_any A xs c B _ h hl).mono ?_; rintro e w' ⟨rfl, rfl⟩)
  go_ret2
  exact ⟨rfl, rfl⟩

theorem Plus_any (x y : Int) (w : World) :
    Calls Try.prog 16 #[.int .i64 x, .int .i64 y] w fun e w' => e = .returned (.tuple #[.int .i64 (sumV [x, y]), .int .i64 (sumE [x, y])]) ∧ Below w.heap.size w w' := by
  have h : SliceAt .i64 (w.alloc (.cells #[.int .i64 x, .int .i64 y] 3)) (w.heap.size + 1) (some ⟨w.heap.size, 0, none⟩) [x, y] := by
    refine .inr ⟨_, _, rfl, by omega, fun i z hz => ?_⟩
    rw [World.cell?_alloc_at _ _ _ _ rfl, Nat.zero_add]
    rcases i with _ | _ | i
    · simpa using hz
    · simpa using hz
    · simp at hz
  go_enter Try.func16, Try.ntmps16
  go_wp2_with (go_at_call 35; refine (added_any _ [x, y] 2 _ _ h (by simp)).mono ?_; rintro e w' ⟨rfl, rfl⟩)
  go_ret2
  exact ⟨rfl, (Below.refl _ _).alloc (Nat.le_refl _) _⟩

/-- Whether a number is from 0 to 2^40. -/
def bnd (n : Int) : Bool := decide (0 ≤ n) && decide (n ≤ 1099511627776)

theorem bnd_yes {n : Int} (h : 0 ≤ n ∧ n ≤ 1099511627776) : bnd n = true := by simp [bnd, h.1, h.2]
theorem bnd_no {n : Int} (h : ¬ (0 ≤ n ∧ n ≤ 1099511627776)) : bnd n = false := by
  simp only [bnd, Bool.and_eq_false_iff, decide_eq_false_iff_not]; omega

theorem bounded_any (n : Int) (w : World) :
    Calls Try.prog 36 #[.int .i64 n] w fun e w' => e = .returned (.bool (bnd n)) ∧ w = w' := by
  go_enter Try.func36, Try.ntmps36
  by_cases h1 : 0 ≤ n
  · by_cases h2 : n ≤ 1099511627776
    · go_wp2
      go_ret
      exact ⟨ret_bool (bnd_yes ⟨h1, h2⟩).symm, rfl⟩
    · go_wp2
      go_ret
      exact ⟨ret_bool (bnd_no (by omega)).symm, rfl⟩
  · go_wp2
    go_ret
    exact ⟨ret_bool (bnd_no (by omega)).symm, rfl⟩

/-- The sum of two numbers, or which error: one condition. -/
theorem plus_ok {x y : Int} (h : 0 ≤ x ∧ x ≤ 1099511627776 ∧ 0 ≤ y ∧ y ≤ 1099511627776 ∧ x + y ≤ 1099511627776) : sumV [x, y] = x + y ∧ sumE [x, y] = 0 := by
  apply sum_some
  simp only [addUp]
  rw [if_neg (by omega), if_neg (by omega), Int.zero_add]
theorem plus_bad {x y : Int} (h : ¬ (0 ≤ x ∧ x ≤ 1099511627776 ∧ 0 ≤ y ∧ y ≤ 1099511627776 ∧ x + y ≤ 1099511627776)) : sumV [x, y] = 0 ∧ sumE [x, y] = 2 := by
  apply sum_none
  simp only [addUp]
  split
  · rfl
  · rw [if_pos (by omega)]

set_option maxHeartbeats 800000 in
theorem rPlus_any (x y : Int) (w : World) :
    Calls Try.prog 17 #[.int .i64 x, .int .i64 y] w fun e w' => e = .returned (.tuple #[.int .i64 (sumV [x, y]), .int .i64 (sumE [x, y])]) ∧ w = w' := by
  by_cases c1 : 0 ≤ x ∧ x ≤ 1099511627776
  · have b1 := bnd_yes c1
    by_cases c2 : 0 ≤ y ∧ y ≤ 1099511627776
    · have b2 := bnd_yes c2
      by_cases c3 : x + y ≤ 1099511627776
      · have b3 := bnd_yes (n := x + y) ⟨by omega, c3⟩
        have HR := Lib.hid (plus_ok (x := x) (y := y) (by omega))
        go_enter Try.func17, Try.ntmps17
        go_wp2_with (go_at_call 36; refine (bounded_any _ _).mono ?_; rintro e w' ⟨rfl, rfl⟩)
        go_ret2
        exact ⟨ret_sum HR.out, rfl⟩
      · have b3 := bnd_no (n := x + y) (by omega)
        have HR := Lib.hid (plus_bad (x := x) (y := y) (by omega))
        go_enter Try.func17, Try.ntmps17
        go_wp2_with (go_at_call 36; refine (bounded_any _ _).mono ?_; rintro e w' ⟨rfl, rfl⟩)
        go_ret2
        exact ⟨ret_sum HR.out, rfl⟩
    · have b2 := bnd_no c2
      have HR := Lib.hid (plus_bad (x := x) (y := y) (by omega))
      clear c2
      go_enter Try.func17, Try.ntmps17
      go_wp2_with (go_at_call 36; refine (bounded_any _ _).mono ?_; rintro e w' ⟨rfl, rfl⟩)
      go_ret2
      exact ⟨ret_sum HR.out, rfl⟩
  · have b1 := bnd_no c1
    have HR := Lib.hid (plus_bad (x := x) (y := y) (by omega))
    clear c1
    go_enter Try.func17, Try.ntmps17
    go_wp2_with (go_at_call 36; refine (bounded_any _ _).mono ?_; rintro e w' ⟨rfl, rfl⟩)
    go_ret2
    exact ⟨ret_sum HR.out, rfl⟩

set_option maxHeartbeats 800000 in
theorem rSum_any (A : Option Addr) (xs : List Int) (c B : Nat) (w : World) (h : SliceAt .i64 w B A xs) (hl : xs.length ≤ 9223372036854775807) :
    Calls Try.prog 21 #[.slice A xs.length c] w fun e w' => e = .returned (.tuple #[.int .i64 (sumV xs), .int .i64 (sumE xs)]) ∧ w = w' := by
  go_enter Try.func21, Try.ntmps21
  go_wp2
  go_loop [4, 5] (fun t i => ∃ (j : Nat) (s : Int), j ≤ xs.length ∧ i = .int .i64 j ∧ t = .int .i64 s ∧ 0 ≤ s ∧ s ≤ 1099511627776 ∧ Hid (addUp 0 xs = addUp s (xs.drop j))) (fun _ i => xs.length - (intOf i).toNat)
  case atStart => exact ⟨0, 0, Nat.zero_le _, rfl, rfl, by omega, by omega, rfl⟩
  case round =>
    obtain ⟨j, s, hj, rfl, rfl, hs0, hs1, HS⟩ := hrel
    by_cases hlt : j < xs.length
    · obtain ⟨b, off, x, rfl, hx, hc⟩ := h.get hlt
      have HX := Lib.hid (addUp_drop s hx)
      clear hx h
      by_cases c1 : 0 ≤ x ∧ x ≤ 1099511627776 ∧ s + x ≤ 1099511627776
      · have HP := Lib.hid (plus_ok (x := s) (y := x) (by omega))
        go_wp2_with (go_at_call 17; refine (rPlus_any s x _).mono ?_; rintro e w' ⟨rfl, rfl⟩; rw [HP.out.1, HP.out.2])
        go_round
        case rel => exact ⟨j + 1, s + x, by omega, by go_num, rfl, by omega, by omega, by rw [HS.out, HX.out, if_neg (by omega)]; rfl⟩
        case measure => simp [intOf]; omega
      · have HP := Lib.hid (plus_bad (x := s) (y := x) (by omega))
        have HR := Lib.hid (sum_none (xs := xs) (by rw [HS.out, HX.out, if_pos (by omega)]))
        clear c1
        go_wp2_with (go_at_call 17; refine (rPlus_any s x _).mono ?_; rintro e w' ⟨rfl, rfl⟩; rw [HP.out.1, HP.out.2])
        go_ret2
        exact ⟨ret_sum HR.out, rfl⟩
    · have HR := Lib.hid (sum_some (xs := xs) (s := s) (by rw [HS.out, List.drop_of_length_le (by omega)]; rfl))
      go_wp2
      go_ret2
      exact ⟨ret_sum HR.out, rfl⟩

/-- The product of two numbers, and its error. -/
def timesV (x y : Int) : Int := if 0 ≤ x ∧ x ≤ 1099511627776 ∧ 0 ≤ y ∧ y ≤ 1099511627776 ∧ x * y ≤ 1099511627776 then x * y else 0
def timesE (x y : Int) : Int := if 0 ≤ x ∧ x ≤ 1099511627776 ∧ 0 ≤ y ∧ y ≤ 1099511627776 ∧ x * y ≤ 1099511627776 then 0 else 2

theorem times_ok {x y : Int} (h : 0 ≤ x ∧ x ≤ 1099511627776 ∧ 0 ≤ y ∧ y ≤ 1099511627776 ∧ x * y ≤ 1099511627776) : timesV x y = x * y ∧ timesE x y = 0 := by
  unfold timesV timesE; rw [if_pos h, if_pos h]; exact ⟨rfl, rfl⟩
theorem times_bad {x y : Int} (h : ¬ (0 ≤ x ∧ x ≤ 1099511627776 ∧ 0 ≤ y ∧ y ≤ 1099511627776 ∧ x * y ≤ 1099511627776)) : timesV x y = 0 ∧ timesE x y = 2 := by
  unfold timesV timesE; rw [if_neg h, if_neg h]; exact ⟨rfl, rfl⟩

theorem over_iff {x y : Int} (hy : 0 < y) : 1099511627776 / y < x ↔ ¬ x * y ≤ 1099511627776 := by
  rw [← Int.le_ediv_iff_mul_le hy]; omega

set_option maxHeartbeats 1600000 in
theorem Times_any (x y : Int) (w : World) (hx0 : -9223372036854775808 ≤ x) (hy0 : -9223372036854775808 ≤ y) :
    Calls Try.prog 18 #[.int .i64 x, .int .i64 y] w fun e w' => e = .returned (.tuple #[.int .i64 (timesV x y), .int .i64 (timesE x y)]) ∧ w = w' := by
  by_cases c1 : x < 0
  · have HR := Lib.hid (times_bad (x := x) (y := y) (by omega))
    have c2 : ¬ 1099511627776 < x := by omega
    go_enter Try.func18, Try.ntmps18
    go_wp2
    go_ret2
    exact ⟨ret_sum HR.out, rfl⟩
  by_cases c2 : 1099511627776 < x
  · have HR := Lib.hid (times_bad (x := x) (y := y) (by omega))
    go_enter Try.func18, Try.ntmps18
    go_wp2
    go_ret2
    exact ⟨ret_sum HR.out, rfl⟩
  by_cases c3 : y < 0
  · have HR := Lib.hid (times_bad (x := x) (y := y) (by omega))
    have c4 : ¬ 1099511627776 < y := by omega
    go_enter Try.func18, Try.ntmps18
    go_wp2
    go_ret2
    exact ⟨ret_sum HR.out, rfl⟩
  by_cases c4 : 1099511627776 < y
  · have HR := Lib.hid (times_bad (x := x) (y := y) (by omega))
    go_enter Try.func18, Try.ntmps18
    go_wp2
    go_ret2
    exact ⟨ret_sum HR.out, rfl⟩
  by_cases c5 : 0 < y
  · have ho := over_iff (x := x) c5
    have hm : 0 ≤ x * y := Int.mul_nonneg (by omega) (by omega)
    by_cases c6 : x * y ≤ 1099511627776
    · have c7 : ¬ 1099511627776 / y < x := fun h => ho.1 h c6
      have HR := Lib.hid (times_ok (x := x) (y := y) ⟨by omega, by omega, by omega, by omega, c6⟩)
      clear ho
      go_enter Try.func18, Try.ntmps18
      go_wp2
      go_ret2
      exact ⟨ret_sum HR.out, rfl⟩
    · have c7 : 1099511627776 / y < x := ho.2 c6
      have HR := Lib.hid (times_bad (x := x) (y := y) (fun h => c6 h.2.2.2.2))
      clear ho c6
      go_enter Try.func18, Try.ntmps18
      go_wp2
      go_ret2
      exact ⟨ret_sum HR.out, rfl⟩
  · obtain rfl : y = 0 := by omega
    have HR := Lib.hid (times_ok (x := x) (y := 0) ⟨by omega, by omega, by omega, by omega, by simp⟩)
    clear c3 c4 c5 hy0
    go_enter Try.func18, Try.ntmps18
    go_wp2
    go_ret2
    exact ⟨ret_sum (by rw [Int.mul_zero] at HR; exact HR.out), rfl⟩

set_option maxHeartbeats 1600000 in
theorem rTimes_any (x y : Int) (w : World) :
    Calls Try.prog 19 #[.int .i64 x, .int .i64 y] w fun e w' => e = .returned (.tuple #[.int .i64 (timesV x y), .int .i64 (timesE x y)]) ∧ w = w' := by
  by_cases c1 : 0 ≤ x ∧ x ≤ 1099511627776
  · have b1 := bnd_yes c1
    by_cases c2 : 0 ≤ y ∧ y ≤ 1099511627776
    · have b2 := bnd_yes c2
      have hm : 0 ≤ x * y := Int.mul_nonneg (by omega) (by omega)
      by_cases c5 : 0 < x
      · have ho := over_iff (x := y) c5
        rw [Int.mul_comm y x] at ho
        by_cases c6 : x * y ≤ 1099511627776
        · have c7 : ¬ 1099511627776 / x < y := fun h => ho.1 h c6
          have HR := Lib.hid (times_ok (x := x) (y := y) ⟨by omega, by omega, by omega, by omega, c6⟩)
          clear ho
          go_enter Try.func19, Try.ntmps19
          go_wp2_with (go_at_call 36; refine (bounded_any _ _).mono ?_; rintro e w' ⟨rfl, rfl⟩)
          go_ret2
          exact ⟨ret_sum HR.out, rfl⟩
        · have c7 : 1099511627776 / x < y := ho.2 c6
          have HR := Lib.hid (times_bad (x := x) (y := y) (fun h => c6 h.2.2.2.2))
          clear ho c6
          go_enter Try.func19, Try.ntmps19
          go_wp2_with (go_at_call 36; refine (bounded_any _ _).mono ?_; rintro e w' ⟨rfl, rfl⟩)
          go_ret2
          exact ⟨ret_sum HR.out, rfl⟩
      · obtain rfl : x = 0 := by omega
        have HR := Lib.hid (times_ok (x := 0) (y := y) ⟨by omega, by omega, by omega, by omega, by simp⟩)
        clear c1 c5
        go_enter Try.func19, Try.ntmps19
        go_wp2_with (go_at_call 36; refine (bounded_any _ _).mono ?_; rintro e w' ⟨rfl, rfl⟩)
        go_ret2
        exact ⟨ret_sum (by rw [Int.zero_mul] at HR; exact HR.out), rfl⟩
    · have b2 := bnd_no c2
      have HR := Lib.hid (times_bad (x := x) (y := y) (by omega))
      clear c2
      go_enter Try.func19, Try.ntmps19
      go_wp2_with (go_at_call 36; refine (bounded_any _ _).mono ?_; rintro e w' ⟨rfl, rfl⟩)
      go_ret2
      exact ⟨ret_sum HR.out, rfl⟩
  · have b1 := bnd_no c1
    have HR := Lib.hid (times_bad (x := x) (y := y) (by omega))
    clear c1
    go_enter Try.func19, Try.ntmps19
    go_wp2_with (go_at_call 36; refine (bounded_any _ _).mono ?_; rintro e w' ⟨rfl, rfl⟩)
    go_ret2
    exact ⟨ret_sum HR.out, rfl⟩

end Go.Proofs.Ytalnlpbdcmnlgaa
