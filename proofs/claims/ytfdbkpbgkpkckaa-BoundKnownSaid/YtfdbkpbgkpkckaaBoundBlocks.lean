/-
  The walks of bound.opened, block.many and bound.Blocks.
-/
import Derived.Test.YtfdbkpbgkpkckaaBoundSteps
import Derived.Test.YtfdbkpbgkpkckaaParamsBlock
import Derived.RangeFuncBox
namespace Go.Proofs.Ytfdbkpbgkpkckaa
open Go.RowKit
set_option linter.unusedVariables false
set_option maxRecDepth 100000

/-- The greatest length of a block. -/
def blkV (wd : Int) : Int := min (2 ^ wd.toNat) 131072
theorem blkV_lo (wd : Int) (h : 10 ≤ wd ∧ wd ≤ 27) : 1024 ≤ blkV wd ∧ blkV wd ≤ 131072 := by
  have : (2 : Int) ^ 10 ≤ 2 ^ wd.toNat := par_pow (by omega)
  unfold blkV
  omega

set_option maxHeartbeats 800000 in
theorem opened_ok (l wd jb ov : Int) (sy ck : Bool) (w : World) (h : ¬ parBad l wd jb ov) :
    Calls Try.prog 51 #[parV l wd jb ov sy ck] w fun e w' => e = .returned (.tuple #[.agg #[.int .i64 (blkV wd)], .int .i64 0]) ∧ Below w.heap.size w w' := by
  have HE : Hid (parE l wd jb ov = 0) := by unfold parE; rw [if_neg h]; rfl
  have HC := Lib.hid (fun W => Check_any l wd jb ov sy ck W)
  have HB := Lib.hid (fun W => Block_ok l wd jb ov sy ck W h)
  clear h
  unfold parV at *
  go_enter Try.func51, Try.ntmps51
  go_wp2_with fail
  refine (HC.out _).mono ?_
  rintro e w1 ⟨rfl, hB⟩
  rw [HE.out]
  have p0 : w1.cell? ⟨w.heap.size, 0, none⟩ = some (.int .i64 l) := (hB.cell (p := ⟨w.heap.size, 0, none⟩) (by simp; omega)).trans ((World.cell?_alloc_lt _ _ _ (by simp)).trans (World.cell?_alloc_at _ _ _ _ rfl))
  have p1 : w1.cell? ⟨w.heap.size, 1, none⟩ = some (.int .i64 wd) := (hB.cell (p := ⟨w.heap.size, 1, none⟩) (by simp; omega)).trans ((World.cell?_alloc_lt _ _ _ (by simp)).trans (World.cell?_alloc_at _ _ _ _ rfl))
  have p2 : w1.cell? ⟨w.heap.size, 2, none⟩ = some (.int .i64 jb) := (hB.cell (p := ⟨w.heap.size, 2, none⟩) (by simp; omega)).trans ((World.cell?_alloc_lt _ _ _ (by simp)).trans (World.cell?_alloc_at _ _ _ _ rfl))
  have p3 : w1.cell? ⟨w.heap.size, 3, none⟩ = some (.int .i64 ov) := (hB.cell (p := ⟨w.heap.size, 3, none⟩) (by simp; omega)).trans ((World.cell?_alloc_lt _ _ _ (by simp)).trans (World.cell?_alloc_at _ _ _ _ rfl))
  have p4 : w1.cell? ⟨w.heap.size, 4, none⟩ = some (.bool sy) := (hB.cell (p := ⟨w.heap.size, 4, none⟩) (by simp; omega)).trans ((World.cell?_alloc_lt _ _ _ (by simp)).trans (World.cell?_alloc_at _ _ _ _ rfl))
  have p5 : w1.cell? ⟨w.heap.size, 5, none⟩ = some (.bool ck) := (hB.cell (p := ⟨w.heap.size, 5, none⟩) (by simp; omega)).trans ((World.cell?_alloc_lt _ _ _ (by simp)).trans (World.cell?_alloc_at _ _ _ _ rfl))
  go_wp2_with fail
  refine (HB.out _).mono ?_
  rintro e w2 ⟨rfl, hB2⟩
  have hsz : w.heap.size + 1 < w1.heap.size := by have := hB.size; simp at this; omega
  have bx : Boxed w2 (w.heap.size + 1) 73 (.int .i64 0) := (hB2.block (w.heap.size + 1) hsz).trans ((hB.block (w.heap.size + 1) (by simp)).trans (by
    have := Boxed.new (w.alloc (.cells #[.int .i64 l, .int .i64 wd, .int .i64 jb, .int .i64 ov, .bool sy, .bool ck] 24)) 73 (.int .i64 0)
    rwa [World.size_alloc] at this))
  have b1 := bx.cell
  have b2 := bx.frozen
  rw [show min ((2 : Int) ^ wd.toNat) 131072 = blkV wd from rfl]
  obtain ⟨Z, hZ⟩ : ∃ Z, Z = blkV wd := ⟨_, rfl⟩
  rw [← hZ]
  have HZ := Lib.hid hZ
  clear hZ
  go_wp2_with fail
  have b3 := (bx.set (.int .i64 Z)).cell
  refine bodyPost_ret (v := .tuple #[.agg #[.int .i64 Z], .int .i64 0]) (by simp [results, Try.results51, go_sem, b3]) rfl ?_
  exact ⟨by rw [HZ.out], (below_then (below_then (below_alloc ((Below.refl _ _).alloc (Nat.le_refl _) _) _) hB) hB2).setCell (p := ⟨w.heap.size + 1, 0, none⟩) (by simp only; omega) _⟩

set_option maxHeartbeats 800000 in
theorem opened_bad (l wd jb ov : Int) (sy ck : Bool) (w : World) (h : parBad l wd jb ov) :
    Calls Try.prog 51 #[parV l wd jb ov sy ck] w fun e w' => e = .returned (.tuple #[.agg #[.int .i64 0], .int .i64 2]) ∧ Below w.heap.size w w' := by
  have HE : Hid (parE l wd jb ov = 2) := by unfold parE; rw [if_pos h]; rfl
  have HC := Lib.hid (fun W => Check_any l wd jb ov sy ck W)
  clear h
  unfold parV at *
  go_enter Try.func51, Try.ntmps51
  go_wp2_with fail
  refine (HC.out _).mono ?_
  rintro e w1 ⟨rfl, hB⟩
  rw [HE.out]
  have bx : Boxed w1 (w.heap.size + 1) 73 (.int .i64 0) := (hB.block (w.heap.size + 1) (by simp)).trans (by
    have := Boxed.new (w.alloc (.cells #[.int .i64 l, .int .i64 wd, .int .i64 jb, .int .i64 ov, .bool sy, .bool ck] 24)) 73 (.int .i64 0)
    rwa [World.size_alloc] at this)
  have b1 := bx.cell
  have b2 := bx.frozen
  go_wp2_with fail
  have b3 := (bx.set (.int .i64 0)).cell
  refine bodyPost_ret (v := .tuple #[.agg #[.int .i64 0], .int .i64 2]) (by simp [results, Try.results51, go_sem, b3]) rfl ?_
  exact ⟨rfl, (below_then (below_alloc ((Below.refl _ _).alloc (Nat.le_refl _) _) _) hB).setCell (p := ⟨w.heap.size + 1, 0, none⟩) (by simp only; omega) _⟩

/-- How many blocks a job has. -/
def manyV (Z n : Int) : Int := max 1 ((n + Z - 1) / Z)
theorem manyV_lo (Z n : Int) (hZ : 1024 ≤ Z ∧ Z ≤ 131072) (hn : 0 ≤ n ∧ n ≤ 1048576) : 1 ≤ manyV Z n ∧ manyV Z n ≤ 1179648 := by
  have d2 : (n + Z - 1) / Z ≤ n + Z - 1 := Int.ediv_le_self _ (by omega)
  unfold manyV
  omega

set_option maxHeartbeats 800000 in
theorem many_any (Z n : Int) (w : World) (hZ : 1024 ≤ Z ∧ Z ≤ 131072) (hn : 0 ≤ n ∧ n ≤ 4611686018427387904) :
    Calls Try.prog 52 #[.agg #[.int .i64 Z], .int .i64 n] w fun e w' => e = .returned (.int .i64 (manyV Z n)) ∧ Below w.heap.size w w' := by
  have d1 : 0 ≤ (n + Z - 1) / Z := Int.ediv_nonneg (by omega) (by omega)
  have d2 : (n + Z - 1) / Z ≤ n + Z - 1 := Int.ediv_le_self _ (by omega)
  have d3 : Hid (manyV Z n = max 1 ((n + Z - 1) / Z)) := rfl
  go_enter Try.func52, Try.ntmps52
  go_wp2
  all_goals (
    go_ret
    exact ⟨ret_int (by rw [d3.out]; omega), (Below.refl _ _).alloc (Nat.le_refl _) _⟩)

/-- Whether a length of a job is in its range. -/
def lenOk (x : Int) : Bool := decide (0 ≤ x ∧ x ≤ 1048576)
/-- How many blocks jobs have. -/
def blkSum (Z : Int) (xs : List Int) : Int := (xs.map (manyV Z)).sum
theorem blkSum_append (Z : Int) (xs ys : List Int) : blkSum Z (xs ++ ys) = blkSum Z xs + blkSum Z ys := by unfold blkSum; rw [List.map_append, List.sum_append]
theorem blkSum_one (Z x : Int) : blkSum Z [x] = manyV Z x := by simp [blkSum]
theorem blkSum_succ {Z : Int} {xs : List Int} {j : Nat} {x : Int} (h : xs[j]? = some x) : blkSum Z (xs.take (j + 1)) = blkSum Z (xs.take j) + manyV Z x := by
  rw [List.take_add_one, h, blkSum_append]; simp [blkSum]
theorem lenOk_iff {x : Int} : lenOk x = true ↔ 0 ≤ x ∧ x ≤ 1048576 := by simp [lenOk]
theorem all_take_succ {p : Int → Bool} {xs : List Int} {j : Nat} {x : Int} (h : xs[j]? = some x) (ha : (xs.take j).all p = true) (hp : p x = true) : (xs.take (j + 1)).all p = true := by
  rw [List.take_add_one, h, List.all_append, ha]; simp [hp]
theorem all_not {p : Int → Bool} {xs : List Int} {j : Nat} {x : Int} (h : xs[j]? = some x) (hp : p x = false) : xs.all p = false := by
  rw [List.all_eq_false]; exact ⟨x, List.mem_of_getElem? h, by simp [hp]⟩
theorem blkSum_bd (Z : Int) (hZ : 1024 ≤ Z ∧ Z ≤ 131072) (xs : List Int) (h : xs.all lenOk = true) : (xs.length : Int) ≤ blkSum Z xs ∧ blkSum Z xs ≤ 1179648 * (xs.length : Int) := by
  induction xs with
  | nil => simp [blkSum]
  | cons x xs ih =>
    rw [List.all_cons, Bool.and_eq_true] at h
    have h1 := manyV_lo Z x hZ (lenOk_iff.1 h.1)
    have h2 := ih h.2
    have e : blkSum Z (x :: xs) = manyV Z x + blkSum Z xs := by simp [blkSum]
    rw [e, List.length_cons]
    omega

/-- What is asked of parameters and lengths. -/
def blksBad (l wd jb ov : Int) (xs : List Int) : Prop := parBad l wd jb ov ∨ 70000 < xs.length ∨ xs.all lenOk = false
instance (l wd jb ov : Int) (xs : List Int) : Decidable (blksBad l wd jb ov xs) := by unfold blksBad; infer_instance
def blksV (l wd jb ov : Int) (xs : List Int) : Int := if blksBad l wd jb ov xs then 0 else blkSum (blkV wd) xs
def blksE (l wd jb ov : Int) (xs : List Int) : Int := if blksBad l wd jb ov xs then 2 else 0
theorem blks_bad {l wd jb ov : Int} {xs : List Int} (h : blksBad l wd jb ov xs) : blksV l wd jb ov xs = 0 ∧ blksE l wd jb ov xs = 2 := by unfold blksV blksE; rw [if_pos h, if_pos h]; exact ⟨rfl, rfl⟩
theorem blks_ok {l wd jb ov : Int} {xs : List Int} (h : ¬ blksBad l wd jb ov xs) : blksV l wd jb ov xs = blkSum (blkV wd) xs ∧ blksE l wd jb ov xs = 0 := by unfold blksV blksE; rw [if_neg h, if_neg h]; exact ⟨rfl, rfl⟩

set_option maxHeartbeats 1600000 in
theorem Blocks_any (l wd jb ov : Int) (sy ck : Bool) (A : Option Addr) (xs : List Int) (c B : Nat) (w : World) (h : SliceAt .i64 w B A xs) (hB : B ≤ w.heap.size) (hl : xs.length ≤ 9223372036854775807) :
    Calls Try.prog 17 #[parV l wd jb ov sy ck, .slice A xs.length c] w fun e w' => e = .returned (.tuple #[.int .i64 (blksV l wd jb ov xs), .int .i64 (blksE l wd jb ov xs)]) ∧ Below w.heap.size w w' := by
  by_cases hp : parBad l wd jb ov
  · have HR := Lib.hid (blks_bad (xs := xs) (l := l) (wd := wd) (jb := jb) (ov := ov) (.inl hp))
    have HO := Lib.hid (fun W => opened_bad l wd jb ov sy ck W hp)
    clear hp
    unfold parV at *
    go_enter Try.func17, Try.ntmps17
    go_wp2_with fail
    refine (HO.out _).mono ?_
    rintro e w1 ⟨rfl, hB1⟩
    go_wp2
    go_ret2
    exact ⟨ret_two (val_int HR.out.1.symm) (val_int HR.out.2.symm), (below_then ((Below.refl _ _).alloc (Nat.le_refl _) _) hB1).alloc (by have := hB1.size; simp at this; omega) _⟩
  · have HO := Lib.hid (fun W => opened_ok l wd jb ov sy ck W hp)
    have hZ := blkV_lo wd (by unfold parBad at hp; omega)
    obtain ⟨Z, hZe⟩ : ∃ Z, Z = blkV wd := ⟨_, rfl⟩
    have HZ := Lib.hid hZe
    rw [← hZe] at hZ
    clear hZe
    by_cases hlen : 70000 < xs.length
    · have HR := Lib.hid (blks_bad (xs := xs) (l := l) (wd := wd) (jb := jb) (ov := ov) (.inr (.inl hlen)))
      clear hp
      unfold parV at *
      go_enter Try.func17, Try.ntmps17
      go_wp2_with fail
      refine (HO.out _).mono ?_
      rintro e w1 ⟨rfl, hB1⟩
      go_wp2
      go_ret2
      exact ⟨ret_two (val_int HR.out.1.symm) (val_int HR.out.2.symm), (below_then ((Below.refl _ _).alloc (Nat.le_refl _) _) hB1).alloc (by have := hB1.size; simp at this; omega) _⟩
    · have hl7 : xs.length ≤ 70000 := by omega
      have HNP := Lib.hid (fun (ha : xs.all lenOk = true) => (blks_ok (l := l) (wd := wd) (jb := jb) (ov := ov) (xs := xs) (by unfold blksBad; rw [ha]; simp; exact ⟨hp, by omega⟩)))
      have HBP := Lib.hid (fun (ha : xs.all lenOk = false) => (blks_bad (l := l) (wd := wd) (jb := jb) (ov := ov) (xs := xs) (.inr (.inr ha))))
      clear hp
      unfold parV at *
      go_enter Try.func17, Try.ntmps17
      go_wp2_with fail
      refine (HO.out _).mono ?_
      rintro e w1 ⟨rfl, hB1⟩
      rw [← HZ.out]
      have hsz : w.heap.size + 1 ≤ w1.heap.size := by have := hB1.size; simp at this; omega
      have bx := Boxed.new w1 73 (.int .i64 Z)
      have h1 : SliceAt .i64 (w1.alloc (.cells #[.int .i64 Z] 73)) B A xs := ((h.below ((((Below.refl _ _).alloc (Nat.le_refl _) _) : Below w.heap.size w _).mono hB)).below (hB1.mono (by simp; omega))).below (((Below.refl _ _).alloc (Nat.le_refl _) _ : Below w1.heap.size w1 _).mono (by omega))
      have hB2 : Below w.heap.size w (w1.alloc (.cells #[.int .i64 Z] 73)) := (below_then ((Below.refl _ _).alloc (Nat.le_refl _) _) hB1).alloc (by omega) _
      go_wp2
      have hs2 : w1.heap.size < (w1.alloc (.cells #[.int .i64 Z] 73)).heap.size := by simp
      generalize hw2 : w1.alloc (.cells #[.int .i64 Z] 73) = w2 at *
      have HW2 := Lib.hid hw2
      clear hw2
      have HA := Lib.hid (fun j x (h : xs[j]? = some x) => @blkSum_succ Z xs j x h)
      have HN := Lib.hid (fun j x (h : xs[j]? = some x) => @all_not lenOk xs j x h)
      have HS := Lib.hid (fun j x (h : xs[j]? = some x) => @all_take_succ lenOk xs j x h)
      have HBD := Lib.hid (fun ys => blkSum_bd Z hZ ys)
      have HM := Lib.hid (manyV_lo Z)
      go_loopw [9, 25] (fun n i wr => ∃ j : Nat, j ≤ xs.length ∧ i = .int .i64 j ∧ n = .int .i64 (blkSum Z (xs.take j)) ∧ Hid ((xs.take j).all lenOk = true) ∧ Below w2.heap.size w2 wr) (fun _ i _ => xs.length - (intOf i).toNat)
      case atStart => exact ⟨0, Nat.zero_le _, rfl, rfl, rfl, Below.refl _ _⟩
      case round =>
        obtain ⟨j, hj, rfl, rfl, HT, hw⟩ := hrel
        by_cases hlt : j < xs.length
        · obtain ⟨b, off, x, rfl, hx, hcx⟩ := (h1.below (hw.mono (by omega))).get hlt
          have g1 : (0 : Int) ≤ (j : Int) := by omega
          have g2 : (j : Int) < (xs.length : Int) := by omega
          have HX := Lib.hid hx
          clear hx
          by_cases hlo : x < 0
          · have HR : Hid (blksV l wd jb ov xs = 0 ∧ blksE l wd jb ov xs = 2) := HBP.out (HN.out j x HX.out (by simp [lenOk]; omega))
            go_wp2
            go_ret2
            exact ⟨ret_two (val_int HR.out.1.symm) (val_int HR.out.2.symm), below_then hB2 hw⟩
          · have hlo' : decide (x < 0) = false := by simpa using hlo
            by_cases hhi : 1048576 < x
            · have HR : Hid (blksV l wd jb ov xs = 0 ∧ blksE l wd jb ov xs = 2) := HBP.out (HN.out j x HX.out (by simp [lenOk]; omega))
              go_wp2
              go_ret2
              exact ⟨ret_two (val_int HR.out.1.symm) (val_int HR.out.2.symm), below_then hB2 hw⟩
            · have hhi' : decide (1048576 < x) = false := by simpa using hhi
              have bxw : Boxed wr w1.heap.size 73 (.int .i64 Z) := (hw.block w1.heap.size hs2).trans bx
              have hcz := bxw.cell
              have HT2 := Lib.hid (HS.out j x HX.out HT.out (lenOk_iff.2 (by omega)))
              have HA2 := Lib.hid (HA.out j x HX.out)
              have HD := Lib.hid (HBD.out _ HT.out)
              have hml := HM.out x hZ (by omega)
              have hsum : -1 ≤ blkSum Z (xs.take j) ∧ blkSum Z (xs.take j) ≤ 100000000000 := by
                have := HD.out; rw [List.length_take] at this; omega
              generalize blkSum Z (xs.take j) = q at *
              clear HT bxw
              go_wp2_with fail
              refine (many_any Z x _ hZ (by omega)).mono ?_
              rintro e w3 ⟨rfl, hB3⟩
              generalize manyV Z x = mv at *
              go_wp2
              go_roundw
              case rel => exact ⟨j + 1, by omega, by go_num, val_int HA2.out.symm, HT2, below_then hw hB3⟩
              case measure => simp [intOf] <;> omega
        · obtain rfl : j = xs.length := by omega
          have HR : Hid (blksV l wd jb ov xs = blkSum (blkV wd) xs ∧ blksE l wd jb ov xs = 0) := HNP.out (by have := HT.out; rwa [List.take_length] at this)
          rw [List.take_length, HZ.out]
          go_wp2
          go_ret2
          exact ⟨ret_two (val_int HR.out.1.symm) (val_int HR.out.2.symm), below_then hB2 hw⟩

end Go.Proofs.Ytfdbkpbgkpkckaa
