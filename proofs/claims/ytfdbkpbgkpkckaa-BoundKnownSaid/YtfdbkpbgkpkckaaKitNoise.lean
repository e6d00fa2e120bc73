/-
  The walk of cheesepresskit's Noise: a string, of at most so many bytes.
-/
import Derived.Test.YtfdbkpbgkpkckaaKit
import Derived.Test.YtfdbkpbgkpkckaaStr
import Derived.Test.YtfdbkpbgkpkckaaRegions
import Derived.OwnWalk
import Derived.Maps.AppendAt
namespace Go.Proofs.Ytfdbkpbgkpkckaa
open Go.RowKit
set_option linter.unusedVariables false
set_option maxRecDepth 100000

theorem Try.infoByte : (Try.prog.info? 5).map (fun i => (i.zero, i.size, i.bytes)) = some (some (.int .u8 0), 1, 1) := by kernel_rfl

/-- A string of at most n bytes. -/
def StrOut (n : Nat) (w : World) (e : Ending) (w' : World) : Prop := ∃ s : ByteArray, e = .returned (.string s) ∧ s.size ≤ n ∧ Below w.heap.size w w'

theorem Mod_in (n m : Int) (w : World) (h1 : -9223372036854775808 ≤ n) (h2 : n ≤ 9223372036854775807) (h3 : 1 ≤ m ∧ m ≤ 9223372036854775807) :
    Calls Try.prog 15 #[.int .i64 n, .int .i64 m] w fun e w' => ∃ z : Int, 0 ≤ z ∧ z < m ∧ e = .returned (.int .i64 z) ∧ w = w' := by
  refine (Mod_any n m w h1 h2 h3.2).mono ?_
  rintro e w' ⟨rfl, rfl⟩
  have := modI_lo (n := n) (m := m) h3.1
  exact ⟨_, this.1, this.2, rfl, rfl⟩
theorem Mod_byte (n m : Int) (w : World) (h1 : 0 ≤ n) (h2 : n ≤ 9223372036854775807) (h3 : 1 ≤ m ∧ m ≤ 256) :
    Calls Try.prog 15 #[.int .i64 n, .int .i64 m] w fun e w' => ∃ z : Int, 0 ≤ z ∧ z < 256 ∧ e = .returned (.int .i64 z) ∧ w = w' := by
  refine (Mod_any n m w (by omega) h2 (by omega)).mono ?_
  rintro e w' ⟨rfl, rfl⟩
  have := modI_lo (n := n) (m := m) (by omega)
  exact ⟨_, this.1, by omega, rfl, rfl⟩

set_option maxHeartbeats 4000000 in
theorem Noise_any (k : Int) (N : Nat) (many : Int) (w : World) (hk : 0 ≤ k ∧ k ≤ 1073741824) (hN : N ≤ 100) (hm : many = 1 ∨ many = 4 ∨ many = 256) :
    Calls Try.prog 61 #[.int .i64 k, .int .i64 (N : Int), .int .i64 many] w (StrOut N w) := by
  obtain ⟨i0, hi, hz0, hz1, hz2⟩ := info_parts Try.infoByte
  have M1 := Lib.hid (fun W => Mod_any k 65537 W (by omega) (by omega) (by omega))
  have b1 := modI_lo (n := k) (m := 65537) (by omega)
  generalize modI k 65537 = y0 at *
  have hmn : min (N : Int) 4096 = (N : Int) := by omega
  have hmx : max 0 (N : Int) = (N : Int) := by omega
  by_cases h0 : 0 < N
  all_goals rcases hm with rfl | rfl | rfl
  all_goals (
    go_enter Try.func61, Try.ntmps61
    go_wp2_with fail
    refine (M1.out _).mono ?_
    rintro e w1 ⟨rfl, rfl⟩
    go_wp2_with (at_make; refine wpList_make_own _ rfl _ _ 50 rfl w.heap.size 5 i0 (.int .u8 0) 1 Try.underlying50 hi hz0 hz1 .i64 .i64 _ N rfl rfl (by first | rfl | omega | (split <;> omega)) (by rw [hz2]; omega) (by simp only [maxLen]; omega) (Nat.le_refl _) ?_; intro w2 hown0 hgrow0)
    have hB2 : Below w.heap.size w w2 := (Below.refl _ _).grown hgrow0 (Nat.le_refl _) (by simp)
    clear hgrow0
    go_loopw [0, 7, 8] (fun kv ov iv wr => ∃ (j : Nat) (y : Int) (xs : List Int), j ≤ N ∧ iv = .int .i64 j ∧ kv = .int .i64 y ∧ 0 ≤ y ∧ y < 65537 ∧ xs.length = j ∧ wr.ownsRow w.heap.size 5 1 ov j (xs.map (Value.int .u8)) ∧ Below w.heap.size w wr) (fun _ _ iv _ => N - (intOf iv).toNat)
    case atStart => exact ⟨0, y0, [], Nat.zero_le _, rfl, rfl, b1.1, b1.2, rfl, hown0, hB2⟩
    case round =>
      obtain ⟨j, y, xs, hj, rfl, rfl, hy0, hy1, hxl, hown, hB⟩ := hrel
      by_cases hlt : j < N
      · first
        | (exfalso; omega)
        | (
            have hBs := hB.size
            have g1 : (j : Int) < (N : Int) := by omega
            have g2 : (j : Int) < 4096 := by omega
            go_wp2_with fail
            refine (Mod_any _ _ _ ?_ ?_ ?_).mono ?_ <;> try omega
            rintro e w3 ⟨rfl, rfl⟩
            have b2 := modI_lo (n := y * 75 + 74) (m := 65537) (by omega)
            generalize modI (y * 75 + 74) 65537 = y2 at *
            go_wp2_with fail
            refine (Mod_byte _ _ _ ?_ ?_ ?_).mono ?_ <;> try omega
            rintro e w3 ⟨z, hz3, hz4, rfl, rfl⟩
            have hzm : z % 256 = z := Int.emod_eq_of_lt hz3 hz4
            go_wp2_with (at_builtin; refine wpList_append_own _ rfl _ _ 50 rfl w.heap.size 5 i0 (.int .u8 0) 1 1 Try.underlying50 hi hz0 hz1 hz2 rfl (by decide) _ _ _ rfl (hown.alloc _) ⟨wr.heap.size, 0, none⟩ 1 1 [.int .u8 z] rfl rfl (cell_one_new _ _ _) (by simp [Value.oneCell']) (by simp only [maxLen]; omega) (by omega) (by rw [World.size_alloc]; omega) ?_; intro v' w4 hown' hgrow _)
            have hB' : Below w.heap.size w w4 := (hB.alloc hB.size _).grown hgrow (by simp; omega) (fun x hx => (hown.lt x hx).1)
            clear hB hown hgrow
            go_wp2
            go_roundw
            case rel => exact ⟨j + 1, y2, xs ++ [z], by omega, by go_num, rfl, b2.1, b2.2, by rw [List.length_append]; simp; omega, by simpa using hown', hB'⟩
            case measure => simp [intOf]; omega)
      · have hjN : j = N := by omega
        have g1 : ¬ (j : Int) < (N : Int) := by omega
        have hc := conv_own (P := Try.prog) (base := w.heap.size) Try.underlying50 Try.underlying5 hxl hown 9 Try.underlying9
        have hsz : (strOfNums xs).size ≤ N := by rw [strOfNums_size]; omega
        generalize strOfNums xs = out at *
        clear hjN
        go_wp2
        go_ret
        exact ⟨out, rfl, hsz, hB⟩)

end Go.Proofs.Ytfdbkpbgkpkckaa
