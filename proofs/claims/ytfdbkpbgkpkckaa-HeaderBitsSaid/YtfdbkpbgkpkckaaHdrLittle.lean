/-
  The walks of ints.Little and of its reference: the bytes of a number, the lowest one first.
-/
import Derived.Test.YtfdbkpbgkpkckaaRows
import Derived.Test.YtfdbkpbgkpkckaaIntsMath
import Derived.Test.YtfdbkpbgkpkckaaCommon
import Derived.WalkLawsBesides
import Derived.Laws.BytesArg
import Derived.Maps.AppendAt
namespace Go.Proofs.Ytfdbkpbgkpkckaa.IL
open Go.RowKit
set_option linter.unusedVariables false

/-- The k lowest bytes of a number, the lowest one first. -/
def leI (n : Int) (k : Nat) : List Int := (List.range k).map fun i => n / 256 ^ i % 256

theorem leI_succ (n : Int) (k : Nat) : leI n (k + 1) = leI n k ++ [n / 256 ^ k % 256] := by
  simp [leI, List.range_succ]
theorem leI_length (n : Int) (k : Nat) : (leI n k).length = k := by simp [leI]

theorem Try.infoU8 : (Try.prog.info? 5).map (fun i => (i.zero, i.size, i.bytes)) = some (some (.int .u8 0), 1, 1) := by kernel_rfl

set_option maxHeartbeats 800000 in
theorem field_any (n : Int) (k : Nat) (w : World) (h1 : 0 ≤ n) (h2 : n ≤ 18446744073709551615) (hk : k ≤ 8) :
    Calls Try.prog 96 #[.int .u64 n, .int .i64 k] w fun e w' => e = .returned (.string (strOfNums (leI n k))) ∧ Below w.heap.size w w' := by
  obtain ⟨i0, hi, hz0, hz1, hz2⟩ := info_parts Try.infoU8
  have hmk : ∀ w, (Instr.makeSlice 50 (.int .i64 0) (.int .i64 8)).run Try.prog w = .ok (.slice (some ⟨w.heap.size, 0, none⟩) 0 8) (w.alloc (.cells #[.int .u8 0, .int .u8 0, .int .u8 0, .int .u8 0, .int .u8 0, .int .u8 0, .int .u8 0, .int .u8 0] 5)) := fun _ => by kernel_rfl
  go_enter Try.func96, Try.ntmps96
  go_wp2
  go_loopw [0, 5, 8] (fun m v i wr => ∃ j : Nat, j ≤ k ∧ i = .int .i64 j ∧ m = .int .u64 (n / 256 ^ j) ∧ wr.ownsRow w.heap.size 5 1 v j ((leI n j).map (Value.int .u8)) ∧ Below w.heap.size w wr) (fun _ _ i _ => k - (intOf i).toNat)
  case atStart =>
    refine ⟨0, Nat.zero_le _, rfl, by simp, ?_, (Below.refl _ _).alloc (Nat.le_refl _) _⟩
    exact World.ownsRow_made _ _ _ (Nat.le_refl _) (by simp [maxLen]) (by simp)
  case round =>
    obtain ⟨j, hj, rfl, rfl, hown, hB⟩ := hrel
    by_cases hlt : j < k
    · have hBs := hB.size
      have q0 : 0 ≤ n / 256 ^ j := Int.ediv_nonneg h1 (Int.le_of_lt (Int.pow_pos (by decide)))
      have q1 : n / 256 ^ j ≤ n := Int.ediv_le_self _ h1
      go_wp2_with (at_builtin; refine wpList_append_own _ rfl _ _ 50 rfl w.heap.size 5 i0 (.int .u8 0) 1 1 Try.underlying50 hi hz0 hz1 hz2 rfl (by decide) _ _ _ rfl (hown.alloc _) ⟨wr.heap.size, 0, none⟩ 1 1 [.int .u8 (n / 256 ^ j % 256)] rfl rfl (cell_one_new _ _ _) (by simp [Value.oneCell']) (by simp only [maxLen]; omega) (by omega) (by simp; omega) ?_; intro v' w1 hown' hgrow _)
      have hB' : Below w.heap.size w w1 := (hB.alloc hB.size _).grown hgrow (by simp; omega) (fun x hx => (hown.lt x hx).1)
      clear hB hown hgrow
      go_wp2
      go_roundw
      case rel => exact ⟨j + 1, by omega, by go_num, by rw [Int.ediv_ediv_of_nonneg (Int.le_of_lt (Int.pow_pos (by decide))), ← Int.pow_succ], by simpa [leI_succ] using hown', hB'⟩
      case measure => simp [intOf]; omega
    · obtain rfl : j = k := by omega
      have hconv : ∀ dst, Try.prog.underlying dst = some .string → (convert 50 dst u5).run Try.prog wr = .ok (.string (strOfNums (leI n j))) wr := by
        rcases hown.2 with ⟨rfl, h0⟩ | ⟨g, cap, cur, rfl, hg⟩
        · have e : leI n j = [] := by
            have hj0 : j = 0 := by simpa [leI] using h0
            rw [hj0]; rfl
          rw [e]
          exact run_convert_bytes_nil _ _ 5 Try.underlying50 Try.underlying5 0 0
        · refine run_convert_bytes_arg wr 50 5 Try.underlying50 Try.underlying5 g 0 j cap (leI n j) (leI_length n j) (fun i hi => ?_)
          have := hown.cellAt i (by omega)
          rw [Nat.zero_add, this]
          simp [leI_length, hi]
      have hc := hconv 9 Try.underlying9
      clear hconv
      go_wp2
      go_ret
      exact ⟨rfl, hB⟩


theorem Little_yes (n : Int) (k : Nat) (w : World) (h1 : 0 ≤ n) (h2 : n ≤ 18446744073709551615) (hk1 : 1 ≤ k) (hk : k ≤ 8) (hn : n / 256 ^ k = 0) :
    Calls Try.prog 76 #[.int .u64 n, .int .i64 k] w fun e w' => e = .returned (.tuple #[.string (strOfNums (leI n k)), .int .i64 0]) ∧ Below w.heap.size w w' := by
  have a1 : decide ((k : Int) < 1) = false := by simp; omega
  have a2 : decide (8 < (k : Int)) = false := by simp; omega
  by_cases h8 : k < 8
  · have a3 : decide ((k : Int) < 8) = true := by simp; omega
    have hm : min (8 * k) 64 = 8 * k := by omega
    have a4 : (n / 2 ^ (8 * k) != 0) = false := by rw [pow256, hn]; rfl
    clear hn
    go_enter Try.func76, Try.ntmps76
    go_wp2_with (go_at_call 96; refine (field_any n k _ h1 h2 hk).mono ?_; rintro e w' ⟨rfl, hB⟩)
    go_ret2
    exact ⟨rfl, hB⟩
  · have a3 : decide ((k : Int) < 8) = false := by simp; omega
    clear hn
    go_enter Try.func76, Try.ntmps76
    go_wp2_with (go_at_call 96; refine (field_any n k _ h1 h2 hk).mono ?_; rintro e w' ⟨rfl, hB⟩)
    go_ret2
    exact ⟨rfl, hB⟩

theorem Little_bad (n s : Int) (w : World) (hs : s < 1 ∨ 8 < s) :
    Calls Try.prog 76 #[.int .u64 n, .int .i64 s] w fun e w' => e = .returned (.tuple #[.string ⟨#[]⟩, .int .i64 2]) ∧ Below w.heap.size w w' := by
  rcases hs with hs | hs
  · have hs' : ¬ 8 < s := by omega
    go_enter Try.func76, Try.ntmps76
    go_wp2
    go_ret2
    exact ⟨rfl, Below.refl _ _⟩
  · have hs' : ¬ s < 1 := by omega
    go_enter Try.func76, Try.ntmps76
    go_wp2
    go_ret2
    exact ⟨rfl, Below.refl _ _⟩

theorem Little_no (n : Int) (k : Nat) (w : World) (h1 : 0 ≤ n) (h2 : n ≤ 18446744073709551615) (hk1 : 1 ≤ k) (hk : k ≤ 8) (hn : ¬ n / 256 ^ k = 0) :
    Calls Try.prog 76 #[.int .u64 n, .int .i64 k] w fun e w' => e = .returned (.tuple #[.string ⟨#[]⟩, .int .i64 2]) ∧ Below w.heap.size w w' := by
  have a1 : decide ((k : Int) < 1) = false := by simp; omega
  have a2 : decide (8 < (k : Int)) = false := by simp; omega
  have h8 : k < 8 := by
    rcases Nat.lt_or_ge k 8 with h | h
    · exact h
    · obtain rfl : k = 8 := by omega
      exact absurd (by omega) hn
  have a3 : decide ((k : Int) < 8) = true := by simp; omega
  have hm : min (8 * k) 64 = 8 * k := by omega
  have a4 : (n / 2 ^ (8 * k) != 0) = true := by rw [pow256]; simpa using hn
  clear hn
  go_enter Try.func76, Try.ntmps76
  go_wp2
  go_ret2
  exact ⟨rfl, Below.refl _ _⟩

theorem strOfNums_append (a b : List Int) : strOfNums a ++ strOfNums b = strOfNums (a ++ b) := by
  unfold strOfNums
  rw [ByteArray.mk_append_mk, List.map_append]

theorem run_add_nums {P : Program} (a b : List Int) (h : a.length + b.length ≤ 9223372036854775807) (w : World) :
    (Op.stringOp .add (strOfNums a) (strOfNums b)).run P w = .ok (.string (strOfNums (a ++ b))) w := by
  rw [run_string_add_sum w _ _ (by rw [strOfNums_size, strOfNums_size]; exact h), strOfNums_append]

theorem conv_one (x : Int) (w : World) :
    (convert 50 9 (.slice (some ⟨w.heap.size, 0, none⟩) 1 1)).run Try.prog (w.alloc (.cells #[.int .u8 x] 5)) = .ok (.string (strOfNums [x])) (w.alloc (.cells #[.int .u8 x] 5)) := by
  refine run_convert_bytes_arg _ 50 5 Try.underlying50 Try.underlying5 w.heap.size 0 1 1 [x] rfl (fun i hi => ?_) _ Try.underlying9
  obtain rfl : i = 0 := by omega
  rw [World.cell?_alloc_at _ _ _ _ rfl]
  rfl

set_option maxHeartbeats 800000 in
theorem rLittle_mid (n : Int) (k : Nat) (w : World) (h1 : 0 ≤ n) (h2 : n ≤ 18446744073709551615) (hk1 : 1 ≤ k) (hk : k ≤ 8) :
    Calls Try.prog 77 #[.int .u64 n, .int .i64 k] w fun e w' =>
      (n / 256 ^ k = 0 → e = .returned (.tuple #[.string (strOfNums (leI n k)), .int .i64 0])) ∧ (¬ n / 256 ^ k = 0 → e = .returned (.tuple #[.string ⟨#[]⟩, .int .i64 2])) ∧ Below w.heap.size w w' := by
  have a1 : decide ((k : Int) < 1) = false := by simp; omega
  have a2 : decide (8 < (k : Int)) = false := by simp; omega
  go_enter Try.func77, Try.ntmps77
  go_wp2
  go_loopw [0, 6, 7] (fun m v i wr => ∃ j : Nat, j ≤ k ∧ i = .int .i64 j ∧ m = .int .u64 (n / 256 ^ j) ∧ v = .string (strOfNums (leI n j)) ∧ Below w.heap.size w wr) (fun _ _ i _ => k - (intOf i).toNat)
  case atStart =>
    exact ⟨0, Nat.zero_le _, rfl, by simp, rfl, Below.refl _ _⟩
  case round =>
    obtain ⟨j, hj, rfl, rfl, rfl, hB⟩ := hrel
    by_cases hlt : j < k
    · have hBs := hB.size
      have q0 : 0 ≤ n / 256 ^ j := Int.ediv_nonneg h1 (Int.le_of_lt (Int.pow_pos (by decide)))
      have q1 : n / 256 ^ j ≤ n := Int.ediv_le_self _ h1
      have hc := fun W => conv_one (n / 256 ^ j % 256) W
      have ha := fun W => run_add_nums (P := Try.prog) (leI n j) [n / 256 ^ j % 256] (by simp [leI_length]; omega) W
      rw [← leI_succ] at ha
      go_wp2
      go_roundw
      case rel => exact ⟨j + 1, by omega, by go_num, by rw [Int.ediv_ediv_of_nonneg (Int.le_of_lt (Int.pow_pos (by decide))), ← Int.pow_succ], rfl, hB.alloc hB.size _⟩
      case measure => simp [intOf]; omega
    · obtain rfl : j = k := by omega
      have q0 : 0 ≤ n / 256 ^ j := Int.ediv_nonneg h1 (Int.le_of_lt (Int.pow_pos (by decide)))
      by_cases hz : 0 < n / 256 ^ j
      · go_wp2
        go_ret2
        exact ⟨fun h => by omega, fun _ => rfl, hB⟩
      · go_wp2
        go_ret2
        exact ⟨fun _ => rfl, fun h => by omega, hB⟩

theorem rLittle_bad (n s : Int) (w : World) (hs : s < 1 ∨ 8 < s) :
    Calls Try.prog 77 #[.int .u64 n, .int .i64 s] w fun e w' => e = .returned (.tuple #[.string ⟨#[]⟩, .int .i64 2]) ∧ Below w.heap.size w w' := by
  rcases hs with hs | hs
  · have hs' : ¬ 8 < s := by omega
    go_enter Try.func77, Try.ntmps77
    go_wp2
    go_ret2
    exact ⟨rfl, Below.refl _ _⟩
  · have hs' : ¬ s < 1 := by omega
    go_enter Try.func77, Try.ntmps77
    go_wp2
    go_ret2
    exact ⟨rfl, Below.refl _ _⟩

/-- The field of a number, and its error. -/
def little (n s : Int) : ByteArray := if s < 1 ∨ 8 < s ∨ ¬ n / 256 ^ s.toNat = 0 then ⟨#[]⟩ else strOfNums (leI n s.toNat)
def littleE (n s : Int) : Int := if s < 1 ∨ 8 < s ∨ ¬ n / 256 ^ s.toNat = 0 then 2 else 0

theorem Little_any (n s : Int) (w : World) (h1 : 0 ≤ n) (h2 : n ≤ 18446744073709551615) :
    Calls Try.prog 76 #[.int .u64 n, .int .i64 s] w fun e w' => e = .returned (.tuple #[.string (little n s), .int .i64 (littleE n s)]) ∧ Below w.heap.size w w' := by
  unfold little littleE
  by_cases hs : s < 1 ∨ 8 < s
  · rw [if_pos (by omega), if_pos (by omega)]
    exact Little_bad n s w hs
  · obtain ⟨k, rfl⟩ := Int.eq_ofNat_of_zero_le (show 0 ≤ s by omega)
    rw [Int.toNat_natCast]
    by_cases hn : n / 256 ^ k = 0
    · rw [if_neg (by omega), if_neg (by omega)]
      exact Little_yes n k w h1 h2 (by omega) (by omega) hn
    · rw [if_pos (by omega), if_pos (by omega)]
      exact Little_no n k w h1 h2 (by omega) (by omega) hn

theorem rLittle_any (n s : Int) (w : World) (h1 : 0 ≤ n) (h2 : n ≤ 18446744073709551615) :
    Calls Try.prog 77 #[.int .u64 n, .int .i64 s] w fun e w' => e = .returned (.tuple #[.string (little n s), .int .i64 (littleE n s)]) ∧ Below w.heap.size w w' := by
  unfold little littleE
  by_cases hs : s < 1 ∨ 8 < s
  · rw [if_pos (by omega), if_pos (by omega)]
    exact rLittle_bad n s w hs
  · obtain ⟨k, rfl⟩ := Int.eq_ofNat_of_zero_le (show 0 ≤ s by omega)
    rw [Int.toNat_natCast]
    by_cases hn : n / 256 ^ k = 0
    · rw [if_neg (by omega), if_neg (by omega)]
      exact (rLittle_mid n k w h1 h2 (by omega) (by omega)).mono fun _ _ h => ⟨h.1 hn, h.2.2⟩
    · rw [if_pos (by omega), if_pos (by omega)]
      exact (rLittle_mid n k w h1 h2 (by omega) (by omega)).mono fun _ _ h => ⟨h.2.1 hn, h.2.2⟩

end Go.Proofs.Ytfdbkpbgkpkckaa.IL
