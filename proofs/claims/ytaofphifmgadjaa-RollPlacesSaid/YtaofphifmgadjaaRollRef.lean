/-
  The contracts of roll.All and its reference; whether two lists of hashes are equal.
-/
import Derived.Test.YtaofphifmgadjaaRollAll
import Derived.Test.YtaofphifmgadjaaKit
namespace Go.Proofs.Ytaofphifmgadjaa
open Go.RowKit Go.Shelf
set_option linter.unusedVariables false
set_option maxRecDepth 100000
attribute [local go_sem] Oper.semAt_some

/-- All hashes of a string. -/
def winsAll (s : ByteArray) : List Int := wins s (List.range (s.size - 15))
theorem winsAll_len (s : ByteArray) : (winsAll s).length = s.size - 15 := by simp [winsAll, wins]
theorem winsAll_get (s : ByteArray) (i : Nat) (h : i < s.size - 15) : (winsAll s)[i]? = some (winH s i) := by simp [winsAll, wins, h]
theorem wins_succ (s : ByteArray) (k : Nat) : wins s (List.range (k + 1)) = wins s (List.range k) ++ [winH s k] := by simp [wins, List.range_succ]
theorem wins_len (s : ByteArray) (k : Nat) : (wins s (List.range k)).length = k := by simp [wins]

theorem All_any (s : ByteArray) (w : World) (hs : s.size ≤ 1048576) :
    Calls Try.prog 23 #[.string s] w fun e w' => ∃ A c, e = .returned (.tuple #[.slice A (winsAll s).length c, .int .i64 0]) ∧ SliceAt .u64 w' w'.heap.size A (winsAll s) ∧ Below w.heap.size w w' := by
  refine (callsIn_wide.1 (All_in 6 (Nat.le_refl _) s hs w)).mono ?_
  rintro e w' ⟨v, rfl, hown, hB⟩
  obtain ⟨A, c, rfl⟩ := owns_slice hown
  have hl := winsAll_len s
  change w'.ownsRow _ _ 1 _ _ ((winsAll s).map (Value.int .u64)) at hown
  rw [← hl] at hown ⊢
  exact ⟨A, c, rfl, SliceAt.of_own hown, hB⟩

theorem sb_extract (s : ByteArray) (a b i : Nat) (hi : a + i < b) (hn : b ≤ s.size) : sb (s.extract a b) i = sb s (a + i) := by
  have h1 : i < (s.extract a b).size := by rw [ByteArray.size_extract]; omega
  have h2 : a + i < s.size := by omega
  rw [← sb_get _ i h1, ← sb_get _ (a + i) h2, ByteArray.getElem_extract]

theorem hash_extract (s : ByteArray) (k : Nat) (h : k + 16 ≤ s.size) : hashF (sb (s.extract k (k + 16))) (s.extract k (k + 16)).size = winH s k := by
  have e : (s.extract k (k + 16)).size = 16 := by rw [ByteArray.size_extract]; omega
  rw [e]
  exact hashF_congr fun i hi => sb_extract s k (k + 16) i (by omega) h

set_option maxHeartbeats 800000 in
theorem rAll_any (s : ByteArray) (w : World) (hs : s.size ≤ 1048576) :
    Calls Try.prog 27 #[.string s] w fun e w' => ∃ A c, e = .returned (.tuple #[.slice A (winsAll s).length c, .int .i64 0]) ∧ SliceAt .u64 w' w'.heap.size A (winsAll s) ∧ Below w.heap.size w w' := by
  obtain ⟨i0, hi, hz0, hz1, hz2⟩ := info_parts Try.infoU64
  have hb9 : decide (1048576 < (s.size : Int)) = false := by simp; omega
  go_enter Try.func27, Try.ntmps27
  have HX := Lib.hid (hash_extract s)
  have HS := Lib.hid (wins_succ s)
  go_wp2
  go_loopw [4, 5] (fun v i wr => ∃ k : Nat, k ≤ s.size - 15 ∧ i = .int .i64 k ∧ wr.ownsRow w.heap.size 22 1 v k ((wins s (List.range k)).map (Value.int .u64)) ∧ Below w.heap.size w wr) (fun _ i _ => s.size - (intOf i).toNat)
  case atStart => exact ⟨0, Nat.zero_le _, rfl, World.ownsRow_nil _ _ _ _, Below.refl _ _⟩
  case round =>
    obtain ⟨k, hk, rfl, hown, hB⟩ := hrel
    obtain ⟨A, c, rfl⟩ := owns_slice hown
    by_cases hlt : k + 16 ≤ s.size
    · have hle : k ≤ 1048576 := by omega
      have E1 : (k : Int).toNat = k := rfl
      have E2 : ((k : Int) + 16).toNat = k + 16 := rfl
      have hsz : (s.extract k (k + 16)).size ≤ 9223372036854775807 := by rw [ByteArray.size_extract]; omega
      have hsl : ∀ V, (Instr.slice 9 (.string s) (some (.int .i64 (k : Int))) (some (.int .i64 ((k : Int) + 16))) none).run Try.prog V = .ok (.string (s.extract k (k + 16))) V := fun V => by
        rw [run_slice_string (P := Try.prog) (w := V) 9 s .i64 .i64 (k : Int) ((k : Int) + 16) Try.underlying9 (by omega) (by omega) (by omega)]
        rfl
      have HXk := Lib.hid (HX.out k hlt)
      clear HX E1 E2
      generalize s.extract k (k + 16) = X at *
      go_wp2_with fail
      refine (rhash_any X _ hsz).mono ?_
      rintro e w1 ⟨rfl, rfl⟩
      rw [HXk.out]
      go_wp2_with (at_builtin; refine wpList_append_own _ rfl _ _ 32 rfl w.heap.size 22 i0 (.int .u64 0) 1 8 Try.underlying32 hi hz0 hz1 hz2 rfl (by decide) _ _ _ rfl (hown.alloc _) ⟨wr.heap.size, 0, none⟩ 1 1 [.int .u64 (winH s k)] rfl rfl (cell_one_new _ _ _) (by simp [Value.oneCell']) (by simp only [maxLen]; omega) (by omega) (by have := hB.size; simp; omega) ?_; intro v' w1 hown' hgrow _; obtain ⟨A', c', rfl⟩ := owns_slice hown')
      have hB' : Below w.heap.size w w1 := (hB.alloc hB.size _).grown hgrow (by have := hB.size; simp; omega) (fun x hx => (hown.lt x hx).1)
      clear hB hown hgrow
      go_wp2
      go_roundw
      case rel => exact ⟨k + 1, by omega, by go_num, by rw [HS.out]; simpa using hown', hB'⟩
      case measure => simp [intOf]; omega
    · obtain rfl : k = s.size - 15 := by omega
      change wr.ownsRow _ _ 1 _ _ ((winsAll s).map (Value.int .u64)) at hown
      have hl := Lib.hid (winsAll_len s)
      go_wp2
      go_ret2
      rw [← hl.out] at hown ⊢
      exact ⟨A, c, rfl, SliceAt.of_own hown, hB⟩

set_option maxHeartbeats 800000 in
theorem same64_any (A A' : Option Addr) (xs ys : List Int) (c c' B : Nat) (w : World) (h : SliceAt .u64 w B A xs) (h' : SliceAt .u64 w B A' ys) (hB : B ≤ w.heap.size)
    (hl : xs.length ≤ 9223372036854775807) (hl' : ys.length ≤ 9223372036854775807) :
    Calls Try.prog 26 #[.slice A xs.length c, .slice A' ys.length c'] w fun e w' => e = .returned (.bool (sameI xs ys)) ∧ Below w.heap.size w w' := by
  by_cases hne : xs.length = ys.length
  · have e1 : ((xs.length : Int) != (ys.length : Int)) = false := by simp [hne]
    have HNE := Lib.hid hne
    have hle : xs.length ≤ ys.length := by omega
    clear hne
    go_enter Try.func26, Try.ntmps26
    go_wp2
    go_loopw [5] (fun i wr => ∃ j : Nat, j ≤ xs.length ∧ i = .int .i64 j ∧ Hid (xs.take j = ys.take j) ∧ Below w.heap.size w wr) (fun i _ => xs.length - (intOf i).toNat)
    case atStart => exact ⟨0, Nat.zero_le _, rfl, rfl, Below.refl _ _⟩
    case round =>
      obtain ⟨j, hj, rfl, HT, hw⟩ := hrel
      by_cases hlt : j < xs.length
      · obtain ⟨b, off, x, rfl, hx, hc⟩ := (h.below (hw.mono hB)).get hlt
        obtain ⟨b', off', y, rfl, hy, hc'⟩ := (h'.below (hw.mono hB)).get (show j < ys.length by omega)
        have HX := Lib.hid hx
        have HY := Lib.hid hy
        have g1 : (0 : Int) ≤ (j : Int) := by omega
        have g2 : (j : Int) < (xs.length : Int) := by omega
        have g3 : (j : Int) < (ys.length : Int) := by omega
        clear hx hy h h'
        by_cases hxy : x = y
        · subst hxy
          go_wp2
          go_quiet (fail)
          go_wp2
          go_roundw
          case rel => exact ⟨j + 1, by omega, by go_num, take_same HX.out HY.out HT.out, ⟨hw.os, hw.tape, hw.output, hw.size, hw.block⟩⟩
          case measure => simp [intOf]; omega
        · have e2 : (x != y) = true := by simpa using hxy
          have HR := Lib.hid (sameI_at HX.out HY.out hxy)
          clear hxy
          go_wp2
          go_quiet (fail)
          go_wp2
          go_ret
          exact ⟨ret_bool HR.out.symm, ⟨hw.os, hw.tape, hw.output, hw.size, hw.block⟩⟩
      · obtain rfl : j = xs.length := by omega
        have HR : Hid (sameI xs ys = true) := by
          have := HT.out
          rw [List.take_length, HNE.out, List.take_length] at this
          rw [this]; exact sameI_yes ys
        go_wp2
        go_ret
        exact ⟨ret_bool HR.out.symm, hw⟩
  · have e1 : ((xs.length : Int) != (ys.length : Int)) = true := by simp; omega
    have HR := Lib.hid (sameI_len hne)
    clear hne
    go_enter Try.func26, Try.ntmps26
    go_wp2
    go_ret
    exact ⟨ret_bool HR.out.symm, Below.refl _ _⟩

end Go.Proofs.Ytaofphifmgadjaa
