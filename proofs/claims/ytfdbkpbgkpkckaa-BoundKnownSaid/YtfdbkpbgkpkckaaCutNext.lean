/-
  The walks of cutter.next, checked, Next, Full, Bits.
-/
import Derived.Test.YtfdbkpbgkpkckaaCutFound
import Derived.RegionTactic
import Derived.BigRegion
import Derived.Deep.RegionHeld3
import Derived.Deep.DrawnRows
import Derived.Test.YtfdbkpbgkpkckaaRegions
import Derived.Laws.EntriesVeiled
import Derived.Test.YtfdbkpbgkpkckaaStr
import Derived.WalkMore
import Derived.Deep.QuietTactic
import Derived.BigQuiet
namespace Go.Proofs.Ytfdbkpbgkpkckaa
open Go.RowKit
set_option linter.unusedVariables false
set_option maxRecDepth 100000

theorem cell_lt' {w : World} {a : Addr} {v : Value} (h : w.cell? a = some v) : a.block < w.heap.size := by
  rcases Nat.lt_or_ge a.block w.heap.size with h' | h'
  · exact h'
  · simp [World.cell?, Array.getElem?_eq_none h'] at h
attribute [local go_sem ↓] Go.wp_at_zero Go.wp_at_succ

set_option maxHeartbeats 4000000 in
theorem next_yes0 (l wd jb ov : Int) (ck : Bool) (s : ByteArray) (p : Nat) (w : World) (hj : 16 ≤ jb ∧ jb ≤ 2097152) (hs : s.size ≤ 1048576) (hp : p ≤ s.size) (hc : (s.size : Int) ≤ (p : Int) + 4 * jb) :
    Calls Try.prog 90 #[.agg #[.int .i64 l, .int .i64 wd, .int .i64 jb, .int .i64 ov, .bool true, .bool ck], .string s, .int .i64 p] w fun e w' => e = .returned (.tuple #[.int .i64 (nextE jb true s p), .bool (nextB jb true s p)]) ∧ Below w.heap.size w w' := by
  have HF := Lib.hid (fun W => found_yes l wd jb ov ck W hj)
  have hbi := Hi.bitsC_in jb hj.2
  have hle : 16 ≤ leastC jb ∧ leastC jb ≤ 1000000000 := by unfold leastC; omega
  have hsz : (s.extract p s.size).size ≤ 100000000 := by rw [ByteArray.size_extract]; omega
  have HC := Lib.hid (fun W => content_any (leastC jb) (4 * jb) (Hi.bitsC jb) (s.extract p s.size) W hsz (by unfold leastC; omega) (by omega) (by omega))
  rw [← content_cut jb s p s.size hj hp (by omega)] at HC
  have hcl : cutN jb true s p ≤ s.size - p := by have := firstN_spec (atV jb true s p) (s.size - p); unfold cutN; omega
  have HN : Hid (nextE jb true s p = if cutN jb true s p = 0 then s.size else p + cutN jb true s p) := rfl
  have HB : Hid (nextB jb true s p = decide (cutN jb true s p ≠ 0)) := rfl
  clear hsz
  generalize cutN jb true s p = n at *
  obtain ⟨mo, hmo⟩ : ∃ mo, 4 * jb = mo := ⟨_, rfl⟩
  generalize leastC jb = le at *
  rw [hmo] at HF HC hc
  have hmob : 64 ≤ mo ∧ mo ≤ 8388608 := by omega
  clear hmo
  generalize Hi.bitsC jb = bt at *
  have g0 : (0 : Int) ≤ (p : Int) := by omega
  have g1 : (p : Int) ≤ (s.size : Int) := by omega
  have hsl : ∀ V, (Instr.slice 9 (.string s) (some (.int .i64 (p : Int))) (some (.int .i64 (s.size : Int))) none).run Try.prog V = .ok (.string (s.extract p s.size)) V := fun V => run_slice_string (P := Try.prog) V 9 s .i64 .i64 p s.size Try.underlying9 (by omega) (by omega) (by omega)
  have g2 : (s.size : Int) ≤ (p : Int) + mo := hc
  have g4 : (0 : Int) ≤ (s.size : Int) := by omega
  have g3 : ¬ (p : Int) + mo < (s.size : Int) := by omega
  have g5 : IntKind.i64.wrap ((p : Int) + mo) = (p : Int) + mo := IntWalk.i64_in _ (by omega)
  go_enter Try.func90, Try.ntmps90
  go_wp2_with fail
  refine (HF.out _).mono ?_
  rintro e w1 ⟨rfl, hB1⟩
  have hBw := below_alloc (below_then (below_new (w := w) _) hB1) (.cells #[.int .i64 le, .int .i64 mo, .int .i64 bt] 128)
  go_wp2_with fail
  have c0 : (w1.alloc (.cells #[.int .i64 le, .int .i64 mo, .int .i64 bt] 128)).cell? ⟨w1.heap.size, 0, none⟩ = some (.int .i64 le) := World.cell?_alloc_at _ _ _ _ rfl
  have c1 : (w1.alloc (.cells #[.int .i64 le, .int .i64 mo, .int .i64 bt] 128)).cell? ⟨w1.heap.size, 1, none⟩ = some (.int .i64 mo) := World.cell?_alloc_at _ _ _ _ rfl
  have c2 : (w1.alloc (.cells #[.int .i64 le, .int .i64 mo, .int .i64 bt] 128)).cell? ⟨w1.heap.size, 2, none⟩ = some (.int .i64 bt) := World.cell?_alloc_at _ _ _ _ rfl
  have hBr := Below.refl (w1.alloc (.cells #[.int .i64 le, .int .i64 mo, .int .i64 bt] 128)).heap.size (w1.alloc (.cells #[.int .i64 le, .int .i64 mo, .int .i64 bt] 128))
  generalize w1.alloc (.cells #[.int .i64 le, .int .i64 mo, .int .i64 bt] 128) = W0 at *
  go_region_with
    (first
      | (go_at_call 116; refine (HC.out _).mono ?_; rintro r w5 ⟨rfl, hB5⟩; have hBn := below_then (by first | exact hBr | exact below_drew hBr) hB5))
  all_goals (
    have hBx := below_then hBw hBn
    by_cases hn : n = 0
    · have hn' : ¬ 0 < n := by omega
      have hn2 : ¬ (0 : Int) < (n : Int) := by omega
      rw [if_pos hn] at HN
      rw [decide_eq_false (by omega)] at HB
      clear hn
      go_wp2
      go_ret2
      exact ⟨ret_two (val_int (by rw [HN.out])) (val_bool (by rw [HB.out])), hBx⟩
    · have hn' : 0 < n := by omega
      have hn2 : (0 : Int) < (n : Int) := by omega
      rw [if_neg hn] at HN
      rw [decide_eq_true (by omega)] at HB
      clear hn
      go_wp2
      go_ret2
      exact ⟨ret_two (val_int (by rw [HN.out]; push_cast; omega)) (val_bool (by rw [HB.out])), hBx⟩)

set_option maxHeartbeats 4000000 in
theorem next_yes1 (l wd jb ov : Int) (ck : Bool) (s : ByteArray) (p : Nat) (w : World) (hj : 16 ≤ jb ∧ jb ≤ 2097152) (hs : s.size ≤ 1048576) (hp : p ≤ s.size) (hc : (p : Int) + 4 * jb < (s.size : Int)) :
    Calls Try.prog 90 #[.agg #[.int .i64 l, .int .i64 wd, .int .i64 jb, .int .i64 ov, .bool true, .bool ck], .string s, .int .i64 p] w fun e w' => e = .returned (.tuple #[.int .i64 (nextE jb true s p), .bool (nextB jb true s p)]) ∧ Below w.heap.size w w' := by
  have HF := Lib.hid (fun W => found_yes l wd jb ov ck W hj)
  have hbi := Hi.bitsC_in jb hj.2
  have hle : 16 ≤ leastC jb ∧ leastC jb ≤ 1000000000 := by unfold leastC; omega
  have hsz : (s.extract p ((p : Int) + 4 * jb).toNat).size ≤ 100000000 := by rw [ByteArray.size_extract]; omega
  have HC := Lib.hid (fun W => content_any (leastC jb) (4 * jb) (Hi.bitsC jb) (s.extract p ((p : Int) + 4 * jb).toNat) W hsz (by unfold leastC; omega) (by omega) (by omega))
  rw [← content_cut jb s p ((p : Int) + 4 * jb).toNat hj hp (by omega)] at HC
  have hcl : cutN jb true s p ≤ s.size - p := by have := firstN_spec (atV jb true s p) (s.size - p); unfold cutN; omega
  have HN : Hid (nextE jb true s p = if cutN jb true s p = 0 then s.size else p + cutN jb true s p) := rfl
  have HB : Hid (nextB jb true s p = decide (cutN jb true s p ≠ 0)) := rfl
  clear hsz
  generalize cutN jb true s p = n at *
  obtain ⟨mo, hmo⟩ : ∃ mo, 4 * jb = mo := ⟨_, rfl⟩
  generalize leastC jb = le at *
  rw [hmo] at HF HC hc
  have hmob : 64 ≤ mo ∧ mo ≤ 8388608 := by omega
  clear hmo
  generalize Hi.bitsC jb = bt at *
  have g0 : (0 : Int) ≤ (p : Int) := by omega
  have g1 : (p : Int) ≤ (s.size : Int) := by omega
  have g2 : (0 : Int) ≤ (p : Int) + mo := by omega
  have g3 : (p : Int) ≤ (p : Int) + mo := by omega
  have g4 : (p : Int) + mo ≤ (s.size : Int) := by omega
  have g5 : IntKind.i64.wrap ((p : Int) + mo) = (p : Int) + mo := IntWalk.i64_in _ (by omega)
  go_enter Try.func90, Try.ntmps90
  go_wp2_with fail
  refine (HF.out _).mono ?_
  rintro e w1 ⟨rfl, hB1⟩
  have hBw := below_alloc (below_then (below_new (w := w) _) hB1) (.cells #[.int .i64 le, .int .i64 mo, .int .i64 bt] 128)
  go_wp2_with fail
  have c0 : (w1.alloc (.cells #[.int .i64 le, .int .i64 mo, .int .i64 bt] 128)).cell? ⟨w1.heap.size, 0, none⟩ = some (.int .i64 le) := World.cell?_alloc_at _ _ _ _ rfl
  have c1 : (w1.alloc (.cells #[.int .i64 le, .int .i64 mo, .int .i64 bt] 128)).cell? ⟨w1.heap.size, 1, none⟩ = some (.int .i64 mo) := World.cell?_alloc_at _ _ _ _ rfl
  have c2 : (w1.alloc (.cells #[.int .i64 le, .int .i64 mo, .int .i64 bt] 128)).cell? ⟨w1.heap.size, 2, none⟩ = some (.int .i64 bt) := World.cell?_alloc_at _ _ _ _ rfl
  have hBr := Below.refl (w1.alloc (.cells #[.int .i64 le, .int .i64 mo, .int .i64 bt] 128)).heap.size (w1.alloc (.cells #[.int .i64 le, .int .i64 mo, .int .i64 bt] 128))
  generalize w1.alloc (.cells #[.int .i64 le, .int .i64 mo, .int .i64 bt] 128) = W0 at *
  go_region_with
    (first
      | (go_at_call 116; refine (HC.out _).mono ?_; rintro r w5 ⟨rfl, hB5⟩; have hBn := below_then (by first | exact hBr | exact below_drew hBr) hB5))
  all_goals (
    have hBx := below_then hBw hBn
    by_cases hn : n = 0
    · have hn' : ¬ 0 < n := by omega
      have hn2 : ¬ (0 : Int) < (n : Int) := by omega
      rw [if_pos hn] at HN
      rw [decide_eq_false (by omega)] at HB
      clear hn
      go_wp2
      go_ret2
      exact ⟨ret_two (val_int (by rw [HN.out])) (val_bool (by rw [HB.out])), hBx⟩
    · have hn' : 0 < n := by omega
      have hn2 : (0 : Int) < (n : Int) := by omega
      rw [if_neg hn] at HN
      rw [decide_eq_true (by omega)] at HB
      clear hn
      go_wp2
      go_ret2
      exact ⟨ret_two (val_int (by rw [HN.out]; push_cast; omega)) (val_bool (by rw [HB.out])), hBx⟩)

set_option maxHeartbeats 4000000 in
theorem next_no0 (l wd jb ov : Int) (ck : Bool) (s : ByteArray) (p : Nat) (w : World) (hj : 16 ≤ jb ∧ jb ≤ 2097152) (hs : s.size ≤ 1048576) (hp : p ≤ s.size) (hc : (s.size : Int) ≤ (p : Int) + jb) :
    Calls Try.prog 90 #[.agg #[.int .i64 l, .int .i64 wd, .int .i64 jb, .int .i64 ov, .bool false, .bool ck], .string s, .int .i64 p] w fun e w' => e = .returned (.tuple #[.int .i64 (nextE jb false s p), .bool (nextB jb false s p)]) ∧ Below w.heap.size w w' := by
  have HF := Lib.hid (fun W => found_no l wd jb ov ck W hj)
  have hbi := Hi.bitsC_in jb hj.2
  have hle : 16 ≤ jb ∧ jb ≤ 1000000000 := by omega
  have hsz : (s.extract p s.size).size = s.size - p := by rw [ByteArray.size_extract]; omega
  have HC := Lib.hid (fun W => plain_any jb jb (Hi.bitsC jb) (s.extract p s.size) W (by rw [hsz]; omega))
  rw [show (if jb ≤ ((s.extract p s.size).size : Int) then jb else 0) = (cutN jb false s p : Int) by rw [plain_cut jb s p hj hp, hsz]; split <;> split <;> omega] at HC
  have hcl : cutN jb false s p ≤ s.size - p := by have := firstN_spec (atV jb false s p) (s.size - p); unfold cutN; omega
  have HN : Hid (nextE jb false s p = if cutN jb false s p = 0 then s.size else p + cutN jb false s p) := rfl
  have HB : Hid (nextB jb false s p = decide (cutN jb false s p ≠ 0)) := rfl
  clear hsz
  generalize cutN jb false s p = n at *
  generalize Hi.bitsC jb = bt at *
  have g0 : (0 : Int) ≤ (p : Int) := by omega
  have g1 : (p : Int) ≤ (s.size : Int) := by omega
  have hsl : ∀ V, (Instr.slice 9 (.string s) (some (.int .i64 (p : Int))) (some (.int .i64 (s.size : Int))) none).run Try.prog V = .ok (.string (s.extract p s.size)) V := fun V => run_slice_string (P := Try.prog) V 9 s .i64 .i64 p s.size Try.underlying9 (by omega) (by omega) (by omega)
  have g2 : (s.size : Int) ≤ (p : Int) + jb := hc
  have g4 : (0 : Int) ≤ (s.size : Int) := by omega
  have g3 : ¬ (p : Int) + jb < (s.size : Int) := by omega
  have g5 : IntKind.i64.wrap ((p : Int) + jb) = (p : Int) + jb := IntWalk.i64_in _ (by omega)
  go_enter Try.func90, Try.ntmps90
  go_wp2_with fail
  refine (HF.out _).mono ?_
  rintro e w1 ⟨rfl, hB1⟩
  have hBw := below_alloc (below_then (below_new (w := w) _) hB1) (.cells #[.int .i64 jb, .int .i64 jb, .int .i64 bt] 128)
  go_wp2_with fail
  have c0 : (w1.alloc (.cells #[.int .i64 jb, .int .i64 jb, .int .i64 bt] 128)).cell? ⟨w1.heap.size, 0, none⟩ = some (.int .i64 jb) := World.cell?_alloc_at _ _ _ _ rfl
  have c1 : (w1.alloc (.cells #[.int .i64 jb, .int .i64 jb, .int .i64 bt] 128)).cell? ⟨w1.heap.size, 1, none⟩ = some (.int .i64 jb) := World.cell?_alloc_at _ _ _ _ rfl
  have c2 : (w1.alloc (.cells #[.int .i64 jb, .int .i64 jb, .int .i64 bt] 128)).cell? ⟨w1.heap.size, 2, none⟩ = some (.int .i64 bt) := World.cell?_alloc_at _ _ _ _ rfl
  have hBr := Below.refl (w1.alloc (.cells #[.int .i64 jb, .int .i64 jb, .int .i64 bt] 128)).heap.size (w1.alloc (.cells #[.int .i64 jb, .int .i64 jb, .int .i64 bt] 128))
  generalize w1.alloc (.cells #[.int .i64 jb, .int .i64 jb, .int .i64 bt] 128) = W0 at *
  go_region_with
    (first
      | (go_at_call 115; refine (HC.out _).mono ?_; rintro r w5 ⟨rfl, hB5⟩; have hBn := below_then (by first | exact hBr | exact below_drew hBr) hB5))
  all_goals (
    have hBx := below_then hBw hBn
    by_cases hn : n = 0
    · have hn' : ¬ 0 < n := by omega
      have hn2 : ¬ (0 : Int) < (n : Int) := by omega
      rw [if_pos hn] at HN
      rw [decide_eq_false (by omega)] at HB
      clear hn
      go_wp2
      go_ret2
      exact ⟨ret_two (val_int (by rw [HN.out])) (val_bool (by rw [HB.out])), hBx⟩
    · have hn' : 0 < n := by omega
      have hn2 : (0 : Int) < (n : Int) := by omega
      rw [if_neg hn] at HN
      rw [decide_eq_true (by omega)] at HB
      clear hn
      go_wp2
      go_ret2
      exact ⟨ret_two (val_int (by rw [HN.out]; push_cast; omega)) (val_bool (by rw [HB.out])), hBx⟩)

set_option maxHeartbeats 4000000 in
theorem next_no1 (l wd jb ov : Int) (ck : Bool) (s : ByteArray) (p : Nat) (w : World) (hj : 16 ≤ jb ∧ jb ≤ 2097152) (hs : s.size ≤ 1048576) (hp : p ≤ s.size) (hc : (p : Int) + jb < (s.size : Int)) :
    Calls Try.prog 90 #[.agg #[.int .i64 l, .int .i64 wd, .int .i64 jb, .int .i64 ov, .bool false, .bool ck], .string s, .int .i64 p] w fun e w' => e = .returned (.tuple #[.int .i64 (nextE jb false s p), .bool (nextB jb false s p)]) ∧ Below w.heap.size w w' := by
  have HF := Lib.hid (fun W => found_no l wd jb ov ck W hj)
  have hbi := Hi.bitsC_in jb hj.2
  have hle : 16 ≤ jb ∧ jb ≤ 1000000000 := by omega
  have hsz : (s.extract p ((p : Int) + jb).toNat).size = ((p : Int) + jb).toNat - p := by rw [ByteArray.size_extract]; omega
  have HC := Lib.hid (fun W => plain_any jb jb (Hi.bitsC jb) (s.extract p ((p : Int) + jb).toNat) W (by rw [hsz]; omega))
  rw [show (if jb ≤ ((s.extract p ((p : Int) + jb).toNat).size : Int) then jb else 0) = (cutN jb false s p : Int) by rw [plain_cut jb s p hj hp, hsz]; split <;> split <;> omega] at HC
  have hcl : cutN jb false s p ≤ s.size - p := by have := firstN_spec (atV jb false s p) (s.size - p); unfold cutN; omega
  have HN : Hid (nextE jb false s p = if cutN jb false s p = 0 then s.size else p + cutN jb false s p) := rfl
  have HB : Hid (nextB jb false s p = decide (cutN jb false s p ≠ 0)) := rfl
  clear hsz
  generalize cutN jb false s p = n at *
  generalize Hi.bitsC jb = bt at *
  have g0 : (0 : Int) ≤ (p : Int) := by omega
  have g1 : (p : Int) ≤ (s.size : Int) := by omega
  have g2 : (0 : Int) ≤ (p : Int) + jb := by omega
  have g3 : (p : Int) ≤ (p : Int) + jb := by omega
  have g4 : (p : Int) + jb ≤ (s.size : Int) := by omega
  have g5 : IntKind.i64.wrap ((p : Int) + jb) = (p : Int) + jb := IntWalk.i64_in _ (by omega)
  go_enter Try.func90, Try.ntmps90
  go_wp2_with fail
  refine (HF.out _).mono ?_
  rintro e w1 ⟨rfl, hB1⟩
  have hBw := below_alloc (below_then (below_new (w := w) _) hB1) (.cells #[.int .i64 jb, .int .i64 jb, .int .i64 bt] 128)
  go_wp2_with fail
  have c0 : (w1.alloc (.cells #[.int .i64 jb, .int .i64 jb, .int .i64 bt] 128)).cell? ⟨w1.heap.size, 0, none⟩ = some (.int .i64 jb) := World.cell?_alloc_at _ _ _ _ rfl
  have c1 : (w1.alloc (.cells #[.int .i64 jb, .int .i64 jb, .int .i64 bt] 128)).cell? ⟨w1.heap.size, 1, none⟩ = some (.int .i64 jb) := World.cell?_alloc_at _ _ _ _ rfl
  have c2 : (w1.alloc (.cells #[.int .i64 jb, .int .i64 jb, .int .i64 bt] 128)).cell? ⟨w1.heap.size, 2, none⟩ = some (.int .i64 bt) := World.cell?_alloc_at _ _ _ _ rfl
  have hBr := Below.refl (w1.alloc (.cells #[.int .i64 jb, .int .i64 jb, .int .i64 bt] 128)).heap.size (w1.alloc (.cells #[.int .i64 jb, .int .i64 jb, .int .i64 bt] 128))
  generalize w1.alloc (.cells #[.int .i64 jb, .int .i64 jb, .int .i64 bt] 128) = W0 at *
  go_region_with
    (first
      | (go_at_call 115; refine (HC.out _).mono ?_; rintro r w5 ⟨rfl, hB5⟩; have hBn := below_then (by first | exact hBr | exact below_drew hBr) hB5))
  all_goals (
    have hBx := below_then hBw hBn
    by_cases hn : n = 0
    · have hn' : ¬ 0 < n := by omega
      have hn2 : ¬ (0 : Int) < (n : Int) := by omega
      rw [if_pos hn] at HN
      rw [decide_eq_false (by omega)] at HB
      clear hn
      go_wp2
      go_ret2
      exact ⟨ret_two (val_int (by rw [HN.out])) (val_bool (by rw [HB.out])), hBx⟩
    · have hn' : 0 < n := by omega
      have hn2 : (0 : Int) < (n : Int) := by omega
      rw [if_neg hn] at HN
      rw [decide_eq_true (by omega)] at HB
      clear hn
      go_wp2
      go_ret2
      exact ⟨ret_two (val_int (by rw [HN.out]; push_cast; omega)) (val_bool (by rw [HB.out])), hBx⟩)

theorem next_any (l wd jb ov : Int) (sy ck : Bool) (s : ByteArray) (p : Nat) (w : World) (hj : 16 ≤ jb ∧ jb ≤ 2097152) (hs : s.size ≤ 1048576) (hp : p ≤ s.size) :
    Calls Try.prog 90 #[.agg #[.int .i64 l, .int .i64 wd, .int .i64 jb, .int .i64 ov, .bool sy, .bool ck], .string s, .int .i64 p] w fun e w' => e = .returned (.tuple #[.int .i64 (nextE jb sy s p), .bool (nextB jb sy s p)]) ∧ Below w.heap.size w w' := by
  cases sy
  · by_cases hc : (s.size : Int) ≤ (p : Int) + jb
    · exact next_no0 l wd jb ov ck s p w hj hs hp hc
    · exact next_no1 l wd jb ov ck s p w hj hs hp (by omega)
  · by_cases hc : (s.size : Int) ≤ (p : Int) + 4 * jb
    · exact next_yes0 l wd jb ov ck s p w hj hs hp hc
    · exact next_yes1 l wd jb ov ck s p w hj hs hp (by omega)

end Go.Proofs.Ytfdbkpbgkpkckaa
