/-
  The walks of the reference's bits, at, next.
-/
import Derived.Test.YtfdbkpbgkpkckaaCutContent
import Derived.RegionTactic
import Derived.BigRegion
import Derived.Deep.RegionHeld3
import Derived.Deep.DrawnRows
import Derived.Test.YtfdbkpbgkpkckaaRegions
import Derived.Laws.EntriesVeiled
import Derived.Test.YtfdbkpbgkpkckaaStr
import Derived.WalkMore
import Derived.Deep.QuietTactic
import Derived.BigQuiet
namespace Go.Proofs.Ytfdbkpbgkpkckaa
open Go.RowKit
set_option linter.unusedVariables false
set_option maxRecDepth 100000

attribute [local go_sem ↓] Go.wp_at_zero Go.wp_at_succ
theorem rbits35_any (l wd jb ov : Int) (sy ck : Bool) (w : World) (hj : 16 ≤ jb ∧ jb ≤ 2097152) :
    Calls Try.prog 114 #[.agg #[.int .i64 l, .int .i64 wd, .int .i64 jb, .int .i64 ov, .bool sy, .bool ck]] w fun e w' => e = .returned (.int .i64 (Hi.bitsC jb)) ∧ Below w.heap.size w w' := by
  have HH := Lib.hid (fun W => Hi.rHigh_any jb W (by omega))
  have HB : Hid (Hi.bitsC jb = max 1 (Hi.hi jb - 2)) := rfl
  have hb := Hi.hi_lo jb
  generalize Hi.bitsC jb = bt at *
  generalize Hi.hi jb = h at *
  by_cases d1 : h - 2 ≤ 1
  · have c1b : ¬ 1 < h - 2 := by omega
    go_enter Try.func114, Try.ntmps114
    go_wp2_with fail
    refine (HH.out _).mono ?_
    rintro e w1 ⟨rfl, rfl⟩
    go_wp2
    go_ret
    exact ⟨ret_int (by rw [HB.out]; omega), below_fresh _⟩
  · have c1b : 1 < h - 2 := by omega
    go_enter Try.func114, Try.ntmps114
    go_wp2_with fail
    refine (HH.out _).mono ?_
    rintro e w1 ⟨rfl, rfl⟩
    go_wp2
    go_ret
    exact ⟨ret_int (by rw [HB.out]; omega), below_fresh _⟩

/-- Whether a job is cut behind just these bytes. -/
def atJ (jb : Int) (sy : Bool) (u : ByteArray) : Bool := decide ((u.size : Int) = longV jb sy) || (sy && (decide (leastC jb ≤ (u.size : Int)) && hitsV (winC u (u.size - 16)) (Hi.bitsC jb)))
theorem atJ_at (jb : Int) (sy : Bool) (s : ByteArray) (p e : Nat) (h : p ≤ e) (he : e ≤ s.size) : atJ jb sy (s.extract p e) = atV jb sy s p (e - p) := by
  have hsz : (s.extract p e).size = e - p := by rw [ByteArray.size_extract]; omega
  unfold atJ atV
  rw [hsz]
  have hl16 : 16 ≤ leastC jb := by unfold leastC; omega
  by_cases hl : leastC jb ≤ ((e - p : Nat) : Int)
  · rw [winC_sub s p e (e - p - 16) (by omega) he, show p + (e - p - 16) = p + (e - p) - 16 by omega]
  · simp [hl]

set_option maxHeartbeats 4000000 in
theorem at_any (l wd jb ov : Int) (sy ck : Bool) (u : ByteArray) (w : World) (h : ¬ parBad l wd jb ov) (hu : u.size ≤ 100000000) :
    Calls Try.prog 103 #[.agg #[.int .i64 l, .int .i64 wd, .int .i64 jb, .int .i64 ov, .bool sy, .bool ck], .string u] w fun e w' => e = .returned (.bool (atJ jb sy u)) ∧ Below w.heap.size w w' := by
  have hj := (par_in h).2.2.1
  have HL := Lib.hid (fun W => rlongest_any l wd jb ov sy ck W h)
  have HBi := Lib.hid (fun W => rbits35_any l wd jb ov sy ck W hj)
  have hbi := Hi.bitsC_in jb hj.2
  unfold parV at HL
  have HJ : Hid (atJ jb sy u = (decide ((u.size : Int) = longV jb sy) || (sy && (decide (leastC jb ≤ (u.size : Int)) && hitsV (winC u (u.size - 16)) (Hi.bitsC jb))))) := rfl
  have HLE : Hid (leastC jb = max 16 (jb / 4)) := rfl
  have hlb : 16 ≤ leastC jb ∧ leastC jb ≤ 1000000 := by unfold leastC; omega
  generalize Hi.bitsC jb = bt at *
  generalize longV jb sy = lo at *
  clear h
  by_cases h1 : (u.size : Int) = lo
  · have e1 : ((u.size : Int) == lo) = true := by simpa using h1
    rw [decide_eq_true h1, Bool.true_or] at HJ
    clear h1
    go_enter Try.func103, Try.ntmps103
    go_wp2_with fail
    refine (HL.out _).mono ?_
    rintro e w1 ⟨rfl, hB1⟩
    go_wp2
    go_ret
    exact ⟨ret_bool HJ.out.symm, below_then (below_fresh _) hB1⟩
  · have e1 : ((u.size : Int) == lo) = false := by simpa using h1
    rw [decide_eq_false h1, Bool.false_or] at HJ
    clear h1
    cases sy
    · rw [Bool.false_and] at HJ
      go_enter Try.func103, Try.ntmps103
      go_wp2_with fail
      refine (HL.out _).mono ?_
      rintro e w1 ⟨rfl, hB1⟩
      obtain ⟨p0, p1, p2, p3, p4, p5⟩ := (ParBox.new w l wd jb ov false ck 24).keep hB1 (by simp)
      go_wp2
      go_ret
      exact ⟨ret_bool HJ.out.symm, below_then (below_fresh _) hB1⟩
    · rw [Bool.true_and] at HJ
      have d1 : jb.tdiv 4 = jb / 4 := Int.tdiv_eq_ediv_of_nonneg (by omega)
      by_cases h2 : leastC jb ≤ (u.size : Int)
      · rw [decide_eq_true h2, Bool.true_and] at HJ
        have HO := Lib.hid (fun W => rOf_any (u.extract (u.size - 16) u.size) W (by rw [ByteArray.size_extract]; omega))
        rw [show ofV (u.extract (u.size - 16) u.size) = winC u (u.size - 16) by have := of_win u (u.size - 16) (by omega); rwa [show u.size - 16 + 16 = u.size by omega] at this] at HO
        have hH := winC_lo u (u.size - 16)
        have HT := Lib.hid (fun W => rHits_any (winC u (u.size - 16)) bt W hH)
        generalize winC u (u.size - 16) = H0 at *
        have hsl : ∀ V, (Instr.slice 9 (.string u) (some (.int .i64 ((u.size : Int) - 16))) none none).run Try.prog V = .ok (.string (u.extract (u.size - 16) u.size)) V := fun V => by
          rw [run_slice_string_l (P := Try.prog) (w := V) 9 u Try.underlying9 .i64 ((u.size : Int) - 16) (by omega) (by omega), show ((u.size : Int) - 16).toNat = u.size - 16 by omega]
        have HSL := Lib.hid hsl
        clear hsl
        by_cases d2 : jb / 4 ≤ 16
        · have c0 : ¬ 16 < jb / 4 := by omega
          have c1 : ¬ (u.size : Int) < 16 := by have := HLE.out; omega
          have c2 : (16 : Int) ≤ (u.size : Int) := by omega
          clear h2 hlb
          go_enter Try.func103, Try.ntmps103
          go_wp2_with fail
          refine (HL.out _).mono ?_
          rintro e w1 ⟨rfl, hB1⟩
          obtain ⟨p0, p1, p2, p3, p4, p5⟩ := (ParBox.new w l wd jb ov true ck 24).keep hB1 (by simp)
          have hsl := HSL.out
          go_wp2_with fail
          refine (HO.out _).mono ?_
          rintro e w2 ⟨rfl, rfl⟩
          go_wp2_with fail
          refine (HBi.out _).mono ?_
          rintro e w3 ⟨rfl, hB3⟩
          go_wp2_with fail
          refine (HT.out _).mono ?_
          rintro e w4 ⟨rfl, rfl⟩
          go_wp2
          go_ret
          exact ⟨ret_bool HJ.out.symm, below_then (below_then (below_fresh _) hB1) hB3⟩
        · have c0 : 16 < jb / 4 := by omega
          have c1 : ¬ (u.size : Int) < jb / 4 := by have := HLE.out; omega
          have c2 : (16 : Int) ≤ (u.size : Int) := by omega
          clear h2 hlb
          go_enter Try.func103, Try.ntmps103
          go_wp2_with fail
          refine (HL.out _).mono ?_
          rintro e w1 ⟨rfl, hB1⟩
          obtain ⟨p0, p1, p2, p3, p4, p5⟩ := (ParBox.new w l wd jb ov true ck 24).keep hB1 (by simp)
          have hsl := HSL.out
          go_wp2_with fail
          refine (HO.out _).mono ?_
          rintro e w2 ⟨rfl, rfl⟩
          go_wp2_with fail
          refine (HBi.out _).mono ?_
          rintro e w3 ⟨rfl, hB3⟩
          go_wp2_with fail
          refine (HT.out _).mono ?_
          rintro e w4 ⟨rfl, rfl⟩
          go_wp2
          go_ret
          exact ⟨ret_bool HJ.out.symm, below_then (below_then (below_fresh _) hB1) hB3⟩
      · rw [decide_eq_false h2, Bool.false_and] at HJ
        by_cases d2 : jb / 4 ≤ 16
        · have c0 : ¬ 16 < jb / 4 := by omega
          have c1 : (u.size : Int) < 16 := by have := HLE.out; omega
          clear h2 hlb
          go_enter Try.func103, Try.ntmps103
          go_wp2_with fail
          refine (HL.out _).mono ?_
          rintro e w1 ⟨rfl, hB1⟩
          obtain ⟨p0, p1, p2, p3, p4, p5⟩ := (ParBox.new w l wd jb ov true ck 24).keep hB1 (by simp)
          go_wp2
          go_ret
          exact ⟨ret_bool HJ.out.symm, below_then (below_fresh _) hB1⟩
        · have c0 : 16 < jb / 4 := by omega
          have c1 : (u.size : Int) < jb / 4 := by have := HLE.out; omega
          clear h2 hlb
          go_enter Try.func103, Try.ntmps103
          go_wp2_with fail
          refine (HL.out _).mono ?_
          rintro e w1 ⟨rfl, hB1⟩
          obtain ⟨p0, p1, p2, p3, p4, p5⟩ := (ParBox.new w l wd jb ov true ck 24).keep hB1 (by simp)
          go_wp2
          go_ret
          exact ⟨ret_bool HJ.out.symm, below_then (below_fresh _) hB1⟩


set_option maxHeartbeats 4000000 in
theorem rnext_any (l wd jb ov : Int) (sy ck : Bool) (s : ByteArray) (p : Nat) (w : World) (h : ¬ parBad l wd jb ov) (hs : s.size ≤ 1048576) (hp : p ≤ s.size) :
    Calls Try.prog 88 #[.agg #[.int .i64 l, .int .i64 wd, .int .i64 jb, .int .i64 ov, .bool sy, .bool ck], .string s, .int .i64 p] w fun e w' => e = .returned (.tuple #[.int .i64 (nextE jb sy s p), .bool (nextB jb sy s p)]) ∧ Below w.heap.size w w' := by
  have HA : Hid (∀ (e : Nat) W, e ≤ s.size → Calls Try.prog 103 #[.agg #[.int .i64 l, .int .i64 wd, .int .i64 jb, .int .i64 ov, .bool sy, .bool ck], .string (s.extract p e)] W fun r w' => r = .returned (.bool (atJ jb sy (s.extract p e))) ∧ Below W.heap.size W w') := fun e W he =>
    at_any l wd jb ov sy ck (s.extract p e) W h (by rw [ByteArray.size_extract]; omega)
  have HN : Hid (nextE jb sy s p = if firstN (atV jb sy s p) (s.size - p) = 0 then s.size else p + firstN (atV jb sy s p) (s.size - p)) := rfl
  have HB : Hid (nextB jb sy s p = decide (firstN (atV jb sy s p) (s.size - p) ≠ 0)) := rfl
  have HP : Hid (∀ V, Below (w.alloc (.cells #[.int .i64 l, .int .i64 wd, .int .i64 jb, .int .i64 ov, .bool sy, .bool ck] 24)).heap.size (w.alloc (.cells #[.int .i64 l, .int .i64 wd, .int .i64 jb, .int .i64 ov, .bool sy, .bool ck] 24)) V → ParBox V w.heap.size l wd jb ov sy ck) := fun V hV => (ParBox.new w l wd jb ov sy ck 24).keep hV (by simp)
  have HB0 := Lib.hid (below_fresh (w := w) (.cells #[.int .i64 l, .int .i64 wd, .int .i64 jb, .int .i64 ov, .bool sy, .bool ck] 24))
  have HAT : Hid (∀ e, p ≤ e → e ≤ s.size → atJ jb sy (s.extract p e) = atV jb sy s p (e - p)) := fun e h1 h2 => atJ_at jb sy s p e h1 h2
  clear h
  go_enter Try.func88, Try.ntmps88
  go_wp2
  generalize w.alloc (.cells #[.int .i64 l, .int .i64 wd, .int .i64 jb, .int .i64 ov, .bool sy, .bool ck] 24) = W0 at *
  go_loopw [8] (fun ev wr => ∃ k : Nat, p ≤ k ∧ k ≤ s.size ∧ ev = .int .i64 (k + 1) ∧ Hid (∀ i, 1 ≤ i → i ≤ k - p → atV jb sy s p i = false) ∧ Below W0.heap.size W0 wr) (fun ev _ => s.size + 1 - (intOf ev).toNat)
  case atStart => exact ⟨p, Nat.le_refl _, hp, rfl, fun i h1 h2 => by omega, Below.refl _ _⟩
  case round =>
    obtain ⟨k, hk1, hk2, rfl, HF, hB⟩ := hrel
    by_cases hlt : k < s.size
    · have HC := Lib.hid (fun W => HA.out (k + 1) W (by omega))
      have HAk := Lib.hid (HAT.out (k + 1) (by omega) (by omega))
      have g0 : (k : Int) + 1 ≤ (s.size : Int) := by omega
      have g1 : (0 : Int) ≤ (p : Int) := by omega
      have g2 : (p : Int) ≤ (k : Int) + 1 := by omega
      have hsl : ∀ V, (Instr.slice 9 (.string s) (some (.int .i64 (p : Int))) (some (.int .i64 ((k : Int) + 1))) none).run Try.prog V = .ok (.string (s.extract p (k + 1))) V := fun V => run_slice_string (P := Try.prog) V 9 s .i64 .i64 p ((k : Int) + 1) Try.underlying9 (by omega) (by omega) (by omega)
      obtain ⟨u, hu⟩ : ∃ u, s.extract p (k + 1) = u := ⟨_, rfl⟩
      rw [hu] at HC HAk hsl
      clear hu
      obtain ⟨q0, q1, q2, q3, q4, q5⟩ := HP.out _ hB
      have hBr := Below.refl wr.heap.size wr
      cases ha : atJ jb sy u
      · rw [ha] at HC HAk
        clear ha
        go_wp2_with fail
        go_region_with
          (first
            | (go_at_call 103; refine (HC.out _).mono ?_; rintro r w5 ⟨rfl, hB5⟩; have hBn := below_then (by first | exact hBr | exact below_drew hBr) hB5))
        all_goals (
          have hBx := below_then hB hBn
          go_wp2
          go_roundw
          case rel => exact ⟨k + 1, by omega, by omega, by first | rfl | go_num, fun i a b => by
            rcases Nat.lt_or_ge (k - p) i with hh | hh
            · obtain rfl : i = k + 1 - p := by omega
              exact HAk.out.symm
            · exact HF.out i a hh, hBx⟩
          case measure => simp [intOf]; omega)
      · rw [ha] at HC HAk
        clear ha
        have HL := Lib.hid (firstN_found (m := s.size - p) (n := k + 1 - p) (by omega) (by omega) HAk.out.symm (fun i a b => HF.out i a (by omega)))
        go_wp2_with fail
        go_region_with
          (first
            | (go_at_call 103; refine (HC.out _).mono ?_; rintro r w5 ⟨rfl, hB5⟩; have hBn := below_then (by first | exact hBr | exact below_drew hBr) hB5))
        all_goals (
          have hBx := below_then HB0.out (below_then hB hBn)
          go_wp2
          go_ret2
          exact ⟨ret_two (val_int (by rw [HN.out, HL.out, if_neg (by omega)]; omega)) (val_bool (by rw [HB.out, HL.out, decide_eq_true (by omega)])), hBx⟩)
    · obtain rfl : k = s.size := by omega
      have HL := Lib.hid (firstN_none (m := s.size - p) (fun i a b => HF.out i a b))
      have g0 : ¬ (s.size : Int) + 1 ≤ (s.size : Int) := by omega
      go_wp2
      go_ret2
      exact ⟨ret_two (val_int (by rw [HN.out, HL.out, if_pos rfl])) (val_bool (by rw [HB.out, HL.out, decide_eq_false (by omega)])), below_then HB0.out hB⟩

end Go.Proofs.Ytfdbkpbgkpkckaa
