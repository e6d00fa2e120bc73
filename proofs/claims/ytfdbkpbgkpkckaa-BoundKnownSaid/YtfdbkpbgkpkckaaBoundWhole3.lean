/-
  The contracts of bound.Whole and Holds, and of their references.
-/
import Derived.Test.YtfdbkpbgkpkckaaBoundWhole2
import Derived.Deep.LoopGhost
namespace Go.Proofs.Ytfdbkpbgkpkckaa
open Go.RowKit Go.Shelf
set_option linter.unusedVariables false
set_option maxRecDepth 100000

set_option maxHeartbeats 4000000 in
theorem Whole_any (l wd jb ov : Int) (sy ck : Bool) (s : ByteArray) (w : World) (hs' : s.size ≤ 9223372036854775807) :
    Calls Try.prog 28 #[.agg #[.int .i64 l, .int .i64 wd, .int .i64 jb, .int .i64 ov, .bool sy, .bool ck], .string s] w fun e w' => e = .returned (.tuple #[.int .i64 (wholeJ l wd jb ov sy s), .int .i64 (wholeB l wd jb ov sy s), .int .i64 (wholeO l wd jb ov sy s), .int .i64 (askE l wd jb ov s)]) ∧ Below w.heap.size w w' := by
  have HW := Lib.hid (fun W => whole_any l wd jb ov sy ck s W hs')
  by_cases h : askE l wd jb ov s = 0
  · obtain ⟨e1, e2, e3⟩ := whole_ok sy h
    have hb := whole_bd sy h
    have hz := (ask_zero h).2
    rw [e3, h]
    rw [h] at HW
    have HO := Lib.hid (fun W => output_any (s.size : Int) (wholeB l wd jb ov sy s) W (by omega) (by omega))
    generalize wholeB l wd jb ov sy s = B at *
    generalize wholeJ l wd jb ov sy s = J at *
    clear e1 e2 e3 h hb
    go_enter Try.func28, Try.ntmps28
    go_wp2_with fail
    refine (HW.out _).mono ?_
    rintro e w1 ⟨rfl, hB1⟩
    go_wp2_with fail
    refine (HO.out _).mono ?_
    rintro e w2 ⟨rfl, hB2⟩
    go_wp2
    refine bodyPost_ret (v := .tuple #[.int .i64 J, .int .i64 B, .int .i64 ((s.size : Int) + 3 * B + 10), .int .i64 0]) (by simp [results, Try.results28, go_sem]) rfl ⟨rfl, ?_⟩
    exact below_then (below_then (below_new _) hB1) hB2
  · obtain ⟨e1, e2, e3⟩ := whole_no sy h
    rw [e1, e2, e3]
    rw [e1, e2] at HW
    generalize askE l wd jb ov s = a at *
    have g1 : (a != 0) = true := by simpa using h
    clear e1 e2 e3 h
    go_enter Try.func28, Try.ntmps28
    go_wp2_with fail
    refine (HW.out _).mono ?_
    rintro e w1 ⟨rfl, hB1⟩
    go_wp2
    refine bodyPost_ret (v := .tuple #[.int .i64 0, .int .i64 0, .int .i64 0, .int .i64 a]) (by simp [results, Try.results28, go_sem]) rfl ⟨rfl, ?_⟩
    exact below_then (below_new _) hB1

def holdsV (l wd jb ov : Int) (sy : Bool) (s b : ByteArray) : Bool := decide (askE l wd jb ov s = 0) && (decide (9 ≤ (b.size : Int)) && decide ((b.size : Int) ≤ wholeO l wd jb ov sy s))

set_option maxHeartbeats 4000000 in
theorem Holds_any (l wd jb ov : Int) (sy ck : Bool) (s b : ByteArray) (w : World) (hs' : s.size ≤ 9223372036854775807) (hb' : b.size ≤ 9223372036854775807) :
    Calls Try.prog 30 #[.agg #[.int .i64 l, .int .i64 wd, .int .i64 jb, .int .i64 ov, .bool sy, .bool ck], .string s, .string b] w fun e w' => e = .returned (.tuple #[.bool (holdsV l wd jb ov sy s b), .int .i64 (askE l wd jb ov s)]) ∧ Below w.heap.size w w' := by
  have HW := Lib.hid (fun W => whole_any l wd jb ov sy ck s W hs')
  unfold holdsV
  by_cases h : askE l wd jb ov s = 0
  · obtain ⟨e1, e2, e3⟩ := whole_ok sy h
    have hb := whole_bd sy h
    have hz := (ask_zero h).2
    rw [e3, h]
    rw [h] at HW
    have HO := Lib.hid (fun W => output_any (s.size : Int) (wholeB l wd jb ov sy s) W (by omega) (by omega))
    generalize wholeB l wd jb ov sy s = B at *
    generalize wholeJ l wd jb ov sy s = J at *
    clear e1 e2 e3 h hb
    by_cases h9 : 9 ≤ b.size
    · have d1 : decide (9 ≤ (b.size : Int)) = true := by simp; omega
      have d2 : (9 : Int) ≤ (b.size : Int) := by omega
      go_enter Try.func30, Try.ntmps30
      go_wp2_with fail
      refine (HW.out _).mono ?_
      rintro e w1 ⟨rfl, hB1⟩
      go_wp2_with fail
      refine (HO.out _).mono ?_
      rintro e w2 ⟨rfl, hB2⟩
      go_wp2
      refine bodyPost_ret (v := .tuple #[.bool (decide ((b.size : Int) ≤ (s.size : Int) + 3 * B + 10)), .int .i64 0]) (by simp [results, Try.results30, go_sem]) rfl ⟨by simp [d2], ?_⟩
      exact below_then (below_then (below_new _) hB1) hB2
    · have d1 : decide (9 ≤ (b.size : Int)) = false := by simp; omega
      have d2 : ¬ (9 : Int) ≤ (b.size : Int) := by omega
      go_enter Try.func30, Try.ntmps30
      go_wp2_with fail
      refine (HW.out _).mono ?_
      rintro e w1 ⟨rfl, hB1⟩
      go_wp2
      refine bodyPost_ret (v := .tuple #[.bool false, .int .i64 0]) (by simp [results, Try.results30, go_sem]) rfl ⟨by simp; omega, ?_⟩
      exact below_then (below_new _) hB1
  · obtain ⟨e1, e2, e3⟩ := whole_no sy h
    have d0 : decide (askE l wd jb ov s = 0) = false := by simpa using h
    rw [d0, Bool.false_and]
    rw [e1, e2] at HW
    generalize askE l wd jb ov s = a at *
    have g1 : (a != 0) = true := by simpa using h
    clear e1 e2 e3 h d0
    go_enter Try.func30, Try.ntmps30
    go_wp2_with fail
    refine (HW.out _).mono ?_
    rintro e w1 ⟨rfl, hB1⟩
    go_wp2
    refine bodyPost_ret (v := .tuple #[.bool false, .int .i64 a]) (by simp [results, Try.results30, go_sem]) rfl ⟨rfl, ?_⟩
    exact below_then (below_new _) hB1

set_option maxHeartbeats 4000000 in
theorem rWhole_any (l wd jb ov : Int) (sy ck : Bool) (s : ByteArray) (w : World) (hs' : s.size ≤ 9223372036854775807) :
    Calls Try.prog 29 #[.agg #[.int .i64 l, .int .i64 wd, .int .i64 jb, .int .i64 ov, .bool sy, .bool ck], .string s] w fun e w' => e = .returned (.tuple #[.int .i64 (wholeJ l wd jb ov sy s), .int .i64 (wholeB l wd jb ov sy s), .int .i64 (wholeO l wd jb ov sy s), .int .i64 (askE l wd jb ov s)]) ∧ Below w.heap.size w w' := by
  have HC := Lib.hid (fun W => rCheck_any l wd jb ov sy ck W)
  unfold parV at HC
  by_cases hp : parBad l wd jb ov
  · have ha := ask_bad (s := s) hp
    obtain ⟨e1, e2, e3⟩ := whole_no sy (s := s) (by rw [ha]; decide)
    rw [e1, e2, e3, ha]
    rw [parE_bad hp] at HC
    clear e1 e2 e3 ha hp
    go_enter Try.func29, Try.ntmps29
    go_wp2_with fail
    refine (HC.out _).mono ?_
    rintro e w1 ⟨rfl, hB1⟩
    go_wp2
    refine bodyPost_ret (v := .tuple #[.int .i64 0, .int .i64 0, .int .i64 0, .int .i64 2]) (by simp [results, Try.results29, go_sem]) rfl ⟨rfl, ?_⟩
    exact below_then (below_new _) hB1
  · rw [parE_ok hp] at HC
    by_cases hl : 1048576 < s.size
    · have ha := ask_long hp hl
      obtain ⟨e1, e2, e3⟩ := whole_no sy (s := s) (by rw [ha]; decide)
      rw [e1, e2, e3, ha]
      have hsg : (1048576 : Int) < (s.size : Int) := by omega
      clear e1 e2 e3 ha hp
      go_enter Try.func29, Try.ntmps29
      go_wp2_with fail
      refine (HC.out _).mono ?_
      rintro e w1 ⟨rfl, hB1⟩
      go_wp2
      refine bodyPost_ret (v := .tuple #[.int .i64 0, .int .i64 0, .int .i64 0, .int .i64 4]) (by simp [results, Try.results29, go_sem]) rfl ⟨rfl, ?_⟩
      exact below_then (below_new _) hB1
    · have ha := ask_ok hp hl
      obtain ⟨e1, e2, e3⟩ := whole_ok sy ha
      have hbd := whole_bd sy ha
      rw [e3, e2, e1, ha]
      rw [e2, e1] at hbd
      have hsg : ¬ (1048576 : Int) < (s.size : Int) := by omega
      have hZ := blkV_lo wd (par_in hp).2.1
      obtain ⟨f1, f2, f3, f4⟩ := jobs_facts jb sy s
      have HN : Hid (∀ k V, Calls Try.prog 60 #[.agg #[.int .i64 l, .int .i64 wd, .int .i64 jb, .int .i64 ov, .bool sy, .bool ck], .string s, .int .i64 (atK jb sy s k : Int)] V fun e w' => e = .returned (.tuple #[.int .i64 (posE jb sy s k : Int), .bool (nextB jb sy s (atK jb sy s k)), .int .i64 0]) ∧ Below V.heap.size V w') := fun k V => by
        have := rNext35_ok l wd jb ov sy ck s (atK jb sy s k) V ha (atK_le jb sy s k)
        rw [atK_next] at this
        exact this
      have HM : Hid (∀ k V, Calls Try.prog 56 #[.agg #[.int .i64 l, .int .i64 wd, .int .i64 jb, .int .i64 ov, .bool sy, .bool ck], .int .i64 ((posE jb sy s k : Int) - (atK jb sy s k : Int))] V fun e w' => e = .returned (.int .i64 (manyV (blkV wd) (lenE jb sy s k))) ∧ Below V.heap.size V w') := fun k V => by
        have hbk := lenE_bd jb sy s k
        exact rblocks_any l wd jb ov sy ck (lenE jb sy s k) V hp (by omega)
      have HT : Hid (∀ k, (k < jobsN jb sy s → k ≠ 0 → atK jb sy s k < s.size) ∧ (k = jobsN jb sy s → ¬ atK jb sy s k < s.size)) := fun k => by
        cases k with
        | zero => exact ⟨fun _ h => absurd rfl h, fun h => by omega⟩
        | succ i =>
          refine ⟨fun h _ => f2 i h, fun h => ?_⟩
          have h2 : jobsN jb sy s - 1 = i := by omega
          rw [h2] at f3
          exact f3
      have HAK : Hid (∀ k, atK jb sy s (k + 1) = posE jb sy s k) := fun _ => rfl
      have HAL : Hid (∀ k, atK jb sy s k ≤ s.size) := fun k => atK_le jb sy s k
      have HA0 : Hid ((0 : Int) = (atK jb sy s 0 : Int)) := rfl
      have HLB : Hid (∀ k, 0 ≤ lenE jb sy s k ∧ lenE jb sy s k ≤ s.size) := lenE_bd jb sy s
      have HSU : Hid (∀ k, blkSum (blkV wd) (lensE jb sy s (List.range (k + 1))) = blkSum (blkV wd) (lensE jb sy s (List.range k)) + manyV (blkV wd) (lenE jb sy s k)) := fun k => by
        unfold lensE; rw [List.range_succ, List.map_append, blkSum_append, List.map_cons, List.map_nil, blkSum_one]
      have HS0 : Hid (blkSum (blkV wd) (lensE jb sy s (List.range 0)) = 0) := rfl
      have HSB : Hid (∀ k, k ≤ 1048577 → 0 ≤ blkSum (blkV wd) (lensE jb sy s (List.range k)) ∧ blkSum (blkV wd) (lensE jb sy s (List.range k)) ≤ 2000000000) := fun k hk => by
        have h1 := blkSum_bd (blkV wd) hZ (lensE jb sy s (List.range k)) (lens_ok jb sy s (by omega) _)
        have h2 := blkSum_small (blkV wd) hZ (lensE jb sy s (List.range k)) (lens_ok jb sy s (by omega) _)
        rw [show (lensE jb sy s (List.range k)).length = k by unfold lensE; rw [List.length_map, List.length_range]] at h1 h2
        omega
      have HMB : Hid (∀ k, 1 ≤ manyV (blkV wd) (lenE jb sy s k) ∧ manyV (blkV wd) (lenE jb sy s k) ≤ 1025) := fun k => by
        have h0 := lenE_bd jb sy s k
        have h1 := manyV_lo (blkV wd) (lenE jb sy s k) hZ (by omega)
        have h2 := many_small (blkV wd) (lenE jb sy s k) hZ.1 (by omega)
        omega
      have HPB : Hid (∀ V, Below (w.alloc (.cells #[.int .i64 l, .int .i64 wd, .int .i64 jb, .int .i64 ov, .bool sy, .bool ck] 24)).heap.size (w.alloc (.cells #[.int .i64 l, .int .i64 wd, .int .i64 jb, .int .i64 ov, .bool sy, .bool ck] 24)) V → ParBox V w.heap.size l wd jb ov sy ck) := fun V hV => (ParBox.new w l wd jb ov sy ck 24).keep hV (by simp)
      have hB0 := Below.refl (w.alloc (.cells #[.int .i64 l, .int .i64 wd, .int .i64 jb, .int .i64 ov, .bool sy, .bool ck] 24)).heap.size (w.alloc (.cells #[.int .i64 l, .int .i64 wd, .int .i64 jb, .int .i64 ov, .bool sy, .bool ck] 24))
      have hBn := below_new (w := w) (.cells #[.int .i64 l, .int .i64 wd, .int .i64 jb, .int .i64 ov, .bool sy, .bool ck] 24)
      have HOU : Hid (∀ W, Calls Try.prog 22 #[.int .i64 (s.size : Int), .int .i64 (blkSum (blkV wd) (lensE jb sy s (List.range (jobsN jb sy s))))] W fun e w' => e = .returned (.tuple #[.int .i64 ((s.size : Int) + 3 * blkSum (blkV wd) (lensE jb sy s (List.range (jobsN jb sy s))) + 10), .int .i64 0]) ∧ Below W.heap.size W w') := fun W => by
        have h1 := rOutput_any (s.size : Int) (blkSum (blkV wd) (lensE jb sy s (List.range (jobsN jb sy s)))) W (by omega) (by omega)
        obtain ⟨o1, o2⟩ := out_ok (n := (s.size : Int)) (k := blkSum (blkV wd) (lensE jb sy s (List.range (jobsN jb sy s)))) (by unfold outBad; omega)
        rw [o1, o2] at h1
        exact h1.mono fun e w' h => ⟨h.1, by first | exact h.2 | exact h.2 ▸ Below.refl _ _⟩
      clear f2 f3 ha hp e1 e2 e3
      generalize blkV wd = Z at *
      generalize jobsN jb sy s = L at *
      obtain ⟨hb1, hb2, hb3⟩ := hbd
      go_enter Try.func29, Try.ntmps29
      go_wp2_with fail
      generalize hW0 : w.alloc (.cells #[.int .i64 l, .int .i64 wd, .int .i64 jb, .int .i64 ov, .bool sy, .bool ck] 24) = W0 at *
      clear hW0
      refine (HC.out _).mono ?_
      rintro e w1 ⟨rfl, hB1⟩
      have bB1 := below_then hB0 hB1
      go_wp2_with fail
      go_loopg [9, 10, 11] L (fun g jv mv fv wr => ∃ k : Nat, k ≤ L ∧ g = L - k ∧ jv = .int .i64 (k : Int) ∧ mv = .int .i64 (blkSum Z (lensE jb sy s (List.range k))) ∧ fv = .int .i64 (atK jb sy s k : Int) ∧ Below W0.heap.size W0 wr)
      case atStart => exact ⟨0, Nat.zero_le _, by omega, rfl, by rw [HS0.out], val_int HA0.out, bB1⟩
      case round =>
        obtain ⟨k, hk, rfl, rfl, rfl, rfl, hBr⟩ := hrel
        obtain ⟨q0, q1, q2, q3, q4, q5⟩ := HPB.out wr hBr
        by_cases hlt : k < L
        · have HNk := Lib.hid (HN.out k)
          have HMk := Lib.hid (HM.out k)
          have HSk := Lib.hid (HSU.out k)
          have hsb := HSB.out k (by omega)
          have hmb := HMB.out k
          have hpl : posE jb sy s k ≤ s.size := by rw [← HAK.out k]; exact HAL.out (k + 1)
          have hal := HAL.out k
          have HAk := Lib.hid (HAK.out k)
          have hlb := HLB.out k
          have htk := (HT.out k).1 hlt
          unfold lenE at HMk HSk hmb hlb
          generalize blkSum Z (lensE jb sy s (List.range k)) = M at *
          generalize nextB jb sy s (atK jb sy s k) = nb at *
          generalize posE jb sy s k = q at *
          generalize atK jb sy s k = p at *
          generalize manyV Z ((q : Int) - (p : Int)) = mm at *
          obtain ⟨m1, m2⟩ := hsb
          obtain ⟨m3, m4⟩ := hmb
          obtain ⟨m5, m6⟩ := hlb
          by_cases hk0 : k = 0
          · have g0 : ((k : Int) == 0) = true := by rw [hk0]; rfl
            have HK0 := Lib.hid hk0
            clear hk0 htk
            go_wp2_with fail
            refine (HNk.out _).mono ?_
            rintro e w2 ⟨rfl, hB2⟩
            have bB2 := below_then hBr hB2
            clear q0 q1 q2 q3 q4 q5
            obtain ⟨q0, q1, q2, q3, q4, q5⟩ := HPB.out w2 bB2
            go_wp2_with fail
            refine (HMk.out _).mono ?_
            rintro e w3 ⟨rfl, hB3⟩
            have bB3 := below_then bB2 hB3
            clear q0 q1 q2 q3 q4 q5
            go_wp2_with fail
            go_roundg (L - (k + 1))
            case measure => omega
            case rel => exact ⟨k + 1, by omega, rfl, by go_num, by rw [HSk.out], by rw [HAk.out], bB3⟩
          · have g0 : ((k : Int) == 0) = false := by rw [beq_eq_false_iff_ne]; omega
            have g1 : (p : Int) < (s.size : Int) := by have := htk hk0; omega
            clear htk
            go_wp2_with fail
            refine (HNk.out _).mono ?_
            rintro e w2 ⟨rfl, hB2⟩
            have bB2 := below_then hBr hB2
            clear q0 q1 q2 q3 q4 q5
            obtain ⟨q0, q1, q2, q3, q4, q5⟩ := HPB.out w2 bB2
            go_wp2_with fail
            refine (HMk.out _).mono ?_
            rintro e w3 ⟨rfl, hB3⟩
            have bB3 := below_then bB2 hB3
            clear q0 q1 q2 q3 q4 q5
            go_wp2_with fail
            go_roundg (L - (k + 1))
            case measure => omega
            case rel => exact ⟨k + 1, by omega, rfl, by go_num, by rw [HSk.out], by rw [HAk.out], bB3⟩
        · have hkL : k = L := by omega
          subst hkL
          have g0 : ((k : Int) == 0) = false := by rw [beq_eq_false_iff_ne]; omega
          have g1 : ¬ (atK jb sy s k : Int) < (s.size : Int) := by have := (HT.out k).2 rfl; omega
          have HOk := Lib.hid HOU.out
          generalize hMe : blkSum Z (lensE jb sy s (List.range k)) = M at *
          have HME := Lib.hid hMe
          clear hMe
          go_wp2_with fail
          refine (HOk.out _).mono ?_
          rintro e w2 ⟨rfl, hB2⟩
          go_wp2
          refine bodyPost_ret (v := .tuple #[.int .i64 (k : Int), .int .i64 M, .int .i64 ((s.size : Int) + 3 * M + 10), .int .i64 0]) (by simp [results, Try.results29, go_sem]) rfl ⟨by rw [HME.out], ?_⟩
          exact below_then (below_then hBn hBr) hB2

set_option maxHeartbeats 4000000 in
theorem rHolds_any (l wd jb ov : Int) (sy ck : Bool) (s b : ByteArray) (w : World) (hs' : s.size ≤ 9223372036854775807) (hb' : b.size ≤ 9223372036854775807) :
    Calls Try.prog 31 #[.agg #[.int .i64 l, .int .i64 wd, .int .i64 jb, .int .i64 ov, .bool sy, .bool ck], .string s, .string b] w fun e w' => e = .returned (.tuple #[.bool (holdsV l wd jb ov sy s b), .int .i64 (askE l wd jb ov s)]) ∧ Below w.heap.size w w' := by
  have HW := Lib.hid (fun W => rWhole_any l wd jb ov sy ck s W hs')
  unfold holdsV
  by_cases h : askE l wd jb ov s = 0
  · have h0 : decide (askE l wd jb ov s = 0) = true := by simpa using h
    rw [h0, Bool.true_and, h]
    rw [h] at HW
    clear h h0
    generalize wholeB l wd jb ov sy s = B at *
    generalize wholeJ l wd jb ov sy s = J at *
    generalize wholeO l wd jb ov sy s = O at *
    by_cases h9 : 9 ≤ b.size
    · have d2 : (9 : Int) ≤ (b.size : Int) := by omega
      go_enter Try.func31, Try.ntmps31
      go_wp2_with fail
      refine (HW.out _).mono ?_
      rintro e w1 ⟨rfl, hB1⟩
      go_wp2
      refine bodyPost_ret (v := .tuple #[.bool (decide ((b.size : Int) ≤ O)), .int .i64 0]) (by simp [results, Try.results31, go_sem]) rfl ⟨by simp; omega, ?_⟩
      exact below_then (below_new _) hB1
    · have d2 : ¬ (9 : Int) ≤ (b.size : Int) := by omega
      go_enter Try.func31, Try.ntmps31
      go_wp2_with fail
      refine (HW.out _).mono ?_
      rintro e w1 ⟨rfl, hB1⟩
      go_wp2
      refine bodyPost_ret (v := .tuple #[.bool false, .int .i64 0]) (by simp [results, Try.results31, go_sem]) rfl ⟨by simp; omega, ?_⟩
      exact below_then (below_new _) hB1
  · have d0 : decide (askE l wd jb ov s = 0) = false := by simpa using h
    rw [d0, Bool.false_and]
    generalize wholeB l wd jb ov sy s = B at *
    generalize wholeJ l wd jb ov sy s = J at *
    generalize wholeO l wd jb ov sy s = O at *
    generalize askE l wd jb ov s = a at *
    have g1 : (a == 0) = false := by simpa using h
    clear h d0
    go_enter Try.func31, Try.ntmps31
    go_wp2_with fail
    refine (HW.out _).mono ?_
    rintro e w1 ⟨rfl, hB1⟩
    go_wp2
    refine bodyPost_ret (v := .tuple #[.bool false, .int .i64 a]) (by simp [results, Try.results31, go_sem]) rfl ⟨rfl, ?_⟩
    exact below_then (below_new _) hB1

end Go.Proofs.Ytfdbkpbgkpkckaa
