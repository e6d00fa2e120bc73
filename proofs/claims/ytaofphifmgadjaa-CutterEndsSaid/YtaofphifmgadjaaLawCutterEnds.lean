/- The statement cheesepresslaw35.CutterEnds holds: for every input the law returns true, and the arguments read as before. -/
import Derived.Test.YtaofphifmgadjaaOpenStructs
import Derived.Test.YtaofphifmgadjaaCutAwake
namespace Go.Proofs.Ytaofphifmgadjaa.cutterEnds
open Go.ChangeShapes Go.WideShapes Go.ChangeAt Go.RowKit
open Go.ChangeMaps (open_string shut_string)
set_option linter.unusedVariables false
set_option maxRecDepth 100000

set_option maxHeartbeats 1600000 in
theorem aw1 (l wd jb ov : Int) (sy ck : Bool) (s : ByteArray) (f : Int) (w : World) (hs' : s.size ≤ 9223372036854775807) (h1 : 700 < s.size) (h2 : s.size < 65537) :
    Calls Try.prog 13 #[.agg #[.int .i64 l, .int .i64 wd, .int .i64 jb, .int .i64 ov, .bool sy, .bool ck], .string s, .int .i64 f] w fun e w' => e = .returned (.bool true) ∧ Below w.heap.size w w' := by
  have hBw := below_fresh (w := w) (.cells #[.int .i64 l, .int .i64 wd, .int .i64 jb, .int .i64 ov, .bool sy, .bool ck] 49)
  have g1 : (700 : Int) < (s.size : Int) := by omega
  have g2 : (s.size : Int) < 65537 := by omega
  go_enter Try.func13, Try.ntmps13
  go_wp2_with fail
  refine (awake35_any _).mono ?_
  rintro e w1 ⟨rfl, hB⟩
  go_wp2
  go_ret
  exact ⟨rfl, below_then hBw hB⟩

set_option maxHeartbeats 1600000 in
theorem aw2 (l wd jb ov : Int) (sy ck : Bool) (s : ByteArray) (f : Int) (w : World) (hs' : s.size ≤ 9223372036854775807) (h1 : 700 < s.size) (h2 : ¬ s.size < 65537) (h3 : 65600 < s.size) :
    Calls Try.prog 13 #[.agg #[.int .i64 l, .int .i64 wd, .int .i64 jb, .int .i64 ov, .bool sy, .bool ck], .string s, .int .i64 f] w fun e w' => e = .returned (.bool true) ∧ Below w.heap.size w w' := by
  have hBw := below_fresh (w := w) (.cells #[.int .i64 l, .int .i64 wd, .int .i64 jb, .int .i64 ov, .bool sy, .bool ck] 49)
  have g1 : (700 : Int) < (s.size : Int) := by omega
  have g2 : ¬ (s.size : Int) < 65537 := by omega
  have g3 : (65600 : Int) < (s.size : Int) := by omega
  go_enter Try.func13, Try.ntmps13
  go_wp2_with fail
  refine (awake35_any _).mono ?_
  rintro e w1 ⟨rfl, hB⟩
  go_wp2
  go_ret
  exact ⟨rfl, below_then hBw hB⟩

set_option maxHeartbeats 1600000 in
theorem aw3 (l wd jb ov : Int) (sy ck : Bool) (s : ByteArray) (f : Int) (w : World) (hs' : s.size ≤ 9223372036854775807) (h1 : 700 < s.size) (h2 : ¬ s.size < 65537) (h3 : ¬ 65600 < s.size) (hsy : sy = true) :
    Calls Try.prog 13 #[.agg #[.int .i64 l, .int .i64 wd, .int .i64 jb, .int .i64 ov, .bool sy, .bool ck], .string s, .int .i64 f] w fun e w' => e = .returned (.bool true) ∧ Below w.heap.size w w' := by
  have hBw := below_fresh (w := w) (.cells #[.int .i64 l, .int .i64 wd, .int .i64 jb, .int .i64 ov, .bool sy, .bool ck] 49)
  subst hsy
  have g1 : (700 : Int) < (s.size : Int) := by omega
  have g2 : ¬ (s.size : Int) < 65537 := by omega
  have g3 : ¬ (65600 : Int) < (s.size : Int) := by omega
  go_enter Try.func13, Try.ntmps13
  go_wp2_with fail
  refine (awake35_any _).mono ?_
  rintro e w1 ⟨rfl, hB⟩
  go_wp2
  go_ret
  exact ⟨rfl, below_then hBw hB⟩

set_option maxHeartbeats 1600000 in
theorem aw4 (l wd jb ov : Int) (sy ck : Bool) (s : ByteArray) (f : Int) (w : World) (hs' : s.size ≤ 9223372036854775807) (h1 : 700 < s.size) (h2 : ¬ s.size < 65537) (h3 : ¬ 65600 < s.size) (hsy : sy = false) (h4 : 16 < jb) :
    Calls Try.prog 13 #[.agg #[.int .i64 l, .int .i64 wd, .int .i64 jb, .int .i64 ov, .bool sy, .bool ck], .string s, .int .i64 f] w fun e w' => e = .returned (.bool true) ∧ Below w.heap.size w w' := by
  have hBw := below_fresh (w := w) (.cells #[.int .i64 l, .int .i64 wd, .int .i64 jb, .int .i64 ov, .bool sy, .bool ck] 49)
  subst hsy
  have g1 : (700 : Int) < (s.size : Int) := by omega
  have g2 : ¬ (s.size : Int) < 65537 := by omega
  have g3 : ¬ (65600 : Int) < (s.size : Int) := by omega
  have g4 : decide (16 < jb) = true := by simpa using h4
  go_enter Try.func13, Try.ntmps13
  go_wp2_with fail
  refine (awake35_any _).mono ?_
  rintro e w1 ⟨rfl, hB⟩
  go_wp2
  go_ret
  exact ⟨rfl, below_then hBw hB⟩

set_option maxHeartbeats 8000000 in
theorem go1 (l wd jb ov : Int) (sy ck : Bool) (s : ByteArray) (f : Int) (w : World) (hs' : s.size ≤ 9223372036854775807) (h1 : ¬ 700 < s.size) :
    Calls Try.prog 13 #[.agg #[.int .i64 l, .int .i64 wd, .int .i64 jb, .int .i64 ov, .bool sy, .bool ck], .string s, .int .i64 f] w fun e w' => e = .returned (.bool true) ∧ Below w.heap.size w w' := by
  have hBw := below_fresh (w := w) (.cells #[.int .i64 l, .int .i64 wd, .int .i64 jb, .int .i64 ov, .bool sy, .bool ck] 49)
  have g1 : ¬ (700 : Int) < (s.size : Int) := by omega
  have H1 := Lib.hid (fun W => Ends35_any l wd jb ov sy ck s W hs')
  have H2 := Lib.hid (fun W => rEnds35_any l wd jb ov sy ck s W hs')
  have H3 := Lib.hid (fun W => Count35_any l wd jb ov sy ck s W hs')
  have H4 := Lib.hid (fun W => rCount35_any l wd jb ov sy ck s W hs')
  obtain ⟨x, b, y, h5, h6⟩ : ∃ (x : Int) (b : Bool) (y : Int), (∀ W, Calls Try.prog 46 #[.agg #[.int .i64 l, .int .i64 wd, .int .i64 jb, .int .i64 ov, .bool sy, .bool ck], .string s, .int .i64 f] W fun e w' => e = .returned (.tuple #[.int .i64 x, .bool b, .int .i64 y]) ∧ Below W.heap.size W w') ∧ (∀ W, Calls Try.prog 47 #[.agg #[.int .i64 l, .int .i64 wd, .int .i64 jb, .int .i64 ov, .bool sy, .bool ck], .string s, .int .i64 f] W fun e w' => e = .returned (.tuple #[.int .i64 x, .bool b, .int .i64 y]) ∧ Below W.heap.size W w') := by
    by_cases ha : askE l wd jb ov s = 0
    · by_cases hf : f < 0 ∨ (s.size : Int) < f
      · exact ⟨0, false, 2, fun W => Next35_range l wd jb ov sy ck s f W hs' ha hf, fun W => rNext35_range l wd jb ov sy ck s f W hs' ha hf⟩
      · obtain ⟨p, rfl⟩ : ∃ p : Nat, f = p := ⟨f.toNat, by omega⟩
        exact ⟨_, _, 0, fun W => Next35_ok l wd jb ov sy ck s p W ha (by omega), fun W => rNext35_ok l wd jb ov sy ck s p W ha (by omega)⟩
    · exact ⟨0, false, _, fun W => Next35_bad l wd jb ov sy ck s f W hs' ha, fun W => rNext35_bad l wd jb ov sy ck s f W hs' ha⟩
  have H5 := Lib.hid h5
  have H6 := Lib.hid h6
  clear h5 h6
  have HPB : Hid (∀ V, Below (w.alloc (.cells #[.int .i64 l, .int .i64 wd, .int .i64 jb, .int .i64 ov, .bool sy, .bool ck] 49)).heap.size (w.alloc (.cells #[.int .i64 l, .int .i64 wd, .int .i64 jb, .int .i64 ov, .bool sy, .bool ck] 49)) V → ParBox V w.heap.size l wd jb ov sy ck) := fun V hV => (ParBox.new w l wd jb ov sy ck 49).keep hV (by simp)
  have hel : (endsO l wd jb ov sy s).length ≤ 4096 := by
    unfold endsO
    split
    · simp
    · split
      · rename_i h; exact h
      · simp
  generalize endsO l wd jb ov sy s = xs at *
  generalize endsOE l wd jb ov sy s = v1 at *
  generalize countO l wd jb ov sy s = v2 at *
  generalize askE l wd jb ov s = v3 at *
  unfold EndsOut at H1 H2
  have hB0 := Below.refl (w.alloc (.cells #[.int .i64 l, .int .i64 wd, .int .i64 jb, .int .i64 ov, .bool sy, .bool ck] 49)).heap.size (w.alloc (.cells #[.int .i64 l, .int .i64 wd, .int .i64 jb, .int .i64 ov, .bool sy, .bool ck] 49))
  obtain ⟨q0, q1, q2, q3, q4, q5⟩ := HPB.out _ hB0
  go_enter Try.func13, Try.ntmps13
  go_wp2_with fail
  generalize hW0 : w.alloc (.cells #[.int .i64 l, .int .i64 wd, .int .i64 jb, .int .i64 ov, .bool sy, .bool ck] 49) = W0 at *
  clear hW0
  refine (H1.out _).mono ?_
  rintro e w1 ⟨A1, c1, rfl, hS1, hB1⟩
  have HS1 := Lib.hid hS1
  clear hS1
  have bB1 := below_then hB0 hB1
  clear q0 q1 q2 q3 q4 q5
  obtain ⟨q0, q1, q2, q3, q4, q5⟩ := HPB.out w1 bB1
  go_wp2_with fail
  refine (H2.out _).mono ?_
  rintro e w2 ⟨A2, c2, rfl, hS2, hB2⟩
  have HS2 := Lib.hid hS2
  clear hS2
  have bB2 := below_then bB1 hB2
  clear q0 q1 q2 q3 q4 q5
  obtain ⟨q0, q1, q2, q3, q4, q5⟩ := HPB.out w2 bB2
  go_wp2_with fail
  refine (H3.out _).mono ?_
  rintro e w3 ⟨rfl, hB3⟩
  have bB3 := below_then bB2 hB3
  clear q0 q1 q2 q3 q4 q5
  obtain ⟨q0, q1, q2, q3, q4, q5⟩ := HPB.out w3 bB3
  go_wp2_with fail
  refine (H4.out _).mono ?_
  rintro e w4 ⟨rfl, hB4⟩
  have bB4 := below_then bB3 hB4
  have hB24 := below_then hB3 hB4
  have hB14 := below_then hB2 hB24
  have HQ := Lib.hid (SameInts_any A1 A2 xs xs c1 c2 w2.heap.size w4 ((HS1.out.below hB14).more hB2.size) (HS2.out.below hB24) hB24.size (by omega) (by omega))
  clear q0 q1 q2 q3 q4 q5
  obtain ⟨q0, q1, q2, q3, q4, q5⟩ := HPB.out w4 bB4
  go_wp2_with fail
  refine HQ.out.mono ?_
  rintro e w5 ⟨rfl, hB5⟩
  rw [sameI_yes]
  have bB5 := below_then bB4 hB5
  clear q0 q1 q2 q3 q4 q5
  obtain ⟨q0, q1, q2, q3, q4, q5⟩ := HPB.out w5 bB5
  go_wp2_with fail
  refine (H5.out _).mono ?_
  rintro e w6 ⟨rfl, hB6⟩
  have bB6 := below_then bB5 hB6
  clear q0 q1 q2 q3 q4 q5
  obtain ⟨q0, q1, q2, q3, q4, q5⟩ := HPB.out w6 bB6
  go_wp2_with fail
  refine (H6.out _).mono ?_
  rintro e w7 ⟨rfl, hB7⟩
  have bB7 := below_then bB6 hB7
  clear q0 q1 q2 q3 q4 q5
  obtain ⟨q0, q1, q2, q3, q4, q5⟩ := HPB.out w7 bB7
  go_wp2_with fail
  refine (awake35_any _).mono ?_
  rintro e w9 ⟨rfl, hB9⟩
  go_wp2
  go_ret
  exact ⟨rfl, below_then hBw (below_then bB7 hB9)⟩

set_option maxHeartbeats 8000000 in
theorem go2 (l wd jb ov : Int) (sy ck : Bool) (s : ByteArray) (f : Int) (w : World) (hs' : s.size ≤ 9223372036854775807) (h1 : 700 < s.size) (h2 : ¬ s.size < 65537) (h3 : ¬ 65600 < s.size) (hsy : sy = false) (h4 : ¬ 16 < jb) :
    Calls Try.prog 13 #[.agg #[.int .i64 l, .int .i64 wd, .int .i64 jb, .int .i64 ov, .bool sy, .bool ck], .string s, .int .i64 f] w fun e w' => e = .returned (.bool true) ∧ Below w.heap.size w w' := by
  have hBw := below_fresh (w := w) (.cells #[.int .i64 l, .int .i64 wd, .int .i64 jb, .int .i64 ov, .bool false, .bool ck] 49)
  subst hsy
  have g1 : (700 : Int) < (s.size : Int) := by omega
  have g2 : ¬ (s.size : Int) < 65537 := by omega
  have g3 : ¬ (65600 : Int) < (s.size : Int) := by omega
  have g4 : decide (16 < jb) = false := by simpa using h4
  have H1 := Lib.hid (fun W => Ends35_any l wd jb ov false ck s W hs')
  have H2 := Lib.hid (fun W => rEnds35_any l wd jb ov false ck s W hs')
  have H3 := Lib.hid (fun W => Count35_any l wd jb ov false ck s W hs')
  have H4 := Lib.hid (fun W => rCount35_any l wd jb ov false ck s W hs')
  obtain ⟨x, b, y, h5, h6⟩ : ∃ (x : Int) (b : Bool) (y : Int), (∀ W, Calls Try.prog 46 #[.agg #[.int .i64 l, .int .i64 wd, .int .i64 jb, .int .i64 ov, .bool false, .bool ck], .string s, .int .i64 f] W fun e w' => e = .returned (.tuple #[.int .i64 x, .bool b, .int .i64 y]) ∧ Below W.heap.size W w') ∧ (∀ W, Calls Try.prog 47 #[.agg #[.int .i64 l, .int .i64 wd, .int .i64 jb, .int .i64 ov, .bool false, .bool ck], .string s, .int .i64 f] W fun e w' => e = .returned (.tuple #[.int .i64 x, .bool b, .int .i64 y]) ∧ Below W.heap.size W w') := by
    by_cases ha : askE l wd jb ov s = 0
    · by_cases hf : f < 0 ∨ (s.size : Int) < f
      · exact ⟨0, false, 2, fun W => Next35_range l wd jb ov false ck s f W hs' ha hf, fun W => rNext35_range l wd jb ov false ck s f W hs' ha hf⟩
      · obtain ⟨p, rfl⟩ : ∃ p : Nat, f = p := ⟨f.toNat, by omega⟩
        exact ⟨_, _, 0, fun W => Next35_ok l wd jb ov false ck s p W ha (by omega), fun W => rNext35_ok l wd jb ov false ck s p W ha (by omega)⟩
    · exact ⟨0, false, _, fun W => Next35_bad l wd jb ov false ck s f W hs' ha, fun W => rNext35_bad l wd jb ov false ck s f W hs' ha⟩
  have H5 := Lib.hid h5
  have H6 := Lib.hid h6
  clear h5 h6
  have HPB : Hid (∀ V, Below (w.alloc (.cells #[.int .i64 l, .int .i64 wd, .int .i64 jb, .int .i64 ov, .bool false, .bool ck] 49)).heap.size (w.alloc (.cells #[.int .i64 l, .int .i64 wd, .int .i64 jb, .int .i64 ov, .bool false, .bool ck] 49)) V → ParBox V w.heap.size l wd jb ov false ck) := fun V hV => (ParBox.new w l wd jb ov false ck 49).keep hV (by simp)
  have hel : (endsO l wd jb ov false s).length ≤ 4096 := by
    unfold endsO
    split
    · simp
    · split
      · rename_i h; exact h
      · simp
  generalize endsO l wd jb ov false s = xs at *
  generalize endsOE l wd jb ov false s = v1 at *
  generalize countO l wd jb ov false s = v2 at *
  generalize askE l wd jb ov s = v3 at *
  unfold EndsOut at H1 H2
  have hB0 := Below.refl (w.alloc (.cells #[.int .i64 l, .int .i64 wd, .int .i64 jb, .int .i64 ov, .bool false, .bool ck] 49)).heap.size (w.alloc (.cells #[.int .i64 l, .int .i64 wd, .int .i64 jb, .int .i64 ov, .bool false, .bool ck] 49))
  obtain ⟨q0, q1, q2, q3, q4, q5⟩ := HPB.out _ hB0
  go_enter Try.func13, Try.ntmps13
  go_wp2_with fail
  generalize hW0 : w.alloc (.cells #[.int .i64 l, .int .i64 wd, .int .i64 jb, .int .i64 ov, .bool false, .bool ck] 49) = W0 at *
  clear hW0
  refine (H1.out _).mono ?_
  rintro e w1 ⟨A1, c1, rfl, hS1, hB1⟩
  have HS1 := Lib.hid hS1
  clear hS1
  have bB1 := below_then hB0 hB1
  clear q0 q1 q2 q3 q4 q5
  obtain ⟨q0, q1, q2, q3, q4, q5⟩ := HPB.out w1 bB1
  go_wp2_with fail
  refine (H2.out _).mono ?_
  rintro e w2 ⟨A2, c2, rfl, hS2, hB2⟩
  have HS2 := Lib.hid hS2
  clear hS2
  have bB2 := below_then bB1 hB2
  clear q0 q1 q2 q3 q4 q5
  obtain ⟨q0, q1, q2, q3, q4, q5⟩ := HPB.out w2 bB2
  go_wp2_with fail
  refine (H3.out _).mono ?_
  rintro e w3 ⟨rfl, hB3⟩
  have bB3 := below_then bB2 hB3
  clear q0 q1 q2 q3 q4 q5
  obtain ⟨q0, q1, q2, q3, q4, q5⟩ := HPB.out w3 bB3
  go_wp2_with fail
  refine (H4.out _).mono ?_
  rintro e w4 ⟨rfl, hB4⟩
  have bB4 := below_then bB3 hB4
  have hB24 := below_then hB3 hB4
  have hB14 := below_then hB2 hB24
  have HQ := Lib.hid (SameInts_any A1 A2 xs xs c1 c2 w2.heap.size w4 ((HS1.out.below hB14).more hB2.size) (HS2.out.below hB24) hB24.size (by omega) (by omega))
  clear q0 q1 q2 q3 q4 q5
  obtain ⟨q0, q1, q2, q3, q4, q5⟩ := HPB.out w4 bB4
  go_wp2_with fail
  refine HQ.out.mono ?_
  rintro e w5 ⟨rfl, hB5⟩
  rw [sameI_yes]
  have bB5 := below_then bB4 hB5
  clear q0 q1 q2 q3 q4 q5
  obtain ⟨q0, q1, q2, q3, q4, q5⟩ := HPB.out w5 bB5
  go_wp2_with fail
  refine (H5.out _).mono ?_
  rintro e w6 ⟨rfl, hB6⟩
  have bB6 := below_then bB5 hB6
  clear q0 q1 q2 q3 q4 q5
  obtain ⟨q0, q1, q2, q3, q4, q5⟩ := HPB.out w6 bB6
  go_wp2_with fail
  refine (H6.out _).mono ?_
  rintro e w7 ⟨rfl, hB7⟩
  have bB7 := below_then bB6 hB7
  clear q0 q1 q2 q3 q4 q5
  obtain ⟨q0, q1, q2, q3, q4, q5⟩ := HPB.out w7 bB7
  go_wp2_with fail
  refine (awake35_any _).mono ?_
  rintro e w9 ⟨rfl, hB9⟩
  go_wp2
  go_ret
  exact ⟨rfl, below_then hBw (below_then bB7 hB9)⟩

theorem walk (l wd jb ov : Int) (sy ck : Bool) (s : ByteArray) (f : Int) (w : World) (hl : -9223372036854775808 ≤ l ∧ l ≤ 9223372036854775807) (hwd : -9223372036854775808 ≤ wd ∧ wd ≤ 9223372036854775807) (hjb : -9223372036854775808 ≤ jb ∧ jb ≤ 9223372036854775807) (hov : -9223372036854775808 ≤ ov ∧ ov ≤ 9223372036854775807) (hs : s.size ≤ maxLen) (hf : -9223372036854775808 ≤ f ∧ f ≤ 9223372036854775807) :
    Calls Try.prog 13 #[.agg #[.int .i64 l, .int .i64 wd, .int .i64 jb, .int .i64 ov, .bool sy, .bool ck], .string s, .int .i64 f] w fun e w' => e = .returned (.bool true) ∧ Below w.heap.size w w' := by
  have hs' : s.size ≤ 9223372036854775807 := hs
  by_cases h1 : 700 < s.size
  · by_cases h2 : s.size < 65537
    · exact aw1 l wd jb ov sy ck s f w hs' h1 h2
    · by_cases h3 : 65600 < s.size
      · exact aw2 l wd jb ov sy ck s f w hs' h1 h2 h3
      · cases hsy : sy
        · by_cases h4 : 16 < jb
          · exact aw4 l wd jb ov false ck s f w hs' h1 h2 h3 rfl h4
          · exact go2 l wd jb ov false ck s f w hs' h1 h2 h3 rfl h4
        · exact aw3 l wd jb ov true ck s f w hs' h1 h2 h3 rfl
  · exact go1 l wd jb ov sy ck s f w hs' h1

/-! The step from the walk to the statement: the shell's text. -/
set_option maxRecDepth 100000 in
theorem lifted (os : Os) (started : os.Started) (H : Type) (enc : TypeId × Value → H) :
    ReturnsInHanded {} Try.checked os 13 .any (Rows.cutterEndsSpec.pre6 enc Try.prog Try.f13 Rows.cutterEndsRow.domain false) (Rows.cutterEndsSpec.post enc Try.prog Try.f13 false true false false) := by
  refine returnsInHanded_of_change (C := Try.checked) own started (by kernel_rfl) Try.func13
    (ChangeSpec.witness6 (enc := enc) (C := Try.checked) false ⟨#[], #[.agg #[.int .i64 0, .int .i64 0, .int .i64 0, .int .i64 0, .bool false, .bool false], .string ByteArray.empty, .int .i64 0], []⟩ 8 (by kernel_rfl) (by kernel_rfl) (by kernel_rfl) (by kernel_rfl)) ?_
  intro W base args ds gs before hval0 hW hcnd _
  have hval : ∀ (j : Nat) t v, Try.f13.params[j]? = some t → args[j]? = some v → Value.okWide Try.prog W .any base t v := hval0
  have hW' := hW
  obtain ⟨p, q, hA0, hV, rfl, hfz, hnd⟩ := hW
  have hA : DataW.TrodAll enc Try.prog W 0 (fun _ => true) true Try.f13.params.toList args.toList ds p := hA0
  rw [Try.params13] at hA hval
  obtain ⟨v0, vs0, d0, ds0, p0, q0, hargs, rfl, rfl, h0, r0⟩ := trodAll_cons hA
  obtain ⟨v1, vs1, d1, ds1, p1, q1, rfl, rfl, rfl, h1, r1⟩ := trodAll_cons r0
  obtain ⟨v2, vs2, d2, ds2, p2, q2, rfl, rfl, rfl, h2, r2⟩ := trodAll_cons r1
  obtain ⟨rfl, rfl, rfl⟩ := trodAll_nil r2
  obtain rfl : args = #[v0, v1, v2] := by cases args; simp_all
  obtain ⟨rfl, rfl⟩ := trodVars_none hV
  have k0 := h0
  have lt0 : ∀ x ∈ p0, x.block < W.heap.size := by obtain ⟨m, hm⟩ := k0; exact DataW.trod_lt m _ _ _ hm
  obtain ⟨pl0, pw0, pj0, po0, ps0, pc0, rfl, wpl0, wpw0, wpj0, wpo0⟩ := open_params (hval 0 49 v0 rfl rfl) h0
  obtain ⟨a1, rfl, rfl, rfl, w1⟩ := open_string Try.underlying9 (hval 1 9 v1 rfl rfl) h1
  obtain ⟨a2, rfl, rfl, rfl, w2⟩ := open_int Try.underlying3 (hval 2 3 v2 rfl rfl) h2
  clear hA0 hval0
  refine (walk pl0 pw0 pj0 po0 ps0 pc0 a1 a2 W (bounds_i64 wpl0) (bounds_i64 wpw0) (bounds_i64 wpj0) (bounds_i64 wpo0) w1 (bounds_i64 w2)).mono fun e W' ⟨he, bel⟩ => ?_
  subst he
  exact ⟨_, rfl, _, _, _, [], _, [], hW', trodAll_mk1 (shut_bool Try.underlying4 _), (trodAll_cons_mk (Below.trod laidOut (by kernel_rfl) (of_decide_eq_true (by kernel_rfl)) k0 bel lt0) (trodAll_cons_mk (shut_string Try.underlying9 w1) (trodAll_cons_mk (shut_int Try.underlying3 w2) trodAll_mk0))), rfl, bel.frame _, fun h => by cases h⟩

theorem over : Rows.cutterEndsRow.holds Try.pinned (OpenSpec.ofChange Rows.cutterEndsSpec) :=
  OpenClaim.holds_of_wide 13 Try.f13 rfl rfl rfl rfl rfl rfl rfl ⟨rfl, rfl, rfl, rfl, rfl⟩ rfl rfl rfl rfl rfl (by kernel_rfl) Try.func13 (by kernel_rfl)
    (of_decide_eq_true (by kernel_rfl)) (by unfold Func.isWrapper; first | (rw [if_pos (by decide +kernel)]; kernel_rfl) | (rw [if_neg (by decide +kernel)]; exact ⟨rfl, rfl⟩))
    (fun os started H enc _ => lifted os started H enc)

/-- The statement. -/
theorem proved : Rows.CutterEndsSaid := over
#print axioms proved
end Go.Proofs.Ytaofphifmgadjaa.cutterEnds
