/- The statement cheesepresslaw43.BoundWholes holds: for every input the law returns true, and the arguments read as before. -/
import Derived.Test.YtfdbkpbgkpkckaaOpenStructs
import Derived.Test.YtfdbkpbgkpkckaaBoundWhole3
namespace Go.Proofs.Ytfdbkpbgkpkckaa.boundWholes
open Go.ChangeShapes Go.WideShapes Go.ChangeAt Go.RowKit
open Go.ChangeMaps (open_string shut_string)
set_option linter.unusedVariables false
set_option maxRecDepth 100000

theorem aw (l wd jb ov : Int) (sy ck : Bool) (s b : ByteArray) (w : World) (hs' : s.size ≤ 9223372036854775807) (hb' : b.size ≤ 9223372036854775807) (h : (1500 < s.size ∧ s.size ≠ 1048577) ∨ 3000 < b.size) :
    Calls Try.prog 6 #[.agg #[.int .i64 l, .int .i64 wd, .int .i64 jb, .int .i64 ov, .bool sy, .bool ck], .string s, .string b] w fun e w' => e = .returned (.bool true) ∧ Below w.heap.size w w' := by
  have hBn := below_new (w := w) (.cells #[.int .i64 l, .int .i64 wd, .int .i64 jb, .int .i64 ov, .bool sy, .bool ck] 24)
  by_cases h1 : 1500 < s.size
  · by_cases h2 : s.size = 1048577
    · have h3 : 3000 < b.size := by omega
      have g1 : (1500 : Int) < (s.size : Int) := by omega
      have g2 : ((s.size : Int) != 1048577) = false := by rw [h2]; rfl
      have g3 : (3000 : Int) < (b.size : Int) := by omega
      clear h h1 h2 h3
      go_enter Try.func6, Try.ntmps6
      go_wp2_with fail
      refine (awake43_any _).mono ?_
      rintro e w1 ⟨rfl, hB⟩
      go_wp2
      go_ret
      exact ⟨rfl, below_then hBn hB⟩
    · have g1 : (1500 : Int) < (s.size : Int) := by omega
      have g2 : ((s.size : Int) != 1048577) = true := by rw [bne_iff_ne]; omega
      clear h h1 h2
      go_enter Try.func6, Try.ntmps6
      go_wp2_with fail
      refine (awake43_any _).mono ?_
      rintro e w1 ⟨rfl, hB⟩
      go_wp2
      go_ret
      exact ⟨rfl, below_then hBn hB⟩
  · have g1 : ¬ (1500 : Int) < (s.size : Int) := by omega
    have g3 : (3000 : Int) < (b.size : Int) := by omega
    clear h h1
    go_enter Try.func6, Try.ntmps6
    go_wp2_with fail
    refine (awake43_any _).mono ?_
    rintro e w1 ⟨rfl, hB⟩
    go_wp2
    go_ret
    exact ⟨rfl, below_then hBn hB⟩

set_option maxHeartbeats 8000000 in
theorem go (l wd jb ov : Int) (sy ck : Bool) (s b : ByteArray) (w : World) (hs' : s.size ≤ 9223372036854775807) (hb' : b.size ≤ 9223372036854775807) (h1 : s.size ≤ 1500 ∨ s.size = 1048577) (h2 : b.size ≤ 3000) :
    Calls Try.prog 6 #[.agg #[.int .i64 l, .int .i64 wd, .int .i64 jb, .int .i64 ov, .bool sy, .bool ck], .string s, .string b] w fun e w' => e = .returned (.bool true) ∧ Below w.heap.size w w' := by
  have hBn := below_new (w := w) (.cells #[.int .i64 l, .int .i64 wd, .int .i64 jb, .int .i64 ov, .bool sy, .bool ck] 24)
  have H1 := Lib.hid (fun W => Whole_any l wd jb ov sy ck s W hs')
  have H2 := Lib.hid (fun W => rWhole_any l wd jb ov sy ck s W hs')
  have H3 := Lib.hid (fun W => Holds_any l wd jb ov sy ck s b W hs' hb')
  have H4 := Lib.hid (fun W => rHolds_any l wd jb ov sy ck s b W hs' hb')
  generalize wholeJ l wd jb ov sy s = v1 at *
  generalize wholeB l wd jb ov sy s = v2 at *
  generalize wholeO l wd jb ov sy s = v3 at *
  generalize holdsV l wd jb ov sy s b = v4 at *
  generalize askE l wd jb ov s = v5 at *
  have HPB : Hid (∀ V, Below (w.alloc (.cells #[.int .i64 l, .int .i64 wd, .int .i64 jb, .int .i64 ov, .bool sy, .bool ck] 24)).heap.size (w.alloc (.cells #[.int .i64 l, .int .i64 wd, .int .i64 jb, .int .i64 ov, .bool sy, .bool ck] 24)) V → ParBox V w.heap.size l wd jb ov sy ck) := fun V hV => (ParBox.new w l wd jb ov sy ck 24).keep hV (by simp)
  have hB0 := Below.refl (w.alloc (.cells #[.int .i64 l, .int .i64 wd, .int .i64 jb, .int .i64 ov, .bool sy, .bool ck] 24)).heap.size (w.alloc (.cells #[.int .i64 l, .int .i64 wd, .int .i64 jb, .int .i64 ov, .bool sy, .bool ck] 24))
  have g3 : ¬ (3000 : Int) < (b.size : Int) := by omega
  obtain ⟨q0, q1, q2, q3, q4, q5⟩ := HPB.out _ hB0
  rcases h1 with h1 | h1
  all_goals (
    first
      | have g1 : ¬ (1500 : Int) < (s.size : Int) := by omega
      | (have g1 : (1500 : Int) < (s.size : Int) := by omega
         have g2 : ((s.size : Int) != 1048577) = false := by rw [h1]; rfl)
    clear h1
    go_enter Try.func6, Try.ntmps6
    go_wp2_with fail
    generalize hW0 : w.alloc (.cells #[.int .i64 l, .int .i64 wd, .int .i64 jb, .int .i64 ov, .bool sy, .bool ck] 24) = W0 at *
    clear hW0
    refine (H1.out _).mono ?_
    rintro e w1 ⟨rfl, hB1⟩
    have bB1 := below_then hB0 hB1
    clear q0 q1 q2 q3 q4 q5
    obtain ⟨q0, q1, q2, q3, q4, q5⟩ := HPB.out w1 bB1
    go_wp2_with fail
    refine (H2.out _).mono ?_
    rintro e w2 ⟨rfl, hB2⟩
    have bB2 := below_then bB1 hB2
    clear q0 q1 q2 q3 q4 q5
    obtain ⟨q0, q1, q2, q3, q4, q5⟩ := HPB.out w2 bB2
    go_wp2_with fail
    refine (H3.out _).mono ?_
    rintro e w3 ⟨rfl, hB3⟩
    have bB3 := below_then bB2 hB3
    clear q0 q1 q2 q3 q4 q5
    obtain ⟨q0, q1, q2, q3, q4, q5⟩ := HPB.out w3 bB3
    go_wp2_with fail
    refine (H4.out _).mono ?_
    rintro e w4 ⟨rfl, hB4⟩
    have bB4 := below_then bB3 hB4
    clear q0 q1 q2 q3 q4 q5
    go_wp2_with fail
    refine (awake43_any _).mono ?_
    rintro e w9 ⟨rfl, hB9⟩
    go_wp2
    go_ret
    exact ⟨rfl, below_then hBn (below_then bB4 hB9)⟩)

theorem walk (l wd jb ov : Int) (sy ck : Bool) (s b : ByteArray) (w : World) (hl : -9223372036854775808 ≤ l ∧ l ≤ 9223372036854775807) (hwd : -9223372036854775808 ≤ wd ∧ wd ≤ 9223372036854775807) (hjb : -9223372036854775808 ≤ jb ∧ jb ≤ 9223372036854775807) (hov : -9223372036854775808 ≤ ov ∧ ov ≤ 9223372036854775807) (hs : s.size ≤ maxLen) (hb : b.size ≤ maxLen) :
    Calls Try.prog 6 #[.agg #[.int .i64 l, .int .i64 wd, .int .i64 jb, .int .i64 ov, .bool sy, .bool ck], .string s, .string b] w fun e w' => e = .returned (.bool true) ∧ Below w.heap.size w w' := by
  by_cases h : (1500 < s.size ∧ s.size ≠ 1048577) ∨ 3000 < b.size
  · exact aw l wd jb ov sy ck s b w hs hb h
  · exact go l wd jb ov sy ck s b w hs hb (by omega) (by omega)

/-! The step from the walk to the statement: the shell's text. -/
set_option maxRecDepth 100000 in
theorem lifted (os : Os) (started : os.Started) (H : Type) (enc : TypeId × Value → H) :
    ReturnsInHanded {} Try.checked os 6 .any (Rows.boundWholesSpec.pre6 enc Try.prog Try.f6 Rows.boundWholesRow.domain false) (Rows.boundWholesSpec.post enc Try.prog Try.f6 false true false false) := by
  refine returnsInHanded_of_change (C := Try.checked) own started (by kernel_rfl) Try.func6
    (ChangeSpec.witness6 (enc := enc) (C := Try.checked) false ⟨#[], #[.agg #[.int .i64 0, .int .i64 0, .int .i64 0, .int .i64 0, .bool false, .bool false], .string ByteArray.empty, .string ByteArray.empty], []⟩ 8 (by kernel_rfl) (by kernel_rfl) (by kernel_rfl) (by kernel_rfl)) ?_
  intro W base args ds gs before hval0 hW hcnd _
  have hval : ∀ (j : Nat) t v, Try.f6.params[j]? = some t → args[j]? = some v → Value.okWide Try.prog W .any base t v := hval0
  have hW' := hW
  obtain ⟨p, q, hA0, hV, rfl, hfz, hnd⟩ := hW
  have hA : DataW.TrodAll enc Try.prog W 0 (fun _ => true) true Try.f6.params.toList args.toList ds p := hA0
  rw [Try.params6] at hA hval
  obtain ⟨v0, vs0, d0, ds0, p0, q0, hargs, rfl, rfl, h0, r0⟩ := trodAll_cons hA
  obtain ⟨v1, vs1, d1, ds1, p1, q1, rfl, rfl, rfl, h1, r1⟩ := trodAll_cons r0
  obtain ⟨v2, vs2, d2, ds2, p2, q2, rfl, rfl, rfl, h2, r2⟩ := trodAll_cons r1
  obtain ⟨rfl, rfl, rfl⟩ := trodAll_nil r2
  obtain rfl : args = #[v0, v1, v2] := by cases args; simp_all
  obtain ⟨rfl, rfl⟩ := trodVars_none hV
  have k0 := h0
  have lt0 : ∀ x ∈ p0, x.block < W.heap.size := by obtain ⟨m, hm⟩ := k0; exact DataW.trod_lt m _ _ _ hm
  obtain ⟨pl0, pw0, pj0, po0, ps0, pc0, rfl, wpl0, wpw0, wpj0, wpo0⟩ := open_params (hval 0 24 v0 rfl rfl) h0
  obtain ⟨a1, rfl, rfl, rfl, w1⟩ := open_string Try.underlying9 (hval 1 9 v1 rfl rfl) h1
  obtain ⟨a2, rfl, rfl, rfl, w2⟩ := open_string Try.underlying9 (hval 2 9 v2 rfl rfl) h2
  clear hA0 hval0
  refine (walk pl0 pw0 pj0 po0 ps0 pc0 a1 a2 W (bounds_i64 wpl0) (bounds_i64 wpw0) (bounds_i64 wpj0) (bounds_i64 wpo0) w1 w2).mono fun e W' ⟨he, bel⟩ => ?_
  subst he
  exact ⟨_, rfl, _, _, _, [], _, [], hW', trodAll_mk1 (shut_bool Try.underlying4 _), (trodAll_cons_mk (Below.trod laidOut (by kernel_rfl) (of_decide_eq_true (by kernel_rfl)) k0 bel lt0) (trodAll_cons_mk (shut_string Try.underlying9 w1) (trodAll_cons_mk (shut_string Try.underlying9 w2) trodAll_mk0))), rfl, bel.frame _, fun h => by cases h⟩

theorem over : Rows.boundWholesRow.holds Try.pinned (OpenSpec.ofChange Rows.boundWholesSpec) :=
  OpenClaim.holds_of_wide 6 Try.f6 rfl rfl rfl rfl rfl rfl rfl ⟨rfl, rfl, rfl, rfl, rfl⟩ rfl rfl rfl rfl rfl (by kernel_rfl) Try.func6 (by kernel_rfl)
    (of_decide_eq_true (by kernel_rfl)) (by unfold Func.isWrapper; first | (rw [if_pos (by decide +kernel)]; kernel_rfl) | (rw [if_neg (by decide +kernel)]; exact ⟨rfl, rfl⟩))
    (fun os started H enc _ => lifted os started H enc)

/-- The statement. -/
theorem proved : Rows.BoundWholesSaid := over
#print axioms proved
end Go.Proofs.Ytfdbkpbgkpkckaa.boundWholes
