/- The statement cheesepresslaw35.CutterFull holds: for every input the law returns true, and the arguments read as before. -/
import Derived.Test.YtaofphifmgadjaaOpenStructs
import Derived.Test.YtaofphifmgadjaaCutAwake
namespace Go.Proofs.Ytaofphifmgadjaa.cutterFull
open Go.ChangeShapes Go.WideShapes Go.ChangeAt Go.RowKit
open Go.ChangeMaps (open_string shut_string)
set_option linter.unusedVariables false
set_option maxRecDepth 100000

set_option maxHeartbeats 4000000 in
theorem walk (l wd jb ov : Int) (sy ck : Bool) (s : ByteArray) (w : World) (hl : -9223372036854775808 ≤ l ∧ l ≤ 9223372036854775807) (hwd : -9223372036854775808 ≤ wd ∧ wd ≤ 9223372036854775807) (hjb : -9223372036854775808 ≤ jb ∧ jb ≤ 9223372036854775807) (hov : -9223372036854775808 ≤ ov ∧ ov ≤ 9223372036854775807) (hs : s.size ≤ maxLen) :
    Calls Try.prog 11 #[.agg #[.int .i64 l, .int .i64 wd, .int .i64 jb, .int .i64 ov, .bool sy, .bool ck], .string s] w fun e w' => e = .returned (.bool true) ∧ Below w.heap.size w w' := by
  have hs' : s.size ≤ 9223372036854775807 := hs
  clear hs hl hwd hjb hov
  have hBw := below_fresh (w := w) (.cells #[.int .i64 l, .int .i64 wd, .int .i64 jb, .int .i64 ov, .bool sy, .bool ck] 49)
  by_cases h7 : 700 < s.size
  · have g7 : (700 : Int) < (s.size : Int) := by omega
    go_enter Try.func11, Try.ntmps11
    go_wp2_with fail
    refine (awake35_any _).mono ?_
    rintro e w1 ⟨rfl, hB⟩
    go_wp2
    go_ret
    exact ⟨rfl, below_then hBw hB⟩
  · have g7 : ¬ (700 : Int) < (s.size : Int) := by omega
    have H1 := Lib.hid (fun W => Full35_any l wd jb ov sy ck s W hs')
    have H2 := Lib.hid (fun W => rFull35_any l wd jb ov sy ck s W hs')
    have H3 := Lib.hid (fun W => Bits35_any l wd jb ov sy ck W)
    have H4 := Lib.hid (fun W => rBits35_any l wd jb ov sy ck W)
    obtain ⟨x, y, h5, h6⟩ : ∃ x y : Int, (∀ W, Calls Try.prog 41 #[.agg #[.int .i64 l, .int .i64 wd, .int .i64 jb, .int .i64 ov, .bool sy, .bool ck]] W fun e w' => e = .returned (.tuple #[.int .i64 x, .int .i64 y]) ∧ Below W.heap.size W w') ∧ (∀ W, Calls Try.prog 42 #[.agg #[.int .i64 l, .int .i64 wd, .int .i64 jb, .int .i64 ov, .bool sy, .bool ck]] W fun e w' => e = .returned (.tuple #[.int .i64 x, .int .i64 y]) ∧ Below W.heap.size W w') := by
      by_cases hp : parBad l wd jb ov
      · exact ⟨0, 2, fun W => Longest_bad l wd jb ov sy ck W hp, fun W => rLongest_bad l wd jb ov sy ck W hp⟩
      · exact ⟨longV jb sy, 0, fun W => Longest_ok l wd jb ov sy ck W hp, fun W => rLongest_ok l wd jb ov sy ck W hp⟩
    have H5 := Lib.hid h5
    have H6 := Lib.hid h6
    clear h5 h6
    have HPB : Hid (∀ V, Below w.heap.size w V → True) := fun _ _ => trivial
    clear HPB
    have HPB : Hid (∀ V, Below (w.alloc (.cells #[.int .i64 l, .int .i64 wd, .int .i64 jb, .int .i64 ov, .bool sy, .bool ck] 49)).heap.size (w.alloc (.cells #[.int .i64 l, .int .i64 wd, .int .i64 jb, .int .i64 ov, .bool sy, .bool ck] 49)) V → ParBox V w.heap.size l wd jb ov sy ck) := fun V hV => (ParBox.new w l wd jb ov sy ck 49).keep hV (by simp)
    generalize fullV l wd jb ov sy s = v1 at *
    generalize askE l wd jb ov s = v2 at *
    generalize bitsO l wd jb ov = v3 at *
    generalize parE l wd jb ov = v4 at *
    have hBZ := Below.refl (w.alloc (.cells #[.int .i64 l, .int .i64 wd, .int .i64 jb, .int .i64 ov, .bool sy, .bool ck] 49)).heap.size (w.alloc (.cells #[.int .i64 l, .int .i64 wd, .int .i64 jb, .int .i64 ov, .bool sy, .bool ck] 49))
    obtain ⟨q0, q1, q2, q3, q4, q5⟩ := HPB.out _ hBZ
    go_enter Try.func11, Try.ntmps11
    go_wp2_with fail
    generalize hW0 : w.alloc (.cells #[.int .i64 l, .int .i64 wd, .int .i64 jb, .int .i64 ov, .bool sy, .bool ck] 49) = W0 at *
    clear hW0
    refine (H1.out _).mono ?_
    rintro e w0 ⟨rfl, hB0⟩
    have bB0 := below_then hBZ hB0
    clear q0 q1 q2 q3 q4 q5
    obtain ⟨q0, q1, q2, q3, q4, q5⟩ := HPB.out w0 bB0
    go_wp2_with fail
    refine (H2.out _).mono ?_
    rintro e w1 ⟨rfl, hB1⟩
    have bB1 := below_then bB0 hB1
    clear q0 q1 q2 q3 q4 q5
    obtain ⟨q0, q1, q2, q3, q4, q5⟩ := HPB.out w1 bB1
    go_wp2_with fail
    refine (H3.out _).mono ?_
    rintro e w2 ⟨rfl, hB2⟩
    have bB2 := below_then bB1 hB2
    clear q0 q1 q2 q3 q4 q5
    obtain ⟨q0, q1, q2, q3, q4, q5⟩ := HPB.out w2 bB2
    go_wp2_with fail
    refine (H4.out _).mono ?_
    rintro e w3 ⟨rfl, hB3⟩
    have bB3 := below_then bB2 hB3
    clear q0 q1 q2 q3 q4 q5
    obtain ⟨q0, q1, q2, q3, q4, q5⟩ := HPB.out w3 bB3
    go_wp2_with fail
    refine (H5.out _).mono ?_
    rintro e w4 ⟨rfl, hB4⟩
    have bB4 := below_then bB3 hB4
    clear q0 q1 q2 q3 q4 q5
    obtain ⟨q0, q1, q2, q3, q4, q5⟩ := HPB.out w4 bB4
    go_wp2_with fail
    refine (H6.out _).mono ?_
    rintro e w5 ⟨rfl, hB5⟩
    have bB5 := below_then bB4 hB5
    clear q0 q1 q2 q3 q4 q5
    obtain ⟨q0, q1, q2, q3, q4, q5⟩ := HPB.out w5 bB5
    go_wp2_with fail
    refine (awake35_any _).mono ?_
    rintro e w9 ⟨rfl, hB9⟩
    go_wp2
    go_ret
    exact ⟨rfl, below_then hBw (below_then bB5 hB9)⟩

/-! The step from the walk to the statement: the shell's text. -/
set_option maxRecDepth 100000 in
theorem lifted (os : Os) (started : os.Started) (H : Type) (enc : TypeId × Value → H) :
    ReturnsInHanded {} Try.checked os 11 .any (Rows.cutterFullSpec.pre6 enc Try.prog Try.f11 Rows.cutterFullRow.domain false) (Rows.cutterFullSpec.post enc Try.prog Try.f11 false true false false) := by
  refine returnsInHanded_of_change (C := Try.checked) own started (by kernel_rfl) Try.func11
    (ChangeSpec.witness6 (enc := enc) (C := Try.checked) false ⟨#[], #[.agg #[.int .i64 0, .int .i64 0, .int .i64 0, .int .i64 0, .bool false, .bool false], .string ByteArray.empty], []⟩ 8 (by kernel_rfl) (by kernel_rfl) (by kernel_rfl) (by kernel_rfl)) ?_
  intro W base args ds gs before hval0 hW hcnd _
  have hval : ∀ (j : Nat) t v, Try.f11.params[j]? = some t → args[j]? = some v → Value.okWide Try.prog W .any base t v := hval0
  have hW' := hW
  obtain ⟨p, q, hA0, hV, rfl, hfz, hnd⟩ := hW
  have hA : DataW.TrodAll enc Try.prog W 0 (fun _ => true) true Try.f11.params.toList args.toList ds p := hA0
  rw [Try.params11] at hA hval
  obtain ⟨v0, vs0, d0, ds0, p0, q0, hargs, rfl, rfl, h0, r0⟩ := trodAll_cons hA
  obtain ⟨v1, vs1, d1, ds1, p1, q1, rfl, rfl, rfl, h1, r1⟩ := trodAll_cons r0
  obtain ⟨rfl, rfl, rfl⟩ := trodAll_nil r1
  obtain rfl : args = #[v0, v1] := by cases args; simp_all
  obtain ⟨rfl, rfl⟩ := trodVars_none hV
  have k0 := h0
  have lt0 : ∀ x ∈ p0, x.block < W.heap.size := by obtain ⟨m, hm⟩ := k0; exact DataW.trod_lt m _ _ _ hm
  obtain ⟨pl0, pw0, pj0, po0, ps0, pc0, rfl, wpl0, wpw0, wpj0, wpo0⟩ := open_params (hval 0 49 v0 rfl rfl) h0
  obtain ⟨a1, rfl, rfl, rfl, w1⟩ := open_string Try.underlying9 (hval 1 9 v1 rfl rfl) h1
  clear hA0 hval0
  refine (walk pl0 pw0 pj0 po0 ps0 pc0 a1 W (bounds_i64 wpl0) (bounds_i64 wpw0) (bounds_i64 wpj0) (bounds_i64 wpo0) w1).mono fun e W' ⟨he, bel⟩ => ?_
  subst he
  exact ⟨_, rfl, _, _, _, [], _, [], hW', trodAll_mk1 (shut_bool Try.underlying4 _), (trodAll_cons_mk (Below.trod laidOut (by kernel_rfl) (of_decide_eq_true (by kernel_rfl)) k0 bel lt0) (trodAll_cons_mk (shut_string Try.underlying9 w1) trodAll_mk0)), rfl, bel.frame _, fun h => by cases h⟩

theorem over : Rows.cutterFullRow.holds Try.pinned (OpenSpec.ofChange Rows.cutterFullSpec) :=
  OpenClaim.holds_of_wide 11 Try.f11 rfl rfl rfl rfl rfl rfl rfl ⟨rfl, rfl, rfl, rfl, rfl⟩ rfl rfl rfl rfl rfl (by kernel_rfl) Try.func11 (by kernel_rfl)
    (of_decide_eq_true (by kernel_rfl)) (by unfold Func.isWrapper; first | (rw [if_pos (by decide +kernel)]; kernel_rfl) | (rw [if_neg (by decide +kernel)]; exact ⟨rfl, rfl⟩))
    (fun os started H enc _ => lifted os started H enc)

/-- The statement. -/
theorem proved : Rows.CutterFullSaid := over
#print axioms proved
end Go.Proofs.Ytaofphifmgadjaa.cutterFull
