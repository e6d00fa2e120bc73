/- The statement cheesepresslaw04.CursorFails holds: for every input the law returns true, and the arguments read as before. -/
import Derived.Test.YtboajmnckldmiaaOpenStructs
import Derived.Test.YtboajmnckldmiaaRegions
import Derived.Test.YtboajmnckldmiaaCurAwake
import Derived.Test.YtboajmnckldmiaaCurRef4
namespace Go.Proofs.Ytboajmnckldmiaa.cursorFails
open Go.ChangeShapes Go.WideShapes Go.ChangeAt Go.RowKit
open Go.ChangeMaps (open_string shut_string)
set_option linter.unusedVariables false
set_option maxRecDepth 100000

attribute [local go_sem ↓] Go.wp_at_zero Go.wp_at_succ
set_option maxHeartbeats 4000000 in
theorem walk (s : ByteArray) (a e f er x : Int) (w : World) (hs : s.size ≤ maxLen) (ha : -9223372036854775808 ≤ a ∧ a ≤ 9223372036854775807) (he : -9223372036854775808 ≤ e ∧ e ≤ 9223372036854775807) (hf : -9223372036854775808 ≤ f ∧ f ≤ 9223372036854775807)
    (her : -9223372036854775808 ≤ er ∧ er ≤ 9223372036854775807) (hx : -9223372036854775808 ≤ x ∧ x ≤ 9223372036854775807) :
    Calls Try.prog 5 #[.agg #[.string s, .int .i64 a, .int .i64 e, .int .i64 f], .int .i64 er, .int .i64 x] w fun r w' => r = .returned (.bool true) ∧ Below w.heap.size w w' := by
  have hs' : s.size ≤ 9223372036854775807 := hs
  clear hs ha he hf her hx
  by_cases hl : 300 < s.size
  · go_enter Try.func5, Try.ntmps5
    go_wp2_with fail
    refine (awake04_any _).mono ?_
    rintro r w6 ⟨rfl, hB6⟩
    go_wp2
    go_ret
    exact ⟨rfl, below_then (below_new _) hB6⟩
  · have h1 : Hid (∀ W, Calls Try.prog 16 #[.string s, .int .i64 x] W fun r w' => r = .returned ((newV s x).val) ∧ Below W.heap.size W w') := fun W => New_any s x W hs'
    have h2 : Hid (∀ W, Calls Try.prog 21 #[.string s, .int .i64 x] W fun r w' => r = .returned ((newV s x).val) ∧ Below W.heap.size W w') := fun W => rNew_any s x W hs'
    have h3 := Lib.hid (fun W => Fail_any s a e f er x W hs')
    have h4 := Lib.hid (fun W => rFail_any s a e f er x W hs')
    have h5 := Lib.hid (fun W => End_any s a e f W hs')
    have h6 := Lib.hid (fun W => rEnd_any s a e f W hs')
    generalize newV s x = c1 at *
    generalize failC (rightC ⟨s, a, e, f⟩) er x = c2 at *
    generalize endE (rightC ⟨s, a, e, f⟩) = ee at *
    generalize endF (rightC ⟨s, a, e, f⟩) = ef at *
    obtain ⟨n0, n1, n2, n3⟩ := c1
    obtain ⟨m0, m1, m2, m3⟩ := c2
    unfold Cur.val at h1 h2 h3 h4
    have hc := Cu.new w ⟨s, a, e, f⟩ 28
    have HP := Lib.hid (fun V (hV : Below (w.alloc (.cells #[.string s, .int .i64 a, .int .i64 e, .int .i64 f] 28)).heap.size (w.alloc (.cells #[.string s, .int .i64 a, .int .i64 e, .int .i64 f] 28)) V) => (show V.cell? ⟨w.heap.size, 0, none⟩ = some (.string s) ∧ V.cell? ⟨w.heap.size, 1, none⟩ = some (.int .i64 a) ∧ V.cell? ⟨w.heap.size, 2, none⟩ = some (.int .i64 e) ∧ V.cell? ⟨w.heap.size, 3, none⟩ = some (.int .i64 f) from ⟨(hc.keep' hV).c0, (hc.keep' hV).c1, (hc.keep' hV).c2, (hc.keep' hV).c3⟩))
    clear hc
    have hB0 := Below.refl (w.alloc (.cells #[.string s, .int .i64 a, .int .i64 e, .int .i64 f] 28)).heap.size (w.alloc (.cells #[.string s, .int .i64 a, .int .i64 e, .int .i64 f] 28))
    have hBw := below_new (w := w) (.cells #[.string s, .int .i64 a, .int .i64 e, .int .i64 f] 28)
    go_enter Try.func5, Try.ntmps5
    go_wp2_with fail
    generalize hW0 : w.alloc (.cells #[.string s, .int .i64 a, .int .i64 e, .int .i64 f] 28) = W0 at *
    clear hW0
    obtain ⟨p0, p1, p2, p3⟩ := HP.out _ hB0
    go_region_held3 (fun w' => Below W0.heap.size W0 w' ∧ w'.cell? ⟨w.heap.size, 0, none⟩ = some (.string s) ∧ w'.cell? ⟨w.heap.size, 1, none⟩ = some (.int .i64 a) ∧ w'.cell? ⟨w.heap.size, 2, none⟩ = some (.int .i64 e) ∧ w'.cell? ⟨w.heap.size, 3, none⟩ = some (.int .i64 f))
      ((refine ⟨?_, ?_, ?_, ?_, ?_⟩ <;> first | assumption | exact below_drew (by assumption)))
      (first
        | (go_at_call 16; refine (h1.out _).mono ?_; rintro r w5 ⟨rfl, hB5⟩; have hBn : Below W0.heap.size W0 w5 := below_then (by first | assumption | exact And.left (by assumption)) hB5; obtain ⟨q0, q1, q2, q3⟩ := HP.out _ hBn)
        | (go_at_call 21; refine (h2.out _).mono ?_; rintro r w5 ⟨rfl, hB5⟩; have hBn : Below W0.heap.size W0 w5 := below_then (by first | assumption | exact And.left (by assumption)) hB5; obtain ⟨q0, q1, q2, q3⟩ := HP.out _ hBn)
        | (go_at_call 22; refine (h3.out _).mono ?_; rintro r w5 ⟨rfl, hB5⟩; have hBn : Below W0.heap.size W0 w5 := below_then (by first | assumption | exact And.left (by assumption)) hB5; obtain ⟨q0, q1, q2, q3⟩ := HP.out _ hBn)
        | (go_at_call 23; refine (h4.out _).mono ?_; rintro r w5 ⟨rfl, hB5⟩; have hBn : Below W0.heap.size W0 w5 := below_then (by first | assumption | exact And.left (by assumption)) hB5; obtain ⟨q0, q1, q2, q3⟩ := HP.out _ hBn)
        | (go_at_call 24; refine (h5.out _).mono ?_; rintro r w5 ⟨rfl, hB5⟩; have hBn : Below W0.heap.size W0 w5 := below_then (by first | assumption | exact And.left (by assumption)) hB5; obtain ⟨q0, q1, q2, q3⟩ := HP.out _ hBn)
        | (go_at_call 25; refine (h6.out _).mono ?_; rintro r w5 ⟨rfl, hB5⟩; have hBn : Below W0.heap.size W0 w5 := below_then (by first | assumption | exact And.left (by assumption)) hB5; obtain ⟨q0, q1, q2, q3⟩ := HP.out _ hBn)
        | (go_at_call 14; refine (awake04_any _).mono ?_; rintro r w5 ⟨rfl, hB5⟩; have hBn : Below W0.heap.size W0 w5 := below_then (by first | assumption | exact And.left (by assumption)) hB5; obtain ⟨q0, q1, q2, q3⟩ := HP.out _ hBn))
    all_goals (
      go_wp2
      go_ret
      exact ⟨rfl, below_then hBw hBn⟩)

/-! The step from the walk to the statement: the shell's text. -/
set_option maxRecDepth 100000 in
theorem lifted (os : Os) (started : os.Started) (H : Type) (enc : TypeId × Value → H) :
    ReturnsInHanded {} Try.checked os 5 .any (Rows.cursorFailsSpec.pre6 enc Try.prog Try.f5 Rows.cursorFailsRow.domain false) (Rows.cursorFailsSpec.post enc Try.prog Try.f5 false true false false) := by
  refine returnsInHanded_of_change (C := Try.checked) own started (by kernel_rfl) Try.func5
    (ChangeSpec.witness6 (enc := enc) (C := Try.checked) false ⟨#[], #[.agg #[.string ByteArray.empty, .int .i64 0, .int .i64 0, .int .i64 0], .int .i64 0, .int .i64 0], []⟩ 8 (by kernel_rfl) (by kernel_rfl) (by kernel_rfl) (by kernel_rfl)) ?_
  intro W base args ds gs before hval0 hW hcnd _
  have hval : ∀ (j : Nat) t v, Try.f5.params[j]? = some t → args[j]? = some v → Value.okWide Try.prog W .any base t v := hval0
  have hW' := hW
  obtain ⟨p, q, hA0, hV, rfl, hfz, hnd⟩ := hW
  have hA : DataW.TrodAll enc Try.prog W 0 (fun _ => true) true Try.f5.params.toList args.toList ds p := hA0
  rw [Try.params5] at hA hval
  obtain ⟨v0, vs0, d0, ds0, p0, q0, hargs, rfl, rfl, h0, r0⟩ := trodAll_cons hA
  obtain ⟨v1, vs1, d1, ds1, p1, q1, rfl, rfl, rfl, h1, r1⟩ := trodAll_cons r0
  obtain ⟨v2, vs2, d2, ds2, p2, q2, rfl, rfl, rfl, h2, r2⟩ := trodAll_cons r1
  obtain ⟨rfl, rfl, rfl⟩ := trodAll_nil r2
  obtain rfl : args = #[v0, v1, v2] := by cases args; simp_all
  obtain ⟨rfl, rfl⟩ := trodVars_none hV
  have k0 := h0
  have lt0 : ∀ x ∈ p0, x.block < W.heap.size := by obtain ⟨m, hm⟩ := k0; exact DataW.trod_lt m _ _ _ hm
  obtain ⟨cs0, ca0, ce0, cf0, rfl, wcs0, wca0, wce0, wcf0⟩ := open_cursor (hval 0 28 v0 rfl rfl) h0
  obtain ⟨a1, rfl, rfl, rfl, w1⟩ := open_int Try.underlying24 (hval 1 24 v1 rfl rfl) h1
  obtain ⟨a2, rfl, rfl, rfl, w2⟩ := open_int Try.underlying3 (hval 2 3 v2 rfl rfl) h2
  clear hA0 hval0
  refine (walk cs0 ca0 ce0 cf0 a1 a2 W wcs0 (bounds_i64 wca0) (bounds_i64 wce0) (bounds_i64 wcf0) (bounds_i64 w1) (bounds_i64 w2)).mono fun e W' ⟨he, bel⟩ => ?_
  subst he
  exact ⟨_, rfl, _, _, _, [], _, [], hW', trodAll_mk1 (shut_bool Try.underlying4 _), (trodAll_cons_mk (Below.trod laidOut (by kernel_rfl) (of_decide_eq_true (by kernel_rfl)) k0 bel lt0) (trodAll_cons_mk (shut_int Try.underlying24 w1) (trodAll_cons_mk (shut_int Try.underlying3 w2) trodAll_mk0))), rfl, bel.frame _, fun h => by cases h⟩

theorem over : Rows.cursorFailsRow.holds Try.pinned (OpenSpec.ofChange Rows.cursorFailsSpec) :=
  OpenClaim.holds_of_wide 5 Try.f5 rfl rfl rfl rfl rfl rfl rfl ⟨rfl, rfl, rfl, rfl, rfl⟩ rfl rfl rfl rfl rfl (by kernel_rfl) Try.func5 (by kernel_rfl)
    (of_decide_eq_true (by kernel_rfl)) (by unfold Func.isWrapper; first | (rw [if_pos (by decide +kernel)]; kernel_rfl) | (rw [if_neg (by decide +kernel)]; exact ⟨rfl, rfl⟩))
    (fun os started H enc _ => lifted os started H enc)

/-- The statement. -/
theorem proved : Rows.CursorFailsSaid := over
#print axioms proved
end Go.Proofs.Ytboajmnckldmiaa.cursorFails
