/- The statement cheesepresslaw34.RollAll holds: for every input the law returns true, and the arguments read as before. -/
import Derived.Test.YtaofphifmgadjaaShell
import Derived.Test.YtaofphifmgadjaaRollAwake
import Derived.Test.YtaofphifmgadjaaRollFirstRef
namespace Go.Proofs.Ytaofphifmgadjaa.rollAll
open Go.ChangeShapes Go.WideShapes Go.ChangeAt Go.RowKit
open Go.ChangeMaps (open_string shut_string)
set_option linter.unusedVariables false
set_option maxRecDepth 100000

set_option maxHeartbeats 1600000 in
theorem walk (s : ByteArray) (n f : Int) (w : World) (hs : s.size ≤ maxLen) (hn : -9223372036854775808 ≤ n ∧ n ≤ 9223372036854775807) (hf : -9223372036854775808 ≤ f ∧ f ≤ 9223372036854775807) :
    Calls Try.prog 7 #[.string s, .int .i64 n, .int .i64 f] w fun e w' => e = .returned (.bool true) ∧ Below w.heap.size w w' := by
  have hs' : s.size ≤ 9223372036854775807 := hs
  clear hs
  by_cases hl : 300 < s.size
  · go_enter Try.func7, Try.ntmps7
    go_wp2_with fail
    refine (awake34_any _).mono ?_
    rintro e w1 ⟨rfl, hB⟩
    go_wp2
    go_ret
    exact ⟨rfl, hB⟩
  · have hs2 : s.size ≤ 1048576 := by omega
    have L1 := Lib.hid (winsAll_len s)
    have L2 := Lib.hid (places_len s n)
    go_enter Try.func7, Try.ntmps7
    go_wp2_with fail
    refine (All_any s _ hs2).mono ?_
    rintro e w1 ⟨A1, c1, rfl, hs1, hB1⟩
    go_wp2_with fail
    refine (rAll_any s _ hs2).mono ?_
    rintro e w2 ⟨A2, c2, rfl, hs2', hB2⟩
    go_wp2_with fail
    refine (same64_any A1 A2 (winsAll s) (winsAll s) c1 c2 w2.heap.size w2 ((hs1.below hB2).more hB2.size) hs2' (Nat.le_refl _) (by have := L1.out; omega) (by have := L1.out; omega)).mono ?_
    rintro e w3 ⟨rfl, hB3⟩
    rw [sameI_yes]
    go_wp2_with fail
    refine (Places_any s n _ hs2).mono ?_
    rintro e w4 ⟨A3, c3, rfl, hs4, hB4⟩
    go_wp2_with fail
    refine (rPlaces_any s n _ hs2).mono ?_
    rintro e w5 ⟨A4, c4, rfl, hs5, hB5⟩
    go_wp2_with fail
    refine (SameInts_any A3 A4 (placesV s n) (placesV s n) c3 c4 w5.heap.size w5 ((hs4.below hB5).more hB5.size) hs5 (Nat.le_refl _) (by have := L2.out; omega) (by have := L2.out; omega)).mono ?_
    rintro e w6 ⟨rfl, hB6⟩
    rw [sameI_yes]
    have hne : (hitsE n != hitsE n) = false := by simp
    go_wp2_with fail
    clear hne
    refine (First_any s f n _ hs2).mono ?_
    rintro e w7 ⟨rfl, hB7⟩
    go_wp2_with fail
    refine (rFirst_any s f n _ hs2).mono ?_
    rintro e w8 ⟨rfl, hB8⟩
    go_wp2_with fail
    refine (awake34_any _).mono ?_
    rintro e w9 ⟨rfl, hB9⟩
    go_wp2_with fail
    go_ret
    exact ⟨rfl, below_then (below_then (below_then (below_then (below_then (below_then (below_then (below_then hB1 hB2) hB3) hB4) hB5) hB6) hB7) hB8) hB9⟩

/-! The step from the walk to the statement: the shell's text. -/
set_option maxRecDepth 100000 in
theorem lifted (os : Os) (started : os.Started) (H : Type) (enc : TypeId × Value → H) :
    ReturnsInHanded {} Try.checked os 7 .any (Rows.rollAllSpec.pre6 enc Try.prog Try.f7 Rows.rollAllRow.domain false) (Rows.rollAllSpec.post enc Try.prog Try.f7 false true false false) := by
  refine returnsInHanded_of_change (C := Try.checked) own started (by kernel_rfl) Try.func7
    (ChangeSpec.witness6 (enc := enc) (C := Try.checked) false ⟨#[], #[.string ByteArray.empty, .int .i64 0, .int .i64 0], []⟩ 8 (by kernel_rfl) (by kernel_rfl) (by kernel_rfl) (by kernel_rfl)) ?_
  intro W base args ds gs before hval0 hW hcnd _
  have hval : ∀ (j : Nat) t v, Try.f7.params[j]? = some t → args[j]? = some v → Value.okWide Try.prog W .any base t v := hval0
  have hW' := hW
  obtain ⟨p, q, hA0, hV, rfl, hfz, hnd⟩ := hW
  have hA : DataW.TrodAll enc Try.prog W 0 (fun _ => true) true Try.f7.params.toList args.toList ds p := hA0
  rw [Try.params7] at hA hval
  obtain ⟨v0, vs0, d0, ds0, p0, q0, hargs, rfl, rfl, h0, r0⟩ := trodAll_cons hA
  obtain ⟨v1, vs1, d1, ds1, p1, q1, rfl, rfl, rfl, h1, r1⟩ := trodAll_cons r0
  obtain ⟨v2, vs2, d2, ds2, p2, q2, rfl, rfl, rfl, h2, r2⟩ := trodAll_cons r1
  obtain ⟨rfl, rfl, rfl⟩ := trodAll_nil r2
  obtain rfl : args = #[v0, v1, v2] := by cases args; simp_all
  obtain ⟨rfl, rfl⟩ := trodVars_none hV
  obtain ⟨a0, rfl, rfl, rfl, w0⟩ := open_string Try.underlying9 (hval 0 9 v0 rfl rfl) h0
  obtain ⟨a1, rfl, rfl, rfl, w1⟩ := open_int Try.underlying3 (hval 1 3 v1 rfl rfl) h1
  obtain ⟨a2, rfl, rfl, rfl, w2⟩ := open_int Try.underlying3 (hval 2 3 v2 rfl rfl) h2
  clear hA0 hval0
  refine (walk a0 a1 a2 W w0 (bounds_i64 w1) (bounds_i64 w2)).mono fun e W' ⟨he, bel⟩ => ?_
  subst he
  exact ⟨_, rfl, _, _, _, [], _, [], hW', trodAll_mk1 (shut_bool Try.underlying4 _), (trodAll_cons_mk (shut_string Try.underlying9 w0) (trodAll_cons_mk (shut_int Try.underlying3 w1) (trodAll_cons_mk (shut_int Try.underlying3 w2) trodAll_mk0))), rfl, bel.frame _, fun h => by cases h⟩

theorem over : Rows.rollAllRow.holds Try.pinned (OpenSpec.ofChange Rows.rollAllSpec) :=
  OpenClaim.holds_of_wide 7 Try.f7 rfl rfl rfl rfl rfl rfl rfl ⟨rfl, rfl, rfl, rfl, rfl⟩ rfl rfl rfl rfl rfl (by kernel_rfl) Try.func7 (by kernel_rfl)
    (of_decide_eq_true (by kernel_rfl)) (by unfold Func.isWrapper; first | (rw [if_pos (by decide +kernel)]; kernel_rfl) | (rw [if_neg (by decide +kernel)]; exact ⟨rfl, rfl⟩))
    (fun os started H enc _ => lifted os started H enc)

/-- The statement. -/
theorem proved : Rows.RollAllSaid := over
#print axioms proved
end Go.Proofs.Ytaofphifmgadjaa.rollAll
