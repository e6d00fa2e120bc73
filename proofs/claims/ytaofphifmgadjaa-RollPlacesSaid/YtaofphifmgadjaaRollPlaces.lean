/-
  The walks of roll.asked and roll.Places.
-/
import Derived.Test.YtaofphifmgadjaaRollRef
import Derived.Test.YtaofphifmgadjaaSlices
namespace Go.Proofs.Ytaofphifmgadjaa
open Go.RowKit Go.Shelf
set_option linter.unusedVariables false
set_option maxRecDepth 100000
attribute [local go_sem] Oper.semAt_some

theorem asked34_any (s : ByteArray) (n : Int) (w : World) (hs : s.size ≤ 1048576) :
    Calls Try.prog 57 #[.string s, .int .i64 n] w fun e w' => e = .returned (.int .i64 (hitsE n)) ∧ w = w' := by
  have hb9 : decide (1048576 < (s.size : Int)) = false := by simp; omega
  by_cases h1 : n < 1
  · have HE := Lib.hid (hits_bad (h := 0) (n := n) (.inl h1)).2
    go_enter Try.func57, Try.ntmps57
    go_wp2
    go_ret
    exact ⟨ret_int HE.out.symm, rfl⟩
  · by_cases h2 : 32 < n
    · have HE := Lib.hid (hits_bad (h := 0) (n := n) (.inr h2)).2
      go_enter Try.func57, Try.ntmps57
      go_wp2
      go_ret
      exact ⟨ret_int HE.out.symm, rfl⟩
    · have HE := Lib.hid (hits_ok (h := 0) (n := n) (by omega)).2
      go_enter Try.func57, Try.ntmps57
      go_wp2
      go_ret
      exact ⟨ret_int HE.out.symm, rfl⟩

/-- The places that hit, of those given. -/
def hitAt (s : ByteArray) (n : Nat) (pre : List Nat) : List Int := (pre.filter fun k => hitB (winH s k) n).map fun k : Nat => 16 + (k : Int)
theorem hitAt_yes (s : ByteArray) (n : Nat) (pre : List Nat) (x : Nat) (h : hitB (winH s x) n = true) : hitAt s n (pre ++ [x]) = hitAt s n pre ++ [16 + (x : Int)] := by simp [hitAt, h]
theorem hitAt_no (s : ByteArray) (n : Nat) (pre : List Nat) (x : Nat) (h : hitB (winH s x) n = false) : hitAt s n (pre ++ [x]) = hitAt s n pre := by simp [hitAt, h]
theorem hitAt_len (s : ByteArray) (n : Nat) (pre : List Nat) : (hitAt s n pre).length ≤ pre.length := by
  unfold hitAt; rw [List.length_map]; exact List.length_filter_le _ _

set_option maxHeartbeats 2000000 in
theorem Places_in (m : Nat) (hm : 6 ≤ m) (s : ByteArray) (hs : s.size ≤ 1048576) (n : Nat) (hn1 : 1 ≤ n) (hn2 : n ≤ 32) (w : World) :
    CallsIn Fence.wide m Try.prog 28 #[.string s, .int .i64 n] w fun e W' => ∃ v, e = .returned (.tuple #[v, .int .i64 0]) ∧
      W'.ownsRow (w.heap.size + 1) 3 1 v (hitAt s n (List.range (s.size - 15))).length ((hitAt s n (List.range (s.size - 15))).map (Value.int .i64)) ∧ Below w.heap.size w W' := by
  have h1 : 1 ≤ m := by omega
  obtain ⟨i0, hi, hz0, hz1, hz2⟩ := info_parts Try.infoInt
  have HE := Lib.hid (hits_ok (h := 0) (n := n) (by omega)).2
  refine callsIn_of_wp_marks Try.func28 rfl trivial ?_ rfl
  simp only [Try.ntmps28, List.size_toArray, List.length_cons, List.length_nil, Nat.reduceAdd, Nat.reduceSub, Array.replicate_succ, Array.replicate_zero, List.push_toArray, List.append_toArray, List.nil_append, List.cons_append]
  gi_wp2_with fail
  refine ⟨trivial, ?_⟩
  refine (callsIn_wide.2 (asked34_any s n _ hs)).mono ?_
  rintro e w' ⟨rfl, rfl⟩
  rw [HE.out]
  gi_wp2_with fail
  refine ⟨trivial, ?_⟩
  refine (hashes_in (m - 1) s _).mono ?_
  rintro e w' ⟨rfl, rfl⟩
  gi_wp2_with fail
  have bI := Boxed.new w 3 (.int .i64 n)
  have bO := Boxed.new (w.alloc (.cells #[.int .i64 n] 3)) 41 (.slice none 0 0)
  have bN := Boxed.new ((w.alloc (.cells #[.int .i64 n] 3)).alloc (.cells #[.slice none 0 0] 41)) 9 (.string s)
  rw [World.size_alloc] at bO
  rw [World.size_alloc, World.size_alloc] at bN
  have hB0 : Below w.heap.size w (((w.alloc (.cells #[.int .i64 n] 3)).alloc (.cells #[.slice none 0 0] 41)).alloc (.cells #[.string s] 9)) := (((Below.refl _ w).alloc (Nat.le_refl _) _).alloc (by simp) _).alloc (by simp; omega) _
  refine wpIn_rangeFunc_ownG rfl h1 (gf := 70) (lb := #[.pointer (some ⟨w.heap.size + 1 + 1, 0, none⟩)]) rfl trivial (enters_of Try.func70 (by kernel_rfl) rfl)
    (hashes_stops (m - 1) (by omega) (w.heap.size + 1 + 1) s _ (by omega) (by simp) bN.cell) KeepsBox.trans (KeepsBox.put (by simp)) (Below.refl _ _) (fun _ => rfl)
    (fun pre W => (∃ v, Boxed W (w.heap.size + 1) 41 v ∧ W.ownsRow (w.heap.size + 1) 3 1 v (hitAt s n pre).length ((hitAt s n pre).map (Value.int .i64)) ∧ True) ∧ Boxed W w.heap.size 3 (.int .i64 n) ∧ Boxed W (w.heap.size + 1 + 1) 9 (.string s) ∧ Below w.heap.size w W)
    (fun _ _ _ => False)
    (OwnFrom.and (Own.from (holdsRow_own (w.heap.size + 1) (w.heap.size + 1) 41 3 1 (fun pre => (hitAt s n pre).length) (fun pre => (hitAt s n pre).map (Value.int .i64)) (fun pre v => True)) _) (OwnFrom.and (Own.from (boxed_own _ _ _) _) (OwnFrom.and (Own.from (boxed_own _ _ _) _) (ownFrom_below (Nat.le_refl _) (by simp; omega)))))
    (fun _ _ _ _ _ hs _ _ => hs)
    ⟨⟨_, bO.alloc _, World.ownsRow_nil _ _ _ _, trivial⟩, (bI.alloc _).alloc _, bN, hB0⟩
    (fun x => { tmps := #[.string s, .int .i64 n, undef, .pointer (some ⟨w.heap.size, 0, none⟩), .slice none 0 0, .int .i64 0, .int .i64 0, .pointer (some ⟨w.heap.size + 1, 0, none⟩), .int .i64 (16 + (x : Int)), .int .u64 (winH s x), .string s,
      .int .i64 n, .int .i64 0, .int .i64 0, .bool false, undef, .string s,
      .func (.func 70) #[] #[.pointer (some ⟨w.heap.size + 1 + 1, 0, none⟩)], .int .i64 (16 + (x : Int)), .int .u64 (winH s x), undef, undef, undef, undef, undef, undef, undef, undef], defers := [] }) ?assign ?body ?done ?stop
  case assign =>
    intro l x W K hK
    gi_wp2
    exact hK
  case body =>
    rintro l pre x W ⟨⟨v, hv, hrow, _⟩, hbn, hbx, hB⟩ hlt
    have hc := hv.cell
    have hcn := hbn.cell
    have hle : (hitAt s n pre).length ≤ 1048576 := by have := hitAt_len s n pre; omega
    cases hh : hitB (winH s x) n with
    | true =>
      have HS := Lib.hid (hitAt_yes s n pre x hh)
      have HH := Lib.hid hh
      clear hh
      gi_wp2_with fail
      refine ⟨trivial, fun _ => by omega, ?_⟩
      refine ((callsIn_wide.2 (hits_any (winH s x) n _ (winH_lo s x) hn2)).inRound l).mono ?_
      rintro e W1 ⟨rfl, rfl⟩
      rw [HH.out]
      gi_wp2_with (gi_at_builtin; refine wpListIn_append_own _ rfl _ _ 41 rfl (w.heap.size + 1) 3 i0 (.int .i64 0) 1 8 Try.underlying41 hi hz0 hz1 hz2 rfl (by decide) _ _ _ rfl (hrow.alloc _) ⟨W.heap.size, 0, none⟩ 1 1 [.int .i64 (16 + (x : Int))] rfl rfl (cell_one_new _ _ _) (by simp [Value.oneCell']) (by simp only [maxLen]; omega) (by omega) (by have := hv.lt; simp; omega) ?_; intro v' w1 hown' hgrow _; obtain ⟨g', cap', rfl⟩ := ownsRow_succ hown'; obtain ⟨hv1, hv2, hr2, hk2, hb2⟩ := hv.appended (by decide) hrow (Nat.le_of_lt hv.lt) (Nat.le_refl _) hown' hgrow; have hc1 := hv1.cell; have hf1 := hv1.frozen; have hx1 : Boxed w1 (w.heap.size + 1 + 1) 9 (.string s) := (hbx.alloc _).kept hgrow (hbx.not_row (by decide) hrow); have hx2 := hx1.kept (grownBy_setCell' w1 (w.heap.size + 1) (.slice (some ⟨g', 0, none⟩) ((hitAt s n pre).length + 1) cap')) (by simp))
      refine ⟨hk2.from _, hx2.trans hbx.symm, ⟨⟨_, hv2, by rw [HS.out]; simpa using hr2, trivial⟩, (hb2.block _ (Nat.lt_succ_self _)).trans hbn, hx2, hB.trans (hb2.mono (Nat.le_succ _))⟩⟩
    | false =>
      have HS := Lib.hid (hitAt_no s n pre x hh)
      have HH := Lib.hid hh
      clear hh
      gi_wp2_with fail
      refine ⟨trivial, fun _ => by omega, ?_⟩
      refine ((callsIn_wide.2 (hits_any (winH s x) n _ (winH_lo s x) hn2)).inRound l).mono ?_
      rintro e W1 ⟨rfl, rfl⟩
      rw [HH.out]
      gi_wp2_with fail
      refine ⟨KeepsFrom.refl _ _, rfl, ⟨⟨_, hv, by rw [HS.out]; exact hrow, trivial⟩, hbn, hbx, hB⟩⟩
  case done =>
    rintro D ys W hD rfl ⟨⟨v, hv, hrow, _⟩, hbn, hbx, hB⟩ hK
    have hc := hv.cell
    gi_wp2
    refine ⟨by simp, .inl ⟨_, _, rfl, run_takeDeferred hK, ?_⟩⟩
    exact ⟨_, results_tmp2 rfl _ _ _, v, rfl, ownsRow_putObj hrow _ hK rfl, hB.trans (belowK_b (w := w) (Nat.le_refl _) W D _ _ (by simp at hD; omega) hK rfl rfl)⟩
  case stop =>
    rintro D c pre W _ _ h _
    exact h.elim

end Go.Proofs.Ytaofphifmgadjaa
