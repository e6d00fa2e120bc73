/-
  The walk of cutter.Count; the walks of the references Ends and Count.
-/
import Derived.Test.YtaofphifmgadjaaCutEnds2
namespace Go.Proofs.Ytaofphifmgadjaa
open Go.RowKit Go.Shelf
set_option linter.unusedVariables false
set_option maxRecDepth 100000
attribute [local go_sem] Oper.semAt_some

theorem boxedF_own {β : Type} (b : Nat) (t : TypeId) (f : β → Value) : Own (fun (s : β) (W : World) => Boxed W b t (f s)) := fun s X Y row h hg hrow => blk_own (β := Unit) b _ rfl () X Y row h hg hrow

set_option maxHeartbeats 4000000 in
theorem Count_in (m : Nat) (hm : 6 ≤ m) (l wd jb ov : Int) (sy ck : Bool) (s : ByteArray) (hpb : ¬ parBad l wd jb ov) (hs : s.size ≤ 1048576) (w : World) :
    CallsIn Fence.wide m Try.prog 44 #[.agg #[.int .i64 l, .int .i64 wd, .int .i64 jb, .int .i64 ov, .bool sy, .bool ck], .string s] w fun e W' => e = .returned (.tuple #[.int .i64 (jobsN jb sy s : Int), .int .i64 0]) ∧ Below w.heap.size w W' := by
  have h1 : 1 ≤ m := by omega
  have hj := (par_in hpb).2.2.1
  have HA := Lib.hid (fun W => checked_any l wd jb ov sy ck s W (by omega))
  rw [ask_ok hpb (by omega)] at HA
  obtain ⟨jf1, jf2, jf3, jf4⟩ := jobs_facts jb sy s
  clear jf1 jf2 jf3 hpb
  refine callsIn_of_wp_marks Try.func44 rfl trivial ?_ rfl
  simp only [Try.ntmps44, List.size_toArray, List.length_cons, List.length_nil, Nat.reduceAdd, Nat.reduceSub, Array.replicate_succ, Array.replicate_zero, List.push_toArray, List.append_toArray, List.nil_append, List.cons_append]
  gi_wp2_with fail
  refine ⟨trivial, ?_⟩
  refine (callsIn_wide.2 (HA.out _)).mono ?_
  rintro e w1 ⟨rfl, hB1⟩
  have hzw : w.heap.size + 1 ≤ w1.heap.size := by have := hB1.size; simp at this; omega
  have hP1 : ParBox w1 w.heap.size l wd jb ov sy ck := (ParBox.new w l wd jb ov sy ck 49).keep hB1 (by simp)
  have hlw : w.heap.size < w1.heap.size := by omega
  have hBw : Below w.heap.size w w1 := below_then (below_fresh (w := w) (.cells #[.int .i64 l, .int .i64 wd, .int .i64 jb, .int .i64 ov, .bool sy, .bool ck] 49)) hB1
  obtain ⟨q0, q1, q2, q3, q4, q5⟩ := hP1
  clear hB1
  gi_wp2_with fail
  refine ⟨trivial, ?_⟩
  refine (ends_in (m - 1) l wd jb ov sy ck s _).mono ?_
  rintro e w' ⟨rfl, rfl⟩
  gi_wp2_with fail
  obtain ⟨W0, hW0⟩ : ∃ W0, W0 = ((w1.alloc (.cells #[.int .i64 0] 3)).alloc (.cells #[.int .i64 l, .int .i64 wd, .int .i64 jb, .int .i64 ov, .bool sy, .bool ck] 49)).alloc (.cells #[.string s] 9) := ⟨_, rfl⟩
  have c0 : Boxed W0 w1.heap.size 3 (.int .i64 0) := by rw [hW0]; exact ((boxed_at2 rfl _ _).alloc _).alloc _
  have c1 : W0.heap[w1.heap.size + 1]? = some (.cells #[.int .i64 l, .int .i64 wd, .int .i64 jb, .int .i64 ov, .bool sy, .bool ck] 49 (0, 0)) := by
    rw [hW0]
    have h := World.alloc_heap_new (w1.alloc (.cells #[.int .i64 0] 3)) (.cells #[.int .i64 l, .int .i64 wd, .int .i64 jb, .int .i64 ov, .bool sy, .bool ck] 49)
    rw [World.size_alloc] at h
    exact blk_kept h (World.grownBy_alloc _ _ none) (by simp)
  have c2 : Boxed W0 (w1.heap.size + 1 + 1) 9 (.string s) := by rw [hW0]; exact boxed_at2 (by simp) _ _
  have cp : ParBox W0 (w1.heap.size + 1) l wd jb ov sy ck := by
    refine ⟨?_, ?_, ?_, ?_, ?_, ?_⟩ <;> simp [World.cell?, c1]
  have hsz : W0.heap.size = w1.heap.size + 3 := by rw [hW0]; simp
  have hB0 : Below w.heap.size w W0 := by rw [hW0]; exact below_alloc (below_alloc (below_alloc hBw _) _) _
  rw [← hW0]
  clear hW0 hBw q0 q1 q2 q3 q4 q5
  refine wpIn_rangeFunc_ownG rfl h1 (gf := 71) (lb := #[.pointer (some ⟨w1.heap.size + 1 + 1, 0, none⟩), .pointer (some ⟨w1.heap.size + 1, 0, none⟩)]) rfl trivial (enters_of Try.func71 (by kernel_rfl) rfl)
    (ends_stops (m - 1) (by omega) (w1.heap.size + 1 + 1) (w1.heap.size + 1) l wd jb ov sy ck s W0 hj hs (by omega) (by omega) c2.cell cp) KeepsTwo.trans (KeepsTwo.put (by omega) (by omega)) (Below.refl _ _) (fun _ => rfl)
    (fun pre W => Boxed W w1.heap.size 3 (.int .i64 (pre.length : Int)) ∧ W.heap[w1.heap.size + 1]? = some (.cells #[.int .i64 l, .int .i64 wd, .int .i64 jb, .int .i64 ov, .bool sy, .bool ck] 49 (0, 0)) ∧ Boxed W (w1.heap.size + 1 + 1) 9 (.string s) ∧ Below w.heap.size w W)
    (fun _ _ _ => False)
    (OwnFrom.and (Own.from (boxedF_own w1.heap.size 3 (fun pre : List Nat => .int .i64 (pre.length : Int))) _) (OwnFrom.and (Own.from (blk_own _ _ rfl) _) (OwnFrom.and (Own.from (boxed_own _ _ _) _) (ownFrom_below (by omega) (by omega)))))
    (fun _ _ _ _ _ hs _ _ => hs)
    ⟨c0, c1, c2, hB0⟩
    (fun x => { tmps := #[.agg #[.int .i64 l, .int .i64 wd, .int .i64 jb, .int .i64 ov, .bool sy, .bool ck], .string s, .pointer (some ⟨w.heap.size, 0, none⟩), undef, .int .i64 0, .int .i64 0, .int .i64 0, .pointer (some ⟨w1.heap.size, 0, none⟩), .agg #[.int .i64 l, .int .i64 wd, .int .i64 jb, .int .i64 ov, .bool sy, .bool ck], .string s, .int .i64 0, .int .i64 0, .bool false, undef, .agg #[.int .i64 l, .int .i64 wd, .int .i64 jb, .int .i64 ov, .bool sy, .bool ck], .string s,
      .func (.func 71) #[] #[.pointer (some ⟨w1.heap.size + 1 + 1, 0, none⟩), .pointer (some ⟨w1.heap.size + 1, 0, none⟩)], .int .i64 (x : Int), .int .i64 (posE jb sy s x : Int), undef, undef, undef], defers := [] }) ?assign ?body ?done ?stop
  case assign =>
    intro lq x W K hK
    gi_wp2
    simpa using hK
  case body =>
    rintro lq pre x W ⟨hv, hp, hbs, hB⟩ hlt
    have hc := hv.cell
    have hf := hv.frozen
    have HPL : Hid (((pre ++ [x]).length : Int) = (pre.length : Int) + 1) := by simp [Hid]
    have hpl : pre.length ≤ 1048576 := by omega
    have hx2 := hbs.kept (grownBy_setCell' W w1.heap.size (.int .i64 ((pre.length : Int) + 1))) (by simp; omega)
    have hp2 := blk_kept hp (grownBy_setCell' W w1.heap.size (.int .i64 ((pre.length : Int) + 1))) (by simp)
    have hv2 := hv.set (.int .i64 ((pre.length : Int) + 1))
    gi_wp2_with fail
    refine ⟨(KeepsOthers.setCell _ _ _).from _, ⟨hx2.trans hbs.symm, hp2.trans hp.symm⟩, by rw [HPL.out]; exact hv2, hp2, hx2, hB.setCell (p := ⟨w1.heap.size, 0, none⟩) (by simp only; omega) _⟩
  case done =>
    rintro D ys W hD rfl ⟨hv, hp, hbs, hB⟩ hK
    rw [List.length_range] at hv
    have hc := hv.cell
    gi_wp2
    refine ⟨by simp, .inl ⟨_, _, rfl, run_takeDeferred hK, ?_⟩⟩
    exact ⟨_, results_tmp2 rfl _ _ _, rfl, hB.trans (belowK_b (w := w) (Nat.le_refl _) W D _ _ (by omega) hK rfl rfl)⟩
  case stop =>
    rintro D c pre W _ _ h _
    exact h.elim

def countO (l wd jb ov : Int) (sy : Bool) (s : ByteArray) : Int := if askE l wd jb ov s ≠ 0 then 0 else (jobsN jb sy s : Int)
set_option maxHeartbeats 1600000 in
theorem Count35_any (l wd jb ov : Int) (sy ck : Bool) (s : ByteArray) (w : World) (hs : s.size ≤ 9223372036854775807) :
    Calls Try.prog 44 #[.agg #[.int .i64 l, .int .i64 wd, .int .i64 jb, .int .i64 ov, .bool sy, .bool ck], .string s] w fun e w' => e = .returned (.tuple #[.int .i64 (countO l wd jb ov sy s), .int .i64 (askE l wd jb ov s)]) ∧ Below w.heap.size w w' := by
  by_cases h : askE l wd jb ov s = 0
  · obtain ⟨hpb, hz⟩ := ask_zero h
    rw [show countO l wd jb ov sy s = (jobsN jb sy s : Int) from if_neg (by omega), h]
    exact callsIn_wide.1 (Count_in 6 (Nat.le_refl _) l wd jb ov sy ck s hpb hz w)
  · rw [show countO l wd jb ov sy s = 0 from if_pos h]
    have HA := Lib.hid (fun W => checked_any l wd jb ov sy ck s W hs)
    generalize askE l wd jb ov s = a at *
    have g1 : (a != 0) = true := by simpa using h
    have g2 : (a == 0) = false := by simpa using h
    clear h
    go_enter Try.func44, Try.ntmps44
    go_wp2_with fail
    refine (HA.out _).mono ?_
    rintro e w1 ⟨rfl, hB1⟩
    go_wp2
    go_ret2
    exact ⟨rfl, below_then (below_fresh _) hB1⟩

set_option maxHeartbeats 1600000 in
theorem rCount35_any (l wd jb ov : Int) (sy ck : Bool) (s : ByteArray) (w : World) (hs : s.size ≤ 9223372036854775807) :
    Calls Try.prog 45 #[.agg #[.int .i64 l, .int .i64 wd, .int .i64 jb, .int .i64 ov, .bool sy, .bool ck], .string s] w fun e w' => e = .returned (.tuple #[.int .i64 (countO l wd jb ov sy s), .int .i64 (askE l wd jb ov s)]) ∧ Below w.heap.size w w' := by
  have HA := Lib.hid (fun W => asked35_any l wd jb ov sy ck s W hs)
  by_cases h : askE l wd jb ov s = 0
  · obtain ⟨hpb, hz⟩ := ask_zero h
    rw [show countO l wd jb ov sy s = ((endsL jb sy s 0).length : Int) from if_neg (by omega), h]
    rw [h] at HA
    have HE := Lib.hid (fun W => rends_any l wd jb ov sy ck s W hpb hz)
    clear h hpb
    generalize endsL jb sy s 0 = xs at *
    unfold SlOut at HE
    go_enter Try.func45, Try.ntmps45
    go_wp2_with fail
    refine (HA.out _).mono ?_
    rintro e w1 ⟨rfl, hB1⟩
    obtain ⟨q0, q1, q2, q3, q4, q5⟩ := (ParBox.new w l wd jb ov sy ck 49).keep hB1 (by simp)
    go_wp2_with fail
    refine (HE.out _).mono ?_
    rintro e w2 ⟨A, c, rfl, hS, hB2⟩
    go_wp2
    go_ret2
    exact ⟨rfl, below_then (below_then (below_fresh _) hB1) hB2⟩
  · rw [show countO l wd jb ov sy s = 0 from if_pos h]
    generalize askE l wd jb ov s = a at *
    have g1 : (a != 0) = true := by simpa using h
    have g2 : (a == 0) = false := by simpa using h
    clear h
    go_enter Try.func45, Try.ntmps45
    go_wp2_with fail
    refine (HA.out _).mono ?_
    rintro e w1 ⟨rfl, hB1⟩
    go_wp2
    go_ret2
    exact ⟨rfl, below_then (below_fresh _) hB1⟩

set_option maxHeartbeats 1600000 in
theorem rEnds35_any (l wd jb ov : Int) (sy ck : Bool) (s : ByteArray) (w : World) (hs : s.size ≤ 9223372036854775807) :
    Calls Try.prog 43 #[.agg #[.int .i64 l, .int .i64 wd, .int .i64 jb, .int .i64 ov, .bool sy, .bool ck], .string s] w (EndsOut (endsO l wd jb ov sy s) (endsOE l wd jb ov sy s) w) := by
  have HA := Lib.hid (fun W => asked35_any l wd jb ov sy ck s W hs)
  by_cases h : askE l wd jb ov s = 0
  · obtain ⟨hpb, hz⟩ := ask_zero h
    rw [h] at HA
    have HE := Lib.hid (fun W => rends_any l wd jb ov sy ck s W hpb hz)
    by_cases h2 : jobsN jb sy s ≤ 4096
    · obtain ⟨e1, e2⟩ := endsO_ok (sy := sy) h h2
      rw [e1, e2]
      have g : ¬ (4096 : Int) < ((endsL jb sy s 0).length : Int) := by have : (endsL jb sy s 0).length = jobsN jb sy s := rfl; omega
      have g' : ¬ 4096 < (endsL jb sy s 0).length := by omega
      clear h hpb e1 e2 h2
      generalize endsL jb sy s 0 = xs at *
      unfold SlOut at HE
      go_enter Try.func43, Try.ntmps43
      go_wp2_with fail
      refine (HA.out _).mono ?_
      rintro e w1 ⟨rfl, hB1⟩
      obtain ⟨q0, q1, q2, q3, q4, q5⟩ := (ParBox.new w l wd jb ov sy ck 49).keep hB1 (by simp)
      go_wp2_with fail
      refine (HE.out _).mono ?_
      rintro e w2 ⟨A, c, rfl, hS, hB2⟩
      have HSS := Lib.hid hS
      clear hS
      go_wp2
      go_ret2
      exact ⟨A, c, rfl, HSS.out, below_then (below_then (below_fresh _) hB1) hB2⟩
    · obtain ⟨e1, e2⟩ := endsO_full (sy := sy) h (by omega)
      rw [e1, e2]
      have g : (4096 : Int) < ((endsL jb sy s 0).length : Int) := by have : (endsL jb sy s 0).length = jobsN jb sy s := rfl; omega
      have g' : 4096 < (endsL jb sy s 0).length := by omega
      clear h hpb e1 e2 h2
      generalize endsL jb sy s 0 = xs at *
      unfold SlOut at HE
      go_enter Try.func43, Try.ntmps43
      go_wp2_with fail
      refine (HA.out _).mono ?_
      rintro e w1 ⟨rfl, hB1⟩
      obtain ⟨q0, q1, q2, q3, q4, q5⟩ := (ParBox.new w l wd jb ov sy ck 49).keep hB1 (by simp)
      go_wp2_with fail
      refine (HE.out _).mono ?_
      rintro e w2 ⟨A, c, rfl, hS, hB2⟩
      clear hS
      go_wp2
      go_ret2
      exact ⟨none, 0, rfl, .inl rfl, below_then (below_then (below_fresh _) hB1) hB2⟩
  · obtain ⟨e1, e2⟩ := endsO_bad (sy := sy) h
    rw [e1, e2]
    clear e1 e2
    generalize askE l wd jb ov s = a at *
    have g1 : (a != 0) = true := by simpa using h
    have g2 : (a == 0) = false := by simpa using h
    clear h
    go_enter Try.func43, Try.ntmps43
    go_wp2_with fail
    refine (HA.out _).mono ?_
    rintro e w1 ⟨rfl, hB1⟩
    go_wp2
    go_ret2
    exact ⟨none, 0, rfl, .inl rfl, below_then (below_fresh _) hB1⟩

end Go.Proofs.Ytaofphifmgadjaa
