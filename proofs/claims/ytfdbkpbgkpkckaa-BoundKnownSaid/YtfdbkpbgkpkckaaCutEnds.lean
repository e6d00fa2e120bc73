/-
  The walks of cutter.Ends and Count inside the fence.
-/
import Derived.Test.YtfdbkpbgkpkckaaCutIter
import Derived.Test.YtfdbkpbgkpkckaaSlices
namespace Go.Proofs.Ytfdbkpbgkpkckaa
open Go.RowKit Go.Shelf
set_option linter.unusedVariables false
set_option maxRecDepth 100000
attribute [local go_sem] Oper.semAt_some

theorem results_cell2 {fn : Func} {a b : Tmp} {ta tb : TypeId} (h : fn.results = #[.cell a ta, .cell b tb]) (tmps : Array Value) (P : Program) (w : World) (pa pb : Addr) (va vb : Value)
    (ha : tmps[a]?.getD undef = .pointer (some pa)) (hb : tmps[b]?.getD undef = .pointer (some pb)) (la : (loadVar ta pa).run P w = .ok va w) (lb : (loadVar tb pb).run P w = .ok vb w) :
    (results fn tmps).run P w = .ok (.tuple #[va, vb]) w := by
  simp only [results, h]
  simp [Sem.run_bind, Result.andThen, asAddr, ha, hb, la, lb]
theorem blk_own {β : Type} (b : Nat) (o : Obj) (ho : o.isCells = true) : Own (fun (_ : β) (W : World) => W.heap[b]? = some o) := by
  rintro s X Y row h hg hrow
  have hlt : b < X.heap.size := (Array.getElem?_eq_some_iff.1 h).1
  refine (hg.block b hlt fun e => ?_).trans h
  obtain ⟨o', h', hc⟩ := hrow b e.symm
  rw [h] at h'; cases h'; rw [ho] at hc; cases hc
theorem blk_kept {W W' : World} {row : Option Nat} {b : Nat} {o : Obj} (h : W.heap[b]? = some o) (hg : W.grownBy W' row) (hne : some b ≠ row) : W'.heap[b]? = some o := (hg.block b (Array.getElem?_eq_some_iff.1 h).1 hne).trans h
theorem blk_not_row {W : World} {b : Nat} {cs : Array Value} {t e : TypeId} (h : W.heap[b]? = some (.cells cs t (0, 0))) (hte : t ≠ e) {base size k : Nat} {v : Value} {xs : List Value} (hr : W.ownsRow base e size v k xs) : some b ≠ v.ownBlock := by
  rcases hr.2 with ⟨rfl, _⟩ | ⟨g, cap, cur, rfl, _, hgb, _⟩
  · simp [Value.ownBlock]
  · intro e'
    obtain rfl : b = g := by simpa [Value.ownBlock] using e'
    have := h.symm.trans hgb
    simp at this
    exact hte this.2
theorem boxed_at2 {W : World} {k : Nat} (hk : k = W.heap.size) (t : TypeId) (v : Value) : Boxed (W.alloc (.cells #[v] t)) k t v := by
  subst hk; exact Boxed.new W t v

def winsE (jb : Int) (sy : Bool) (s : ByteArray) (pre : List Nat) : List Int := pre.map (fun i => (posE jb sy s i : Int))
def noMax (pre : List Nat) : Prop := ∀ y ∈ pre, y ≠ 4096
def EndsPost (base : Nat) (jb : Int) (sy : Bool) (s : ByteArray) (e : Ending) (W' : World) : Prop :=
  (jobsN jb sy s ≤ 4096 ∧ ∃ v, e = .returned (.tuple #[v, .int .i64 0]) ∧ W'.ownsRow base 3 1 v (jobsN jb sy s) ((endsL jb sy s 0).map (Value.int .i64))) ∨ (4096 < jobsN jb sy s ∧ e = .returned (.tuple #[.slice none 0 0, .int .i64 6]))

set_option maxHeartbeats 4000000 in
theorem Ends_in (m : Nat) (hm : 6 ≤ m) (l wd jb ov : Int) (sy ck : Bool) (s : ByteArray) (hpb : ¬ parBad l wd jb ov) (hs : s.size ≤ 1048576) (w : World) :
    CallsIn Fence.wide m Try.prog 33 #[.agg #[.int .i64 l, .int .i64 wd, .int .i64 jb, .int .i64 ov, .bool sy, .bool ck], .string s] w fun e W' => (∃ base, w.heap.size ≤ base ∧ EndsPost base jb sy s e W') ∧ Below w.heap.size w W' := by
  have h1 : 1 ≤ m := by omega
  obtain ⟨i0, hi, hz0, hz1, hz2⟩ := info_parts Try.infoInt
  have hj := (par_in hpb).2.2.1
  have HA := Lib.hid (fun W => checked_any l wd jb ov sy ck s W (by omega))
  rw [ask_ok hpb (by omega)] at HA
  obtain ⟨jf1, jf2, jf3, jf4⟩ := jobs_facts jb sy s
  have HJF := Lib.hid jf1
  clear jf1 jf2 jf3 hpb
  refine callsIn_of_wp_marks Try.func33 rfl trivial ?_ rfl
  simp only [Try.ntmps33, List.size_toArray, List.length_cons, List.length_nil, Nat.reduceAdd, Nat.reduceSub, Array.replicate_succ, Array.replicate_zero, List.push_toArray, List.append_toArray, List.nil_append, List.cons_append]
  gi_wp2_with fail
  refine ⟨trivial, ?_⟩
  refine (callsIn_wide.2 (HA.out _)).mono ?_
  rintro e w1 ⟨rfl, hB1⟩
  have b4 : Boxed w1 (w.heap.size + 1) 22 (.slice none 0 0) := (hB1.block (w.heap.size + 1) (by simp)).trans (((boxed_at2 (W := w.alloc (.cells #[.int .i64 l, .int .i64 wd, .int .i64 jb, .int .i64 ov, .bool sy, .bool ck] 24)) (by simp) 22 (.slice none 0 0)).alloc (.cells #[.int .i64 0] 28)))
  have b5 : Boxed w1 (w.heap.size + 1 + 1) 28 (.int .i64 0) := (hB1.block (w.heap.size + 1 + 1) (by simp)).trans (boxed_at2 (W := (w.alloc (.cells #[.int .i64 l, .int .i64 wd, .int .i64 jb, .int .i64 ov, .bool sy, .bool ck] 24)).alloc (.cells #[.slice none 0 0] 22)) (by simp) 28 (.int .i64 0))
  have hzw : w.heap.size + 3 ≤ w1.heap.size := by have := hB1.size; simp at this; omega
  have hP1 : ParBox w1 w.heap.size l wd jb ov sy ck := ((ParBox.new w l wd jb ov sy ck 24).keep (((Below.refl _ _).alloc (Nat.le_refl _) (.cells #[.slice none 0 0] 22)).alloc (by simp) (.cells #[.int .i64 0] 28)) (by simp)).keep hB1 (by simp; omega)
  have hlw : w.heap.size < w1.heap.size := by omega
  have hBw : Below w.heap.size w w1 := below_then (below_alloc (below_alloc (below_fresh (w := w) (.cells #[.int .i64 l, .int .i64 wd, .int .i64 jb, .int .i64 ov, .bool sy, .bool ck] 24)) (.cells #[.slice none 0 0] 22)) (.cells #[.int .i64 0] 28)) hB1
  obtain ⟨q0, q1, q2, q3, q4, q5⟩ := hP1
  clear hB1
  gi_wp2_with fail
  refine ⟨trivial, ?_⟩
  refine (ends_in (m - 1) l wd jb ov sy ck s _).mono ?_
  rintro e w' ⟨rfl, rfl⟩
  gi_wp2_with fail
  obtain ⟨W0, hW0⟩ : ∃ W0, W0 = ((w1.alloc (.cells #[.slice none 0 0] 22)).alloc (.cells #[.int .i64 l, .int .i64 wd, .int .i64 jb, .int .i64 ov, .bool sy, .bool ck] 24)).alloc (.cells #[.string s] 9) := ⟨_, rfl⟩
  have c0 : Boxed W0 w1.heap.size 22 (.slice none 0 0) := by rw [hW0]; exact ((boxed_at2 rfl _ _).alloc _).alloc _
  have c1 : W0.heap[w1.heap.size + 1]? = some (.cells #[.int .i64 l, .int .i64 wd, .int .i64 jb, .int .i64 ov, .bool sy, .bool ck] 24 (0, 0)) := by
    rw [hW0]
    have h := World.alloc_heap_new (w1.alloc (.cells #[.slice none 0 0] 22)) (.cells #[.int .i64 l, .int .i64 wd, .int .i64 jb, .int .i64 ov, .bool sy, .bool ck] 24)
    rw [World.size_alloc] at h
    exact blk_kept h (World.grownBy_alloc _ _ none) (by simp)
  have c2 : Boxed W0 (w1.heap.size + 1 + 1) 9 (.string s) := by rw [hW0]; exact boxed_at2 (by simp) _ _
  have c4 : Boxed W0 (w.heap.size + 1) 22 (.slice none 0 0) := by rw [hW0]; exact ((b4.alloc _).alloc _).alloc _
  have c5 : Boxed W0 (w.heap.size + 1 + 1) 28 (.int .i64 0) := by rw [hW0]; exact ((b5.alloc _).alloc _).alloc _
  have cp : ParBox W0 (w1.heap.size + 1) l wd jb ov sy ck := by
    refine ⟨?_, ?_, ?_, ?_, ?_, ?_⟩ <;> simp [World.cell?, c1]
  have hsz : W0.heap.size = w1.heap.size + 3 := by rw [hW0]; simp
  have hB0 : Below w.heap.size w W0 := by rw [hW0]; exact below_alloc (below_alloc (below_alloc hBw _) _) _
  rw [← hW0]
  clear hW0 b4 b5 hBw q0 q1 q2 q3 q4 q5
  refine wpIn_rangeFunc_ownG rfl h1 (gf := 89) (lb := #[.pointer (some ⟨w1.heap.size + 1 + 1, 0, none⟩), .pointer (some ⟨w1.heap.size + 1, 0, none⟩)]) rfl trivial (enters_of Try.func89 (by kernel_rfl) rfl)
    (ends_stops (m - 1) (by omega) (w1.heap.size + 1 + 1) (w1.heap.size + 1) l wd jb ov sy ck s W0 hj hs (by omega) (by omega) c2.cell cp) KeepsTwo.trans (KeepsTwo.put (by omega) (by omega)) (Below.refl _ _) (fun _ => rfl)
    (fun pre W => noMax pre ∧ (∃ v, Boxed W w1.heap.size 22 v ∧ W.ownsRow w1.heap.size 3 1 v (winsE jb sy s pre).length ((winsE jb sy s pre).map (Value.int .i64)) ∧ True) ∧ W.heap[w1.heap.size + 1]? = some (.cells #[.int .i64 l, .int .i64 wd, .int .i64 jb, .int .i64 ov, .bool sy, .bool ck] 24 (0, 0)) ∧ Boxed W (w1.heap.size + 1 + 1) 9 (.string s) ∧ Boxed W (w.heap.size + 1) 22 (.slice none 0 0) ∧ Boxed W (w.heap.size + 1 + 1) 28 (.int .i64 0) ∧ Below w.heap.size w W)
    (fun c pre W => (c = .ret ∧ ∃ p', pre = p' ++ [4096]) ∧ Boxed W (w.heap.size + 1) 22 (.slice none 0 0) ∧ Boxed W (w.heap.size + 1 + 1) 28 (.int .i64 6) ∧ Below w.heap.size w W)
    (OwnFrom.and (fun _ _ _ _ hs _ _ => hs) (OwnFrom.and (Own.from (holdsRow_own w1.heap.size w1.heap.size 22 3 1 (fun pre => (winsE jb sy s pre).length) (fun pre => (winsE jb sy s pre).map (Value.int .i64)) (fun pre v => True)) _) (OwnFrom.and (Own.from (blk_own _ _ rfl) _) (OwnFrom.and (Own.from (boxed_own _ _ _) _) (OwnFrom.and (Own.from (boxed_own _ _ _) _) (OwnFrom.and (Own.from (boxed_own _ _ _) _) (ownFrom_below (by omega) (by omega))))))))
    (fun c => OwnFrom.and (fun _ _ _ _ hs _ _ => hs) (OwnFrom.and (Own.from (boxed_own _ _ _) _) (OwnFrom.and (Own.from (boxed_own _ _ _) _) (ownFrom_below (by omega) (by omega)))))
    ⟨fun _ hy => (List.not_mem_nil hy).elim, ⟨_, c0, World.ownsRow_nil _ _ _ _, trivial⟩, c1, c2, c4, c5, hB0⟩
    (fun x => { tmps := #[.agg #[.int .i64 l, .int .i64 wd, .int .i64 jb, .int .i64 ov, .bool sy, .bool ck], .string s, .pointer (some ⟨w.heap.size, 0, none⟩), undef, .pointer (some ⟨w.heap.size + 1, 0, none⟩), .pointer (some ⟨w.heap.size + 1 + 1, 0, none⟩), .int .i64 0, .pointer (some ⟨w1.heap.size, 0, none⟩), .int .i64 (x : Int), .int .i64 (posE jb sy s x : Int), .agg #[.int .i64 l, .int .i64 wd, .int .i64 jb, .int .i64 ov, .bool sy, .bool ck], .string s, .int .i64 0, .int .i64 0, .bool false, undef, .agg #[.int .i64 l, .int .i64 wd, .int .i64 jb, .int .i64 ov, .bool sy, .bool ck], .string s,
      .func (.func 89) #[] #[.pointer (some ⟨w1.heap.size + 1 + 1, 0, none⟩), .pointer (some ⟨w1.heap.size + 1, 0, none⟩)], .int .i64 (x : Int), .int .i64 (posE jb sy s x : Int), undef, undef, undef, undef, undef, undef, undef], defers := [] }) ?assign ?body ?done ?stop
  case assign =>
    intro lq x W K hK
    gi_wp2
    exact hK
  case body =>
    rintro lq pre x W ⟨hno, ⟨v, hv, hrow, _⟩, hp, hbs, d4, d5, hB⟩ hlt
    have HNO := Lib.hid hno
    clear hno
    by_cases hx : x = 4096
    · have e4 := d4.frozen
      have e5 := d5.frozen
      have k4 := d4.cell
      have k5 := d5.cell
      have gx : ((x : Int) == 4096) = true := by simp; omega
      have HX := Lib.hid hx
      clear hx
      gi_wp2_with fail
      refine ⟨((KeepsOthers.setCell _ _ _).trans (KeepsOthers.setCell _ _ _)).from _, ⟨rfl, pre, by rw [HX.out]⟩, ?_, ?_, ?_⟩
      · exact (d4.set _).other (by omega) _
      · exact (d5.other (by omega) _).set _
      · exact ((hB.setCell (p := ⟨w.heap.size + 1, 0, none⟩) (by simp only; omega) _).setCell (p := ⟨w.heap.size + 1 + 1, 0, none⟩) (by simp only; omega) _)
    · have gx : ((x : Int) == 4096) = false := by simp; omega
      have hc := hv.cell
      have hpl : (winsE jb sy s pre).length = pre.length := by simp [winsE]
      have hle : (winsE jb sy s pre).length ≤ 1048576 := by omega
      have HS : Hid (winsE jb sy s (pre ++ [x]) = winsE jb sy s pre ++ [(posE jb sy s x : Int)]) := by simp [winsE, Hid]
      have HX := Lib.hid hx
      have hBz := hB.size
      clear hpl hx
      gi_wp2_with (gi_at_builtin; refine wpListIn_append_own _ rfl _ _ 22 rfl w1.heap.size 3 i0 (.int .i64 0) 1 8 Try.underlying22 hi hz0 hz1 hz2 rfl (by decide) _ _ _ rfl (hrow.alloc _) ⟨W.heap.size, 0, none⟩ 1 1 [.int .i64 (posE jb sy s x : Int)] rfl rfl (cell_one_new _ _ _) (by simp [Value.oneCell']) (by simp only [maxLen]; omega) (by omega) (by have := hbs.lt; simp; omega) ?_; intro v' w5 hown' hgrow _; obtain ⟨g', cap', rfl⟩ := ownsRow_succ hown'; obtain ⟨hv1, hv2, hr2, hk2, hb2⟩ := hv.appended (by decide) hrow (by have := hbs.lt; omega) (Nat.le_refl _) hown' hgrow; have hc1 := hv1.cell; have hf1 := hv1.frozen; have hx2 := ((hbs.alloc _).kept hgrow (hbs.not_row (by decide) hrow)).kept (grownBy_setCell' w5 w1.heap.size (.slice (some ⟨g', 0, none⟩) ((winsE jb sy s pre).length + 1) cap')) (by simp; omega); have h42 := ((d4.alloc _).kept hgrow (d4.not_row (by decide) hrow)).kept (grownBy_setCell' w5 w1.heap.size (.slice (some ⟨g', 0, none⟩) ((winsE jb sy s pre).length + 1) cap')) (by simp; omega); have h52 := ((d5.alloc _).kept hgrow (d5.not_row (by decide) hrow)).kept (grownBy_setCell' w5 w1.heap.size (.slice (some ⟨g', 0, none⟩) ((winsE jb sy s pre).length + 1) cap')) (by simp; omega); have hp2 := blk_kept (blk_kept (blk_kept hp (World.grownBy_alloc W _ none) (by simp)) hgrow (blk_not_row hp (by decide) hrow)) (grownBy_setCell' w5 w1.heap.size (.slice (some ⟨g', 0, none⟩) ((winsE jb sy s pre).length + 1) cap')) (by simp))
      refine ⟨hk2.from _, ⟨hx2.trans hbs.symm, hp2.trans hp.symm⟩, fun y hy => ?_, ⟨_, hv2, by rw [HS.out]; simpa using hr2, trivial⟩, hp2, hx2, h42, h52, hB.trans (hb2.mono (by omega))⟩
      rcases List.mem_append.1 hy with h | h
      · exact HNO.out y h
      · rw [List.mem_singleton.1 h]; exact HX.out
  case done =>
    rintro D ys W hD rfl ⟨hno, ⟨v, hv, hrow, _⟩, hp, hbs, d4, d5, hB⟩ hK
    have hlen : (winsE jb sy s (List.range (jobsN jb sy s))).length = jobsN jb sy s := by simp [winsE]
    have hL : jobsN jb sy s ≤ 4096 := by
      rcases Nat.lt_or_ge 4096 (jobsN jb sy s) with h | h
      · exact absurd rfl (hno 4096 (List.mem_range.2 h))
      · exact h
    have HW : Hid (winsE jb sy s (List.range (jobsN jb sy s)) = endsL jb sy s 0) := (ends_range jb sy s).symm
    rw [hlen, HW.out] at hrow
    have hex : ∃ gg cc, v = .slice gg (jobsN jb sy s) cc := by
      rcases hrow.2 with ⟨rfl, h0⟩ | ⟨g, cap, cur, rfl, _⟩
      · have := HJF.out; omega
      · exact ⟨_, _, rfl⟩
    obtain ⟨gg, cc, rfl⟩ := hex
    have hc := hv.cell
    have e4 := d4.frozen
    have e5 := d5.frozen
    have k4 := d4.cell
    have k5 := d5.cell
    have HRW := Lib.hid hrow
    have HLL := Lib.hid hL
    clear hno hlen hL hrow
    gi_wp2
    have f4 := (d4.set (.slice gg (jobsN jb sy s) cc)).other (B' := w.heap.size + 1 + 1) (by omega) (.int .i64 0)
    have f5 := (d5.other (B' := w.heap.size + 1) (by omega) (.slice gg (jobsN jb sy s) cc)).set (.int .i64 0)
    have hB' := (hB.setCell (p := ⟨w.heap.size + 1, 0, none⟩) (by simp only; omega) (.slice gg (jobsN jb sy s) cc)).setCell (p := ⟨w.heap.size + 1 + 1, 0, none⟩) (by simp only; omega) (.int .i64 0)
    have hK' := ((KeepsOthers.setCell W ⟨w.heap.size + 1, 0, none⟩ (.slice gg (jobsN jb sy s) cc)).trans (KeepsOthers.setCell _ ⟨w.heap.size + 1 + 1, 0, none⟩ (.int .i64 0))).same D _ hK rfl
    have hr5 := ((HRW.out.kept (grownBy_setCell' W (w.heap.size + 1) (.slice gg (jobsN jb sy s) cc)) (.inr (d4.not_row (by decide) HRW.out).symm)).kept (grownBy_setCell' _ (w.heap.size + 1 + 1) (.int .i64 0)) (.inr (d5.not_row (by decide) HRW.out).symm))
    generalize (W.setCell ⟨w.heap.size + 1, 0, none⟩ (.slice gg (jobsN jb sy s) cc)).setCell ⟨w.heap.size + 1 + 1, 0, none⟩ (.int .i64 0) = V at *
    refine ⟨by simp, .inl ⟨_, _, rfl, run_takeDeferred hK', ?_⟩⟩
    have g4 := (f4.kept (grownBy_putObj' V D (.deferred none)) (by simp; omega)).cell
    have g5 := (f5.kept (grownBy_putObj' V D (.deferred none)) (by simp; omega)).cell
    refine ⟨_, results_cell2 rfl _ _ _ ⟨w.heap.size + 1, 0, none⟩ ⟨w.heap.size + 1 + 1, 0, none⟩ _ _ rfl rfl (by simp [loadVar, g4, go_sem]) (by simp [loadVar, g5, go_sem]), ⟨w1.heap.size, by omega, .inl ⟨HLL.out, _, rfl, ownsRow_putObj hr5 _ hK' rfl⟩⟩, hB'.trans (belowK_b (w := w) (Nat.le_refl _) V D _ _ (by omega) hK' rfl rfl)⟩
  case stop =>
    rintro D c pre W hD ⟨k, hk, rfl⟩ ⟨⟨rfl, p', hp'⟩, d4, d5, hB⟩ hK
    have hk5 : 4096 < jobsN jb sy s := by
      have hmem : 4096 ∈ List.range k := by rw [hp']; simp
      have := List.mem_range.1 hmem
      omega
    have HK5 := Lib.hid hk5
    clear hk5 hp'
    gi_wp2
    refine ⟨by simp, .inl ⟨_, _, rfl, run_takeDeferred hK, ?_⟩⟩
    have g4 := (d4.kept (grownBy_putObj' W D (.deferred none)) (by simp; omega)).cell
    have g5 := (d5.kept (grownBy_putObj' W D (.deferred none)) (by simp; omega)).cell
    refine ⟨_, results_cell2 rfl _ _ _ ⟨w.heap.size + 1, 0, none⟩ ⟨w.heap.size + 1 + 1, 0, none⟩ _ _ rfl rfl (by simp [loadVar, g4, go_sem]) (by simp [loadVar, g5, go_sem]), ⟨w1.heap.size, by omega, .inr ⟨HK5.out, rfl⟩⟩, hB.trans (belowK_b (w := w) (Nat.le_refl _) W D _ _ (by omega) hK rfl rfl)⟩

end Go.Proofs.Ytfdbkpbgkpkckaa
