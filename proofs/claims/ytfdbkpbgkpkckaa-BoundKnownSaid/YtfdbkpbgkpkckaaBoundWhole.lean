/-
  The walk of bound.whole: how many jobs and blocks an input has.
-/
import Derived.Test.YtfdbkpbgkpkckaaBoundSizes
import Derived.Test.YtfdbkpbgkpkckaaCutEnds
import Derived.Test.YtfdbkpbgkpkckaaBoundBlocks
import Derived.Test.YtfdbkpbgkpkckaaBoundOut
import Derived.Test.YtfdbkpbgkpkckaaBlk
import Derived.Shelf.RegionOpen
namespace Go.Proofs.Ytfdbkpbgkpkckaa
open Go.RowKit Go.Shelf
set_option linter.unusedVariables false
set_option maxRecDepth 100000
attribute [local go_sem] Oper.semAt_some

/-- The lengths of some jobs. -/
def lensE (jb : Int) (sy : Bool) (s : ByteArray) (pre : List Nat) : List Int := pre.map (lenE jb sy s)
theorem lenE_bd (jb : Int) (sy : Bool) (s : ByteArray) (x : Nat) : 0 ≤ lenE jb sy s x ∧ lenE jb sy s x ≤ s.size := by
  have h1 := atK_le jb sy s x
  have h2 := nextE_le jb sy s (atK jb sy s x) h1
  rw [atK_next] at h2
  unfold lenE
  rcases Nat.lt_or_ge (atK jb sy s x) s.size with h | h
  · have := h2.2 h; omega
  · have e : atK jb sy s x = s.size := by omega
    have h3 := cutN_le jb sy s (atK jb sy s x)
    have h4 := atK_next jb sy s x
    unfold nextE at h4
    split at h4 <;> omega
theorem lens_ok (jb : Int) (sy : Bool) (s : ByteArray) (hs : s.size ≤ 1048576) (pre : List Nat) : (lensE jb sy s pre).all lenOk = true := by
  rw [List.all_eq_true]
  intro x hx
  obtain ⟨k, _, rfl⟩ := List.mem_map.1 hx
  have := lenE_bd jb sy s k
  exact lenOk_iff.2 (by omega)

theorem boxedF_own {β : Type} (b : Nat) (t : TypeId) (f : β → Value) : Own (fun (s : β) (W : World) => Boxed W b t (f s)) := fun s X Y row h hg hrow => blk_own (β := Unit) b _ rfl () X Y row h hg hrow
theorem box_keep {W W' : World} {b : Nat} {t : TypeId} {v : Value} (h : Boxed W b t v) (hB : Below W.heap.size W W') : Boxed W' b t v :=
  (hB.block b (Array.getElem?_eq_some_iff.1 h).1).trans h
theorem others_below {W W' : World} (h : Below W.heap.size W W') : KeepsOthers W W' := KeepsOthers.of_grownBy (grown_below h) (fun j o e => by cases e)
theorem results_cct {fn : Func} {a b c : Tmp} {ta tb : TypeId} (h : fn.results = #[.cell a ta, .cell b tb, .tmp c]) (tmps : Array Value) (P : Program) (w : World) (pa pb : Addr) (va vb vc : Value)
    (ha : tmps[a]?.getD undef = .pointer (some pa)) (hb : tmps[b]?.getD undef = .pointer (some pb)) (hc : tmps[c]?.getD undef = vc) (la : (loadVar ta pa).run P w = .ok va w) (lb : (loadVar tb pb).run P w = .ok vb w) :
    (results fn tmps).run P w = .ok (.tuple #[va, vb, vc]) w := by
  simp only [results, h]
  simp [Sem.run_bind, Result.andThen, asAddr, ha, hb, hc, la, lb]

set_option maxHeartbeats 4000000 in
theorem whole_in (m : Nat) (hm : 6 ≤ m) (l wd jb ov : Int) (sy ck : Bool) (s : ByteArray) (hpb : ¬ parBad l wd jb ov) (hs : s.size ≤ 1048576) (w : World) :
    CallsIn Fence.wide m Try.prog 59 #[.agg #[.int .i64 l, .int .i64 wd, .int .i64 jb, .int .i64 ov, .bool sy, .bool ck], .string s] w fun e W' => e = .returned (.tuple #[.int .i64 (jobsN jb sy s : Int), .int .i64 (blkSum (blkV wd) (lensE jb sy s (List.range (jobsN jb sy s)))), .int .i64 0]) ∧ Below w.heap.size w W' := by
  have h1 : 1 ≤ m := by omega
  have hask : askE l wd jb ov s = 0 := ask_ok hpb (by omega)
  have hsg : ¬ (1048576 : Int) < (s.size : Int) := by omega
  have HO := Lib.hid (fun W => opened_ok l wd jb ov sy ck W hpb)
  unfold parV at HO
  have hZ := blkV_lo wd (par_in hpb).2.1
  generalize blkV wd = Z at *
  obtain ⟨jf1, jf2, jf3, jf4⟩ := jobs_facts jb sy s
  clear jf1 jf2 jf3 hpb
  refine callsIn_of_wp_marks Try.func59 rfl trivial ?_ rfl
  simp only [Try.ntmps59, List.size_toArray, List.length_cons, List.length_nil, Nat.reduceAdd, Nat.reduceSub, Array.replicate_succ, Array.replicate_zero, List.push_toArray, List.append_toArray, List.nil_append, List.cons_append]
  have hb0 := (((Blk.new w #[.int .i64 l, .int .i64 wd, .int .i64 jb, .int .i64 ov, .bool sy, .bool ck] 24).alloc (.cells #[.int .i64 0] 3)).alloc (.cells #[.int .i64 0] 3))
  have hb1 := (Blk.new (w.alloc (.cells #[.int .i64 l, .int .i64 wd, .int .i64 jb, .int .i64 ov, .bool sy, .bool ck] 24)) #[.int .i64 0] 3).alloc (.cells #[.int .i64 0] 3)
  have hb2 := Blk.new ((w.alloc (.cells #[.int .i64 l, .int .i64 wd, .int .i64 jb, .int .i64 ov, .bool sy, .bool ck] 24)).alloc (.cells #[.int .i64 0] 3)) #[.int .i64 0] 3
  have hBa := below_alloc (below_alloc (below_new (w := w) (.cells #[.int .i64 l, .int .i64 wd, .int .i64 jb, .int .i64 ov, .bool sy, .bool ck] 24)) (.cells #[.int .i64 0] 3)) (.cells #[.int .i64 0] 3)
  simp only [World.size_alloc] at hb1 hb2
  gi_wp2_with fail
  refine ⟨trivial, ?_⟩
  refine (callsIn_wide.2 (HO.out _)).mono ?_
  rintro e w1 ⟨rfl, hB1⟩
  have hc0 := hb0.keep' hB1
  have hc1 := hb1.keep' hB1
  have hc2 := hb2.keep' hB1
  have hBw := below_then hBa hB1
  have hzw := hc2.lt
  clear hb0 hb1 hb2 hBa hB1
  have hlw := hc0.lt
  have q0 := hc0.cell 0 rfl
  have q1 := hc0.cell 1 rfl
  have q2 := hc0.cell 2 rfl
  have q3 := hc0.cell 3 rfl
  have q4 := hc0.cell 4 rfl
  have q5 := hc0.cell 5 rfl
  gi_wp2_with fail
  refine ⟨trivial, ?_⟩
  refine (sizes_in (m - 1) l wd jb ov sy ck s _).mono ?_
  rintro e w' ⟨rfl, rfl⟩
  clear q0 q1 q2 q3 q4 q5
  gi_wp2_with fail
  obtain ⟨W0, hW0⟩ : ∃ W0, W0 = ((w1.alloc (.cells #[.int .i64 Z] 73)).alloc (.cells #[.int .i64 l, .int .i64 wd, .int .i64 jb, .int .i64 ov, .bool sy, .bool ck] 24)).alloc (.cells #[.string s] 9) := ⟨_, rfl⟩
  have hlw1 := hc1.lt
  have hBB : Below w1.heap.size w1 W0 := by rw [hW0]; exact below_alloc (below_alloc (below_new _) _) _
  have c0 : Boxed W0 (w.heap.size + 1) 3 (.int .i64 0) := hc1.keep' hBB
  have c1 : Boxed W0 (w.heap.size + 1 + 1) 3 (.int .i64 0) := hc2.keep' hBB
  have c2 : Boxed W0 w1.heap.size 73 (.int .i64 Z) := by rw [hW0]; exact ((boxed_at2 rfl _ _).alloc _).alloc _
  have c3 : W0.heap[w1.heap.size + 1]? = some (.cells #[.int .i64 l, .int .i64 wd, .int .i64 jb, .int .i64 ov, .bool sy, .bool ck] 24 (0, 0)) := by
    rw [hW0]
    have h := World.alloc_heap_new (w1.alloc (.cells #[.int .i64 Z] 73)) (.cells #[.int .i64 l, .int .i64 wd, .int .i64 jb, .int .i64 ov, .bool sy, .bool ck] 24)
    rw [World.size_alloc] at h
    exact blk_kept h (World.grownBy_alloc _ _ none) (by simp)
  have c4 : Boxed W0 (w1.heap.size + 1 + 1) 9 (.string s) := by rw [hW0]; exact boxed_at2 (by simp) _ _
  have cp : ParBox W0 (w1.heap.size + 1) l wd jb ov sy ck := by
    refine ⟨?_, ?_, ?_, ?_, ?_, ?_⟩ <;> simp [World.cell?, c3]
  have hsz : W0.heap.size = w1.heap.size + 3 := by rw [hW0]; simp
  have hB0 : Below w.heap.size w W0 := below_then hBw hBB
  rw [← hW0]
  clear hW0 hBw hBB hc0 hc1 hc2
  have hv1 : Hid (blkSum Z (lensE jb sy s []) = 0) := rfl
  refine wpIn_rangeFunc_ownG rfl h1 (gf := 101) (lb := #[.pointer (some ⟨w1.heap.size + 1, 0, none⟩), .pointer (some ⟨w1.heap.size + 1 + 1, 0, none⟩)]) rfl trivial (enters_of Try.func101 (by kernel_rfl) rfl)
    (sizes_stops (m - 1) (by omega) (w1.heap.size + 1 + 1) (w1.heap.size + 1) l wd jb ov sy ck s W0 hask (by omega) (by omega) c4.cell cp) KeepsTwo.trans (KeepsTwo.put (by omega) (by omega)) (Below.refl _ _) (fun _ => rfl)
    (fun pre W => Boxed W (w.heap.size + 1) 3 (.int .i64 (pre.length : Int)) ∧ Boxed W (w.heap.size + 1 + 1) 3 (.int .i64 (blkSum Z (lensE jb sy s pre))) ∧ Boxed W w1.heap.size 73 (.int .i64 Z) ∧ W.heap[w1.heap.size + 1]? = some (.cells #[.int .i64 l, .int .i64 wd, .int .i64 jb, .int .i64 ov, .bool sy, .bool ck] 24 (0, 0)) ∧ Boxed W (w1.heap.size + 1 + 1) 9 (.string s) ∧ Below w.heap.size w W)
    (fun _ _ _ => False)
    (OwnFrom.and (Own.from (boxedF_own (w.heap.size + 1) 3 (fun pre : List Nat => .int .i64 (pre.length : Int))) _) (OwnFrom.and (Own.from (boxedF_own (w.heap.size + 1 + 1) 3 (fun pre : List Nat => .int .i64 (blkSum Z (lensE jb sy s pre)))) _) (OwnFrom.and (Own.from (boxed_own _ _ _) _) (OwnFrom.and (Own.from (blk_own _ _ rfl) _) (OwnFrom.and (Own.from (boxed_own _ _ _) _) (ownFrom_below (by omega) (by omega)))))))
    (fun _ _ _ _ _ hs _ _ => hs)
    ⟨c0, by rw [hv1.out]; exact c1, c2, c3, c4, hB0⟩
    (fun x => { tmps := #[.agg #[.int .i64 l, .int .i64 wd, .int .i64 jb, .int .i64 ov, .bool sy, .bool ck], .string s, .pointer (some ⟨w.heap.size, 0, none⟩), undef, .pointer (some ⟨w.heap.size + 1, 0, none⟩), .pointer (some ⟨w.heap.size + 1 + 1, 0, none⟩), .int .i64 0, .pointer (some ⟨w1.heap.size, 0, none⟩), .int .i64 (lenE jb sy s x), .tuple #[.agg #[.int .i64 Z], .int .i64 0], .agg #[.int .i64 l, .int .i64 wd, .int .i64 jb, .int .i64 ov, .bool sy, .bool ck], .tuple #[.agg #[.int .i64 Z], .int .i64 0],
      .agg #[.int .i64 Z], .int .i64 0, .int .i64 0, .bool false, undef, .string s, .int .i64 (s.size : Int), .bool (decide ((1048576 : Int) < (s.size : Int))), .agg #[.int .i64 l, .int .i64 wd, .int .i64 jb, .int .i64 ov, .bool sy, .bool ck], .string s,
      .func (.func 101) #[] #[.pointer (some ⟨w1.heap.size + 1, 0, none⟩), .pointer (some ⟨w1.heap.size + 1 + 1, 0, none⟩)], .int .i64 (lenE jb sy s x), undef, undef, undef, undef, undef, undef, undef, undef, undef], defers := [] }) ?assign ?body ?done ?stop
  case assign =>
    intro lq x W K hK
    gi_wp2
    first
      | exact hK
      | simpa using hK
  case body =>
    rintro lq pre x W ⟨hv, hmn, hz, hp, hbs, hB⟩ hlt
    have hx0 := lenE_bd jb sy s x
    have HM := Lib.hid (fun W => many_any Z (lenE jb sy s x) W hZ (by omega))
    have hsum := blkSum_bd Z hZ (lensE jb sy s pre) (lens_ok jb sy s hs pre)
    rw [show (lensE jb sy s pre).length = pre.length from List.length_map _] at hsum
    have HS2 : Hid (blkSum Z (lensE jb sy s (pre ++ [x])) = blkSum Z (lensE jb sy s pre) + manyV Z (lenE jb sy s x)) := by unfold lensE; rw [List.map_append, blkSum_append, List.map_cons, List.map_nil, blkSum_one]; rfl
    have hmv := manyV_lo Z (lenE jb sy s x) hZ (by omega)
    have HPL : Hid (((pre ++ [x]).length : Int) = (pre.length : Int) + 1) := by simp [Hid]
    have hpl : pre.length ≤ 1048576 := by omega
    generalize lenE jb sy s x = n at *
    generalize blkSum Z (lensE jb sy s pre) = M at *
    generalize manyV Z n = mv at *
    obtain ⟨hm1, hm2⟩ := hmv
    obtain ⟨hs1, hs2⟩ := hsum
    have hm0 : 0 ≤ M := by omega
    have hm9 : M ≤ 1300000000000 := by omega
    have hwr : IntKind.i64.wrap (M + mv) = M + mv := by rw [IntKind.wrap_i64]; omega
    clear hs1 hs2 hx0
    have a1 := hv.cell
    have f1 := hv.frozen
    have hv2 := hv.set (.int .i64 ((pre.length : Int) + 1))
    have hg1 := grownBy_setCell' W (w.heap.size + 1) (.int .i64 ((pre.length : Int) + 1))
    have hmn2 := hmn.kept hg1 (by simp)
    have hz2 := hz.kept hg1 (by simp; omega)
    have hp2 := blk_kept hp hg1 (by simp; omega)
    have hbs2 := hbs.kept hg1 (by simp; omega)
    have hB2 := hB.setCell (p := ⟨w.heap.size + 1, 0, none⟩) (by simp only; omega) (.int .i64 ((pre.length : Int) + 1))
    have hko := KeepsOthers.setCell W ⟨w.heap.size + 1, 0, none⟩ (.int .i64 ((pre.length : Int) + 1))
    have HE1 := Lib.hid (hbs2.trans hbs.symm)
    have HE2 := Lib.hid (hp2.trans hp.symm)
    have hd : 1 ≤ m - 1 - 1 := by omega
    have hmx : Try.prog.follows .mixedOrders = true := by kernel_rfl
    have a2 := hmn2.cell
    have f2 := hmn2.frozen
    have a3 := hz2.cell
    have hrr := Below.refl (W.setCell ⟨w.heap.size + 1, 0, none⟩ (.int .i64 ((pre.length : Int) + 1))).heap.size (W.setCell ⟨w.heap.size + 1, 0, none⟩ (.int .i64 ((pre.length : Int) + 1)))
    gi_wp2_with fail
    generalize hW1 : W.setCell ⟨w.heap.size + 1, 0, none⟩ (.int .i64 ((pre.length : Int) + 1)) = W1 at *
    clear hW1 a1 f1
    gi_region_with_o (refine ⟨trivial, ?_⟩; refine (CallsIn.inRound lq (callsIn_wide.2 (HM.out _))).mono ?_; rintro e6 w6 ⟨rfl, hB6⟩; have hB7 := below_then (by first | exact hrr | exact below_drew hrr) hB6; have hm6 := box_keep hmn2 hB7; have d2 := hm6.cell; have e2 := hm6.frozen)
    all_goals gi_wp2_with fail
    all_goals (
      have hg2 := grownBy_setCell' w6 (w.heap.size + 1 + 1) (.int .i64 (M + mv))
      have hv7 := (box_keep hv2 hB7).kept hg2 (by simp)
      have hm7 := hm6.set (.int .i64 (M + mv))
      have hz7 := (box_keep hz2 hB7).kept hg2 (by simp; omega)
      have hp7 := blk_kept ((hB7.block _ (Array.getElem?_eq_some_iff.1 hp2).1).trans hp2) hg2 (by simp; omega)
      have hbs7 := (box_keep hbs2 hB7).kept hg2 (by simp; omega)
      try rw [hwr]
      refine ⟨((hko.trans (others_below hB7)).trans (KeepsOthers.setCell _ _ _)).from _, ⟨hbs7.trans hbs.symm, hp7.trans hp.symm⟩, by rw [HPL.out]; exact hv7, by rw [HS2.out]; exact hm7, hz7, hp7, hbs7, ?_⟩
      exact (hB2.trans (hB7.mono hB2.size)).setCell (p := ⟨w.heap.size + 1 + 1, 0, none⟩) (by simp only; omega) _)
  case done =>
    rintro D ys W hD rfl ⟨hv, hmn, hz, hp, hbs, hB⟩ hK
    rw [List.length_range] at hv
    have a1 := hv.cell
    have f1 := hv.frozen
    have a2 := hmn.cell
    have f2 := hmn.frozen
    have hsum := blkSum_bd Z hZ (lensE jb sy s (List.range (jobsN jb sy s))) (lens_ok jb sy s hs _)
    rw [show (lensE jb sy s (List.range (jobsN jb sy s))).length = jobsN jb sy s by unfold lensE; rw [List.length_map, List.length_range]] at hsum
    generalize hMe : blkSum Z (lensE jb sy s (List.range (jobsN jb sy s))) = M at *
    have HME := Lib.hid hMe
    clear hMe
    obtain ⟨hs1, hs2⟩ := hsum
    have hm0 : 0 ≤ M := by omega
    have hm9 : M ≤ 1300000000000 := by omega
    gi_wp2_with fail
    refine wpIn_wide.2 ?_
    go_region
    gi_wp2_with fail
    have g1 : Boxed ((W.setCell ⟨w.heap.size + 1, 0, none⟩ (.int .i64 (jobsN jb sy s : Int))).setCell ⟨w.heap.size + 1 + 1, 0, none⟩ (.int .i64 M)).drew (w.heap.size + 1) 3 (.int .i64 (jobsN jb sy s : Int)) := (hv.set (.int .i64 (jobsN jb sy s : Int))).other (B' := w.heap.size + 1 + 1) (by omega) (.int .i64 M)
    have g2 : Boxed ((W.setCell ⟨w.heap.size + 1, 0, none⟩ (.int .i64 (jobsN jb sy s : Int))).setCell ⟨w.heap.size + 1 + 1, 0, none⟩ (.int .i64 M)).drew (w.heap.size + 1 + 1) 3 (.int .i64 M) := (hmn.other (B' := w.heap.size + 1) (by omega) (.int .i64 (jobsN jb sy s : Int))).set (.int .i64 M)
    have hB' := below_drew ((hB.setCell (p := ⟨w.heap.size + 1, 0, none⟩) (by simp only; omega) (.int .i64 (jobsN jb sy s : Int))).setCell (p := ⟨w.heap.size + 1 + 1, 0, none⟩) (by simp only; omega) (.int .i64 M))
    have hK' := (((KeepsOthers.setCell W ⟨w.heap.size + 1, 0, none⟩ (.int .i64 (jobsN jb sy s : Int))).trans (KeepsOthers.setCell _ ⟨w.heap.size + 1 + 1, 0, none⟩ (.int .i64 M))).trans (KeepsOthers.drew _)).same D _ hK rfl
    generalize ((W.setCell ⟨w.heap.size + 1, 0, none⟩ (.int .i64 (jobsN jb sy s : Int))).setCell ⟨w.heap.size + 1 + 1, 0, none⟩ (.int .i64 M)).drew = V at *
    refine ⟨by simp, .inl ⟨_, _, rfl, run_takeDeferred hK', ?_⟩⟩
    have r1 := (g1.kept (grownBy_putObj' V D (.deferred none)) (by simp; omega)).cell
    have r2 := (g2.kept (grownBy_putObj' V D (.deferred none)) (by simp; omega)).cell
    exact ⟨_, results_cct rfl _ _ _ ⟨w.heap.size + 1, 0, none⟩ ⟨w.heap.size + 1 + 1, 0, none⟩ (.int .i64 (jobsN jb sy s : Int)) (.int .i64 M) (.int .i64 0) rfl rfl rfl (by simp [loadVar, r1, go_sem]) (by simp [loadVar, r2, go_sem]), by rw [HME.out], hB'.trans (belowK_b (w := w) (Nat.le_refl _) V D _ _ (by omega) hK' rfl rfl)⟩
  case stop =>
    rintro D c pre W _ _ h _
    exact h.elim

end Go.Proofs.Ytfdbkpbgkpkckaa
