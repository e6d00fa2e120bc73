/-
  The walk of roll.First.
-/
import Derived.Test.YtaofphifmgadjaaRollPlacesRef
import Derived.WalkMore
namespace Go.Proofs.Ytaofphifmgadjaa
open Go.RowKit Go.Shelf
set_option linter.unusedVariables false
set_option maxRecDepth 100000
attribute [local go_sem] Oper.semAt_some

/-- Whether a place hits and lies at or behind f. -/
def okAt (s : ByteArray) (n : Nat) (f : Int) (k : Nat) : Bool := decide (f ≤ 16 + (k : Int)) && hitB (winH s k) n

/-- What First finds. -/
def FirstIs (s : ByteArray) (n : Nat) (f v : Int) (b : Bool) : Prop :=
  (∃ x, x < s.size - 15 ∧ okAt s n f x = true ∧ (∀ y, y < x → okAt s n f y = false) ∧ v = 16 + (x : Int) ∧ b = true) ∨ ((∀ y, y < s.size - 15 → okAt s n f y = false) ∧ v = 0 ∧ b = false)

/-- No place of those given. -/
def noneOf (s : ByteArray) (n : Nat) (f : Int) (pre : List Nat) : Prop := ∀ y, y ∈ pre → okAt s n f y = false
/-- The last place of those given, and no other one. -/
def lastOf (s : ByteArray) (n : Nat) (f : Int) (pre : List Nat) : Prop := ∃ ini x, pre = ini ++ [x] ∧ okAt s n f x = true ∧ noneOf s n f ini
/-- The last one of a list. -/
def endOf (pre : List Nat) : Nat := pre.getLast?.getD 0
theorem endOf_snoc (pre : List Nat) (x : Nat) : endOf (pre ++ [x]) = x := by simp [endOf]

theorem noneOf_snoc {s : ByteArray} {n : Nat} {f : Int} {pre : List Nat} {x : Nat} (h : noneOf s n f pre) (hx : okAt s n f x = false) : noneOf s n f (pre ++ [x]) := by
  intro y hy
  rcases List.mem_append.1 hy with hy | hy
  · exact h y hy
  · rw [List.mem_singleton.1 hy]; exact hx

theorem first_none {s : ByteArray} {n : Nat} {f : Int} (h : noneOf s n f (List.range (s.size - 15))) : FirstIs s n f 0 false :=
  .inr ⟨fun y hy => h y (List.mem_range.2 hy), rfl, rfl⟩

theorem first_some {s : ByteArray} {n : Nat} {f : Int} {k : Nat} (hk : k ≤ s.size - 15) (h : lastOf s n f (List.range k)) : FirstIs s n f (16 + ((endOf (List.range k) : Nat) : Int)) true := by
  obtain ⟨ini, x, e, hx, hn⟩ := h
  cases k with
  | zero => simp at e
  | succ k =>
    rw [List.range_succ] at e ⊢
    obtain ⟨e1, e2⟩ := List.append_inj' e rfl
    subst e1
    injection e2 with e2
    subst e2
    rw [endOf_snoc]
    exact .inl ⟨k, by omega, hx, fun y hy => hn y (List.mem_range.2 hy), rfl, rfl⟩

theorem results_cell3 {fn : Func} {a b c : Tmp} {ta tb tc : TypeId} (h : fn.results = #[.cell a ta, .cell b tb, .cell c tc]) (tmps : Array Value) (P : Program) (w : World) (pa pb pc : Addr) (va vb vc : Value)
    (ha : tmps[a]?.getD undef = .pointer (some pa)) (hb : tmps[b]?.getD undef = .pointer (some pb)) (hc : tmps[c]?.getD undef = .pointer (some pc))
    (la : (loadVar ta pa).run P w = .ok va w) (lb : (loadVar tb pb).run P w = .ok vb w) (lc : (loadVar tc pc).run P w = .ok vc w) :
    (results fn tmps).run P w = .ok (.tuple #[va, vb, vc]) w := by
  simp only [results, h]
  simp [Sem.run_bind, Result.andThen, asAddr, ha, hb, hc, la, lb, lc]

theorem boxed_at {W : World} {k : Nat} (hk : k = W.heap.size) (t : TypeId) (v : Value) : Boxed (W.alloc (.cells #[v] t)) k t v := by
  subst hk; exact Boxed.new W t v

set_option maxHeartbeats 2000000 in
theorem First_in (m : Nat) (hm : 6 ≤ m) (s : ByteArray) (hs : s.size ≤ 1048576) (f : Int) (hf : 0 ≤ f ∧ f ≤ s.size) (n : Nat) (hn1 : 1 ≤ n) (hn2 : n ≤ 32) (w : World) :
    CallsIn Fence.wide m Try.prog 31 #[.string s, .int .i64 f, .int .i64 n] w fun e W' => (∃ v b, e = .returned (.tuple #[.int .i64 v, .bool b, .int .i64 0]) ∧ Hid (FirstIs s n f v b)) ∧ Below w.heap.size w W' := by
  have h1 : 1 ≤ m := by omega
  have HE := Lib.hid (hits_ok (h := 0) (n := n) (by omega)).2
  have t1 : decide (f < 0) = false := by simp; omega
  have t2 : decide ((s.size : Int) < f) = false := by simp; omega
  refine callsIn_of_wp_marks Try.func31 rfl trivial ?_ rfl
  simp only [Try.ntmps31, List.size_toArray, List.length_cons, List.length_nil, Nat.reduceAdd, Nat.reduceSub, Array.replicate_succ, Array.replicate_zero, List.push_toArray, List.append_toArray, List.nil_append, List.cons_append]
  gi_wp2_with fail
  refine wpIn_wide.2 (wp_scope_straight ((wpIn_wide (n := m)).1 ?_))
  gi_wp2_with fail
  refine ⟨trivial, ?_⟩
  refine (callsIn_wide.2 (asked34_any s n _ hs)).mono ?_
  rintro e w' ⟨rfl, rfl⟩
  rw [HE.out]
  gi_wp2_with fail
  refine wpIn_label ?_
  gi_wp2_with fail
  refine ⟨trivial, ?_⟩
  refine (hashes_in (m - 1) s _).mono ?_
  rintro e w' ⟨rfl, rfl⟩
  gi_wp2_with fail
  obtain ⟨W0, hW0⟩ : ∃ W0, W0 = (((((w.alloc (.cells #[.int .i64 f] 3)).alloc (.cells #[.int .i64 n] 3)).alloc (.cells #[.int .i64 0] 3)).alloc (.cells #[.bool false] 4)).alloc (.cells #[.int .i64 0] 24)).alloc (.cells #[.string s] 9) := ⟨_, rfl⟩
  have c0 : Boxed W0 w.heap.size 3 (.int .i64 f) := by rw [hW0]; exact (((((boxed_at (by simp) _ _).alloc _).alloc _).alloc _).alloc _).alloc _
  have c1 : Boxed W0 (w.heap.size + 1) 3 (.int .i64 n) := by rw [hW0]; exact ((((boxed_at (by simp) _ _).alloc _).alloc _).alloc _).alloc _
  have c2 : Boxed W0 (w.heap.size + 1 + 1) 3 (.int .i64 0) := by rw [hW0]; exact (((boxed_at (by simp) _ _).alloc _).alloc _).alloc _
  have c3 : Boxed W0 (w.heap.size + 1 + 1 + 1) 4 (.bool false) := by rw [hW0]; exact ((boxed_at (by simp) _ _).alloc _).alloc _
  have c4 : Boxed W0 (w.heap.size + 1 + 1 + 1 + 1) 24 (.int .i64 0) := by rw [hW0]; exact (boxed_at (by simp) _ _).alloc _
  have c5 : Boxed W0 (w.heap.size + 1 + 1 + 1 + 1 + 1) 9 (.string s) := by rw [hW0]; exact boxed_at (by simp) _ _
  have hsz : W0.heap.size = w.heap.size + 6 := by rw [hW0]; simp
  have hB0 : Below w.heap.size w W0 := by
    rw [hW0]
    exact ((((((Below.refl _ w).alloc (Nat.le_refl _) _).alloc (by simp) _).alloc (by simp; omega) _).alloc (by simp; omega) _).alloc (by simp; omega) _).alloc (by simp; omega) _
  rw [← hW0]
  clear hW0
  refine wpIn_rangeFunc_ownG rfl h1 (gf := 70) (lb := #[.pointer (some ⟨w.heap.size + 1 + 1 + 1 + 1 + 1, 0, none⟩)]) rfl trivial (enters_of Try.func70 (by kernel_rfl) rfl)
    (hashes_stops (m - 1) (by omega) (w.heap.size + 1 + 1 + 1 + 1 + 1) s W0 (by omega) (by omega) c5.cell) KeepsBox.trans (KeepsBox.put (by omega)) (Below.refl _ _) (fun _ => rfl)
    (fun pre W => noneOf s n f pre ∧ Boxed W w.heap.size 3 (.int .i64 f) ∧ Boxed W (w.heap.size + 1) 3 (.int .i64 n) ∧ Boxed W (w.heap.size + 1 + 1) 3 (.int .i64 0) ∧ Boxed W (w.heap.size + 1 + 1 + 1) 4 (.bool false) ∧ Boxed W (w.heap.size + 1 + 1 + 1 + 1) 24 (.int .i64 0) ∧ Below w.heap.size w W)
    (fun c pre W => (c = .ret ∧ lastOf s n f pre) ∧ Boxed W (w.heap.size + 1 + 1) 3 (.int .i64 (16 + ((endOf pre : Nat) : Int))) ∧ Boxed W (w.heap.size + 1 + 1 + 1) 4 (.bool true) ∧ Boxed W (w.heap.size + 1 + 1 + 1 + 1) 24 (.int .i64 0) ∧ Below w.heap.size w W)
    (OwnFrom.and (fun _ _ _ _ hs _ _ => hs) (OwnFrom.and (Own.from (boxed_own _ _ _) _) (OwnFrom.and (Own.from (boxed_own _ _ _) _) (OwnFrom.and (Own.from (boxed_own _ _ _) _) (OwnFrom.and (Own.from (boxed_own _ _ _) _) (OwnFrom.and (Own.from (boxed_own _ _ _) _) (ownFrom_below (by omega) (by omega))))))))
    (fun c => OwnFrom.and (fun _ _ _ _ hs _ _ => hs) (OwnFrom.and (Own.from (boxed_own _ _ _) _) (OwnFrom.and (Own.from (boxed_own _ _ _) _) (OwnFrom.and (Own.from (boxed_own _ _ _) _) (ownFrom_below (by omega) (by omega))))))
    ⟨fun _ hy => (List.not_mem_nil hy).elim, c0, c1, c2, c3, c4, hB0⟩
    (fun x => { tmps := #[.string s, .int .i64 f, .int .i64 n, undef, .pointer (some ⟨w.heap.size, 0, none⟩), .pointer (some ⟨w.heap.size + 1, 0, none⟩), .pointer (some ⟨w.heap.size + 1 + 1, 0, none⟩), .pointer (some ⟨w.heap.size + 1 + 1 + 1, 0, none⟩), .pointer (some ⟨w.heap.size + 1 + 1 + 1 + 1, 0, none⟩),
      .int .i64 (16 + (x : Int)), .int .u64 (winH s x), .string s, .int .i64 n, .int .i64 0, .int .i64 0, .bool true, .bool true, .int .i64 f, .bool false, .bool false, .int .i64 f, .string s, .int .i64 s.size, .bool false, .bool false, .bool false, .int .i64 0, .bool false, undef, .string s,
      .func (.func 70) #[] #[.pointer (some ⟨w.heap.size + 1 + 1 + 1 + 1 + 1, 0, none⟩)], .int .i64 (16 + (x : Int)), .int .u64 (winH s x), undef, undef, undef, undef, undef, undef, undef, undef, undef, undef], defers := [] }) ?assign ?body ?done ?stop
  case assign =>
    intro l x W K hK
    gi_wp2
    exact hK
  case body =>
    rintro l pre x W ⟨hno, d0, d1, d2, d3, d4, hB⟩ hlt
    have e0 := d0.cell
    have e1 := d1.cell
    have e2 := d2.frozen
    have e3 := d3.frozen
    have e4 := d4.frozen
    have k2 := d2.cell
    have k3 := d3.cell
    have k4 := d4.cell
    by_cases hlt2 : 16 + (x : Int) < f
    · have HO : Hid (okAt s n f x = false) := by simp [Hid, okAt]; omega
      gi_wp2_with fail
      refine ⟨trivial, ?_⟩
      gi_wp2_with fail
      exact ⟨KeepsFrom.refl _ _, rfl, noneOf_snoc hno HO.out, d0, d1, d2, d3, d4, hB⟩
    · have t3 : decide (16 + (x : Int) < f) = false := by simp; omega
      cases hh : hitB (winH s x) n with
      | false =>
        have HO : Hid (okAt s n f x = false) := by simp [Hid, okAt, hh]
        have HH := Lib.hid hh
        clear hh
        gi_wp2_with fail
        refine ⟨trivial, fun _ => by omega, ?_⟩
        refine ((callsIn_wide.2 (hits_any (winH s x) n _ (winH_lo s x) hn2)).inRound l).mono ?_
        rintro e W1 ⟨rfl, rfl⟩
        rw [HH.out]
        gi_wp2_with fail
        exact ⟨KeepsFrom.refl _ _, rfl, noneOf_snoc hno HO.out, d0, d1, d2, d3, d4, hB⟩
      | true =>
        have HO : Hid (okAt s n f x = true) := by simp [Hid, okAt, hh]; omega
        have HH := Lib.hid hh
        clear hh
        gi_wp2_with fail
        refine ⟨trivial, fun _ => by omega, ?_⟩
        refine ((callsIn_wide.2 (hits_any (winH s x) n _ (winH_lo s x) hn2)).inRound l).mono ?_
        rintro e W1 ⟨rfl, rfl⟩
        rw [HH.out]
        gi_wp2_with fail
        refine ⟨(((KeepsOthers.setCell _ _ _).trans (KeepsOthers.setCell _ _ _)).trans (KeepsOthers.setCell _ _ _)).from _, ⟨rfl, pre, x, rfl, HO.out, hno⟩, ?_, ?_, ?_, ?_⟩
        · rw [endOf_snoc]; exact ((d2.set _).other (by omega) _).other (by omega) _
        · exact ((d3.other (by omega) _).set _).other (by omega) _
        · exact ((d4.other (by omega) _).other (by omega) _).set _
        · exact ((hB.setCell (p := ⟨w.heap.size + 1 + 1, 0, none⟩) (by simp only; omega) _).setCell (p := ⟨w.heap.size + 1 + 1 + 1, 0, none⟩) (by simp only; omega) _).setCell (p := ⟨w.heap.size + 1 + 1 + 1 + 1, 0, none⟩) (by simp only; omega) _
  case done =>
    rintro D ys W hD rfl ⟨hno, d0, d1, d2, d3, d4, hB⟩ hK
    have e2 := d2.frozen
    have e3 := d3.frozen
    have e4 := d4.frozen
    have k2 := d2.cell
    have k3 := d3.cell
    have k4 := d4.cell
    gi_wp2
    have f2 := (((d2.set (.int .i64 0)).other (B' := w.heap.size + 1 + 1 + 1) (by omega) (.bool false)).other (B' := w.heap.size + 1 + 1 + 1 + 1) (by omega) (.int .i64 0))
    have f3 := (((d3.other (B' := w.heap.size + 1 + 1) (by omega) (.int .i64 0)).set (.bool false)).other (B' := w.heap.size + 1 + 1 + 1 + 1) (by omega) (.int .i64 0))
    have f4 := (((d4.other (B' := w.heap.size + 1 + 1) (by omega) (.int .i64 0)).other (B' := w.heap.size + 1 + 1 + 1) (by omega) (.bool false)).set (.int .i64 0))
    have hB' : Below w.heap.size w _ := ((hB.setCell (p := ⟨w.heap.size + 1 + 1, 0, none⟩) (by simp only; omega) (.int .i64 0)).setCell (p := ⟨w.heap.size + 1 + 1 + 1, 0, none⟩) (by simp only; omega) (.bool false)).setCell (p := ⟨w.heap.size + 1 + 1 + 1 + 1, 0, none⟩) (by simp only; omega) (.int .i64 0)
    have hK' := (((KeepsOthers.setCell W ⟨w.heap.size + 1 + 1, 0, none⟩ (.int .i64 0)).trans (KeepsOthers.setCell _ ⟨w.heap.size + 1 + 1 + 1, 0, none⟩ (.bool false))).trans (KeepsOthers.setCell _ ⟨w.heap.size + 1 + 1 + 1 + 1, 0, none⟩ (.int .i64 0))).same D _ hK rfl
    generalize ((W.setCell ⟨w.heap.size + 1 + 1, 0, none⟩ (.int .i64 0)).setCell ⟨w.heap.size + 1 + 1 + 1, 0, none⟩ (.bool false)).setCell ⟨w.heap.size + 1 + 1 + 1 + 1, 0, none⟩ (.int .i64 0) = V at *
    rw [Exit.noGoto_ret]
    refine ⟨by simp, .inl ⟨_, _, rfl, run_takeDeferred hK', ?_⟩⟩
    have g2 := (f2.kept (grownBy_putObj' V D (.deferred none)) (by simp; omega)).cell
    have g3 := (f3.kept (grownBy_putObj' V D (.deferred none)) (by simp; omega)).cell
    have g4 := (f4.kept (grownBy_putObj' V D (.deferred none)) (by simp; omega)).cell
    refine ⟨_, results_cell3 rfl _ _ _ ⟨w.heap.size + 1 + 1, 0, none⟩ ⟨w.heap.size + 1 + 1 + 1, 0, none⟩ ⟨w.heap.size + 1 + 1 + 1 + 1, 0, none⟩ _ _ _ rfl rfl rfl (by simp [loadVar, g2, go_sem]) (by simp [loadVar, g3, go_sem]) (by simp [loadVar, g4, go_sem]), ⟨0, false, rfl, first_none hno⟩, hB'.trans (belowK_b (w := w) (Nat.le_refl _) V D _ _ (by omega) hK' rfl rfl)⟩
  case stop =>
    rintro D c pre W hD ⟨k, hk, rfl⟩ ⟨⟨rfl, hla⟩, d2, d3, d4, hB⟩ hK
    gi_wp2
    rw [Exit.noGoto_ret]
    refine ⟨by simp, .inl ⟨_, _, rfl, run_takeDeferred hK, ?_⟩⟩
    have g2 := (d2.kept (grownBy_putObj' W D (.deferred none)) (by simp; omega)).cell
    have g3 := (d3.kept (grownBy_putObj' W D (.deferred none)) (by simp; omega)).cell
    have g4 := (d4.kept (grownBy_putObj' W D (.deferred none)) (by simp; omega)).cell
    refine ⟨_, results_cell3 rfl _ _ _ ⟨w.heap.size + 1 + 1, 0, none⟩ ⟨w.heap.size + 1 + 1 + 1, 0, none⟩ ⟨w.heap.size + 1 + 1 + 1 + 1, 0, none⟩ _ _ _ rfl rfl rfl (by simp [loadVar, g2, go_sem]) (by simp [loadVar, g3, go_sem]) (by simp [loadVar, g4, go_sem]), ⟨_, true, rfl, first_some hk hla⟩, hB.trans (belowK_b (w := w) (Nat.le_refl _) W D _ _ (by omega) hK rfl rfl)⟩

end Go.Proofs.Ytaofphifmgadjaa
