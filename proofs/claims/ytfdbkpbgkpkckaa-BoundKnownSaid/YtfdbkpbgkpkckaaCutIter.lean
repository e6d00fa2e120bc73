/-
  The walk of cutter.ends and of the function that it hands back: an iterator over the ends of jobs.
-/
import Derived.Test.YtfdbkpbgkpkckaaCutApi
import Derived.RangeFuncNested
import Derived.RangeFuncBound
import Derived.RangeFuncCalls
import Derived.RangeFuncLeaves
import Derived.RangeFuncBox
import Derived.Shelf.Abstract
import Derived.OwnWalkIn
import Derived.TacticsInMore
import Derived.LoopNIn
import Derived.LoopIn
import Derived.Sort.QuietIn
namespace Go.Proofs.Ytfdbkpbgkpkckaa
open Go.RowKit Go.Shelf
set_option linter.unusedVariables false
set_option maxRecDepth 100000
attribute [local go_sem] Oper.semAt_some

/-- The i-th end behind a place. -/
def posF (jb : Int) (sy : Bool) (s : ByteArray) : Nat → Nat → Nat
  | p, 0 => nextE jb sy s p
  | p, i + 1 => posF jb sy s (nextE jb sy s p) i
theorem posF_succ (jb : Int) (sy : Bool) (s : ByteArray) : ∀ i p, posF jb sy s p (i + 1) = nextE jb sy s (posF jb sy s p i) := by
  intro i
  induction i with
  | zero => intro p; rfl
  | succ i ih =>
    intro p
    have := ih (nextE jb sy s p)
    simp only [posF] at this ⊢
    exact this
theorem posF_le (jb : Int) (sy : Bool) (s : ByteArray) : ∀ i p, p ≤ s.size → posF jb sy s p i ≤ s.size := by
  intro i
  induction i with
  | zero => intro p hp; exact (nextE_le jb sy s p hp).1
  | succ i ih => intro p hp; exact ih _ (nextE_le jb sy s p hp).1
theorem endsF_pos (jb : Int) (sy : Bool) (s : ByteArray) : ∀ k p, p ≤ s.size → s.size - p + 1 ≤ k →
    1 ≤ (endsF jb sy s k p).length ∧ endsF jb sy s k p = (List.range (endsF jb sy s k p).length).map (fun i => (posF jb sy s p i : Int)) ∧ (∀ i, i + 1 < (endsF jb sy s k p).length → posF jb sy s p i < s.size) ∧ ¬ posF jb sy s p ((endsF jb sy s k p).length - 1) < s.size ∧ (endsF jb sy s k p).length ≤ s.size - p + 1 := by
  intro k
  induction k with
  | zero => intro p _ h; omega
  | succ k ih =>
    intro p hp hk
    have hn := nextE_le jb sy s p hp
    simp only [endsF]
    by_cases hlt : nextE jb sy s p < s.size
    · rw [if_pos hlt]
      have hps : p < s.size := by
        rcases Nat.lt_or_ge p s.size with h | h
        · exact h
        · obtain rfl : p = s.size := by omega
          have h0 : cutN jb sy s s.size = 0 := by
            have := firstN_spec (atV jb sy s s.size) (s.size - s.size)
            unfold cutN; omega
          unfold nextE at hlt
          rw [if_pos h0] at hlt
          omega
      have hgt := hn.2 hps
      obtain ⟨h1, h2, h3, h4, h5⟩ := ih (nextE jb sy s p) hn.1 (by omega)
      generalize hL : (endsF jb sy s k (nextE jb sy s p)).length = L at *
      refine ⟨by simp, ?_, ?_, ?_, ?_⟩
      · rw [List.length_cons, hL, List.range_succ_eq_map, List.map_cons, List.map_map]
        congr 1
      · intro i hi
        rw [List.length_cons, hL] at hi
        cases i with
        | zero => exact hlt
        | succ i => exact h3 i (by omega)
      · rw [List.length_cons, hL, Nat.add_sub_cancel]
        obtain ⟨m, rfl⟩ : ∃ m, L = m + 1 := ⟨L - 1, by omega⟩
        exact h4
      · rw [List.length_cons, hL]; omega
    · rw [if_neg hlt]
      exact ⟨by simp, rfl, fun i hi => by simp at hi, hlt, by simp⟩
/-- How many jobs there are. -/
def jobsN (jb : Int) (sy : Bool) (s : ByteArray) : Nat := (endsL jb sy s 0).length
def posE (jb : Int) (sy : Bool) (s : ByteArray) (i : Nat) : Nat := posF jb sy s 0 i
theorem jobs_facts (jb : Int) (sy : Bool) (s : ByteArray) : 1 ≤ jobsN jb sy s ∧ (∀ i, i + 1 < jobsN jb sy s → posE jb sy s i < s.size) ∧ ¬ posE jb sy s (jobsN jb sy s - 1) < s.size ∧ jobsN jb sy s ≤ s.size + 1 := by
  have h := endsF_pos jb sy s (s.size - 0 + 1) 0 (Nat.zero_le _) (Nat.le_refl _)
  exact ⟨h.1, h.2.2.1, h.2.2.2.1, h.2.2.2.2⟩
theorem ends_range (jb : Int) (sy : Bool) (s : ByteArray) : endsL jb sy s 0 = (List.range (jobsN jb sy s)).map (fun i => (posE jb sy s i : Int)) :=
  (endsF_pos jb sy s (s.size - 0 + 1) 0 (Nat.zero_le _) (Nat.le_refl _)).2.1
/-- The place where the k-th job begins. -/
def atK (jb : Int) (sy : Bool) (s : ByteArray) : Nat → Nat
  | 0 => 0
  | k + 1 => posE jb sy s k
theorem atK_next (jb : Int) (sy : Bool) (s : ByteArray) (k : Nat) : nextE jb sy s (atK jb sy s k) = posE jb sy s k := by
  cases k with
  | zero => rfl
  | succ k => exact (posF_succ jb sy s k 0).symm
theorem atK_le (jb : Int) (sy : Bool) (s : ByteArray) (k : Nat) : atK jb sy s k ≤ s.size := by
  cases k with
  | zero => exact Nat.zero_le _
  | succ k => exact posF_le jb sy s k 0 (Nat.zero_le _)

/-- A round of the loop leaves the blocks of the captured string and parameters alone. -/
def KeepsTwo (b c : Nat) (W W' : World) : Prop := W'.heap[b]? = W.heap[b]? ∧ W'.heap[c]? = W.heap[c]?
theorem KeepsTwo.trans {b c : Nat} {A B C : World} (h : KeepsTwo b c A B) (k : KeepsTwo b c B C) : KeepsTwo b c A C := ⟨k.1.trans h.1, k.2.trans h.2⟩
theorem KeepsTwo.cell1 {b c : Nat} {W W' : World} (h : KeepsTwo b c W W') (i : Nat) : W'.cell? ⟨b, i, none⟩ = W.cell? ⟨b, i, none⟩ := World.cell?_of_block h.1
theorem KeepsTwo.cell2 {b c : Nat} {W W' : World} (h : KeepsTwo b c W W') (i : Nat) : W'.cell? ⟨c, i, none⟩ = W.cell? ⟨c, i, none⟩ := World.cell?_of_block h.2
theorem KeepsTwo.put {b c : Nat} {w : World} (hb : b < w.heap.size) (hc : c < w.heap.size) (W : World) (l : Nat) (o o' : Obj) (hl : w.heap.size ≤ l) (_ : W.heap[l]? = some o) (_ : o.isCells = false) (_ : o.isWalk = false) : KeepsTwo b c W (W.putObj l o') :=
  ⟨World.putObj_heap_other (by omega), World.putObj_heap_other (by omega)⟩
theorem KeepsTwo.below {b c : Nat} {W W' : World} (hb : b < W.heap.size) (hc : c < W.heap.size) (h : Below W.heap.size W W') : KeepsTwo b c W W' := ⟨h.block b hb, h.block c hc⟩
theorem grown_below {W W' : World} (h : Below W.heap.size W W') : W.grownBy W' none := ⟨h.os, h.tape, h.output, h.size, fun k hk _ => h.block k hk⟩
theorem ParBox.of {W W' : World} {b c : Nat} {l wd jb ov : Int} {sy ck : Bool} (h : ParBox W c l wd jb ov sy ck) (k : KeepsTwo b c W W') : ParBox W' c l wd jb ov sy ck := by
  obtain ⟨h0, h1, h2, h3, h4, h5⟩ := h
  exact ⟨(k.cell2 0).trans h0, (k.cell2 1).trans h1, (k.cell2 2).trans h2, (k.cell2 3).trans h3, (k.cell2 4).trans h4, (k.cell2 5).trans h5⟩

set_option maxHeartbeats 4000000 in
theorem ends1_in (n : Nat) (hn : 3 ≤ n) (lp Bs Bp : Nat) (l wd jb ov : Int) (sy ck : Bool) (s : ByteArray) (hj : 16 ≤ jb ∧ jb ≤ 2097152) (hs : s.size ≤ 1048576) (J Jx : List Nat → World → Prop) (W : World) (hBs0 : Bs < W.heap.size) (hBp0 : Bp < W.heap.size)
    (hJ : AbidesFrom W.heap.size J)
    (hY : ∀ (pre : List Nat) (x : Nat) (W1 : World), J pre W1 → pre.length < jobsN jb sy s → YieldAt Fence.wide (n - 1) Try.prog lp #[.int .i64 (x : Int), .int .i64 (posE jb sy s x : Int)] W1 fun e W' =>
      (e = .returned (.bool true) ∧ J (pre ++ [x]) W' ∧ KeepsTwo Bs Bp W1 W') ∨ (e = .returned (.bool false) ∧ Jx (pre ++ [x]) W'))
    (hcs : W.cell? ⟨Bs, 0, none⟩ = some (.string s)) (hcp : ParBox W Bp l wd jb ov sy ck) (h0 : J [] W) :
    CallsIn Fence.wide n Try.prog 89 #[.func (.yield lp) #[] #[], .pointer (some ⟨Bs, 0, none⟩), .pointer (some ⟨Bp, 0, none⟩)] W fun e W' => (∃ v, e = .returned v) ∧
      ((∃ ys, ys = List.range (jobsN jb sy s) ∧ J ys W') ∨ (∃ pre, (∃ k, k ≤ jobsN jb sy s ∧ pre = List.range k) ∧ Jx pre W')) := by
  refine callsIn_of_wp Try.func89 rfl trivial ?_ rfl
  simp only [Try.ntmps89, List.size_toArray, List.length_cons, List.length_nil, Nat.reduceAdd, Nat.reduceSub, Array.replicate_succ, Array.replicate_zero, List.push_toArray, List.append_toArray, List.nil_append, List.cons_append]
  obtain ⟨f1, f2, f3, f4⟩ := jobs_facts jb sy s
  have HN : Hid (∀ k V, Calls Try.prog 90 #[.agg #[.int .i64 l, .int .i64 wd, .int .i64 jb, .int .i64 ov, .bool sy, .bool ck], .string s, .int .i64 (atK jb sy s k : Int)] V fun e w' => e = .returned (.tuple #[.int .i64 (posE jb sy s k : Int), .bool (nextB jb sy s (atK jb sy s k))]) ∧ Below V.heap.size V w') := fun k V => by
    have := next_any l wd jb ov sy ck s (atK jb sy s k) V hj hs (atK_le jb sy s k)
    rw [atK_next] at this
    exact this
  have HT : Hid (∀ k, 1 ≤ k → ((k < jobsN jb sy s → atK jb sy s k < s.size) ∧ (k = jobsN jb sy s → ¬ atK jb sy s k < s.size))) := fun k hk => by
    obtain ⟨i, rfl⟩ : ∃ i, k = i + 1 := ⟨k - 1, by omega⟩
    refine ⟨fun h => f2 i h, fun h => ?_⟩
    have : jobsN jb sy s - 1 = i := by omega
    rw [this] at f3
    exact f3
  have HAK : Hid (∀ k, atK jb sy s (k + 1) = posE jb sy s k) := fun _ => rfl
  have HAL : Hid (∀ k, atK jb sy s k ≤ s.size) := fun k => atK_le jb sy s k
  have HA0 : Hid ((0 : Int) = (atK jb sy s 0 : Int)) := rfl
  have HY := Lib.hid hY
  have HJ := Lib.hid hJ
  have HCS := Lib.hid hcs
  have HCP := Lib.hid hcp
  have H0 := Lib.hid h0
  clear hY hJ f2 f3 hcs hcp h0 hj
  generalize jobsN jb sy s = L at *
  gi_wp2_with fail
  gi_loopw [4, 5] (fun av iv wr => ∃ k : Nat, k ≤ L ∧ iv = .int .i64 (k : Int) ∧ av = .int .i64 (atK jb sy s k : Int) ∧ J (List.range k) wr ∧ KeepsTwo Bs Bp W wr) (fun _ iv _ => L - (intOf iv).toNat)
  case atStart => exact ⟨0, Nat.zero_le _, rfl, val_int HA0.out, H0.out, ⟨rfl, rfl⟩⟩
  case round =>
    obtain ⟨k, hk, rfl, rfl, hJs, hnx⟩ := hrel
    have hc1 : wr.cell? ⟨Bs, 0, none⟩ = some (.string s) := (hnx.cell1 0).trans HCS.out
    have HB1 := Lib.hid (HCP.out.of hnx)
    obtain ⟨q0, q1, q2, q3, q4, q5⟩ := HB1.out
    have hb1 := cell_lt' hc1
    have hb2 := cell_lt' q0
    have hal := HAL.out k
    by_cases hlt : k < L
    · have hJs2 := Lib.hid hJs
      have HNk := Lib.hid (fun V => HN.out k V)
      have HAKk := Lib.hid (HAK.out k)
      have hpl : posE jb sy s k ≤ s.size := by rw [← HAKk.out]; exact HAL.out (k + 1)
      have HBL : Hid (∀ w2, Below wr.heap.size wr w2 → J (List.range k) w2 ∧ w2.cell? ⟨Bs, 0, none⟩ = some (.string s) ∧ KeepsTwo Bs Bp W w2) := fun w2 hB =>
        ⟨HJ.out _ wr w2 none hJs2.out (grown_below hB) (fun r e => by cases e), (hB.block Bs hb1 |> fun h => (World.cell?_of_block h).trans hc1), hnx.trans (KeepsTwo.below hb1 hb2 hB)⟩
      clear hJs
      by_cases hk0 : k = 0
      · have g0 : ((k : Int) == 0) = true := by simp; omega
        have HK0 := Lib.hid hk0
        clear hk0
        gi_wp2_with fail
        refine ⟨trivial, fun _ => by omega, ?_⟩
        refine (callsIn_wide.2 (HNk.out _)).mono ?_
        rintro e w2 ⟨rfl, hB2⟩
        obtain ⟨hJ3, hc3, hn3⟩ := HBL.out _ hB2
        obtain ⟨fn, tmps, assign, body, hy, hR⟩ := HY.out (List.range k) k w2 hJ3 (by simp; omega)
        gi_wp2_with fail
        refine ⟨fun _ => by omega, ?_⟩
        refine hR.mono ?_
        rintro e W3 (⟨rfl, hJ4, hk4⟩ | ⟨rfl, hJx4⟩)
        · gi_wp2_with fail
          refine ⟨⟨k + 1, by omega, by go_num, by rw [HAKk.out], by rw [List.range_succ]; exact hJ4, hn3.trans hk4⟩, by simp [intOf]; omega⟩
        · gi_wp2_with fail
          refine bodyPost_ret (results_none rfl _ _ _) rfl ?_
          exact ⟨⟨_, rfl⟩, .inr ⟨_, ⟨k + 1, by omega, (List.range_succ).symm⟩, hJx4⟩⟩
      · have hT := (HT.out k (by omega)).1 hlt
        have g0 : ((k : Int) == 0) = false := by simp; omega
        have g1 : (atK jb sy s k : Int) < (s.size : Int) := by omega
        have HK0 := Lib.hid hk0
        clear hk0
        gi_wp2_with fail
        refine ⟨trivial, fun _ => by omega, ?_⟩
        refine (callsIn_wide.2 (HNk.out _)).mono ?_
        rintro e w2 ⟨rfl, hB2⟩
        obtain ⟨hJ3, hc3, hn3⟩ := HBL.out _ hB2
        obtain ⟨fn, tmps, assign, body, hy, hR⟩ := HY.out (List.range k) k w2 hJ3 (by simp; omega)
        gi_wp2_with fail
        refine ⟨fun _ => by omega, ?_⟩
        refine hR.mono ?_
        rintro e W3 (⟨rfl, hJ4, hk4⟩ | ⟨rfl, hJx4⟩)
        · gi_wp2_with fail
          refine ⟨⟨k + 1, by omega, by go_num, by rw [HAKk.out], by rw [List.range_succ]; exact hJ4, hn3.trans hk4⟩, by simp [intOf]; omega⟩
        · gi_wp2_with fail
          refine bodyPost_ret (results_none rfl _ _ _) rfl ?_
          exact ⟨⟨_, rfl⟩, .inr ⟨_, ⟨k + 1, by omega, (List.range_succ).symm⟩, hJx4⟩⟩
    · have hkL : k = L := by omega
      have hT := (HT.out k (by omega)).2 hkL
      have g0 : ((k : Int) == 0) = false := by simp; omega
      have g1 : ¬ (atK jb sy s k : Int) < (s.size : Int) := by omega
      have HKL := Lib.hid hkL
      clear hkL
      gi_wp2_with fail
      refine bodyPost_end (results_none rfl _ _ _) rfl ?_
      exact ⟨⟨_, rfl⟩, .inl (by have h := hJs; rw [HKL.out] at h; exact h)⟩

/-- cutter.ends: its arguments are boxed; the function value captures the boxes. -/
theorem ends_in (n : Nat) (l wd jb ov : Int) (sy ck : Bool) (s : ByteArray) (w : World) :
    CallsIn Fence.wide n Try.prog 63 #[.agg #[.int .i64 l, .int .i64 wd, .int .i64 jb, .int .i64 ov, .bool sy, .bool ck], .string s] w fun e w' => e = .returned (.func (.func 89) #[] #[.pointer (some ⟨w.heap.size + 1, 0, none⟩), .pointer (some ⟨w.heap.size, 0, none⟩)]) ∧ w' = (w.alloc (.cells #[.int .i64 l, .int .i64 wd, .int .i64 jb, .int .i64 ov, .bool sy, .bool ck] 24)).alloc (.cells #[.string s] 9) := by
  refine callsIn_of_wp Try.func63 rfl trivial ?_ rfl
  simp only [Try.ntmps63, List.size_toArray, List.length_cons, List.length_nil, Nat.reduceAdd, Nat.reduceSub, Array.replicate_succ, Array.replicate_zero, List.push_toArray, List.append_toArray, List.nil_append, List.cons_append]
  gi_wp2
  go_ret
  exact ⟨rfl, rfl⟩

/-- What a loop over cutter.ends's value may count on. -/
theorem ends_stops (n : Nat) (hn : 3 ≤ n) (Bs Bp : Nat) (l wd jb ov : Int) (sy ck : Bool) (s : ByteArray) (w : World) (hj : 16 ≤ jb ∧ jb ≤ 2097152) (hs : s.size ≤ 1048576) (hBs0 : Bs < w.heap.size) (hBp0 : Bp < w.heap.size) (hcs : w.cell? ⟨Bs, 0, none⟩ = some (.string s)) (hcp : ParBox w Bp l wd jb ov sy ck) :
    SeqStopsK Fence.wide n Try.prog 89 #[.pointer (some ⟨Bs, 0, none⟩), .pointer (some ⟨Bp, 0, none⟩)] (fun x : Nat => #[.int .i64 (x : Int), .int .i64 (posE jb sy s x : Int)]) (KeepsTwo Bs Bp)
      (fun ys => ys = List.range (jobsN jb sy s)) (fun pre => ∃ k, k ≤ jobsN jb sy s ∧ pre = List.range k) (jobsN jb sy s) w := fun lp J Jx W hW hJ _ hY h0 =>
  ends1_in n hn lp Bs Bp l wd jb ov sy ck s hj hs J Jx W (Nat.lt_of_lt_of_le hBs0 hW.size) (Nat.lt_of_lt_of_le hBp0 hW.size) hJ hY ((hW.cell (p := ⟨Bs, 0, none⟩) hBs0).trans hcs) (hcp.keep hW hBp0) h0

end Go.Proofs.Ytfdbkpbgkpkckaa
