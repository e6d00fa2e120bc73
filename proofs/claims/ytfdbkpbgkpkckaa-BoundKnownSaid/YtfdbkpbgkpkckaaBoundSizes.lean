/-
  The walk of bound.sizes and of the function that it hands back: an iterator over the lengths of jobs.
-/
import Derived.Test.YtfdbkpbgkpkckaaCutLaws
namespace Go.Proofs.Ytfdbkpbgkpkckaa
open Go.RowKit Go.Shelf
set_option linter.unusedVariables false
set_option maxRecDepth 100000
attribute [local go_sem] Oper.semAt_some

/-- How long the k-th job is. -/
def lenE (jb : Int) (sy : Bool) (s : ByteArray) (k : Nat) : Int := (posE jb sy s k : Int) - (atK jb sy s k : Int)

set_option maxHeartbeats 4000000 in
theorem sizes1_in (n : Nat) (hn : 3 ≤ n) (lp Bs Bp : Nat) (l wd jb ov : Int) (sy ck : Bool) (s : ByteArray) (hask : askE l wd jb ov s = 0) (J Jx : List Nat → World → Prop) (W : World) (hBs0 : Bs < W.heap.size) (hBp0 : Bp < W.heap.size)
    (hJ : AbidesFrom W.heap.size J)
    (hY : ∀ (pre : List Nat) (x : Nat) (W1 : World), J pre W1 → pre.length < jobsN jb sy s → YieldAt Fence.wide (n - 1) Try.prog lp #[.int .i64 (lenE jb sy s x)] W1 fun e W' =>
      (e = .returned (.bool true) ∧ J (pre ++ [x]) W' ∧ KeepsTwo Bs Bp W1 W') ∨ (e = .returned (.bool false) ∧ Jx (pre ++ [x]) W'))
    (hcs : W.cell? ⟨Bs, 0, none⟩ = some (.string s)) (hcp : ParBox W Bp l wd jb ov sy ck) (h0 : J [] W) :
    CallsIn Fence.wide n Try.prog 101 #[.func (.yield lp) #[] #[], .pointer (some ⟨Bp, 0, none⟩), .pointer (some ⟨Bs, 0, none⟩)] W fun e W' => (∃ v, e = .returned v) ∧
      ((∃ ys, ys = List.range (jobsN jb sy s) ∧ J ys W') ∨ (∃ pre, (∃ k, k ≤ jobsN jb sy s ∧ pre = List.range k) ∧ Jx pre W')) := by
  refine callsIn_of_wp Try.func101 rfl trivial ?_ rfl
  simp only [Try.ntmps101, List.size_toArray, List.length_cons, List.length_nil, Nat.reduceAdd, Nat.reduceSub, Array.replicate_succ, Array.replicate_zero, List.push_toArray, List.append_toArray, List.nil_append, List.cons_append]
  obtain ⟨f1, f2, f3, f4⟩ := jobs_facts jb sy s
  obtain ⟨hpb, hsz⟩ := ask_zero hask
  have HN : Hid (∀ k V, Calls Try.prog 102 #[.agg #[.int .i64 l, .int .i64 wd, .int .i64 jb, .int .i64 ov, .bool sy, .bool ck], .string s, .int .i64 (atK jb sy s k : Int)] V fun e w' => e = .returned (.tuple #[.int .i64 (posE jb sy s k : Int), .bool (nextB jb sy s (atK jb sy s k)), .int .i64 0]) ∧ Below V.heap.size V w') := fun k V => by
    have := Next35_ok l wd jb ov sy ck s (atK jb sy s k) V hask (atK_le jb sy s k)
    rw [atK_next] at this
    exact this
  have HUP : Hid (∀ k, k + 1 < jobsN jb sy s → atK jb sy s k < posE jb sy s k) := fun k hk => by
    have h1 := f2 k hk
    have h2 := atK_le jb sy s k
    have h3 := nextE_le jb sy s (atK jb sy s k) h2
    rw [atK_next] at h3
    have h4 := nextE_cut (jb := jb) (sy := sy) (s := s) (p := atK jb sy s k) (by rw [atK_next]; exact h1)
    rw [atK_next] at h4
    omega
  have HT : Hid (∀ k, (k + 1 < jobsN jb sy s → posE jb sy s k < s.size) ∧ (k + 1 = jobsN jb sy s → posE jb sy s k = s.size)) := fun k => by
    refine ⟨fun h => f2 k h, fun h => ?_⟩
    have h2 : jobsN jb sy s - 1 = k := by omega
    rw [h2] at f3
    have := posF_le jb sy s k 0 (Nat.zero_le _)
    have e : posE jb sy s k = posF jb sy s 0 k := rfl
    omega
  have HAK : Hid (∀ k, atK jb sy s (k + 1) = posE jb sy s k) := fun _ => rfl
  have HAL : Hid (∀ k, atK jb sy s k ≤ s.size) := fun k => atK_le jb sy s k
  have HLE : Hid (∀ k, lenE jb sy s k = (posE jb sy s k : Int) - (atK jb sy s k : Int)) := fun _ => rfl
  have HA0 : Hid ((0 : Int) = (atK jb sy s 0 : Int)) := rfl
  have HY := Lib.hid hY
  have HJ := Lib.hid hJ
  have HCS := Lib.hid hcs
  have HCP := Lib.hid hcp
  have H0 := Lib.hid h0
  clear hY hJ f2 f3 hcs hcp h0 hask hpb
  generalize jobsN jb sy s = L at *
  gi_wp2_with fail
  gi_loopw [4] (fun av wr => ∃ k : Nat, k < L ∧ av = .int .i64 (atK jb sy s k : Int) ∧ J (List.range k) wr ∧ KeepsTwo Bs Bp W wr) (fun av _ => s.size - (intOf av).toNat)
  case atStart => exact ⟨0, by omega, val_int HA0.out, H0.out, ⟨rfl, rfl⟩⟩
  case round =>
    obtain ⟨k, hk, rfl, hJs, hnx⟩ := hrel
    have hc1 : wr.cell? ⟨Bs, 0, none⟩ = some (.string s) := (hnx.cell1 0).trans HCS.out
    have HB1 := Lib.hid (HCP.out.of hnx)
    obtain ⟨q0, q1, q2, q3, q4, q5⟩ := HB1.out
    have hb1 := cell_lt' hc1
    have hb2 := cell_lt' q0
    have hal := HAL.out k
    have hJs2 := Lib.hid hJs
    have HNk := Lib.hid (fun V => HN.out k V)
    have HAKk := Lib.hid (HAK.out k)
    have hpl : posE jb sy s k ≤ s.size := by rw [← HAKk.out]; exact HAL.out (k + 1)
    have HLk := Lib.hid (HLE.out k).symm
    have HBL : Hid (∀ w2, Below wr.heap.size wr w2 → J (List.range k) w2 ∧ w2.cell? ⟨Bs, 0, none⟩ = some (.string s) ∧ KeepsTwo Bs Bp W w2) := fun w2 hB =>
      ⟨HJ.out _ wr w2 none hJs2.out (grown_below hB) (fun r e => by cases e), (hB.block Bs hb1 |> fun h => (World.cell?_of_block h).trans hc1), hnx.trans (KeepsTwo.below hb1 hb2 hB)⟩
    clear hJs
    gi_wp2_with fail
    refine ⟨trivial, fun _ => by omega, ?_⟩
    refine (callsIn_wide.2 (HNk.out _)).mono ?_
    rintro e w2 ⟨rfl, hB2⟩
    obtain ⟨hJ3, hc3, hn3⟩ := HBL.out _ hB2
    obtain ⟨fn, tmps, assign, body, hy, hR⟩ := HY.out (List.range k) k w2 hJ3 (by simp; omega)
    rw [HLE.out k] at hy
    gi_wp2_with fail
    refine ⟨fun _ => by omega, ?_⟩
    refine hR.mono ?_
    rintro e W3 (⟨rfl, hJ4, hk4⟩ | ⟨rfl, hJx4⟩)
    · have hc5 : W3.cell? ⟨Bs, 0, none⟩ = some (.string s) := (hk4.cell1 0).trans hc3
      by_cases hkL : k + 1 < L
      · have hlt := (HT.out k).1 hkL
        have hup := HUP.out k hkL
        have g0 : ((posE jb sy s k : Int) == (s.size : Int)) = false := by rw [beq_eq_false_iff_ne]; omega
        gi_wp2_with fail
        refine ⟨⟨k + 1, hkL, by rw [HAKk.out], by rw [List.range_succ]; exact hJ4, hn3.trans hk4⟩, by simp [intOf]; omega⟩
      · have hkL2 : k + 1 = L := by omega
        have heq := (HT.out k).2 hkL2
        have g0 : ((posE jb sy s k : Int) == (s.size : Int)) = true := by rw [heq]; simp
        have HKL := Lib.hid hkL2
        clear heq hkL2
        gi_wp2_with fail
        refine bodyPost_ret (results_none rfl _ _ _) rfl ?_
        exact ⟨⟨_, rfl⟩, .inl ⟨_, rfl, by rw [← HKL.out, List.range_succ]; exact hJ4⟩⟩
    · gi_wp2_with fail
      refine bodyPost_ret (results_none rfl _ _ _) rfl ?_
      exact ⟨⟨_, rfl⟩, .inr ⟨_, ⟨k + 1, by omega, (List.range_succ).symm⟩, hJx4⟩⟩

/-- bound.sizes: its arguments are boxed; the function value captures the boxes. -/
theorem sizes_in (n : Nat) (l wd jb ov : Int) (sy ck : Bool) (s : ByteArray) (w : World) :
    CallsIn Fence.wide n Try.prog 86 #[.agg #[.int .i64 l, .int .i64 wd, .int .i64 jb, .int .i64 ov, .bool sy, .bool ck], .string s] w fun e w' => e = .returned (.func (.func 101) #[] #[.pointer (some ⟨w.heap.size, 0, none⟩), .pointer (some ⟨w.heap.size + 1, 0, none⟩)]) ∧ w' = (w.alloc (.cells #[.int .i64 l, .int .i64 wd, .int .i64 jb, .int .i64 ov, .bool sy, .bool ck] 24)).alloc (.cells #[.string s] 9) := by
  refine callsIn_of_wp Try.func86 rfl trivial ?_ rfl
  simp only [Try.ntmps86, List.size_toArray, List.length_cons, List.length_nil, Nat.reduceAdd, Nat.reduceSub, Array.replicate_succ, Array.replicate_zero, List.push_toArray, List.append_toArray, List.nil_append, List.cons_append]
  gi_wp2
  go_ret
  exact ⟨rfl, rfl⟩

/-- What a loop over bound.sizes's value may count on. -/
theorem sizes_stops (n : Nat) (hn : 3 ≤ n) (Bs Bp : Nat) (l wd jb ov : Int) (sy ck : Bool) (s : ByteArray) (w : World) (hask : askE l wd jb ov s = 0) (hBs0 : Bs < w.heap.size) (hBp0 : Bp < w.heap.size) (hcs : w.cell? ⟨Bs, 0, none⟩ = some (.string s)) (hcp : ParBox w Bp l wd jb ov sy ck) :
    SeqStopsK Fence.wide n Try.prog 101 #[.pointer (some ⟨Bp, 0, none⟩), .pointer (some ⟨Bs, 0, none⟩)] (fun x : Nat => #[.int .i64 (lenE jb sy s x)]) (KeepsTwo Bs Bp)
      (fun ys => ys = List.range (jobsN jb sy s)) (fun pre => ∃ k, k ≤ jobsN jb sy s ∧ pre = List.range k) (jobsN jb sy s) w := fun lp J Jx W hW hJ _ hY h0 =>
  sizes1_in n hn lp Bs Bp l wd jb ov sy ck s hask J Jx W (Nat.lt_of_lt_of_le hBs0 hW.size) (Nat.lt_of_lt_of_le hBp0 hW.size) hJ hY ((hW.cell (p := ⟨Bs, 0, none⟩) hBs0).trans hcs) (hcp.keep hW hBp0) h0

end Go.Proofs.Ytfdbkpbgkpkckaa
