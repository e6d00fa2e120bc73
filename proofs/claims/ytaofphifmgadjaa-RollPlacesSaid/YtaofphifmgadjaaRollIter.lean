/-
  The walk of roll.hashes and of the function that it hands back: an iterator over places and hashes.
-/
import Derived.Test.YtaofphifmgadjaaRollHash
import Derived.Test.YtaofphifmgadjaaStr
import Derived.RangeFuncNested
import Derived.RangeFuncBound
import Derived.RangeFuncCalls
import Derived.RangeFuncLeaves
import Derived.RangeFuncBox
import Derived.Shelf.Abstract
import Derived.OwnWalkIn
import Derived.TacticsInMore
import Derived.LoopNIn
import Derived.LoopIn
import Derived.Sort.QuietIn
namespace Go.Proofs.Ytaofphifmgadjaa
open Go.RowKit Go.Shelf
set_option linter.unusedVariables false
set_option maxRecDepth 100000
attribute [local go_sem] Oper.semAt_some

/-- The hash of the sixteen bytes from p on. -/
def winH (s : ByteArray) (p : Nat) : Int := hashF (fun i => sb s (p + i)) 16
theorem winH_lo (s : ByteArray) (p : Nat) : 0 ≤ winH s p ∧ winH s p ≤ 18446744073709551615 := hashF_lo _ _
theorem winH_zero (s : ByteArray) : winH s 0 = hashF (sb s) 16 := hashF_congr fun i _ => by rw [Nat.zero_add]

theorem winH_succ (s : ByteArray) (p : Nat) : rollV (winH s p) (sb s p) (sb s (p + 16)) = winH s (p + 1) := by
  have := roll_rolls (fun i => sb s (p + i))
  unfold winH
  rw [Nat.add_zero] at this
  rw [this]
  exact hashF_congr fun i _ => by rw [show p + (i + 1) = p + 1 + i by omega]

/-- The next hash, as the iterator reckons it. -/
theorem win_step (s : ByteArray) (p : Nat) : IntKind.u64.wrap (IntKind.u64.wrap (IntKind.u64.wrap (IntKind.u64.wrap (winH s p - IntKind.u64.wrap ((sb s p + 1) * mulp 15)) * 11400714819323198485) + sb s (p + 16)) + 1) = winH s (p + 1) := by
  have hb := sb_lo s p
  have := roll_prog (winH s p) (sb s p) (sb s (p + 16))
  unfold rollW at this
  rw [IntWalk.u64_in (sb s p + 1) (by omega), winH_succ] at this
  exact this

theorem sb_extract0 (s : ByteArray) (n i : Nat) (hi : i < n) (hn : n ≤ s.size) : sb (s.extract 0 n) i = sb s i := by
  have h1 : i < (s.extract 0 n).size := by rw [ByteArray.size_extract]; omega
  have h2 : i < s.size := by omega
  rw [← sb_get _ i h1, ← sb_get _ i h2, ByteArray.getElem_extract]
  simp

theorem grown_of_below {W W' : World} (h : Below W.heap.size W W') : W.grownBy W' none := ⟨h.os, h.tape, h.output, h.size, fun k hk _ => h.block k hk⟩

theorem run_index_sb {P : Program} {t : TypeId} (ht : P.underlying t = some .string) (s : ByteArray) (i : Nat) (hi : i < s.size) : ∀ w, (Instr.index t (.string s) (.int .i64 (i : Int))).run P w = .ok (.int .u8 (sb s i)) w := fun w => by
  rw [run_index_string w t s .i64 i ht, dif_pos (by omega)]
  simp only [Int.toNat_natCast]
  rw [sb_get s i hi]

section
variable {F : Fence} {P : Program}
theorem wpListIn_load_arr {nn : Nat} {ops : Array Oper} {rest : List Oper} {o : Oper} {a : Act} {w : World} {Q : Exit → Act → World → Prop} (hgd : o.guard = none) (ty : TypeId) (x : Operand) (ho : o.op = .load ty x)
    (e : TypeId) (n : Nat) (ad : Addr) (hx : a.eval x = .pointer (some ad)) (cs : Array Value) (hu : P.underlying ty = some (.array n e)) (hi : (P.info? ty).map (·.size) = some cs.size)
    (hc : ∀ (j : Nat) (v : Value), cs[j]? = some v → w.cell? (ad.add j) = some v)
    (h : wpListIn F nn P ops Q rest (a.put o.dst (.agg cs)) w) : wpListIn F nn P ops Q (o :: rest) a w := by
  refine wpListIn_plain hgd fun K hK => ?_
  unfold Oper.wpIn
  refine ⟨?_, ?_⟩
  · simp [Oper.about, ho]
  · rw [Oper.semAt_plain F _ _ (by rw [ho]; intro c hc'; cases hc')]
    simp [execOp, ho, hx, Instr.loadAt, Instr.sureAddr, Result.andThen_ok, run_loadVar_arr w ty e n ad cs hu hi hc]
    exact hK _ _ h
end

/-- A round of the loop leaves the block of the captured string alone. -/
def KeepsBox (b : Nat) (W W' : World) : Prop := W'.heap[b]? = W.heap[b]?
theorem KeepsBox.trans {b : Nat} {A B C : World} (h : KeepsBox b A B) (k : KeepsBox b B C) : KeepsBox b A C := Eq.trans k h
theorem KeepsBox.cell {b : Nat} {W W' : World} (h : KeepsBox b W W') (i : Nat) : W'.cell? ⟨b, i, none⟩ = W.cell? ⟨b, i, none⟩ := World.cell?_of_block h
theorem KeepsBox.put {b : Nat} {w : World} (hb : b < w.heap.size) (W : World) (l : Nat) (o o' : Obj) (hl : w.heap.size ≤ l) (_ : W.heap[l]? = some o) (_ : o.isCells = false) (_ : o.isWalk = false) : KeepsBox b W (W.putObj l o') :=
  World.putObj_heap_other (by omega)

set_option maxHeartbeats 2000000 in
theorem hashes1_in (n : Nat) (hn : 3 ≤ n) (l Bn : Nat) (s : ByteArray) (hs : s.size ≤ 9223372036854775000) (J Jx : List Nat → World → Prop) (W : World) (hBn0 : Bn < W.heap.size)
    (hJ : AbidesFrom W.heap.size J)
    (hY : ∀ (pre : List Nat) (x : Nat) (W1 : World), J pre W1 → pre.length < s.size - 15 → YieldAt Fence.wide (n - 1) Try.prog l #[.int .i64 (16 + (x : Int)), .int .u64 (winH s x)] W1 fun e W' =>
      (e = .returned (.bool true) ∧ J (pre ++ [x]) W' ∧ KeepsBox Bn W1 W') ∨ (e = .returned (.bool false) ∧ Jx (pre ++ [x]) W'))
    (hBn : W.cell? ⟨Bn, 0, none⟩ = some (.string s)) (h0 : J [] W) :
    CallsIn Fence.wide n Try.prog 70 #[.func (.yield l) #[] #[], .pointer (some ⟨Bn, 0, none⟩)] W fun e W' => (∃ v, e = .returned v) ∧
      ((∃ ys, ys = List.range (s.size - 15) ∧ J ys W') ∨ (∃ pre, (∃ k, k ≤ s.size - 15 ∧ pre = List.range k) ∧ Jx pre W')) := by
  refine callsIn_of_wp Try.func70 rfl trivial ?_ rfl
  simp only [Try.ntmps70, List.size_toArray, List.length_cons, List.length_nil, Nat.reduceAdd, Nat.reduceSub, Array.replicate_succ, Array.replicate_zero, List.push_toArray, List.append_toArray, List.nil_append, List.cons_append]
  by_cases h16 : s.size < 16
  · have h16' : ((s.size : Int) < 16) := by omega
    have e0 : s.size - 15 = 0 := by omega
    have E0 := Lib.hid e0
    clear e0
    gi_wp2
    refine bodyPost_ret (results_none rfl _ _ _) rfl ?_
    exact ⟨⟨_, rfl⟩, .inl ⟨[], by rw [E0.out]; rfl, h0⟩⟩
  · have h16' : ¬ ((s.size : Int) < 16) := by omega
    -- what the conversion of the first sixteen bytes gives
    obtain ⟨s16, hs16⟩ : ∃ x, x = s.extract 0 16 := ⟨_, rfl⟩
    have hz16 : s16.size = 16 := by rw [hs16, ByteArray.size_extract]; omega
    have hb16 : ∀ i, i < 16 → sb s16 i = sb s i := fun i hi => by rw [hs16]; exact sb_extract0 s 16 i hi (by omega)
    have hcv := Lib.run_convert_string_bytes (P := Try.prog) W 9 39 5 s16 Try.underlying9 Try.underlying39 Try.underlying5
    have hcell : ∀ j, j < 16 → (Lib.bytesWorld W 5 s16).cell? ⟨W.heap.size, j, none⟩ = some (.int .u8 (sb s j)) := fun j hj => by
      rw [← hb16 j hj]; exact Lib.bytesWorld_cell W 5 s16 j (by omega)
    have hB := below_bytesWorld W 5 s16
    rw [hz16] at hcv
    have hsl : ∀ V, (Instr.slice 9 (.string s) none (some (.int .i64 16)) none).run Try.prog V = .ok (.string s16) V := fun V => by
      have := run_slice_string_to_if (P := Try.prog) V 9 s .i64 16 Try.underlying9
      rw [this, hs16]
      simp
      omega
    clear hb16 hz16 hs16
    generalize grownCap W 16 0 5 = C at *
    generalize Lib.bytesWorld W 5 s16 = W1 at *
    have har := run_arrayAt (P := Try.prog) W1 70 5 16 (some ⟨W.heap.size, 0, none⟩) 16 C Try.underlying70 (Nat.le_refl _)
    have HSZ : Hid ((Try.prog.info? 70).map (·.size) = some (arr16 (sb s)).size) := by rw [arr16_size]; exact Try.sizeLast
    have HC : Hid (∀ (j : Nat) (v : Value), (arr16 (sb s))[j]? = some v → W1.cell? ((⟨W.heap.size, 0, none⟩ : Addr).add j) = some v) := by
      intro j v hv
      have hp : (⟨W.heap.size, 0, none⟩ : Addr).add j = ⟨W.heap.size, j, none⟩ := by unfold Addr.add; split <;> simp_all
      have hj : j < 16 := by
        rcases Nat.lt_or_ge j 16 with h | h
        · exact h
        · rw [Array.getElem?_eq_none (by rw [arr16_size]; exact h)] at hv; cases hv
      rw [arr16_get _ _ hj] at hv
      rw [hp, hcell j hj]
      exact hv
    have HY := Lib.hid hY
    have HJ := Lib.hid hJ
    clear hcell hY hJ
    gi_wp2_with fail
    refine ⟨trivial, fun _ => by omega, ?_⟩
    refine (callsIn_wide.2 (power_any _)).mono ?_
    rintro e w1 ⟨rfl, rfl⟩
    gi_wp2_with (refine wpListIn_load_arr rfl 70 _ rfl 5 16 ⟨W.heap.size, 0, none⟩ rfl (arr16 (sb s)) Try.underlying70 HSZ.out HC.out ?_)
    refine ⟨trivial, fun _ => by omega, ?_⟩
    refine (callsIn_wide.2 (hash_any (sb s) _ (fun i _ => sb_lo s i))).mono ?_
    rintro e W2 ⟨rfl, hB2⟩
    rw [← winH_zero]
    have hW2 : Below W.heap.size W W2 := below_then hB hB2
    have hJ2 : J [] W2 := HJ.out [] W W2 none h0 (grown_of_below hW2) (fun r e => by cases e)
    have hBn2 : W2.cell? ⟨Bn, 0, none⟩ = some (.string s) := (hW2.cell (p := ⟨Bn, 0, none⟩) hBn0).trans hBn
    have hsz2 : W.heap.size ≤ W2.heap.size := hW2.size
    clear hcv har HSZ HC hB hB2 hW2 h0 hBn hsl
    gi_wp2_with fail
    gi_loopw [4, 5] (fun h p wr => ∃ k : Nat, k ≤ s.size - 16 ∧ p = .int .i64 (16 + (k : Int)) ∧ h = .int .u64 (winH s k) ∧ J (List.range k) wr ∧ KeepsBox Bn W2 wr)
      (fun _ p _ => s.size - (intOf p).toNat)
    case atStart => exact ⟨0, Nat.zero_le _, rfl, rfl, hJ2, rfl⟩
    case round =>
      obtain ⟨k, hk, rfl, rfl, hJs, hnx⟩ := hrel
      have hcx : wr.cell? ⟨Bn, 0, none⟩ = some (.string s) := (hnx.cell 0).trans hBn2
      obtain ⟨fn, tmps, assign, body, hy, hR⟩ := HY.out (List.range k) k wr hJs (by simp; omega)
      have GX := Lib.hid (sb_get s k (by omega))
      have bx := sb_lo s k
      by_cases hend : k = s.size - 16
      · have e1 : ((16 : Int) + (k : Int) == (s.size : Int)) = true := by simp; omega
        have HE := Lib.hid hend
        clear hend
        gi_wp2_with fail
        refine ⟨fun _ => by omega, ?_⟩
        refine hR.mono ?_
        rintro e W3 (⟨rfl, hJ3, hk3⟩ | ⟨rfl, hJx3⟩)
        · have hcx3 : W3.cell? ⟨Bn, 0, none⟩ = some (.string s) := (hk3.cell 0).trans hcx
          gi_wp2_with fail
          refine bodyPost_ret (results_none rfl _ _ _) rfl ?_
          exact ⟨⟨_, rfl⟩, .inl ⟨_, by rw [← List.range_succ, HE.out]; congr 1; omega, hJ3⟩⟩
        · gi_wp2_with fail
          refine bodyPost_ret (results_none rfl _ _ _) rfl ?_
          exact ⟨⟨_, rfl⟩, .inr ⟨_, ⟨k + 1, by omega, (List.range_succ).symm⟩, hJx3⟩⟩
      · have e1 : ((16 : Int) + (k : Int) == (s.size : Int)) = false := by simp; omega
        have g1 : (k : Int) < (s.size : Int) := by omega
        have g2 : (16 : Int) + (k : Int) < (s.size : Int) := by omega
        have g3 : (0 : Int) ≤ (16 : Int) + (k : Int) := by omega
        have g0 : (0 : Int) ≤ (k : Int) := by omega
        have hi1 := run_index_sb (P := Try.prog) Try.underlying9 s k (by omega)
        have hi2 := run_index_sb (P := Try.prog) Try.underlying9 s (k + 16) (by omega)
        rw [show ((k + 16 : Nat) : Int) = (16 : Int) + (k : Int) by omega] at hi2
        have w1' : IntKind.i64.wrap ((16 : Int) + (k : Int) - 16) = (k : Int) := by rw [IntWalk.i64_in _ (by omega)]; omega
        have w2' : IntKind.u64.wrap (sb s k) = sb s k := IntWalk.u64_in _ (by omega)
        have w3' : IntKind.u64.wrap (sb s k + 1) = sb s k + 1 := IntWalk.u64_in _ (by omega)
        have by_ := sb_lo s (k + 16)
        have w4' : IntKind.u64.wrap (sb s (k + 16)) = sb s (k + 16) := IntWalk.u64_in _ (by omega)
        have HW := Lib.hid (win_step s k)
        clear hend
        gi_wp2_with fail
        refine ⟨fun _ => by omega, ?_⟩
        refine hR.mono ?_
        rintro e W3 (⟨rfl, hJ3, hk3⟩ | ⟨rfl, hJx3⟩)
        · have hcx3 : W3.cell? ⟨Bn, 0, none⟩ = some (.string s) := (hk3.cell 0).trans hcx
          gi_wp2_with fail
          gi_quiet (fail)
          gi_wp2_with fail
          refine ⟨⟨k + 1, by omega, by go_num, val_int HW.out, ?_, hnx.trans hk3⟩, by simp [intOf]; omega⟩
          rw [List.range_succ]
          exact HJ.out _ W3 (W3.drewN nq) none hJ3 ⟨rfl, rfl, rfl, Nat.le_refl _, fun _ _ _ => rfl⟩ (fun r e => by cases e)
        · gi_wp2_with fail
          refine bodyPost_ret (results_none rfl _ _ _) rfl ?_
          exact ⟨⟨_, rfl⟩, .inr ⟨_, ⟨k + 1, by omega, (List.range_succ).symm⟩, hJx3⟩⟩

/-- roll.hashes: its argument is boxed; the function value captures the box. -/
theorem hashes_in (n : Nat) (s : ByteArray) (w : World) :
    CallsIn Fence.wide n Try.prog 56 #[.string s] w fun e w' => e = .returned (.func (.func 70) #[] #[.pointer (some ⟨w.heap.size, 0, none⟩)]) ∧ w' = w.alloc (.cells #[.string s] 9) := by
  refine callsIn_of_wp Try.func56 rfl trivial ?_ rfl
  simp only [Try.ntmps56, List.size_toArray, List.length_cons, List.length_nil, Nat.reduceAdd, Nat.reduceSub, Array.replicate_succ, Array.replicate_zero, List.push_toArray, List.append_toArray, List.nil_append, List.cons_append]
  gi_wp2
  go_ret
  exact ⟨rfl, rfl⟩

/-- What a loop over roll.hashes's value may count on. -/
theorem hashes_stops (n : Nat) (hn : 3 ≤ n) (Bn : Nat) (s : ByteArray) (w : World) (hs : s.size ≤ 9223372036854775000) (hBn0 : Bn < w.heap.size) (hc : w.cell? ⟨Bn, 0, none⟩ = some (.string s)) :
    SeqStopsK Fence.wide n Try.prog 70 #[.pointer (some ⟨Bn, 0, none⟩)] (fun x : Nat => #[.int .i64 (16 + (x : Int)), .int .u64 (winH s x)]) (KeepsBox Bn)
      (fun ys => ys = List.range (s.size - 15)) (fun pre => ∃ k, k ≤ s.size - 15 ∧ pre = List.range k) (s.size - 15) w := fun l J Jx W hW hJ _ hY h0 =>
  hashes1_in n hn l Bn s hs J Jx W (Nat.lt_of_lt_of_le hBn0 hW.size) hJ hY ((hW.cell (p := ⟨Bn, 0, none⟩) hBn0).trans hc) h0

end Go.Proofs.Ytaofphifmgadjaa
