/- The statement cheesepresslaw34.RollRolls holds: for every input the law returns true, and the arguments read as before. -/
import Derived.Test.YtaofphifmgadjaaShell
import Derived.Test.YtaofphifmgadjaaRollKnown
import Derived.Test.YtaofphifmgadjaaRollMore
import Derived.Deep.QuietTactic
import Derived.BigQuiet
namespace Go.Proofs.Ytaofphifmgadjaa.rollRolls
open Go.ChangeShapes Go.WideShapes Go.ChangeAt Go.RowKit
open Go.ChangeMaps (open_string shut_string)
set_option linter.unusedVariables false
set_option maxRecDepth 100000

theorem max_len (s : ByteArray) : max (0 : Int) ((s.size : Int) - 15) = ((winsAll s).length : Int) := by rw [winsAll_len]; omega

theorem Roll_k (s : ByteArray) (j k p : Nat) (hk : k = j + 1) (hp : p = j + 16) (w : World) :
    Calls Try.prog 20 #[.int .u64 (winH s j), .int .u8 (sb s j), .int .u8 (sb s p)] w fun e w' => e = .returned (.int .u64 (winH s k)) ∧ w' = w := by
  refine (Roll_any (winH s j) (sb s j) (sb s p) w (winH_lo s j) (sb_lo s j) (sb_lo s p)).mono ?_
  rintro e w' ⟨rfl, rfl⟩
  subst hk hp
  exact ⟨ret_int (winH_succ s j), rfl⟩

set_option maxHeartbeats 4000000 in
theorem walk (s : ByteArray) (n m : Int) (w : World) (hs : s.size ≤ maxLen) (hn : -9223372036854775808 ≤ n ∧ n ≤ 9223372036854775807) (hm : -9223372036854775808 ≤ m ∧ m ≤ 9223372036854775807) :
    Calls Try.prog 5 #[.string s, .int .i64 n, .int .i64 m] w fun e w' => e = .returned (.bool true) ∧ Below w.heap.size w w' := by
  have hs' : s.size ≤ 9223372036854775807 := hs
  clear hs
  by_cases hl : 200 < s.size
  · go_enter Try.func5, Try.ntmps5
    go_wp2_with fail
    refine (known34_any _).mono ?_
    rintro e w1 ⟨rfl, hB⟩
    go_wp2
    go_ret
    exact ⟨rfl, hB⟩
  · obtain ⟨a, ha⟩ : ∃ a : Nat, modI n (s.size + 1) = a := ⟨(modI n (s.size + 1)).toNat, by have := modI_lo (n := n) (m := s.size + 1) (by omega); omega⟩
    have ha1 : a ≤ s.size := by have := modI_lo (n := n) (m := s.size + 1) (by omega); omega
    obtain ⟨b, hb⟩ : ∃ b : Nat, modI m (s.size - a + 1) = b := ⟨(modI m (s.size - a + 1)).toNat, by have := modI_lo (n := m) (m := s.size - a + 1) (by omega); omega⟩
    have hb1 : a + b ≤ s.size := by have := modI_lo (n := m) (m := s.size - a + 1) (by omega); omega
    have HA := Lib.hid ha
    have HB := Lib.hid hb
    have hsl : ∀ V, (Instr.slice 9 (.string s) (some (.int .i64 (a : Int))) (some (.int .i64 ((a : Int) + b))) none).run Try.prog V = .ok (.string (s.extract a (a + b))) V := fun V => by
      rw [run_slice_string (P := Try.prog) (w := V) 9 s .i64 .i64 (a : Int) ((a : Int) + b) Try.underlying9 (by omega) (by omega) (by omega)]
      rfl
    have HP := Lib.hid (wins_part s a b hb1)
    have hxs : (s.extract a (a + b)).size ≤ 1048576 := by rw [ByteArray.size_extract]; omega
    have HLX : Hid ((winsAll (s.extract a (a + b))).length = b - 15) := by rw [winsAll_len, ByteArray.size_extract]; simp only [Hid]; congr 1; omega
    generalize s.extract a (a + b) = X at *
    have hmx := max_len s
    have HMX : Hid (max (0 : Int) ((b : Int) - 15) = ((winsAll X).length : Int)) := by rw [HLX.out]; simp only [Hid]; omega
    have hb0 : (((winsAll s).length : Int) != ((winsAll s).length : Int)) = false := by simp
    clear ha hb
    have HL := Lib.hid (winsAll_len s)
    have HLs := Lib.hid hs'
    go_enter Try.func5, Try.ntmps5
    go_wp2_with fail
    refine (known34_any _).mono ?_
    rintro e w1 ⟨rfl, hB1⟩
    go_wp2_with fail
    refine (All_any2 s _ (by omega)).mono ?_
    rintro e w2 ⟨A, c, rfl, hsA, hB2, hc⟩
    go_wp2_with fail
    all_goals (
      go_loopw [10] (fun i wr => ∃ k : Nat, 1 ≤ k ∧ (k ≤ (winsAll s).length ∨ k = 1) ∧ i = .int .i64 k ∧ Below w2.heap.size w2 wr) (fun i _ => (winsAll s).length - (intOf i).toNat)
      case atStart => exact ⟨1, Nat.le_refl _, .inr rfl, rfl, Below.refl _ _⟩
      case round =>
        obtain ⟨k, hk1, hk2, rfl, hw⟩ := hrel
        by_cases hlt : k < (winsAll s).length
        · obtain ⟨j, hj⟩ : ∃ j, k = j + 1 := ⟨k - 1, by omega⟩
          obtain ⟨p, hp⟩ : ∃ p, p = j + 16 := ⟨_, rfl⟩
          have hlen := HL.out
          have hjl : j < (winsAll s).length := by omega
          obtain ⟨b1, off, x, rfl, hx, hcx⟩ := (hsA.below hw).get hjl
          obtain ⟨b2, off2, y, he, hy, hcy⟩ := (hsA.below hw).get hlt
          injection he with he
          injection he with h1 h2 _
          subst h1 h2
          rw [winsAll_get s j (by omega)] at hx
          rw [winsAll_get s k (by omega)] at hy
          injection hx with hx
          injection hy with hy
          subst hx hy
          have q1 : IntKind.i64.wrap ((k : Int) - 1) = (j : Int) := by rw [IntWalk.i64_in _ (by omega)]; omega
          have q2 : IntKind.i64.wrap ((k : Int) + 15) = (p : Int) := by rw [IntWalk.i64_in _ (by omega)]; omega
          have i1 := run_index_sb (P := Try.prog) Try.underlying9 s j (by omega)
          have i2 := run_index_sb (P := Try.prog) Try.underlying9 s p (by omega)
          have g1 : (0 : Int) ≤ (j : Int) := by omega
          have g2 : (j : Int) < ((winsAll s).length : Int) := by omega
          have g3 : (0 : Int) ≤ (k : Int) := by omega
          have g4 : (k : Int) < ((winsAll s).length : Int) := by omega
          have HR := Lib.hid (fun W => Roll_k s j k p hj hp W)
          have hne : (winH s k != winH s k) = false := by simp
          generalize winH s j = H1 at *
          generalize winH s k = H2 at *
          generalize sb s j = S1 at *
          generalize sb s p = S2 at *
          have HJ := Lib.hid hj
          clear hj hp hlen
          go_wp2
          go_quiet (first | (go_at_call 20; refine Calls.quiet_of_same (HR.out _)))
          go_wp2
          go_roundw
          case rel => exact ⟨k + 1, by omega, .inl (by omega), by go_num, ⟨hw.os, hw.tape, hw.output, hw.size, hw.block⟩⟩
          case measure => simp [intOf]; omega
        · have hlen := HL.out
          have hlx := HLX.out
          have HLT := Lib.hid hlen
          have hpt : Hid (a + (winsAll X).length ≤ (winsAll s).length ∨ (winsAll X).length = 0) := by simp only [Hid]; omega
          clear hlen hlx
          go_wp2_with fail
          refine (Mod_any n _ _ hn.1 hn.2 (by omega)).mono ?_
          rintro e w3 ⟨rfl, rfl⟩
          rw [HA.out]
          go_wp2_with fail
          refine (Mod_any m _ _ hm.1 hm.2 (by omega)).mono ?_
          rintro e w3 ⟨rfl, rfl⟩
          rw [HB.out]
          go_wp2_with fail
          refine (All_any2 X _ hxs).mono ?_
          rintro e w5 ⟨A2, c2, rfl, hsX, hB5, _⟩
          have hBB : Below w.heap.size w w5 := below_then (below_then (below_then hB1 hB2) hw) hB5
          clear hmx hsl hB1 hB2
          generalize winsAll X = xs at *
          generalize winsAll s = ys at *
          by_cases hz : xs.length = 0
          · have hb15 : b ≤ 15 := by have := HLX.out; omega
            go_wp2_with fail
            go_ret
            exact ⟨rfl, hBB⟩
          · have hb15 : 15 < b := by have := HLX.out; omega
            by_cases h15 : s.size ≤ 15
            · exfalso; omega
            have hz1 : ((xs.length : Int) == 0) = false := beq_false_of_ne (by omega)
            have hz2 : ((xs.length : Int) == (b : Int) - 15) = true := by have := HLX.out; simp; omega
            obtain ⟨A3, c3, hsl3, hs3⟩ := slice_part (P := Try.prog) (t := 32) Try.underlying32 (fun _ => by kernel_rfl) ((hsA.below hw).below (hB5.mono hw.size)) a xs.length c (by have := hpt.out; omega) hc
            rw [HLX.out, HP.out] at hs3
            have hlx := HLX.out
            have hS := Lib.hid (fun W => same64_any A2 A3 xs xs c2 c3 w5.heap.size W)
            have hsum : a + xs.length ≤ 300 := by omega
            clear hlx hc
            go_wp2_with fail
            refine (same64_any A2 A3 xs xs c2 c3 w5.heap.size w5 hsX (hs3.more (by have := hw.size; have := hB5.size; omega)) (Nat.le_refl _) (by have := HLX.out; omega) (by have := HLX.out; omega)).mono ?_
            rintro e w6 ⟨rfl, hB6⟩
            rw [sameI_yes]
            go_wp2_with fail
            go_ret
            exact ⟨rfl, below_then hBB hB6⟩)

/-! The step from the walk to the statement: the shell's text. -/
set_option maxRecDepth 100000 in
theorem lifted (os : Os) (started : os.Started) (H : Type) (enc : TypeId × Value → H) :
    ReturnsInHanded {} Try.checked os 5 .any (Rows.rollRollsSpec.pre6 enc Try.prog Try.f5 Rows.rollRollsRow.domain false) (Rows.rollRollsSpec.post enc Try.prog Try.f5 false true false false) := by
  refine returnsInHanded_of_change (C := Try.checked) own started (by kernel_rfl) Try.func5
    (ChangeSpec.witness6 (enc := enc) (C := Try.checked) false ⟨#[], #[.string ByteArray.empty, .int .i64 0, .int .i64 0], []⟩ 8 (by kernel_rfl) (by kernel_rfl) (by kernel_rfl) (by kernel_rfl)) ?_
  intro W base args ds gs before hval0 hW hcnd _
  have hval : ∀ (j : Nat) t v, Try.f5.params[j]? = some t → args[j]? = some v → Value.okWide Try.prog W .any base t v := hval0
  have hW' := hW
  obtain ⟨p, q, hA0, hV, rfl, hfz, hnd⟩ := hW
  have hA : DataW.TrodAll enc Try.prog W 0 (fun _ => true) true Try.f5.params.toList args.toList ds p := hA0
  rw [Try.params5] at hA hval
  obtain ⟨v0, vs0, d0, ds0, p0, q0, hargs, rfl, rfl, h0, r0⟩ := trodAll_cons hA
  obtain ⟨v1, vs1, d1, ds1, p1, q1, rfl, rfl, rfl, h1, r1⟩ := trodAll_cons r0
  obtain ⟨v2, vs2, d2, ds2, p2, q2, rfl, rfl, rfl, h2, r2⟩ := trodAll_cons r1
  obtain ⟨rfl, rfl, rfl⟩ := trodAll_nil r2
  obtain rfl : args = #[v0, v1, v2] := by cases args; simp_all
  obtain ⟨rfl, rfl⟩ := trodVars_none hV
  obtain ⟨a0, rfl, rfl, rfl, w0⟩ := open_string Try.underlying9 (hval 0 9 v0 rfl rfl) h0
  obtain ⟨a1, rfl, rfl, rfl, w1⟩ := open_int Try.underlying3 (hval 1 3 v1 rfl rfl) h1
  obtain ⟨a2, rfl, rfl, rfl, w2⟩ := open_int Try.underlying3 (hval 2 3 v2 rfl rfl) h2
  clear hA0 hval0
  refine (walk a0 a1 a2 W w0 (bounds_i64 w1) (bounds_i64 w2)).mono fun e W' ⟨he, bel⟩ => ?_
  subst he
  exact ⟨_, rfl, _, _, _, [], _, [], hW', trodAll_mk1 (shut_bool Try.underlying4 _), (trodAll_cons_mk (shut_string Try.underlying9 w0) (trodAll_cons_mk (shut_int Try.underlying3 w1) (trodAll_cons_mk (shut_int Try.underlying3 w2) trodAll_mk0))), rfl, bel.frame _, fun h => by cases h⟩

theorem over : Rows.rollRollsRow.holds Try.pinned (OpenSpec.ofChange Rows.rollRollsSpec) :=
  OpenClaim.holds_of_wide 5 Try.f5 rfl rfl rfl rfl rfl rfl rfl ⟨rfl, rfl, rfl, rfl, rfl⟩ rfl rfl rfl rfl rfl (by kernel_rfl) Try.func5 (by kernel_rfl)
    (of_decide_eq_true (by kernel_rfl)) (by unfold Func.isWrapper; first | (rw [if_pos (by decide +kernel)]; kernel_rfl) | (rw [if_neg (by decide +kernel)]; exact ⟨rfl, rfl⟩))
    (fun os started H enc _ => lifted os started H enc)

/-- The statement. -/
theorem proved : Rows.RollRollsSaid := over
#print axioms proved
end Go.Proofs.Ytaofphifmgadjaa.rollRolls
