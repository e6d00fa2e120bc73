/-
  The walks of sizes.plain and sizes.content.
-/
import Derived.Test.YtfdbkpbgkpkckaaCutMath
import Derived.Test.YtfdbkpbgkpkckaaStr
import Derived.WalkMore
import Derived.Deep.QuietTactic
import Derived.BigQuiet
namespace Go.Proofs.Ytfdbkpbgkpkckaa
open Go.RowKit
set_option linter.unusedVariables false
set_option maxRecDepth 100000

theorem below_fresh {w : World} (o : Obj) : Below w.heap.size w (w.alloc o) := (Below.refl _ _).alloc (Nat.le_refl _) _
theorem plain_any (least most bits : Int) (u : ByteArray) (w : World) (hu : u.size ≤ 9223372036854775807) :
    Calls Try.prog 115 #[.agg #[.int .i64 least, .int .i64 most, .int .i64 bits], .string u] w fun e w' => e = .returned (.int .i64 (if most ≤ (u.size : Int) then most else 0)) ∧ Below w.heap.size w w' := by
  by_cases h : most ≤ (u.size : Int)
  · have HR : Hid ((if most ≤ (u.size : Int) then most else 0) = most) := if_pos h
    go_enter Try.func115, Try.ntmps115
    go_wp2
    go_ret
    exact ⟨ret_int rfl, below_fresh _⟩
  · go_enter Try.func115, Try.ntmps115
    go_wp2
    go_ret
    exact ⟨ret_int rfl, below_fresh _⟩

theorem run_index_at {P : Program} {t : TypeId} (ht : P.underlying t = some .string) (s : ByteArray) (i : Nat) (hi : i < s.size) : ∀ w, (Instr.index t (.string s) (.int .i64 (i : Int))).run P w = .ok (.int .u8 (sb s i)) w := fun w => by
  rw [run_index_string w t s .i64 i ht, dif_pos (by omega)]
  simp only [Int.toNat_natCast]
  rw [sb_get s i hi]

/-- The hash at n bytes. -/
def hAt (u : ByteArray) (k : Nat) : Int := if k < 16 then 0 else winC u (k - 16)
theorem hAt_lo (u : ByteArray) (k : Nat) : 0 ≤ hAt u k ∧ hAt u k ≤ 18446744073709551615 := by
  unfold hAt; split
  · omega
  · exact winC_lo _ _
def Before (least most bits : Int) (u : ByteArray) (k : Nat) : Prop := ∀ i, 1 ≤ i → i ≤ k → fC least most bits u i = false
theorem Before.more {least most bits : Int} {u : ByteArray} {k : Nat} (h : Before least most bits u k) (hf : fC least most bits u (k + 1) = false) : Before least most bits u (k + 1) := fun i h1 h2 => by
  rcases Nat.lt_or_ge k i with hh | hh
  · obtain rfl : i = k + 1 := by omega
    exact hf
  · exact h i h1 hh
theorem fC_low {least most bits : Int} {u : ByteArray} {n : Nat} (h : (n : Int) < least) : fC least most bits u n = false := by
  unfold fC; rw [decide_eq_false (by omega)]; rfl
theorem fC_no {least most bits : Int} {u : ByteArray} {n : Nat} (h1 : hitsV (winC u (n - 16)) bits = false) (h2 : (n : Int) ≠ most) : fC least most bits u n = false := by
  unfold fC; rw [h1, decide_eq_false h2]; simp
theorem fC_yes {least most bits : Int} {u : ByteArray} {n : Nat} (h : least ≤ (n : Int)) (h1 : hitsV (winC u (n - 16)) bits = true ∨ (n : Int) = most) : fC least most bits u n = true := by
  unfold fC
  rw [decide_eq_true h]
  rcases h1 with h1 | h1
  · rw [h1]; rfl
  · rw [decide_eq_true h1]; simp

set_option maxHeartbeats 8000000 in
theorem content_any (least most bits : Int) (u : ByteArray) (w : World) (hu : u.size ≤ 100000000) (hl : 16 ≤ least ∧ least ≤ 100000000) (hm : 0 ≤ most ∧ most ≤ 100000000) (hb : 1 ≤ bits ∧ bits ≤ 32) :
    Calls Try.prog 116 #[.agg #[.int .i64 least, .int .i64 most, .int .i64 bits], .string u] w fun e w' => e = .returned (.int .i64 (firstN (fC least most bits u) u.size)) ∧ Below w.heap.size w w' := by
  have hB0 := below_fresh (w := w) (.cells #[.int .i64 least, .int .i64 most, .int .i64 bits] 128)
  have HP : Hid (∀ V, Below (w.alloc (.cells #[.int .i64 least, .int .i64 most, .int .i64 bits] 128)).heap.size (w.alloc (.cells #[.int .i64 least, .int .i64 most, .int .i64 bits] 128)) V → V.cell? ⟨w.heap.size, 0, none⟩ = some (.int .i64 least) ∧ V.cell? ⟨w.heap.size, 1, none⟩ = some (.int .i64 most) ∧ V.cell? ⟨w.heap.size, 2, none⟩ = some (.int .i64 bits)) := fun V hV =>
    ⟨(hV.cell (p := ⟨w.heap.size, 0, none⟩) (by simp)).trans (World.cell?_alloc_at _ _ _ _ rfl), (hV.cell (p := ⟨w.heap.size, 1, none⟩) (by simp)).trans (World.cell?_alloc_at _ _ _ _ rfl), (hV.cell (p := ⟨w.heap.size, 2, none⟩) (by simp)).trans (World.cell?_alloc_at _ _ _ _ rfl)⟩
  have HB0 := Lib.hid hB0
  clear hB0
  go_enter Try.func116, Try.ntmps116
  go_wp2
  generalize hW0 : w.alloc (.cells #[.int .i64 least, .int .i64 most, .int .i64 bits] 128) = W0 at *
  clear hW0
  go_step3
  go_wp2
  go_step3
  go_wp2
  go_loopw [5, 6] (fun hv nv wr => ∃ k : Nat, k ≤ u.size ∧ nv = .int .i64 k ∧ hv = .int .u64 (hAt u k) ∧ Hid (Before least most bits u k) ∧ Below W0.heap.size W0 wr) (fun _ nv _ => u.size - (intOf nv).toNat)
  case atStart => exact ⟨0, Nat.zero_le _, rfl, rfl, fun i h1 h2 => by omega, Below.refl _ _⟩
  case round =>
    obtain ⟨k, hk, rfl, rfl, HF, hB⟩ := hrel
    obtain ⟨p0, p1, p2⟩ := HP.out _ hB
    by_cases hlt : k < u.size
    · have g0 : (k : Int) < (u.size : Int) := by omega
      by_cases h16 : k + 1 < 16
      · have g1 : (k : Int) + 1 < 16 := by omega
        have HE : Hid (hAt u k = hAt u (k + 1)) := by show _ = _; unfold hAt; rw [if_pos (by omega), if_pos (by omega)]
        have HL := Lib.hid (fC_low (most := most) (bits := bits) (u := u) (n := k + 1) (least := least) (by omega))
        go_wp2
        go_roundw
        case rel => exact ⟨k + 1, by omega, by go_num, by rw [HE.out], HF.out.more HL.out, hB⟩
        case measure => simp [intOf]; omega
      · by_cases e16 : k = 15
        · subst e16
          have HO := Lib.hid (fun W => Of_any (u.extract 0 16) W (by rw [ByteArray.size_extract]; omega))
          rw [show ofV (u.extract 0 16) = winC u 0 by have := of_win u 0 (by omega); rwa [Nat.zero_add] at this, (of_ok (s := u.extract 0 16) (by rw [ByteArray.size_extract]; omega)).2] at HO
          have HE : Hid (winC u 0 = hAt u (15 + 1)) := by show _ = _; unfold hAt; rw [if_neg (by omega)]
          have hH := winC_lo u 0
          have HT := Lib.hid (fun W => Hits_any (winC u 0) bits W hH)
          obtain ⟨H0, hH0⟩ : ∃ x, winC u 0 = x := ⟨_, rfl⟩
          rw [hH0] at HO HE hH HT
          have HEW : Hid (winC u (15 + 1 - 16) = H0) := by show _ = _; rw [show 15 + 1 - 16 = 0 from rfl]; exact hH0
          clear hH0
          by_cases c1 : (16 : Int) < least
          · have HL := Lib.hid (fC_low (most := most) (bits := bits) (u := u) (n := 15 + 1) (least := least) (by omega))
            go_wp2_with fail
            refine (HO.out _).mono ?_
            rintro e w8 ⟨rfl, hB8⟩
            have hB9 := below_then hB hB8
            obtain ⟨p0, p1, p2⟩ := HP.out _ hB9
            go_wp2
            go_roundw
            case rel => exact ⟨15 + 1, by omega, by first | rfl | go_num, by rw [HE.out], HF.out.more HL.out, hB9⟩
            case measure => simp [intOf]; omega
          · cases hh : hitsV H0 bits
            · by_cases c2 : (16 : Int) = most
              · have HL := Lib.hid (firstN_found (m := u.size) (n := 15 + 1) (by omega) (by omega) (fC_yes (least := least) (most := most) (bits := bits) (u := u) (by omega) (.inr (by omega))) (fun i a b => HF.out i a (by omega)))
                subst c2
                go_wp2_with fail
                refine (HO.out _).mono ?_
                rintro e w8 ⟨rfl, hB8⟩
                have hB9 := below_then hB hB8
                obtain ⟨p0, p1, p2⟩ := HP.out _ hB9
                go_wp2_with fail
                refine (HT.out _).mono ?_
                rintro e w9 ⟨rfl, rfl⟩
                rw [hh]
                go_wp2
                rw [Exit.noGoto_ret]
                go_ret
                exact ⟨ret_int (by rw [HL.out]; first | rfl | omega | (push_cast; omega)), below_then HB0.out hB9⟩
              · have q9 : ((16 : Int) == most) = false := by simpa using c2
                have HL := Lib.hid (fC_no (least := least) (most := most) (bits := bits) (u := u) (n := 15 + 1) (by rw [HEW.out]; exact hh) (by omega))
                go_wp2_with fail
                refine (HO.out _).mono ?_
                rintro e w8 ⟨rfl, hB8⟩
                have hB9 := below_then hB hB8
                obtain ⟨p0, p1, p2⟩ := HP.out _ hB9
                go_wp2_with fail
                refine (HT.out _).mono ?_
                rintro e w9 ⟨rfl, rfl⟩
                rw [hh]
                go_wp2
                go_roundw
                case rel => exact ⟨15 + 1, by omega, by first | rfl | go_num, by rw [HE.out], HF.out.more HL.out, hB9⟩
                case measure => simp [intOf]; omega
            · have HL := Lib.hid (firstN_found (m := u.size) (n := 15 + 1) (by omega) (by omega) (fC_yes (least := least) (most := most) (bits := bits) (u := u) (by omega) (.inl (by rw [HEW.out]; exact hh))) (fun i a b => HF.out i a (by omega)))
              go_wp2_with fail
              refine (HO.out _).mono ?_
              rintro e w8 ⟨rfl, hB8⟩
              have hB9 := below_then hB hB8
              obtain ⟨p0, p1, p2⟩ := HP.out _ hB9
              go_wp2_with fail
              refine (HT.out _).mono ?_
              rintro e w9 ⟨rfl, rfl⟩
              rw [hh]
              go_wp2
              rw [Exit.noGoto_ret]
              go_ret
              exact ⟨ret_int (by rw [HL.out]; first | rfl | omega | (push_cast; omega)), below_then HB0.out hB9⟩
        · obtain ⟨j, hj⟩ : ∃ j, k = j + 16 := ⟨k - 16, by omega⟩
          have HR : Hid (∀ W : World, Calls Try.prog 123 #[.int .u64 (hAt u k), .int .u8 (sb u j), .int .u8 (sb u k)] W fun e w' => e = .returned (.int .u64 (winC u (j + 1))) ∧ w' = W) := fun W => by
            have e1 : hAt u k = winC u j := by unfold hAt; rw [if_neg (by omega), show k - 16 = j by omega]
            have e2 := winC_succ u j
            rw [show j + 16 = k by omega] at e2
            rw [e1, ← e2]
            exact (Roll_any _ _ _ W (winC_lo _ _) (sb_lo _ _) (sb_lo _ _)).mono fun _ _ h => ⟨h.1, h.2.symm⟩
          have HE : Hid (winC u (j + 1) = hAt u (k + 1)) := by show _ = _; unfold hAt; rw [if_neg (by omega), show k + 1 - 16 = j + 1 by omega]
          have HEW : Hid (winC u (k + 1 - 16) = winC u (j + 1)) := by show _ = _; rw [show k + 1 - 16 = j + 1 by omega]
          have hH := winC_lo u (j + 1)
          have HT := Lib.hid (fun W => Hits_any (winC u (j + 1)) bits W hH)
          obtain ⟨j1, hj1⟩ : ∃ j1, j1 = j + 1 := ⟨_, rfl⟩
          have RR : Hid (IntKind.i64.wrap ((k : Int) + 1 - 16) = (j1 : Int) ∧ IntKind.i64.wrap ((k : Int) - 15) = (j1 : Int) ∧ IntKind.i64.wrap ((j1 : Int) - 1) = (j : Int) ∧ IntKind.i64.wrap ((k : Int) + 1 - 1) = (k : Int) ∧ IntKind.i64.wrap (k : Int) = (k : Int)) := by
            refine ⟨?_, ?_, ?_, ?_, ?_⟩ <;> (rw [IntWalk.i64_in _ (by omega)]; try omega)
          have i1 := run_index_at (P := Try.prog) Try.underlying9 u j (by omega)
          have i2 := run_index_at (P := Try.prog) Try.underlying9 u k (by omega)
          have e17 : (((k : Int) + 1) == 16) = false := by simp; omega
          have g17 : ¬ ((k : Int) + 1 < 16) := by omega
          have hA := hAt_lo u k
          have HJ := Lib.hid hj
          have HJ1 := Lib.hid hj1
          have hkj : 15 ≤ k := by omega
          clear hj hj1 e16 h16
          generalize winC u (j + 1) = H2 at *
          by_cases c1 : ((k : Int) + 1) < least
          · have HL := Lib.hid (fC_low (most := most) (bits := bits) (u := u) (n := k + 1) (least := least) (by omega))
            go_wp2_with fail
            obtain ⟨r1, r2, r3, r4, r5⟩ := RR.out
            go_quiet (first | (go_at_call 123; refine Calls.quiet_of_same (HR.out _)))
            clear r1 r2 r3 r4 r5
            have hB9 : Below W0.heap.size W0 (wr.drewN nq) := below_drewN hB nq
            obtain ⟨p0, p1, p2⟩ := HP.out _ hB9
            go_wp2
            go_roundw
            case rel => exact ⟨k + 1, by omega, by first | rfl | go_num, by rw [HE.out], HF.out.more HL.out, hB9⟩
            case measure => simp [intOf]; omega
          · cases hh : hitsV H2 bits
            · by_cases c2 : ((k : Int) + 1) = most
              · have HL := Lib.hid (firstN_found (m := u.size) (n := k + 1) (by omega) (by omega) (fC_yes (least := least) (most := most) (bits := bits) (u := u) (by omega) (.inr (by omega))) (fun i a b => HF.out i a (by omega)))
                subst c2
                go_wp2_with fail
                obtain ⟨r1, r2, r3, r4, r5⟩ := RR.out
                go_quiet (first | (go_at_call 123; refine Calls.quiet_of_same (HR.out _)))
                clear r1 r2 r3 r4 r5
                have hB9 : Below W0.heap.size W0 (wr.drewN nq) := below_drewN hB nq
                obtain ⟨p0, p1, p2⟩ := HP.out _ hB9
                go_wp2_with fail
                refine (HT.out _).mono ?_
                rintro e w9 ⟨rfl, rfl⟩
                rw [hh]
                go_wp2
                rw [Exit.noGoto_ret]
                go_ret
                exact ⟨ret_int (by rw [HL.out]; first | rfl | omega | (push_cast; omega)), below_then HB0.out hB9⟩
              · have q9 : (((k : Int) + 1) == most) = false := by simpa using c2
                have HL := Lib.hid (fC_no (least := least) (most := most) (bits := bits) (u := u) (n := k + 1) (by rw [HEW.out]; exact hh) (by omega))
                go_wp2_with fail
                obtain ⟨r1, r2, r3, r4, r5⟩ := RR.out
                go_quiet (first | (go_at_call 123; refine Calls.quiet_of_same (HR.out _)))
                clear r1 r2 r3 r4 r5
                have hB9 : Below W0.heap.size W0 (wr.drewN nq) := below_drewN hB nq
                obtain ⟨p0, p1, p2⟩ := HP.out _ hB9
                go_wp2_with fail
                refine (HT.out _).mono ?_
                rintro e w9 ⟨rfl, rfl⟩
                rw [hh]
                go_wp2
                go_roundw
                case rel => exact ⟨k + 1, by omega, by first | rfl | go_num, by rw [HE.out], HF.out.more HL.out, hB9⟩
                case measure => simp [intOf]; omega
            · have HL := Lib.hid (firstN_found (m := u.size) (n := k + 1) (by omega) (by omega) (fC_yes (least := least) (most := most) (bits := bits) (u := u) (by omega) (.inl (by rw [HEW.out]; exact hh))) (fun i a b => HF.out i a (by omega)))
              go_wp2_with fail
              obtain ⟨r1, r2, r3, r4, r5⟩ := RR.out
              go_quiet (first | (go_at_call 123; refine Calls.quiet_of_same (HR.out _)))
              clear r1 r2 r3 r4 r5
              have hB9 : Below W0.heap.size W0 (wr.drewN nq) := below_drewN hB nq
              obtain ⟨p0, p1, p2⟩ := HP.out _ hB9
              go_wp2_with fail
              refine (HT.out _).mono ?_
              rintro e w9 ⟨rfl, rfl⟩
              rw [hh]
              go_wp2
              rw [Exit.noGoto_ret]
              go_ret
              exact ⟨ret_int (by rw [HL.out]; first | rfl | omega | (push_cast; omega)), below_then HB0.out hB9⟩
    · obtain rfl : k = u.size := by omega
      have HL := Lib.hid (firstN_none HF.out)
      have g0 : ¬ (u.size : Int) < (u.size : Int) := by omega
      go_wp2
      go_ret
      exact ⟨ret_int (by rw [HL.out]; rfl), below_then HB0.out hB⟩

end Go.Proofs.Ytfdbkpbgkpkckaa
