/- The statement cheesepresslaw01.IntsBack holds: for every input the law returns true, and the arguments read as before. -/
import Derived.Test.YtalnlpbdcmnlgaaShell
import Derived.Test.YtalnlpbdcmnlgaaKit
import Derived.Test.YtalnlpbdcmnlgaaIntsKnown
import Derived.Test.YtalnlpbdcmnlgaaIntsPlain
import Derived.Deep.QuietTactic
import Derived.BigQuiet
namespace Go.Proofs.Ytalnlpbdcmnlgaa.intsBack
open Go.ChangeShapes Go.WideShapes Go.ChangeAt Go.RowKit
open Go.ChangeMaps (open_string shut_string)
set_option linter.unusedVariables false

set_option maxRecDepth 100000 in
set_option maxHeartbeats 3200000 in
theorem walk (a b : Int) (z : Int) (s : ByteArray) (w : World) (ha : 0 ≤ a ∧ a ≤ 18446744073709551615) (hb : 0 ≤ b ∧ b ≤ 18446744073709551615)
    (hz : -9223372036854775808 ≤ z ∧ z ≤ 9223372036854775807) (hs : s.size ≤ maxLen) :
    Calls Try.prog 8 #[.int .u64 a, .int .u64 b, .int .i64 z, .string s] w fun e w' => e = .returned (.bool true) ∧ Below w.heap.size w w' := by
  have hs' : s.size ≤ 9223372036854775807 := hs
  clear hs
  have hmz := modI_lo (n := z) (m := 8) (by omega)
  obtain ⟨k, hk1, hk, hkz⟩ : ∃ k : Nat, 1 ≤ k ∧ k ≤ 8 ∧ modI z 8 = (k : Int) - 1 := ⟨(modI z 8 + 1).toNat, by omega, by omega, by omega⟩
  have HK := Lib.hid hkz
  clear hmz hkz
  have hpk : (0 : Int) < 256 ^ k := Int.pow_pos (by decide)
  have hpk8 : (256 : Int) ^ k ≤ 256 ^ 8 := pow256_le hk
  obtain ⟨A, hA⟩ : ∃ A, A = a % 256 ^ k := ⟨_, rfl⟩
  obtain ⟨B, hB⟩ : ∃ B, B = b % 256 ^ k := ⟨_, rfl⟩
  have hA0 : 0 ≤ A := by rw [hA]; exact Int.emod_nonneg _ (by omega)
  have hA1 : A < 256 ^ k := by rw [hA]; exact Int.emod_lt_of_pos _ hpk
  have hB0 : 0 ≤ B := by rw [hB]; exact Int.emod_nonneg _ (by omega)
  have hB1 : B < 256 ^ k := by rw [hB]; exact Int.emod_lt_of_pos _ hpk
  have hA2 : A ≤ 18446744073709551615 := by omega
  have hB2 : B ≤ 18446744073709551615 := by omega
  have LA : Hid (low a (8 * (k : Int)) = A ∧ low b (8 * (k : Int)) = B ∧ lowE (8 * (k : Int)) = 0) := by
    refine ⟨?_, ?_, ?_⟩
    · unfold low; rw [if_neg (by omega), hA, ← pow256]; rfl
    · unfold low; rw [if_neg (by omega), hB, ← pow256]; rfl
    · unfold lowE; rw [if_neg (by omega)]
  have FA := Lib.hid (field_back A k hk1 hk hA0 hA1)
  have FB := Lib.hid (field_back B k hk1 hk hB0 hB1)
  have QA : Hid (∀ i, i < k → sb (strOfNums (leI A k)) i = A / 256 ^ i % 256) := fun i hi => sb_leI A k i hi
  have QB : Hid (∀ i, i < k → sb (strOfNums (leI B k)) i = B / 256 ^ i % 256) := fun i hi => sb_leI B k i hi
  have C0 : Hid (Cmp A B k 0) := ⟨fun _ => by rw [div_zero_of_lt hA0 hA1, div_zero_of_lt hB0 hB1], fun h => by omega, fun h => by omega⟩
  have SX : Hid ((strOfNums (leI A k)).size = k) := by rw [strOfNums_size, leI_length]; rfl
  have SY : Hid ((strOfNums (leI B k)).size = k) := by rw [strOfNums_size, leI_length]; rfl
  generalize strOfNums (leI A k) = x at *
  generalize strOfNums (leI B k) = y at *
  have hx1 : x.size ≤ k := Nat.le_of_eq SX.out
  have hx2 : k ≤ x.size := Nat.le_of_eq SX.out.symm
  have hy1 : y.size ≤ k := Nat.le_of_eq SY.out
  have hy2 : k ≤ y.size := Nat.le_of_eq SY.out.symm
  have nx : ((x.size : Int) != (k : Int)) = false := by simp; omega
  have ny : ((y.size : Int) != (k : Int)) = false := by simp; omega
  clear hA hB hpk hpk8
  go_enter Try.func8, Try.ntmps8
  go_wp2_with fail
  refine (known_any _).mono ?_
  rintro e w1 ⟨rfl, hW1⟩
  go_wp2_with fail
  refine (Mod_any z 8 _ hz.1 hz.2 (by omega)).mono ?_
  rintro e w2 ⟨rfl, rfl⟩
  rw [HK.out]
  have e1 : (1 : Int) + ((k : Int) - 1) = k := by omega
  go_wp2_with fail
  refine (Low_any a _ _ ha.1 ha.2).mono ?_
  rintro e w2 ⟨rfl, rfl⟩
  rw [LA.out.1, LA.out.2.2]
  go_wp2_with fail
  refine (Low_any b _ _ hb.1 hb.2).mono ?_
  rintro e w2 ⟨rfl, rfl⟩
  rw [LA.out.2.1, LA.out.2.2]
  go_wp2_with fail
  refine (Little_any A k _ hA0 hA2).mono ?_
  rintro e w2 ⟨rfl, hW2⟩
  rw [FA.out.1, FA.out.2.1]
  go_wp2_with fail
  refine (Little_any B k _ hB0 hB2).mono ?_
  rintro e w3 ⟨rfl, hW3⟩
  rw [FB.out.1, FB.out.2.1]
  go_wp2_with fail
  refine (field_yes A k x _ _ hA0 hA2 (by omega) (by omega) (by omega) rfl FA.out.1 FA.out.2.1 FA.out.2.2.1 FA.out.2.2.2.1 FA.out.2.2.2.2.1 FA.out.2.2.2.2.2).mono ?_
  rintro e w4 ⟨rfl, hW4⟩
  go_wp2_with fail
  go_loopw [16, 17] (fun o i wr => ∃ (t : Nat) (q v : Int), t ≤ k ∧ i = .int .i64 q ∧ q ≤ t - 1 ∧ (t : Int) - 1 ≤ q ∧ o = .int .i64 v ∧ -255 ≤ v ∧ v ≤ 255 ∧ Hid (Cmp A B t v) ∧ Below w4.heap.size w4 wr) (fun _ i _ => (intOf i + 1).toNat)
  case atStart =>
    exact ⟨k, _, 0, Nat.le_refl _, rfl, by omega, by omega, rfl, by omega, by omega, C0, Below.refl _ _⟩
  case round =>
    obtain ⟨t, q, v, ht, rfl, hq1, hq2, rfl, hv1, hv2, HC, hWr⟩ := hrel
    by_cases hq : 0 ≤ q ∧ v = 0
    · obtain ⟨hq0, rfl⟩ := hq
      obtain ⟨p, rfl⟩ := Int.eq_ofNat_of_zero_le hq0
      obtain rfl : t = p + 1 := by omega
      have HP := Lib.hid (cmp_step A B p (HC.out.1 rfl))
      have bx := sb_lo x p
      have by_ := sb_lo y p
      have GX := Lib.hid (sb_get x p (by omega))
      have GY := Lib.hid (sb_get y p (by omega))
      have g1 : (p : Int) < (x.size : Int) := by omega
      have g2 : (p : Int) < (y.size : Int) := by omega
      go_wp2_with fail
      go_quiet (fail)
      go_wp2_with fail
      have ev : wrap64 (wrap64 ((x[p]'(by omega)).toNat : Int) - wrap64 ((y[p]'(by omega)).toNat : Int)) = A / 256 ^ p % 256 - B / 256 ^ p % 256 := by
        rw [GX.out, GY.out, IntWalk.wrap64_in (sb x p) (by omega), IntWalk.wrap64_in (sb y p) (by omega), IntWalk.wrap64_in _ (by omega), QA.out p (by omega), QB.out p (by omega)]
      exact ⟨⟨p, _, _, by omega, rfl, by omega, by omega, val_int ev, by omega, by omega, HP, below_drewN hWr _⟩, by simp [intOf]⟩
    · have hF : (v < 0 ∧ A < B) ∨ (v = 0 ∧ A = B ∧ q < 0) ∨ (0 < v ∧ B < A) := by
        obtain ⟨c1, c2, c3⟩ := HC.out
        rcases Int.lt_trichotomy v 0 with h | h | h
        · exact .inl ⟨h, c2 h⟩
        · have ht0 : t = 0 := by omega
          subst ht0
          exact .inr (.inl ⟨h, by simpa using c1 h, by omega⟩)
        · exact .inr (.inr ⟨h, c3 h⟩)
      have hEnd : Below w.heap.size w wr := below_then (below_then (below_then (below_then hW1 hW2) hW3) hW4) hWr
      clear hq HC
      rcases hF with ⟨f1, f2⟩ | ⟨rfl, rfl, f3⟩ | ⟨f1, f2⟩
      · have n1 : (v == 0) = false := by simp; omega
        have n2 : (A == B) = false := by simp; omega
        by_cases q0 : 0 ≤ q
        all_goals
          by_cases s1 : s.size < 1
          · go_wp2_with fail
            go_ret
            exact ⟨rfl, hEnd⟩
          · by_cases s8 : 8 < s.size
            · go_wp2_with fail
              go_ret
              exact ⟨rfl, hEnd⟩
            · have FS := Lib.hid (field_forth s (by omega) (by omega))
              go_wp2_with fail
              refine (Read_any s 0 s.size _ hs').mono ?_
              rintro e w5 ⟨rfl, hW5⟩
              rw [FS.out.1, FS.out.2.1, FS.out.2.2.1]
              have f0 := FS.out.2.2.2.1
              have f1' := FS.out.2.2.2.2.1
              go_wp2_with fail
              refine (Little_any (rd s 0 s.size) s.size _ f0 f1').mono ?_
              rintro e w6 ⟨rfl, hW6⟩
              rw [FS.out.2.2.2.2.2.1, FS.out.2.2.2.2.2.2]
              have hc0 : w6.cell? ⟨w5.heap.size, 0, none⟩ = some (.int .i64 0) := by
                rw [hW6.cell (by simp), World.cell?_alloc_at _ _ _ _ rfl]; rfl
              have hc1 : w6.cell? ⟨w5.heap.size, 1, none⟩ = some (.int .i64 0) := by
                rw [hW6.cell (by simp), World.cell?_alloc_at _ _ _ _ rfl]; rfl
              go_wp2_with fail
              go_ret
              exact ⟨rfl, below_then (below_alloc (below_then hEnd hW5) _) hW6⟩
      · have q0 : ¬ 0 ≤ q := by omega
        by_cases s1 : s.size < 1
        · go_wp2_with fail
          go_ret
          exact ⟨rfl, hEnd⟩
        · by_cases s8 : 8 < s.size
          · go_wp2_with fail
            go_ret
            exact ⟨rfl, hEnd⟩
          · have FS := Lib.hid (field_forth s (by omega) (by omega))
            go_wp2_with fail
            refine (Read_any s 0 s.size _ hs').mono ?_
            rintro e w5 ⟨rfl, hW5⟩
            rw [FS.out.1, FS.out.2.1, FS.out.2.2.1]
            have f0 := FS.out.2.2.2.1
            have f1' := FS.out.2.2.2.2.1
            go_wp2_with fail
            refine (Little_any (rd s 0 s.size) s.size _ f0 f1').mono ?_
            rintro e w6 ⟨rfl, hW6⟩
            rw [FS.out.2.2.2.2.2.1, FS.out.2.2.2.2.2.2]
            have hc0 : w6.cell? ⟨w5.heap.size, 0, none⟩ = some (.int .i64 0) := by
              rw [hW6.cell (by simp), World.cell?_alloc_at _ _ _ _ rfl]; rfl
            have hc1 : w6.cell? ⟨w5.heap.size, 1, none⟩ = some (.int .i64 0) := by
              rw [hW6.cell (by simp), World.cell?_alloc_at _ _ _ _ rfl]; rfl
            go_wp2_with fail
            go_ret
            exact ⟨rfl, below_then (below_alloc (below_then hEnd hW5) _) hW6⟩
      · have n1 : (v == 0) = false := by simp; omega
        have n2 : (A == B) = false := by simp; omega
        by_cases q0 : 0 ≤ q
        all_goals
          by_cases s1 : s.size < 1
          · go_wp2_with fail
            go_ret
            exact ⟨rfl, hEnd⟩
          · by_cases s8 : 8 < s.size
            · go_wp2_with fail
              go_ret
              exact ⟨rfl, hEnd⟩
            · have FS := Lib.hid (field_forth s (by omega) (by omega))
              go_wp2_with fail
              refine (Read_any s 0 s.size _ hs').mono ?_
              rintro e w5 ⟨rfl, hW5⟩
              rw [FS.out.1, FS.out.2.1, FS.out.2.2.1]
              have f0 := FS.out.2.2.2.1
              have f1' := FS.out.2.2.2.2.1
              go_wp2_with fail
              refine (Little_any (rd s 0 s.size) s.size _ f0 f1').mono ?_
              rintro e w6 ⟨rfl, hW6⟩
              rw [FS.out.2.2.2.2.2.1, FS.out.2.2.2.2.2.2]
              have hc0 : w6.cell? ⟨w5.heap.size, 0, none⟩ = some (.int .i64 0) := by
                rw [hW6.cell (by simp), World.cell?_alloc_at _ _ _ _ rfl]; rfl
              have hc1 : w6.cell? ⟨w5.heap.size, 1, none⟩ = some (.int .i64 0) := by
                rw [hW6.cell (by simp), World.cell?_alloc_at _ _ _ _ rfl]; rfl
              go_wp2_with fail
              go_ret
              exact ⟨rfl, below_then (below_alloc (below_then hEnd hW5) _) hW6⟩

/-! The step from the walk to the statement: the shell's text. -/
set_option maxRecDepth 100000 in
theorem lifted (os : Os) (started : os.Started) (H : Type) (enc : TypeId × Value → H) :
    ReturnsInHanded {} Try.checked os 8 .any (Rows.intsBackSpec.pre6 enc Try.prog Try.f8 Rows.intsBackRow.domain false) (Rows.intsBackSpec.post enc Try.prog Try.f8 false true false false) := by
  refine returnsInHanded_of_change (C := Try.checked) own started (by kernel_rfl) Try.func8
    (ChangeSpec.witness6 (enc := enc) (C := Try.checked) false ⟨#[], #[.int .u64 0, .int .u64 0, .int .i64 0, .string ByteArray.empty], []⟩ 8 (by kernel_rfl) (by kernel_rfl) (by kernel_rfl) (by kernel_rfl)) ?_
  intro W base args ds gs before hval0 hW hcnd _
  have hval : ∀ (j : Nat) t v, Try.f8.params[j]? = some t → args[j]? = some v → Value.okWide Try.prog W .any base t v := hval0
  have hW' := hW
  obtain ⟨p, q, hA0, hV, rfl, hfz, hnd⟩ := hW
  have hA : DataW.TrodAll enc Try.prog W 0 (fun _ => true) true Try.f8.params.toList args.toList ds p := hA0
  rw [Try.params8] at hA hval
  obtain ⟨v0, vs0, d0, ds0, p0, q0, hargs, rfl, rfl, h0, r0⟩ := trodAll_cons hA
  obtain ⟨v1, vs1, d1, ds1, p1, q1, rfl, rfl, rfl, h1, r1⟩ := trodAll_cons r0
  obtain ⟨v2, vs2, d2, ds2, p2, q2, rfl, rfl, rfl, h2, r2⟩ := trodAll_cons r1
  obtain ⟨v3, vs3, d3, ds3, p3, q3, rfl, rfl, rfl, h3, r3⟩ := trodAll_cons r2
  obtain ⟨rfl, rfl, rfl⟩ := trodAll_nil r3
  obtain rfl : args = #[v0, v1, v2, v3] := by cases args; simp_all
  obtain ⟨rfl, rfl⟩ := trodVars_none hV
  obtain ⟨a0, rfl, rfl, rfl, w0⟩ := open_int Try.underlying22 (hval 0 22 v0 rfl rfl) h0
  obtain ⟨a1, rfl, rfl, rfl, w1⟩ := open_int Try.underlying22 (hval 1 22 v1 rfl rfl) h1
  obtain ⟨a2, rfl, rfl, rfl, w2⟩ := open_int Try.underlying3 (hval 2 3 v2 rfl rfl) h2
  obtain ⟨a3, rfl, rfl, rfl, w3⟩ := open_string Try.underlying9 (hval 3 9 v3 rfl rfl) h3
  clear hA0 hval0
  refine (walk a0 a1 a2 a3 W (bounds_u64 w0) (bounds_u64 w1) (bounds_i64 w2) w3).mono fun e W' ⟨he, bel⟩ => ?_
  subst he
  exact ⟨_, rfl, _, _, _, [], _, [], hW', trodAll_mk1 (shut_bool Try.underlying4 _), (trodAll_cons_mk (shut_int Try.underlying22 w0) (trodAll_cons_mk (shut_int Try.underlying22 w1) (trodAll_cons_mk (shut_int Try.underlying3 w2) (trodAll_cons_mk (shut_string Try.underlying9 w3) trodAll_mk0)))), rfl, bel.frame _, fun h => by cases h⟩

theorem over : Rows.intsBackRow.holds Try.pinned (OpenSpec.ofChange Rows.intsBackSpec) :=
  OpenClaim.holds_of_wide 8 Try.f8 rfl rfl rfl rfl rfl rfl rfl ⟨rfl, rfl, rfl, rfl, rfl⟩ rfl rfl rfl rfl rfl (by kernel_rfl) Try.func8 (by kernel_rfl)
    (of_decide_eq_true (by kernel_rfl)) (by unfold Func.isWrapper; first | (rw [if_pos (by decide +kernel)]; kernel_rfl) | (rw [if_neg (by decide +kernel)]; exact ⟨rfl, rfl⟩))
    (fun os started H enc _ => lifted os started H enc)

/-- The statement. -/
theorem proved : Rows.IntsBackSaid := over
#print axioms proved
end Go.Proofs.Ytalnlpbdcmnlgaa.intsBack
