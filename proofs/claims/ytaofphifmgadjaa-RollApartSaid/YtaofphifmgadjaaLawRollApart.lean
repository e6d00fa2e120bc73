/- The statement cheesepresslaw34.RollApart holds: for every input the law returns true, and the arguments read as before. -/
import Derived.Test.YtaofphifmgadjaaShell
import Derived.Test.YtaofphifmgadjaaRollKnown
import Derived.RegionTactic
import Derived.BigRegion
namespace Go.Proofs.Ytaofphifmgadjaa.rollApart
open Go.ChangeShapes Go.WideShapes Go.ChangeAt Go.RowKit
open Go.ChangeMaps (open_string shut_string)
set_option linter.unusedVariables false
set_option maxRecDepth 100000

theorem sb_ext {a b : ByteArray} (hn : a.size = b.size) (h : ∀ i, i < a.size → sb a i = sb b i) : a = b := by
  apply ByteArray.ext_getElem hn
  intro i h1 h2
  have := h i h1
  rw [← sb_get a i h1, ← sb_get b i h2] at this
  exact UInt8.toNat_inj.1 (by exact_mod_cast this)

theorem sb_app_left (a b : ByteArray) (i : Nat) (h : i < a.size) : sb (a ++ b) i = sb a i := by
  have h2 : i < (a ++ b).size := by rw [ByteArray.size_append]; omega
  rw [← sb_get _ i h2, ← sb_get _ i h, ByteArray.getElem_append_left h]

theorem sb_app_right (a b : ByteArray) (i : Nat) (h : a.size ≤ i) (h' : i < a.size + b.size) : sb (a ++ b) i = sb b (i - a.size) := by
  have h2 : i < (a ++ b).size := by rw [ByteArray.size_append]; omega
  have h3 : i - a.size < b.size := by omega
  rw [← sb_get _ i h2, ← sb_get _ _ h3, ByteArray.getElem_append_right h]

theorem sb_over (s : ByteArray) (i : Nat) (h : s.size ≤ i) : sb s i = 0 := by
  unfold sb
  rw [List.getD_eq_getElem?_getD, List.getElem?_eq_none (by simpa using h)]
  rfl

theorem sb_one (b : Int) (hb : 0 ≤ b ∧ b ≤ 255) : sb (strOfNums [b]) 0 = b := by
  unfold sb
  rw [strOfNums_data]
  simp
  omega

/-- A string of sixteen bytes with one byte changed. -/
def put1 (s : ByteArray) (a : Nat) (b : Int) : ByteArray := s.extract 0 a ++ strOfNums [b] ++ s.extract (a + 1) s.size

theorem put1_size {s : ByteArray} {a : Nat} {b : Int} (ha : a < s.size) : (put1 s a b).size = s.size := by
  unfold put1
  rw [ByteArray.size_append, ByteArray.size_append, ByteArray.size_extract, ByteArray.size_extract, strOfNums_size, List.length_singleton]
  omega

theorem put1_at {s : ByteArray} {a : Nat} {b : Int} (ha : a < s.size) (hb : 0 ≤ b ∧ b ≤ 255) : sb (put1 s a b) a = b := by
  have e1 : (s.extract 0 a).size = a := by rw [ByteArray.size_extract]; omega
  have e2 : (s.extract 0 a ++ strOfNums [b]).size = a + 1 := by rw [ByteArray.size_append, e1, strOfNums_size]; rfl
  unfold put1
  rw [sb_app_left _ _ _ (by omega), sb_app_right _ _ _ (by omega) (by rw [e1, strOfNums_size]; simp), e1, Nat.sub_self]
  exact sb_one b hb

theorem put1_else {s : ByteArray} {a : Nat} {b : Int} (ha : a < s.size) (i : Nat) (hi : i ≠ a) : sb (put1 s a b) i = sb s i := by
  by_cases hlt : i < s.size
  · have e1 : (s.extract 0 a).size = a := by rw [ByteArray.size_extract]; omega
    have e2 : (s.extract 0 a ++ strOfNums [b]).size = a + 1 := by rw [ByteArray.size_append, e1, strOfNums_size]; rfl
    unfold put1
    by_cases h1 : i < a
    · rw [sb_app_left _ _ _ (by omega), sb_app_left _ _ _ (by omega), sb_extract _ _ _ _ (by omega) (by omega), Nat.zero_add]
    · rw [sb_app_right _ _ _ (by omega) (by rw [e2, ByteArray.size_extract]; omega), e2, sb_extract _ _ _ _ (by omega) (by omega)]
      congr 1; omega
  · rw [sb_over _ _ (by rw [put1_size ha]; omega), sb_over _ _ (by omega)]

theorem apart (s : ByteArray) (a : Nat) (b : Int) (hs : s.size = 16) (ha : a < 16) (hb : 0 ≤ b ∧ b ≤ 255) : (hashF (sb s) 16 == hashF (sb (put1 s a b)) 16) = (s.toList == (put1 s a b).toList) := by
  by_cases h : s = put1 s a b
  · rw [← h, beq_self_eq_true, beq_self_eq_true]
  · have hne : ¬ hashF (sb s) 16 = hashF (sb (put1 s a b)) 16 := by
      intro e
      have := hash_apart (fun i => sb_lo s i) (fun i => sb_lo _ i) (fun i hi => (put1_else (by omega) i hi).symm) 16 ha e
      exact h (sb_ext (put1_size (by omega)).symm fun i _ => by
        by_cases hi : i = a
        · rw [hi]; exact this
        · exact (put1_else (by omega) i hi).symm)
    have hne2 : ¬ s.toList = (put1 s a b).toList := by
      intro e
      rw [ByteArray.toList_eq, ByteArray.toList_eq] at e
      exact h (ByteArray.ext (Array.toList_inj.1 e))
    rw [beq_false_of_ne hne, beq_false_of_ne hne2]

set_option maxHeartbeats 1600000 in
theorem walk (s : ByteArray) (n b : Int) (w : World) (hs : s.size ≤ maxLen) (hn : -9223372036854775808 ≤ n ∧ n ≤ 9223372036854775807) (hb : 0 ≤ b ∧ b ≤ 255) :
    Calls Try.prog 6 #[.string s, .int .i64 n, .int .u8 b] w fun e w' => e = .returned (.bool true) ∧ Below w.heap.size w w' := by
  have hs' : s.size ≤ 9223372036854775807 := hs
  clear hs
  by_cases hl : s.size < 16 ∨ 40 < s.size
  · by_cases h1 : s.size < 16
    · go_enter Try.func6, Try.ntmps6
      go_wp2_with fail
      refine (known34_any _).mono ?_
      rintro e w1 ⟨rfl, hB⟩
      go_wp2
      go_ret
      exact ⟨rfl, hB⟩
    · have h2 : 40 < s.size := by omega
      go_enter Try.func6, Try.ntmps6
      go_wp2_with fail
      refine (known34_any _).mono ?_
      rintro e w1 ⟨rfl, hB⟩
      go_wp2
      go_ret
      exact ⟨rfl, hB⟩
  · have h1 : ¬ s.size < 16 := by omega
    have h2 : ¬ 40 < s.size := by omega
    obtain ⟨a, ha⟩ : ∃ a : Nat, modI n 16 = a := ⟨(modI n 16).toNat, by have := modI_lo (n := n) (m := 16) (by omega); omega⟩
    have ha16 : a < 16 := by have := modI_lo (n := n) (m := 16) (by omega); omega
    have HA := Lib.hid ha
    have hsl : ∀ V, (Instr.slice 9 (.string s) none (some (.int .i64 16)) none).run Try.prog V = .ok (.string (s.extract 0 16)) V := fun V => by
      rw [run_slice_string_to_if (P := Try.prog) V 9 s .i64 16 Try.underlying9]
      rw [if_pos (by omega)]
      rfl
    have H16 : Hid ((s.extract 0 16).size = 16) := by rw [ByteArray.size_extract]; simp only [Hid]; omega
    generalize s.extract 0 16 = S at *
    have hS16 := H16.out
    have hsl1 : ∀ V, (Instr.slice 9 (.string S) none (some (.int .i64 (a : Int))) none).run Try.prog V = .ok (.string (S.extract 0 a)) V := fun V => by
      rw [run_slice_string_to_if (P := Try.prog) V 9 S .i64 a Try.underlying9, if_pos (by omega)]
      rfl
    have hsl2 : ∀ V, (Instr.slice 9 (.string S) (some (.int .i64 ((a : Int) + 1))) none none).run Try.prog V = .ok (.string (S.extract (a + 1) S.size)) V := fun V => by
      rw [run_slice_string_from_if (P := Try.prog) V 9 S .i64 ((a : Int) + 1) Try.underlying9, if_pos (by omega)]
      rfl
    have ha1 : ∀ V, (Op.stringOp .add (S.extract 0 a) (strOfNums [b])).run Try.prog V = .ok (.string (S.extract 0 a ++ strOfNums [b])) V := fun V =>
      run_string_add_sum V _ _ (by rw [ByteArray.size_extract, strOfNums_size, List.length_singleton]; omega)
    have ha2 : ∀ V, (Op.stringOp .add (S.extract 0 a ++ strOfNums [b]) (S.extract (a + 1) S.size)).run Try.prog V = .ok (.string (put1 S a b)) V := fun V =>
      run_string_add_sum V _ _ (by rw [ByteArray.size_append, ByteArray.size_extract, ByteArray.size_extract, strOfNums_size, List.length_singleton]; omega)
    have hAP := apart S a b hS16 ha16 hb
    have HO := Lib.hid (of_ok (s := S) hS16)
    have HOx := Lib.hid (of_ok (s := put1 S a b) (by rw [put1_size (by omega)]; exact hS16))
    have hxs : (put1 S a b).size ≤ 9223372036854775807 := by rw [put1_size (by omega)]; omega
    have hss : S.size ≤ 9223372036854775807 := by omega
    clear hS16 ha
    generalize put1 S a b = X at *
    generalize S.extract 0 a ++ strOfNums [b] = Y at *
    generalize S.extract 0 a = S1 at *
    generalize S.extract (a + 1) S.size = S2 at *
    have hconv : ∀ W : World, (convert 39 9 (.slice (some ⟨W.heap.size, 0, none⟩) 1 1)).run Try.prog (W.alloc (.cells #[.int .u8 b] 5)).drew = .ok (.string (strOfNums [b])) (W.alloc (.cells #[.int .u8 b] 5)).drew := fun W => by
      refine run_convert_bytes_arg _ 39 5 Try.underlying39 Try.underlying5 W.heap.size 0 1 1 [b] rfl (fun i hi => ?_) _ Try.underlying9
      obtain rfl : i = 0 := by omega
      exact (World.cell?_alloc_at _ _ _ _ rfl).trans rfl
    generalize strOfNums [b] = B1 at *
    have HAP := Lib.hid hAP
    clear hAP
    go_enter Try.func6, Try.ntmps6
    go_wp2_with fail
    refine (known34_any _).mono ?_
    rintro e w1 ⟨rfl, hB1⟩
    go_wp2_with fail
    refine (Mod_any n 16 _ hn.1 hn.2 (by omega)).mono ?_
    rintro e w2 ⟨rfl, rfl⟩
    rw [HA.out]
    go_wp2
    go_region
    go_wp2_with fail
    refine (Of_any S _ hss).mono ?_
    rintro e w3 ⟨rfl, hB3⟩
    rw [HO.out.1, HO.out.2]
    go_wp2_with fail
    refine (Of_any X _ hxs).mono ?_
    rintro e w4 ⟨rfl, hB4⟩
    rw [HOx.out.1, HOx.out.2]
    have hAP := HAP.out
    have hAP2 : ((S.toList == X.toList) == (S.toList == X.toList)) = true := by simp
    go_wp2_with fail
    go_ret
    exact ⟨rfl, below_then (below_then (below_drewN (below_alloc hB1 _) 1) hB3) hB4⟩

/-! The step from the walk to the statement: the shell's text. -/
set_option maxRecDepth 100000 in
theorem lifted (os : Os) (started : os.Started) (H : Type) (enc : TypeId × Value → H) :
    ReturnsInHanded {} Try.checked os 6 .any (Rows.rollApartSpec.pre6 enc Try.prog Try.f6 Rows.rollApartRow.domain false) (Rows.rollApartSpec.post enc Try.prog Try.f6 false true false false) := by
  refine returnsInHanded_of_change (C := Try.checked) own started (by kernel_rfl) Try.func6
    (ChangeSpec.witness6 (enc := enc) (C := Try.checked) false ⟨#[], #[.string ByteArray.empty, .int .i64 0, .int .u8 0], []⟩ 8 (by kernel_rfl) (by kernel_rfl) (by kernel_rfl) (by kernel_rfl)) ?_
  intro W base args ds gs before hval0 hW hcnd _
  have hval : ∀ (j : Nat) t v, Try.f6.params[j]? = some t → args[j]? = some v → Value.okWide Try.prog W .any base t v := hval0
  have hW' := hW
  obtain ⟨p, q, hA0, hV, rfl, hfz, hnd⟩ := hW
  have hA : DataW.TrodAll enc Try.prog W 0 (fun _ => true) true Try.f6.params.toList args.toList ds p := hA0
  rw [Try.params6] at hA hval
  obtain ⟨v0, vs0, d0, ds0, p0, q0, hargs, rfl, rfl, h0, r0⟩ := trodAll_cons hA
  obtain ⟨v1, vs1, d1, ds1, p1, q1, rfl, rfl, rfl, h1, r1⟩ := trodAll_cons r0
  obtain ⟨v2, vs2, d2, ds2, p2, q2, rfl, rfl, rfl, h2, r2⟩ := trodAll_cons r1
  obtain ⟨rfl, rfl, rfl⟩ := trodAll_nil r2
  obtain rfl : args = #[v0, v1, v2] := by cases args; simp_all
  obtain ⟨rfl, rfl⟩ := trodVars_none hV
  obtain ⟨a0, rfl, rfl, rfl, w0⟩ := open_string Try.underlying9 (hval 0 9 v0 rfl rfl) h0
  obtain ⟨a1, rfl, rfl, rfl, w1⟩ := open_int Try.underlying3 (hval 1 3 v1 rfl rfl) h1
  obtain ⟨a2, rfl, rfl, rfl, w2⟩ := open_int Try.underlying5 (hval 2 5 v2 rfl rfl) h2
  clear hA0 hval0
  refine (walk a0 a1 a2 W w0 (bounds_i64 w1) (bounds_u8 w2)).mono fun e W' ⟨he, bel⟩ => ?_
  subst he
  exact ⟨_, rfl, _, _, _, [], _, [], hW', trodAll_mk1 (shut_bool Try.underlying4 _), (trodAll_cons_mk (shut_string Try.underlying9 w0) (trodAll_cons_mk (shut_int Try.underlying3 w1) (trodAll_cons_mk (shut_int Try.underlying5 w2) trodAll_mk0))), rfl, bel.frame _, fun h => by cases h⟩

theorem over : Rows.rollApartRow.holds Try.pinned (OpenSpec.ofChange Rows.rollApartSpec) :=
  OpenClaim.holds_of_wide 6 Try.f6 rfl rfl rfl rfl rfl rfl rfl ⟨rfl, rfl, rfl, rfl, rfl⟩ rfl rfl rfl rfl rfl (by kernel_rfl) Try.func6 (by kernel_rfl)
    (of_decide_eq_true (by kernel_rfl)) (by unfold Func.isWrapper; first | (rw [if_pos (by decide +kernel)]; kernel_rfl) | (rw [if_neg (by decide +kernel)]; exact ⟨rfl, rfl⟩))
    (fun os started H enc _ => lifted os started H enc)

/-- The statement. -/
theorem proved : Rows.RollApartSaid := over
#print axioms proved
end Go.Proofs.Ytaofphifmgadjaa.rollApart
