/-
  The walks of cheesepresslaw35's next and CutterKnown.
-/
import Derived.Test.YtaofphifmgadjaaCutAwake
import Derived.Deep.DeepCutAuto
namespace Go.Proofs.Ytaofphifmgadjaa
open Go.RowKit
set_option linter.unusedVariables false
set_option maxRecDepth 100000
attribute [local go_sem ↓] Go.wp_at_zero Go.wp_at_succ

theorem make_facts (n : Nat) (hn : n ≤ 1000000) : ∃ Z : Array Value,
    (∀ V, (Instr.makeSlice 39 (.int .i64 (n : Int)) (.int .i64 (n : Int))).run Try.prog V = .ok (.slice (some ⟨V.heap.size, 0, none⟩) n n) (V.alloc (.cells Z 5))) ∧
    (∀ V U : World, Below (V.alloc (.cells Z 5)).heap.size (V.alloc (.cells Z 5)) U → (convert 39 9 (.slice (some ⟨V.heap.size, 0, none⟩) n n)).run Try.prog U = .ok (.string (zs n)) U) := by
  obtain ⟨i0, hi, hz0, hz1, hz2⟩ := info_parts Try.infoU8
  refine ⟨madeCells (Value.int .u8 0).cells (n * 1), fun V => ?_, fun V U hU => ?_⟩
  · have hr := run_make (P := Try.prog) V 39 5 i0 (.int .u8 0) Try.underlying39 hi hz0 .i64 .i64 n n (by omega) (Int.le_refl _) (by rw [hz2]; omega) (by omega)
    simp only [Int.toNat_natCast, hz1] at hr
    exact hr
  · exact conv_zeros (P := Try.prog) (base := V.heap.size) Try.underlying39 Try.underlying5 ((World.ownsRow_lit V _ n (Nat.le_refl _) (by simp only [maxLen]; omega) (size_madeCells _ _)).kept (grown_below hU) (.inr (by simp [Value.ownBlock]))) 9 Try.underlying9

set_option maxHeartbeats 4000000 in
theorem next35_yes (p : Nat) (want : Int) (full : Bool) (w : World) (hp : p ≤ 40) (h1 : (nextE 16 false (zs 40) p : Int) = want) (h2 : nextB 16 false (zs 40) p = full) :
    Calls Try.prog 51 #[.int .i64 p, .int .i64 want, .bool full] w fun e w' => e = .returned (.bool true) ∧ Below w.heap.size w w' := by
  have HE := Lib.hid (fun W => Next35_ok 1 10 16 0 false false (zs 40) p W (by decide +kernel) (by rw [zs_size]; exact hp))
  rw [h1, h2] at HE
  clear h1 h2
  obtain ⟨Z, hmk, hcv⟩ := make_facts 40 (by omega)
  have HK := Lib.hid (fun V U h => hcv V U h)
  have hc0 := fun V => hcv V _ (Below.refl _ _)
  have hc1 := fun V => hcv V _ (below_drew (Below.refl (V.alloc (.cells Z 5)).heap.size (V.alloc (.cells Z 5))))
  have hmk2 : ∀ V, (Instr.makeSlice 39 (.int .i64 40) (.int .i64 40)).run Try.prog V = .ok (.slice (some ⟨V.heap.size, 0, none⟩) 40 40) (V.alloc (.cells Z 5)) := hmk
  clear hmk hcv
  generalize zs 40 = z at *
  have hBr := Below.refl w.heap.size w
  have hBzr := Below.refl (w.alloc (.cells Z 5)).heap.size (w.alloc (.cells Z 5))
  have hBzd := below_drew hBzr
  go_enter Try.func51, Try.ntmps51
  go_wp2_with fail
  go_region_with
    (first
      | (go_at_call 48; refine (params35_any 16 false _).mono ?_; rintro e6 w6 ⟨rfl, hB6⟩; have hB7 := below_then (by first | exact hBr | exact below_drew hBr | exact below_alloc hBr _ | exact below_drew (below_alloc hBr _)) hB6; first | (with_reducible have hc6 := HK.out w _ (below_then hBzr hB6)) | (with_reducible have hc6 := HK.out w _ (below_then hBzd hB6)) | skip)
      | (go_at_call 46; refine (HE.out _).mono ?_; rintro e8 w8 ⟨rfl, hB8⟩; have hB9 := below_then (by first | exact hB7 | exact below_drew hB7 | exact below_alloc hB7 _ | exact below_drew (below_alloc hB7 _)) hB8))
  all_goals (
    go_wp2
    go_ret
    exact ⟨rfl, hB9⟩)

theorem slice2 (W : World) (T : TypeId) (x y : Int) : SliceAt .i64 (W.alloc (.cells #[.int .i64 x, .int .i64 y] T)) (W.heap.size + 1) (some ⟨W.heap.size, 0, none⟩) [x, y] := by
  refine .inr ⟨W.heap.size, 0, rfl, by omega, fun i u hu => ?_⟩
  match i, hu with
  | 0, hu => injection hu with hu; subst hu; exact World.cell?_alloc_at _ _ _ _ rfl
  | 1, hu => injection hu with hu; subst hu; exact World.cell?_alloc_at _ _ _ _ rfl
  | i + 2, hu => simp at hu

theorem plain_next (s : ByteArray) (p : Nat) (hp : p ≤ s.size) : nextE 16 false s p = if 16 ≤ s.size - p then p + 16 else s.size := by
  have h := plain_cut 16 s p (by omega) hp
  unfold nextE
  split at h
  · rw [if_neg (by omega), if_pos (by omega)]; omega
  · rw [if_pos (by omega), if_neg (by omega)]
theorem plain_pos (s : ByteArray) : ∀ i p, p ≤ s.size → posF 16 false s p i = if 16 * (i + 1) ≤ s.size - p then p + 16 * (i + 1) else s.size := by
  intro i
  induction i with
  | zero => intro p hp; exact plain_next s p hp
  | succ i ih =>
    intro p hp
    have h1 := plain_next s p hp
    have h2 := (nextE_le 16 false s p hp).1
    simp only [posF]
    rw [ih _ h2, h1]
    split <;> split <;> split <;> omega
theorem jobs_big : jobsN 16 false (zs 100000) = 6250 := by
  obtain ⟨h1, h2, h3, h4⟩ := jobs_facts 16 false (zs 100000)
  have hz := zs_size 100000
  generalize zs 100000 = z at *
  unfold posE at h2 h3
  rw [plain_pos z _ 0 (Nat.zero_le _), hz] at h3
  have h5 : jobsN 16 false z ≤ 6250 := by
    rcases Nat.lt_or_ge 6250 (jobsN 16 false z) with h | h
    · have := h2 6249 (by omega)
      rw [plain_pos z _ 0 (Nat.zero_le _), hz] at this
      simp at this
    · exact h
  split at h3 <;> omega
theorem ask_big : askE 1 10 16 0 (zs 100000) = 0 := ask_ok (by decide) (by rw [zs_size]; omega)
theorem count_big : countO 1 10 16 0 false (zs 100000) = 6250 := by unfold countO; rw [if_neg (by rw [ask_big]; simp), jobs_big]; rfl
theorem ends_big : endsO 1 10 16 0 false (zs 100000) = [] ∧ endsOE 1 10 16 0 false (zs 100000) = 6 := endsO_full ask_big (by rw [jobs_big]; omega)
theorem ends_32 : endsO 1 10 16 0 false (zs 32) = [16, 32] ∧ endsOE 1 10 16 0 false (zs 32) = 0 := by decide +kernel
theorem full_16 : fullV 1 10 16 0 false (zs 16) = true ∧ askE 1 10 16 0 (zs 16) = 0 := by decide +kernel
theorem full_17 : fullV 1 10 16 0 false (zs 17) = false ∧ askE 1 10 16 0 (zs 17) = 0 := by decide +kernel
theorem full_15 : fullV 1 10 16 0 false (zs 15) = false ∧ askE 1 10 16 0 (zs 15) = 0 := by decide +kernel
theorem bits_k : bitsO 1 10 16 0 = 2 ∧ bitsO 1 10 31 0 = 2 ∧ bitsO 1 10 2097152 0 = 19 ∧ parE 1 10 16 0 = 0 ∧ parE 1 10 31 0 = 0 ∧ parE 1 10 2097152 0 = 0 := by decide +kernel

set_option maxHeartbeats 8000000 in
theorem CutKnown_any (w : World) :
    Calls Try.prog 14 #[] w fun e w' => e = .returned (.bool true) ∧ Below w.heap.size w w' := by
  obtain ⟨Z40, hm40, hv40⟩ := make_facts 40 (by omega)
  have hc40 := fun V => hv40 V _ (Below.refl _ _)
  have hd40 := fun V => hv40 V _ (below_drew (Below.refl (V.alloc (.cells Z40 5)).heap.size (V.alloc (.cells Z40 5))))
  have hk40 : ∀ V, (Instr.makeSlice 39 (.int .i64 40) (.int .i64 40)).run Try.prog V = .ok (.slice (some ⟨V.heap.size, 0, none⟩) 40 40) (V.alloc (.cells Z40 5)) := hm40
  have HC40 := Lib.hid hc40
  have HD40 := Lib.hid hd40
  have HM40 := Lib.hid hk40
  clear hm40 hv40 hc40 hd40 hk40
  obtain ⟨Z16, hm16, hv16⟩ := make_facts 16 (by omega)
  have hc16 := fun V => hv16 V _ (Below.refl _ _)
  have hd16 := fun V => hv16 V _ (below_drew (Below.refl (V.alloc (.cells Z16 5)).heap.size (V.alloc (.cells Z16 5))))
  have hk16 : ∀ V, (Instr.makeSlice 39 (.int .i64 16) (.int .i64 16)).run Try.prog V = .ok (.slice (some ⟨V.heap.size, 0, none⟩) 16 16) (V.alloc (.cells Z16 5)) := hm16
  have HC16 := Lib.hid hc16
  have HD16 := Lib.hid hd16
  have HM16 := Lib.hid hk16
  clear hm16 hv16 hc16 hd16 hk16
  obtain ⟨Z17, hm17, hv17⟩ := make_facts 17 (by omega)
  have hc17 := fun V => hv17 V _ (Below.refl _ _)
  have hd17 := fun V => hv17 V _ (below_drew (Below.refl (V.alloc (.cells Z17 5)).heap.size (V.alloc (.cells Z17 5))))
  have hk17 : ∀ V, (Instr.makeSlice 39 (.int .i64 17) (.int .i64 17)).run Try.prog V = .ok (.slice (some ⟨V.heap.size, 0, none⟩) 17 17) (V.alloc (.cells Z17 5)) := hm17
  have HC17 := Lib.hid hc17
  have HD17 := Lib.hid hd17
  have HM17 := Lib.hid hk17
  clear hm17 hv17 hc17 hd17 hk17
  obtain ⟨Z15, hm15, hv15⟩ := make_facts 15 (by omega)
  have hc15 := fun V => hv15 V _ (Below.refl _ _)
  have hd15 := fun V => hv15 V _ (below_drew (Below.refl (V.alloc (.cells Z15 5)).heap.size (V.alloc (.cells Z15 5))))
  have hk15 : ∀ V, (Instr.makeSlice 39 (.int .i64 15) (.int .i64 15)).run Try.prog V = .ok (.slice (some ⟨V.heap.size, 0, none⟩) 15 15) (V.alloc (.cells Z15 5)) := hm15
  have HC15 := Lib.hid hc15
  have HD15 := Lib.hid hd15
  have HM15 := Lib.hid hk15
  clear hm15 hv15 hc15 hd15 hk15
  obtain ⟨Z100000, hm100000, hv100000⟩ := make_facts 100000 (by omega)
  have hc100000 := fun V => hv100000 V _ (Below.refl _ _)
  have hd100000 := fun V => hv100000 V _ (below_drew (Below.refl (V.alloc (.cells Z100000 5)).heap.size (V.alloc (.cells Z100000 5))))
  have hk100000 : ∀ V, (Instr.makeSlice 39 (.int .i64 100000) (.int .i64 100000)).run Try.prog V = .ok (.slice (some ⟨V.heap.size, 0, none⟩) 100000 100000) (V.alloc (.cells Z100000 5)) := hm100000
  have HC100000 := Lib.hid hc100000
  have HD100000 := Lib.hid hd100000
  have HM100000 := Lib.hid hk100000
  clear hm100000 hv100000 hc100000 hd100000 hk100000
  have HN := Lib.hid (fun W => Next35_range 1 10 16 0 false false (zs 40) 41 W (by rw [zs_size]; omega) (by decide +kernel) (by right; rw [zs_size]; omega))
  have HF16 := Lib.hid (fun W => Full35_any 1 10 16 0 false false (zs 16) W (by rw [zs_size]; omega))
  rw [full_16.1, full_16.2] at HF16
  have HF17 := Lib.hid (fun W => Full35_any 1 10 16 0 false false (zs 17) W (by rw [zs_size]; omega))
  rw [full_17.1, full_17.2] at HF17
  have HF15 := Lib.hid (fun W => Full35_any 1 10 16 0 false false (zs 15) W (by rw [zs_size]; omega))
  rw [full_15.1, full_15.2] at HF15
  have HCo := Lib.hid (fun W => Count35_any 1 10 16 0 false false (zs 100000) W (by rw [zs_size]; omega))
  rw [count_big, ask_big] at HCo
  have HEn := Lib.hid (fun W => Ends35_any 1 10 16 0 false false (zs 100000) W (by rw [zs_size]; omega))
  rw [ends_big.1, ends_big.2] at HEn
  have HL1 := Lib.hid (fun W => Longest_ok 1 10 16 0 false false W (by decide))
  have HL2 := Lib.hid (fun W => Longest_ok 1 10 16 0 true false W (by decide))
  unfold parV at HL1 HL2
  rw [show longV 16 false = 16 from rfl] at HL1
  rw [show longV 16 true = 64 from rfl] at HL2
  have HB1 := Lib.hid (fun W => bits35_yes 16 2 W bits_k.1 bits_k.2.2.2.1)
  have HB2 := Lib.hid (fun W => bits35_yes 31 2 W bits_k.2.1 bits_k.2.2.2.2.1)
  have HB3 := Lib.hid (fun W => bits35_yes 2097152 19 W bits_k.2.2.1 bits_k.2.2.2.2.2)
  have HE32 := Lib.hid (fun V => ends35_yes 32 (by omega) [16, 32] (some ⟨V.heap.size, 0, none⟩) 2 (V.heap.size + 1) _ (slice2 V 3 16 32) (by simp) (by simp) ends_32.1 ends_32.2)
  have HN1 := Lib.hid (fun W => next35_yes 32 40 false W (by omega) (by decide +kernel) (by decide +kernel))
  have HN2 := Lib.hid (fun W => next35_yes 16 32 true W (by omega) (by decide +kernel) (by decide +kernel))
  generalize zs 40 = s40 at *
  generalize zs 16 = s16 at *
  generalize zs 17 = s17 at *
  generalize zs 15 = s15 at *
  generalize zs 100000 = s100000 at *
  unfold EndsOut at HEn
  go_enter Try.func14, Try.ntmps14
  go_wp2_with fail
  refine (params35_any 16 false _).mono ?_
  rintro e w1 ⟨rfl, hB1⟩
  go_wp2_with fail
  refine (params35_any 16 true _).mono ?_
  rintro e w2 ⟨rfl, hB2⟩
  have hBw := below_alloc (below_alloc (below_then hB1 hB2) (.cells #[.int .i64 1, .int .i64 10, .int .i64 16, .int .i64 0, .bool false, .bool false] 49)) (.cells #[.int .i64 1, .int .i64 10, .int .i64 16, .int .i64 0, .bool true, .bool false] 49)
  have HP : Hid (∀ V, Below ((w2.alloc (.cells #[.int .i64 1, .int .i64 10, .int .i64 16, .int .i64 0, .bool false, .bool false] 49)).alloc (.cells #[.int .i64 1, .int .i64 10, .int .i64 16, .int .i64 0, .bool true, .bool false] 49)).heap.size ((w2.alloc (.cells #[.int .i64 1, .int .i64 10, .int .i64 16, .int .i64 0, .bool false, .bool false] 49)).alloc (.cells #[.int .i64 1, .int .i64 10, .int .i64 16, .int .i64 0, .bool true, .bool false] 49)) V → ParBox V w2.heap.size 1 10 16 0 false false ∧ ParBox V (w2.heap.size + 1) 1 10 16 0 true false) := fun V hV => by
    have a1 := (ParBox.new w2 1 10 16 0 false false 49).keep (below_new (w := w2.alloc (.cells #[.int .i64 1, .int .i64 10, .int .i64 16, .int .i64 0, .bool false, .bool false] 49)) (.cells #[.int .i64 1, .int .i64 10, .int .i64 16, .int .i64 0, .bool true, .bool false] 49)) (by simp)
    have a2 := ParBox.new (w2.alloc (.cells #[.int .i64 1, .int .i64 10, .int .i64 16, .int .i64 0, .bool false, .bool false] 49)) 1 10 16 0 true false 49
    rw [World.size_alloc] at a2
    exact ⟨a1.keep hV (by simp; omega), a2.keep hV (by simp)⟩
  have hBr := Below.refl ((w2.alloc (.cells #[.int .i64 1, .int .i64 10, .int .i64 16, .int .i64 0, .bool false, .bool false] 49)).alloc (.cells #[.int .i64 1, .int .i64 10, .int .i64 16, .int .i64 0, .bool true, .bool false] 49)).heap.size ((w2.alloc (.cells #[.int .i64 1, .int .i64 10, .int .i64 16, .int .i64 0, .bool false, .bool false] 49)).alloc (.cells #[.int .i64 1, .int .i64 10, .int .i64 16, .int .i64 0, .bool true, .bool false] 49))
  clear hB1 hB2
  go_wp2_with fail
  generalize hW0 : (w2.alloc (.cells #[.int .i64 1, .int .i64 10, .int .i64 16, .int .i64 0, .bool false, .bool false] 49)).alloc (.cells #[.int .i64 1, .int .i64 10, .int .i64 16, .int .i64 0, .bool true, .bool false] 49) = W0 at *
  clear hW0
  obtain ⟨⟨q0, q1, q2, q3, q4, q5⟩, ⟨t0, t1, t2, t3, t4, t5⟩⟩ := HP.out _ hBr
  have hlt0 := cell_lt' q0
  simp only at hlt0
  have hc := HC40.out
  have hd := HD40.out
  have hm := HM40.out
  go_cut [3, 4, 5] (fun s3 s4 s5 wx => s3 = .int .i64 0 ∧ s4 = .bool false ∧ s5 = .int .i64 2 ∧ Below W0.heap.size W0 wx)
  case first =>
    go_region_with
      (first
        | (go_at_call 46; refine (HN.out _).mono ?_; rintro e v1 ⟨rfl, hY1⟩; have hX1 := below_then (by first | exact hBr | exact below_drew hBr | exact below_alloc hBr _ | exact below_drew (below_alloc hBr _)) hY1))
    all_goals (
      go_wp2_with fail
      go_simp
      go_meet
      case rel => exact ⟨rfl, rfl, rfl, hX1⟩)
  obtain ⟨rfl, rfl, rfl, hX1⟩ := hcut
  clear hc hd hm hlt0
  clear q0 q1 q2 q3 q4 q5 t0 t1 t2 t3 t4 t5
  obtain ⟨⟨q0, q1, q2, q3, q4, q5⟩, ⟨t0, t1, t2, t3, t4, t5⟩⟩ := HP.out _ hX1
  go_wp2_with fail
  refine (HB1.out _).mono ?_
  rintro e v2 ⟨rfl, hY2⟩
  have hX2 := below_then (by first | exact hX1 | exact below_alloc hX1 _) hY2
  clear q0 q1 q2 q3 q4 q5 t0 t1 t2 t3 t4 t5
  obtain ⟨⟨q0, q1, q2, q3, q4, q5⟩, ⟨t0, t1, t2, t3, t4, t5⟩⟩ := HP.out _ hX2
  go_wp2_with fail
  refine (HB2.out _).mono ?_
  rintro e v3 ⟨rfl, hY3⟩
  have hX3 := below_then (by first | exact hX2 | exact below_alloc hX2 _) hY3
  clear q0 q1 q2 q3 q4 q5 t0 t1 t2 t3 t4 t5
  obtain ⟨⟨q0, q1, q2, q3, q4, q5⟩, ⟨t0, t1, t2, t3, t4, t5⟩⟩ := HP.out _ hX3
  go_wp2_with fail
  refine (HB3.out _).mono ?_
  rintro e v4 ⟨rfl, hY4⟩
  have hX4 := below_then (by first | exact hX3 | exact below_alloc hX3 _) hY4
  clear q0 q1 q2 q3 q4 q5 t0 t1 t2 t3 t4 t5
  obtain ⟨⟨q0, q1, q2, q3, q4, q5⟩, ⟨t0, t1, t2, t3, t4, t5⟩⟩ := HP.out _ hX4
  go_wp2_with fail
  refine (HE32.out _).mono ?_
  rintro e v5 ⟨rfl, hY5⟩
  have hX5 := below_then (by first | exact hX4 | exact below_alloc hX4 _) hY5
  clear q0 q1 q2 q3 q4 q5 t0 t1 t2 t3 t4 t5
  obtain ⟨⟨q0, q1, q2, q3, q4, q5⟩, ⟨t0, t1, t2, t3, t4, t5⟩⟩ := HP.out _ hX5
  go_wp2_with fail
  refine (HN1.out _).mono ?_
  rintro e v6 ⟨rfl, hY6⟩
  have hX6 := below_then (by first | exact hX5 | exact below_alloc hX5 _) hY6
  clear q0 q1 q2 q3 q4 q5 t0 t1 t2 t3 t4 t5
  obtain ⟨⟨q0, q1, q2, q3, q4, q5⟩, ⟨t0, t1, t2, t3, t4, t5⟩⟩ := HP.out _ hX6
  go_wp2_with fail
  refine (HN2.out _).mono ?_
  rintro e v7 ⟨rfl, hY7⟩
  have hX7 := below_then (by first | exact hX6 | exact below_alloc hX6 _) hY7
  clear q0 q1 q2 q3 q4 q5 t0 t1 t2 t3 t4 t5
  obtain ⟨⟨q0, q1, q2, q3, q4, q5⟩, ⟨t0, t1, t2, t3, t4, t5⟩⟩ := HP.out _ hX7
  go_wp2_with fail
  clear q0 q1 q2 q3 q4 q5 t0 t1 t2 t3 t4 t5
  obtain ⟨⟨q0, q1, q2, q3, q4, q5⟩, ⟨t0, t1, t2, t3, t4, t5⟩⟩ := HP.out _ hX7
  have hlt0 := cell_lt' q0
  simp only at hlt0
  have hc := HC16.out
  have hd := HD16.out
  have hm := HM16.out
  go_cut [6, 5] (fun s6 s5 wx => s6 = .bool true ∧ s5 = .int .i64 0 ∧ Below W0.heap.size W0 wx)
  case first =>
    go_region_with
      (first
        | (go_at_call 37; refine (HF16.out _).mono ?_; rintro e v8 ⟨rfl, hY8⟩; have hX8 := below_then (by first | exact hX7 | exact below_drew hX7 | exact below_alloc hX7 _ | exact below_drew (below_alloc hX7 _)) hY8))
    all_goals (
      go_wp2_with fail
      go_simp
      go_meet
      case rel => exact ⟨rfl, rfl, hX8⟩)
  obtain ⟨rfl, rfl, hX8⟩ := hcut
  clear hc hd hm hlt0
  clear q0 q1 q2 q3 q4 q5 t0 t1 t2 t3 t4 t5
  obtain ⟨⟨q0, q1, q2, q3, q4, q5⟩, ⟨t0, t1, t2, t3, t4, t5⟩⟩ := HP.out _ hX8
  go_wp2_with fail
  clear q0 q1 q2 q3 q4 q5 t0 t1 t2 t3 t4 t5
  obtain ⟨⟨q0, q1, q2, q3, q4, q5⟩, ⟨t0, t1, t2, t3, t4, t5⟩⟩ := HP.out _ hX8
  have hlt0 := cell_lt' q0
  simp only at hlt0
  have hc := HC17.out
  have hd := HD17.out
  have hm := HM17.out
  go_cut [7, 8] (fun s7 s8 wx => s7 = .bool false ∧ s8 = .int .i64 0 ∧ Below W0.heap.size W0 wx)
  case first =>
    go_region_with
      (first
        | (go_at_call 37; refine (HF17.out _).mono ?_; rintro e v9 ⟨rfl, hY9⟩; have hX9 := below_then (by first | exact hX8 | exact below_drew hX8 | exact below_alloc hX8 _ | exact below_drew (below_alloc hX8 _)) hY9))
    all_goals (
      go_wp2_with fail
      go_simp
      go_meet
      case rel => exact ⟨rfl, rfl, hX9⟩)
  obtain ⟨rfl, rfl, hX9⟩ := hcut
  clear hc hd hm hlt0
  clear q0 q1 q2 q3 q4 q5 t0 t1 t2 t3 t4 t5
  obtain ⟨⟨q0, q1, q2, q3, q4, q5⟩, ⟨t0, t1, t2, t3, t4, t5⟩⟩ := HP.out _ hX9
  go_wp2_with fail
  clear q0 q1 q2 q3 q4 q5 t0 t1 t2 t3 t4 t5
  obtain ⟨⟨q0, q1, q2, q3, q4, q5⟩, ⟨t0, t1, t2, t3, t4, t5⟩⟩ := HP.out _ hX9
  have hlt0 := cell_lt' q0
  simp only at hlt0
  have hc := HC15.out
  have hd := HD15.out
  have hm := HM15.out
  go_cut [9, 10] (fun s9 s10 wx => s9 = .bool false ∧ s10 = .int .i64 0 ∧ Below W0.heap.size W0 wx)
  case first =>
    go_region_with
      (first
        | (go_at_call 37; refine (HF15.out _).mono ?_; rintro e v10 ⟨rfl, hY10⟩; have hX10 := below_then (by first | exact hX9 | exact below_drew hX9 | exact below_alloc hX9 _ | exact below_drew (below_alloc hX9 _)) hY10))
    all_goals (
      go_wp2_with fail
      go_simp
      go_meet
      case rel => exact ⟨rfl, rfl, hX10⟩)
  obtain ⟨rfl, rfl, hX10⟩ := hcut
  clear hc hd hm hlt0
  clear q0 q1 q2 q3 q4 q5 t0 t1 t2 t3 t4 t5
  obtain ⟨⟨q0, q1, q2, q3, q4, q5⟩, ⟨t0, t1, t2, t3, t4, t5⟩⟩ := HP.out _ hX10
  go_wp2_with fail
  clear q0 q1 q2 q3 q4 q5 t0 t1 t2 t3 t4 t5
  obtain ⟨⟨q0, q1, q2, q3, q4, q5⟩, ⟨t0, t1, t2, t3, t4, t5⟩⟩ := HP.out _ hX10
  refine (HL1.out _).mono ?_
  rintro e v11 ⟨rfl, hY11⟩
  have hX11 := below_then (by first | exact hX10 | exact below_alloc hX10 _) hY11
  clear q0 q1 q2 q3 q4 q5 t0 t1 t2 t3 t4 t5
  obtain ⟨⟨q0, q1, q2, q3, q4, q5⟩, ⟨t0, t1, t2, t3, t4, t5⟩⟩ := HP.out _ hX11
  go_wp2_with fail
  refine (HL2.out _).mono ?_
  rintro e v12 ⟨rfl, hY12⟩
  have hX12 := below_then (by first | exact hX11 | exact below_alloc hX11 _) hY12
  clear q0 q1 q2 q3 q4 q5 t0 t1 t2 t3 t4 t5
  obtain ⟨⟨q0, q1, q2, q3, q4, q5⟩, ⟨t0, t1, t2, t3, t4, t5⟩⟩ := HP.out _ hX12
  go_wp2_with fail
  clear q0 q1 q2 q3 q4 q5 t0 t1 t2 t3 t4 t5
  obtain ⟨⟨q0, q1, q2, q3, q4, q5⟩, ⟨t0, t1, t2, t3, t4, t5⟩⟩ := HP.out _ hX12
  have hlt0 := cell_lt' q0
  simp only at hlt0
  have hc := HC100000.out
  have hd := HD100000.out
  have hm := HM100000.out
  go_cut [13, 10] (fun s13 s10 wx => s13 = .int .i64 6250 ∧ s10 = .int .i64 0 ∧ Below W0.heap.size W0 wx)
  case first =>
    go_region_with
      (first
        | (go_at_call 44; refine (HCo.out _).mono ?_; rintro e v13 ⟨rfl, hY13⟩; have hX13 := below_then (by first | exact hX12 | exact below_drew hX12 | exact below_alloc hX12 _ | exact below_drew (below_alloc hX12 _)) hY13))
    all_goals (
      go_wp2_with fail
      go_simp
      go_meet
      case rel => exact ⟨rfl, rfl, hX13⟩)
  obtain ⟨rfl, rfl, hX13⟩ := hcut
  clear hc hd hm hlt0
  clear q0 q1 q2 q3 q4 q5 t0 t1 t2 t3 t4 t5
  obtain ⟨⟨q0, q1, q2, q3, q4, q5⟩, ⟨t0, t1, t2, t3, t4, t5⟩⟩ := HP.out _ hX13
  go_wp2_with fail
  clear q0 q1 q2 q3 q4 q5 t0 t1 t2 t3 t4 t5
  obtain ⟨⟨q0, q1, q2, q3, q4, q5⟩, ⟨t0, t1, t2, t3, t4, t5⟩⟩ := HP.out _ hX13
  have hlt0 := cell_lt' q0
  simp only at hlt0
  have hc := HC100000.out
  have hd := HD100000.out
  have hm := HM100000.out
  go_cut [15] (fun s15 wx => s15 = .int .i64 6 ∧ Below W0.heap.size W0 wx)
  case first =>
    go_region_with
      (first
        | (go_at_call 35; refine (HEn.out _).mono ?_; rintro e v14 ⟨AA, cc, rfl, hSS, hY14⟩; have hX14 := below_then (by first | exact hX13 | exact below_drew hX13 | exact below_alloc hX13 _ | exact below_drew (below_alloc hX13 _)) hY14))
    all_goals (
      go_wp2_with fail
      go_simp
      go_meet
      case rel => exact ⟨rfl, hX14⟩)
  obtain ⟨rfl, hX14⟩ := hcut
  clear hc hd hm hlt0
  clear q0 q1 q2 q3 q4 q5 t0 t1 t2 t3 t4 t5
  obtain ⟨⟨q0, q1, q2, q3, q4, q5⟩, ⟨t0, t1, t2, t3, t4, t5⟩⟩ := HP.out _ hX14
  go_wp2_with fail
  refine (awake35_any _).mono ?_
  rintro e w9 ⟨rfl, hB9⟩
  go_wp2
  go_ret
  exact ⟨rfl, below_then hBw (below_then hX14 hB9)⟩

end Go.Proofs.Ytaofphifmgadjaa
