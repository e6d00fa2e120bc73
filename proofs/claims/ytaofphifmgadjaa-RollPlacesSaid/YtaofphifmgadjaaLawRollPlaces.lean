/- The statement cheesepresslaw34.RollPlaces holds: for every input the law returns true, and the arguments read as before. -/
import Derived.Test.YtaofphifmgadjaaShell
import Derived.Test.YtaofphifmgadjaaRollKnown
import Derived.Test.YtaofphifmgadjaaRollParts
import Derived.Deep.QuietTactic
import Derived.BigQuiet
namespace Go.Proofs.Ytaofphifmgadjaa.rollPlaces
open Go.ChangeShapes Go.WideShapes Go.ChangeAt Go.RowKit
open Go.ChangeMaps (open_string shut_string)
set_option linter.unusedVariables false
set_option maxRecDepth 100000

set_option maxHeartbeats 4000000 in
theorem walk (s t : ByteArray) (m : Int) (w : World) (hs : s.size ≤ maxLen) (ht : t.size ≤ maxLen) (hm : -9223372036854775808 ≤ m ∧ m ≤ 9223372036854775807) :
    Calls Try.prog 8 #[.string s, .string t, .int .i64 m] w fun e w' => e = .returned (.bool true) ∧ Below w.heap.size w w' := by
  have hs' : s.size ≤ 9223372036854775807 := hs
  have ht' : t.size ≤ 9223372036854775807 := ht
  clear hs ht
  by_cases hl : 150 < s.size
  · go_enter Try.func8, Try.ntmps8
    go_wp2_with fail
    refine (known34_any _).mono ?_
    rintro e w1 ⟨rfl, hB⟩
    go_wp2
    go_ret
    exact ⟨rfl, hB⟩
  · by_cases hl2 : 150 < t.size
    · go_enter Try.func8, Try.ntmps8
      go_wp2_with fail
      refine (known34_any _).mono ?_
      rintro e w1 ⟨rfl, hB⟩
      go_wp2
      go_ret
      exact ⟨rfl, hB⟩
    · obtain ⟨N, hN⟩ : ∃ N : Nat, modI m 5 = N := ⟨(modI m 5).toNat, by have := modI_lo (n := m) (m := 5) (by omega); omega⟩
      have hN4 : N ≤ 4 := by have := modI_lo (n := m) (m := 5) (by omega); omega
      obtain ⟨Q, hQ⟩ : ∃ Q : Nat, Q = N + 2 := ⟨_, rfl⟩
      obtain ⟨Q1, hQ1⟩ : ∃ Q1 : Nat, Q1 = Q - 1 := ⟨_, rfl⟩
      have HQ : Hid ((2 : Int) + (N : Int) = (Q : Int)) := by simp only [Hid]; omega
      have HQ1 : Hid ((Q : Int) - 1 = (Q1 : Int)) := by simp only [Hid]; omega
      have q1 : 2 ≤ Q := by omega
      have q2 : Q ≤ 6 := by omega
      have q3 : 1 ≤ Q1 := by omega
      have q4 : Q1 ≤ 5 := by omega
      have HN := Lib.hid hN
      have hadd : ∀ V, (Op.stringOp .add s t).run Try.prog V = .ok (.string (s ++ t)) V := fun V => run_string_add_sum V s t (by omega)
      have hst : (s ++ t).size ≤ 1048576 := by rw [ByteArray.size_append]; omega
      have hst2 : s.size ≤ (s ++ t).size ∧ (s ++ t).size ≤ 300 := by rw [ByteArray.size_append]; omega
      have HL := Lib.hid (part_left s t Q)
      have HR := Lib.hid (part_right s t Q)
      have SUB : ∀ x, x ∈ hitAt (s ++ t) Q (List.range ((s ++ t).size - 15)) → x ∈ hitAt (s ++ t) Q1 (List.range ((s ++ t).size - 15)) := by
        rw [hQ1]; exact hitAt_less (s ++ t) Q (by omega) (by omega) (List.range ((s ++ t).size - 15))
      clear hN hQ hQ1
      generalize s ++ t = ST at *
      have HFO := Lib.hid (first_ok (s := ST) (f := s.size) (n := Q) (by unfold badF; omega))
      have PX := places_ok ST (n := Q) (by omega)
      have PY := places_ok ST (n := Q1) (by omega)
      have PA := places_ok s (n := Q) (by omega)
      have PB := places_ok t (n := Q) (by omega)
      have EX := Lib.hid (hits_ok (h := 0) (n := Q) (by omega)).2
      have EY := Lib.hid (hits_ok (h := 0) (n := Q1) (by omega)).2
      have SX := hitAt_sorted ST Q (ST.size - 15)
      have SY := hitAt_sorted ST Q1 (ST.size - 15)
      have hlx := hitAt_len ST Q (List.range (ST.size - 15))
      have hly := hitAt_len ST Q1 (List.range (ST.size - 15))
      have hla := hitAt_len s Q (List.range (s.size - 15))
      have hlb := hitAt_len t Q (List.range (t.size - 15))
      rw [List.length_range] at hlx hly hla hlb
      have hbx : ∀ x, x ∈ hitAt ST Q (List.range (ST.size - 15)) → 0 ≤ x ∧ x ≤ 1000 := by
        intro x hx
        obtain ⟨k, hk, _, rfl⟩ := hitAt_mem.1 hx
        have := List.mem_range.1 hk
        omega
      obtain ⟨xs, hxs⟩ : ∃ xs, hitAt ST Q (List.range (ST.size - 15)) = xs := ⟨_, rfl⟩
      obtain ⟨ys, hys⟩ : ∃ ys, hitAt ST Q1 (List.range (ST.size - 15)) = ys := ⟨_, rfl⟩
      obtain ⟨al, has⟩ : ∃ al, hitAt s Q (List.range (s.size - 15)) = al := ⟨_, rfl⟩
      obtain ⟨bs, hbs⟩ : ∃ bs, hitAt t Q (List.range (t.size - 15)) = bs := ⟨_, rfl⟩
      simp only [hxs, hys, has, hbs] at PX PY PA PB HL HR SUB SX SY hlx hly hla hlb hbx
      clear hxs hys has hbs
      have lxs : xs.length ≤ 1000 := by omega
      have lys : ys.length ≤ 1000 := by omega
      have las : al.length ≤ 1000 := by omega
      have lbs : bs.length ≤ 1000 := by omega
      have HPX := Lib.hid PX
      have HPY := Lib.hid PY
      have HPA := Lib.hid PA
      have HPB := Lib.hid PB
      have SUBh := Lib.hid SUB
      have SXh := Lib.hid SX
      have SYh := Lib.hid SY
      have BX := Lib.hid hbx
      clear SUB SX SY hbx hlx hly hla hlb PX PY PA PB
      go_enter Try.func8, Try.ntmps8
      go_wp2_with fail
      refine (known34_any _).mono ?_
      rintro e w1 ⟨rfl, hB1⟩
      go_wp2_with fail
      refine (Mod_any m 5 _ hm.1 hm.2 (by omega)).mono ?_
      rintro e w2 ⟨rfl, rfl⟩
      rw [HN.out]
      go_wp2_with fail
      rw [HQ.out]
      refine (Places_any ST Q _ hst).mono ?_
      rintro e w2 ⟨A1, c1, rfl, hs1, hB2⟩
      rw [HPX.out] at hs1 ⊢
      rw [EX.out]
      go_wp2_with fail
      rw [HQ1.out]
      refine (Places_any ST Q1 _ hst).mono ?_
      rintro e w3 ⟨A2, c2, rfl, hs2, hB3⟩
      rw [HPY.out] at hs2 ⊢
      rw [EY.out]
      go_wp2_with fail
      refine (Places_any s Q _ (by omega)).mono ?_
      rintro e w4 ⟨A3, c3, rfl, hs3, hB4⟩
      rw [HPA.out] at hs3 ⊢
      rw [EX.out]
      go_wp2_with fail
      refine (Places_any t Q _ (by omega)).mono ?_
      rintro e w5 ⟨A4, c4, rfl, hs4, hB5⟩
      rw [HPB.out] at hs4 ⊢
      rw [EX.out]
      have z1 : SliceAt .i64 w5 w5.heap.size A1 xs := ((hs1.below hB3).below (hB4.mono hB3.size)).below (hB5.mono (Nat.le_trans hB3.size hB4.size)) |>.more (Nat.le_trans hB3.size (Nat.le_trans hB4.size hB5.size))
      have z2 : SliceAt .i64 w5 w5.heap.size A2 ys := (hs2.below hB4).below (hB5.mono hB4.size) |>.more (Nat.le_trans hB4.size hB5.size)
      have z3 : SliceAt .i64 w5 w5.heap.size A3 al := (hs3.below hB5).more hB5.size
      have hBB : Below w.heap.size w w5 := below_then (below_then (below_then (below_then hB1 hB2) hB3) hB4) hB5
      clear hs1 hs2 hs3 hB1 hB2 hB3 hB4 hB5
      go_wp2_with fail
      have HKS := Lib.hid (fun i p x => @kinv_step xs ys SXh.out SYh.out i p x)
      have HPL : Hid (∀ (i : Nat) (x : Int), xs[i]? = some x → ∃ p : Nat, p < ys.length ∧ ys[p]? = some x) := fun i x hx => by
        obtain ⟨p, hp, e⟩ := List.mem_iff_getElem.1 (SUBh.out x (List.mem_of_getElem? hx))
        exact ⟨p, hp, by rw [List.getElem?_eq_getElem hp, e]⟩
      have HLS := Lib.hid (fun a b x y => @sorted_lt ys SYh.out a b x y)
      obtain ⟨i0, hi, hz0, hz1, hz2⟩ := info_parts Try.infoInt
      go_loopw [16, 17, 18, 19] (fun lv rv kv iv wr => ∃ i k : Nat, i ≤ xs.length ∧ k ≤ ys.length ∧ iv = .int .i64 i ∧ kv = .int .i64 k ∧ Hid (KInv xs ys i k) ∧
        wr.ownsRow w5.heap.size 3 1 lv ((xs.take i).filter (fun x => decide (x ≤ (s.size : Int)))).length (((xs.take i).filter (fun x => decide (x ≤ (s.size : Int)))).map (Value.int .i64)) ∧
        wr.ownsRow w5.heap.size 3 1 rv (((xs.take i).filter (fun x => decide ((s.size : Int) + 16 ≤ x))).map (fun x => x - (s.size : Int))).length ((((xs.take i).filter (fun x => decide ((s.size : Int) + 16 ≤ x))).map (fun x => x - (s.size : Int))).map (Value.int .i64)) ∧
        Apart lv rv ∧ Below w5.heap.size w5 wr) (fun _ _ _ iv _ => xs.length - (intOf iv).toNat)
      case atStart => exact ⟨0, 0, Nat.zero_le _, Nat.zero_le _, rfl, rfl, fun _ _ _ _ _ _ => Nat.zero_le _, World.ownsRow_nil _ _ _ _, World.ownsRow_nil _ _ _ _, .inl rfl, Below.refl _ _⟩
      case round =>
        obtain ⟨i, k, hi1, hk1, rfl, rfl, hK, ho1, ho2, hd, hBw⟩ := hrel
        by_cases hlt : i < xs.length
        · obtain ⟨b1, off1, x, rfl, hx, hcx⟩ := (z1.below hBw).get hlt
          obtain ⟨p, hp, hpx⟩ := HPL.out i x hx
          have hkp : k ≤ p := hK.out i p x (Nat.le_refl _) hx hpx
          have HX := Lib.hid hx
          have HPX2 := Lib.hid hpx
          have HC : Hid (∀ V' : World, Below w5.heap.size w5 V' → V'.cell? ⟨b1, off1 + i, none⟩ = some (.int .i64 x)) := fun V' hV => by
            obtain ⟨b4, off4, x4, he4, hx4, hc4⟩ := (z1.below hV).get hlt
            injection he4 with he4
            injection he4 with h1 h2 _
            subst h1 h2
            rw [HX.out] at hx4
            injection hx4 with hx4
            subst hx4
            exact hc4
          clear hx hpx
          obtain ⟨L, hL⟩ : ∃ L, (xs.take i).filter (fun x => decide (x ≤ (s.size : Int))) = L := ⟨_, rfl⟩
          obtain ⟨R, hR⟩ : ∃ R, ((xs.take i).filter (fun x => decide ((s.size : Int) + 16 ≤ x))).map (fun x => x - (s.size : Int)) = R := ⟨_, rfl⟩
          rw [hL] at ho1
          rw [hR] at ho2
          have HLh := Lib.hid hL
          have HRh := Lib.hid hR
          clear hL hR
          obtain ⟨B1, d1, rfl⟩ := owns_slice ho1
          obtain ⟨B2, d2, rfl⟩ := owns_slice ho2
          go_wp2
          go_hide hQ
          go_loopw [18] (fun kv wq => ∃ k' : Nat, k' ≤ p ∧ kv = .int .i64 k' ∧ wq.ownsRow w5.heap.size 3 1 (.slice B1 L.length d1) L.length (L.map (Value.int .i64)) ∧ wq.ownsRow w5.heap.size 3 1 (.slice B2 R.length d2) R.length (R.map (Value.int .i64)) ∧ Below w5.heap.size w5 wq) (fun kv _ => p - (intOf kv).toNat)
          case atStart => exact ⟨k, hkp, rfl, ho1, ho2, hBw⟩
          case round =>
            obtain ⟨k', hk', rfl, hp1, hp2, hBq⟩ := hrel
            obtain ⟨b3, off3, y, rfl, hy, hcy⟩ := (z2.below hBq).get (show k' < ys.length by omega)
            have hcx' := HC.out wr hBq
            have g1 : (0 : Int) ≤ (k' : Int) := by omega
            have g2 : (k' : Int) < (ys.length : Int) := by omega
            have g3 : (0 : Int) ≤ (i : Int) := by omega
            have g4 : (i : Int) < (xs.length : Int) := by omega
            by_cases hkq : k' < p
            · have hyx : y < x := HLS.out k' p y x hy HPX2.out hkq
              clear hy
              go_wp2
              go_quiet (fail)
              go_wp2
              go_roundw
              case rel => exact ⟨k' + 1, by omega, by go_num, hp1, hp2, ⟨hBq.os, hBq.tape, hBq.output, hBq.size, hBq.block⟩⟩
              case measure => simp [intOf]; omega
            · obtain rfl : k' = p := by omega
              obtain rfl : y = x := by have := HPX2.out; rw [hy] at this; injection this
              have hyx : decide (y < y) = false := by simp
              clear hy
              go_wp2
              go_quiet (fail)
              go_wp2
              subst hQ
              have hv1 : (wr.drewN nq).ownsRow w5.heap.size 3 1 (.slice B1 L.length d1) L.length (L.map (Value.int .i64)) := hp1
              have hv2 : (wr.drewN nq).ownsRow w5.heap.size 3 1 (.slice B2 R.length d2) R.length (R.map (Value.int .i64)) := hp2
              have hBv : Below w5.heap.size w5 (wr.drewN nq) := below_drewN hBq nq
              have hcv : (wr.drewN nq).cell? ⟨b1, off1 + i, none⟩ = some (.int .i64 y) := hcx'
              have hcw : (wr.drewN nq).cell? ⟨b3, off3 + k', none⟩ = some (.int .i64 y) := hcy
              clear hp1 hp2 hBq hcx' hcy
              generalize wr.drewN nq = W7 at *
              have t1 : ((k' : Int) == (ys.length : Int)) = false := beq_false_of_ne (by omega)
              have t2 : (y != y) = false := by simp
              go_wp2
              go_quiet (fail)
              have hv1' : (W7.drewN nq).ownsRow w5.heap.size 3 1 (.slice B1 L.length d1) L.length (L.map (Value.int .i64)) := hv1
              have hv2' : (W7.drewN nq).ownsRow w5.heap.size 3 1 (.slice B2 R.length d2) R.length (R.map (Value.int .i64)) := hv2
              have hBv' : Below w5.heap.size w5 (W7.drewN nq) := below_drewN hBv nq
              have hcv' : (W7.drewN nq).cell? ⟨b1, off1 + i, none⟩ = some (.int .i64 y) := hcv
              clear hv1 hv2 hBv hcv hcw
              generalize W7.drewN nq = V at *
              have hyb := BX.out y (List.mem_of_getElem? HX.out)
              have hLl : L.length ≤ 1000 := by
                rw [← HLh.out]; exact Nat.le_trans (List.length_filter_le _ _) (by rw [List.length_take]; omega)
              have hRl : R.length ≤ 1000 := by
                rw [← HRh.out, List.length_map]; exact Nat.le_trans (List.length_filter_le _ _) (by rw [List.length_take]; omega)
              have HK2 := Lib.hid (HKS.out i k' y HX.out HPX2.out)
              by_cases hys : y ≤ (s.size : Int)
              · have hns : ¬ ((s.size : Int) + 16 ≤ y) := by omega
                have E1 : Hid ((xs.take (i + 1)).filter (fun x => decide (x ≤ (s.size : Int))) = L ++ [y]) := by rw [take_yes HX.out (by simpa using hys), HLh.out]; rfl
                have E2 : Hid (((xs.take (i + 1)).filter (fun x => decide ((s.size : Int) + 16 ≤ x))).map (fun x => x - (s.size : Int)) = R) := by rw [take_no HX.out (by simpa using hns), HRh.out]; rfl
                go_wp2_with (at_builtin; refine wpList_append_sl _ rfl _ _ 41 rfl w5.heap.size 3 i0 (.int .i64 0) 8 Try.underlying41 hi hz0 hz1 hz2 rfl _ L.length (L.map (Value.int .i64)) rfl (hv1'.alloc _) (k := .i64) (B := V.heap.size + 1) (xs := [y]) 1 rfl (slice_one V .i64 3 (y)) (by simp only [maxLen, List.length_singleton]; omega) (by simp only [List.length_singleton]; omega) (by have := hBv'.size; simp; omega) ?_; intro v' w6 hown' hgrow hblk; obtain ⟨A9, c9, rfl⟩ := owns_slice hown'; have hB6 : Below w5.heap.size w5 w6 := (hBv'.alloc hBv'.size _).grown hgrow (by have := hBv'.size; simp; omega) (fun z hz => (hv1'.lt z hz).1); have hc6 := HC.out w6 hB6)
                have hr6 := own_kept1 (hv2'.alloc _) hgrow hd
                have hd6 := apart1 hv2' (m := (V.alloc (.cells #[.int .i64 y] 3)).heap.size) (by simp) hd hblk
                clear hgrow hblk hv1' hv2' hBv' hcv'
                go_roundw
                case rel => exact ⟨i + 1, k', by omega, by omega, by go_num, rfl, HK2, by rw [E1.out]; simpa using hown', by rw [E2.out]; exact hr6, hd6, hB6⟩
                case measure => simp [intOf]; omega
              · by_cases hns : (s.size : Int) + 16 ≤ y
                · have E1 : Hid ((xs.take (i + 1)).filter (fun x => decide (x ≤ (s.size : Int))) = L) := by rw [take_no HX.out (by simpa using hys), HLh.out]; rfl
                  have E2 : Hid (((xs.take (i + 1)).filter (fun x => decide ((s.size : Int) + 16 ≤ x))).map (fun x => x - (s.size : Int)) = R ++ [y - (s.size : Int)]) := by rw [take_yes HX.out (by simpa using hns), List.map_append, HRh.out]; rfl
                  go_wp2_with (at_builtin; refine wpList_append_sl _ rfl _ _ 41 rfl w5.heap.size 3 i0 (.int .i64 0) 8 Try.underlying41 hi hz0 hz1 hz2 rfl _ R.length (R.map (Value.int .i64)) rfl (hv2'.alloc _) (k := .i64) (B := V.heap.size + 1) (xs := [y - (s.size : Int)]) 1 rfl (slice_one V .i64 3 (y - (s.size : Int))) (by simp only [maxLen, List.length_singleton]; omega) (by simp only [List.length_singleton]; omega) (by have := hBv'.size; simp; omega) ?_; intro v' w6 hown' hgrow hblk; obtain ⟨A9, c9, rfl⟩ := owns_slice hown'; have hB6 : Below w5.heap.size w5 w6 := (hBv'.alloc hBv'.size _).grown hgrow (by have := hBv'.size; simp; omega) (fun z hz => (hv2'.lt z hz).1))
                  have hr6 := own_kept2 (hv1'.alloc _) hgrow hd
                  have hd6 := apart2 hv1' (m := (V.alloc (.cells #[.int .i64 (y - (s.size : Int))] 3)).heap.size) (by simp) hd hblk
                  clear hgrow hblk hv1' hv2' hBv' hcv'
                  go_roundw
                  case rel => exact ⟨i + 1, k', by omega, by omega, by go_num, rfl, HK2, by rw [E1.out]; exact hr6, by rw [E2.out]; simpa using hown', hd6, hB6⟩
                  case measure => simp [intOf]; omega
                · have E1 : Hid ((xs.take (i + 1)).filter (fun x => decide (x ≤ (s.size : Int))) = L) := by rw [take_no HX.out (by simpa using hys), HLh.out]; rfl
                  have E2 : Hid (((xs.take (i + 1)).filter (fun x => decide ((s.size : Int) + 16 ≤ x))).map (fun x => x - (s.size : Int)) = R) := by rw [take_no HX.out (by simpa using hns), HRh.out]; rfl
                  go_wp2
                  go_roundw
                  case rel => exact ⟨i + 1, k', by omega, by omega, by go_num, rfl, HK2, by rw [E1.out]; exact hv1', by rw [E2.out]; exact hv2', hd, hBv'⟩
                  case measure => simp [intOf]; omega
        · obtain rfl : i = xs.length := by omega
          rw [List.take_length] at ho1 ho2
          rw [HL.out] at ho1
          rw [HR.out] at ho2
          obtain ⟨B1, d1, rfl⟩ := owns_slice ho1
          obtain ⟨B2, d2, rfl⟩ := owns_slice ho2
          have y1 := SliceAt.of_own ho1
          have y2 := SliceAt.of_own ho2
          clear ho1 ho2 hd hK
          go_wp2_with fail
          refine (First_any ST s.size Q _ hst).mono ?_
          rintro e w8 ⟨rfl, hB8⟩
          rw [HFO.out.1, HFO.out.2, HPX.out]
          obtain ⟨o, ho⟩ : ∃ o, firstL xs (s.size : Int) = o := ⟨_, rfl⟩
          rw [ho]
          have HO := Lib.hid ho
          clear ho
          go_wp2
          have HD : Hid (∀ (q : Nat) (x : Int), xs[q]? = some x → firstL (xs.drop q) (s.size : Int) = if (s.size : Int) ≤ x then some x else firstL (xs.drop (q + 1)) (s.size : Int)) := fun q x hx => by
            obtain ⟨hq, e⟩ := List.getElem?_eq_some_iff.1 hx
            rw [List.drop_eq_getElem_cons hq, e, firstL_cons]
          have hx8 : SliceAt .i64 w8 w8.heap.size A1 xs := ((z1.below hBw).below (hB8.mono hBw.size)).more (Nat.le_trans hBw.size hB8.size)
          have hnil : Hid (firstL (xs.drop xs.length) (s.size : Int) = none) := by rw [List.drop_length]; rfl
          go_loop [23, 24, 25] (fun want found jv => ∃ (r : Nat) (j : Int), r ≤ xs.length ∧ jv = .int .i64 j ∧ (r : Int) - 1 ≤ j ∧ j ≤ (r : Int) - 1 ∧ want = .int .i64 ((firstL (xs.drop r) (s.size : Int)).getD 0) ∧ found = .bool (firstL (xs.drop r) (s.size : Int)).isSome) (fun _ _ jv => (intOf jv + 1).toNat)
          case atStart => exact ⟨xs.length, (xs.length : Int) - 1, Nat.le_refl _, rfl, by omega, by omega, val_int (by rw [hnil.out]; rfl), val_bool (by rw [hnil.out]; rfl)⟩
          case round =>
            obtain ⟨r, j, hr, rfl, hj1, hj2, rfl, rfl⟩ := hrel
            by_cases hr0 : r = 0
            · subst hr0
              have hjn : ¬ (0 ≤ j) := by omega
              have HF0 : Hid (firstL (xs.drop 0) (s.size : Int) = o) := HO
              rw [HF0.out]
              go_wp2_with fail
              refine (SameInts_any B1 A3 al al d1 c3 w8.heap.size w8 ((y1.below hB8).more hB8.size) ((z3.below (hBw)).below (hB8.mono hBw.size) |>.more (Nat.le_trans hBw.size hB8.size)) (Nat.le_refl _) (by omega) (by omega)).mono ?_
              rintro e w9 ⟨rfl, hB9⟩
              rw [sameI_yes]
              go_wp2_with fail
              refine (SameInts_any B2 A4 bs bs d2 c4 w9.heap.size w9 (((y2.below hB8).below (hB9.mono hB8.size)).more (Nat.le_trans hB8.size hB9.size)) ((((hs4.below hBw).below (hB8.mono hBw.size)).below (hB9.mono (Nat.le_trans hBw.size hB8.size))).more (Nat.le_trans hBw.size (Nat.le_trans hB8.size hB9.size))) (Nat.le_refl _) (by omega) (by omega)).mono ?_
              rintro e w10 ⟨rfl, hB10⟩
              rw [sameI_yes]
              go_wp2_with fail
              go_ret
              exact ⟨rfl, below_then (below_then (below_then (below_then hBB hBw) hB8) hB9) hB10⟩
            · obtain ⟨q, rfl⟩ : ∃ q, r = q + 1 := ⟨r - 1, by omega⟩
              obtain rfl : j = (q : Int) := by omega
              obtain ⟨b1, off1, x, rfl, hx, hcx⟩ := hx8.get (show q < xs.length by omega)
              have HDx := Lib.hid (HD.out q x hx)
              have g1 : (0 : Int) ≤ (q : Int) := by omega
              have g2 : (q : Int) < (xs.length : Int) := by omega
              clear hx hj1 hj2
              generalize firstL (xs.drop (q + 1)) (s.size : Int) = o2 at *
              by_cases hfx : (s.size : Int) ≤ x
              · go_wp2
                go_round
                case rel => exact ⟨q, (q : Int) - 1, by omega, by go_num, by omega, by omega, val_int (by rw [HDx.out, if_pos hfx]; rfl), val_bool (by rw [HDx.out, if_pos hfx]; rfl)⟩
                case measure => simp [intOf] <;> omega
              · go_wp2
                go_round
                case rel => exact ⟨q, (q : Int) - 1, by omega, by go_num, by omega, by omega, val_int (by rw [HDx.out, if_neg hfx]), val_bool (by rw [HDx.out, if_neg hfx])⟩
                case measure => simp [intOf] <;> omega

/-! The step from the walk to the statement: the shell's text. -/
set_option maxRecDepth 100000 in
theorem lifted (os : Os) (started : os.Started) (H : Type) (enc : TypeId × Value → H) :
    ReturnsInHanded {} Try.checked os 8 .any (Rows.rollPlacesSpec.pre6 enc Try.prog Try.f8 Rows.rollPlacesRow.domain false) (Rows.rollPlacesSpec.post enc Try.prog Try.f8 false true false false) := by
  refine returnsInHanded_of_change (C := Try.checked) own started (by kernel_rfl) Try.func8
    (ChangeSpec.witness6 (enc := enc) (C := Try.checked) false ⟨#[], #[.string ByteArray.empty, .string ByteArray.empty, .int .i64 0], []⟩ 8 (by kernel_rfl) (by kernel_rfl) (by kernel_rfl) (by kernel_rfl)) ?_
  intro W base args ds gs before hval0 hW hcnd _
  have hval : ∀ (j : Nat) t v, Try.f8.params[j]? = some t → args[j]? = some v → Value.okWide Try.prog W .any base t v := hval0
  have hW' := hW
  obtain ⟨p, q, hA0, hV, rfl, hfz, hnd⟩ := hW
  have hA : DataW.TrodAll enc Try.prog W 0 (fun _ => true) true Try.f8.params.toList args.toList ds p := hA0
  rw [Try.params8] at hA hval
  obtain ⟨v0, vs0, d0, ds0, p0, q0, hargs, rfl, rfl, h0, r0⟩ := trodAll_cons hA
  obtain ⟨v1, vs1, d1, ds1, p1, q1, rfl, rfl, rfl, h1, r1⟩ := trodAll_cons r0
  obtain ⟨v2, vs2, d2, ds2, p2, q2, rfl, rfl, rfl, h2, r2⟩ := trodAll_cons r1
  obtain ⟨rfl, rfl, rfl⟩ := trodAll_nil r2
  obtain rfl : args = #[v0, v1, v2] := by cases args; simp_all
  obtain ⟨rfl, rfl⟩ := trodVars_none hV
  obtain ⟨a0, rfl, rfl, rfl, w0⟩ := open_string Try.underlying9 (hval 0 9 v0 rfl rfl) h0
  obtain ⟨a1, rfl, rfl, rfl, w1⟩ := open_string Try.underlying9 (hval 1 9 v1 rfl rfl) h1
  obtain ⟨a2, rfl, rfl, rfl, w2⟩ := open_int Try.underlying3 (hval 2 3 v2 rfl rfl) h2
  clear hA0 hval0
  refine (walk a0 a1 a2 W w0 w1 (bounds_i64 w2)).mono fun e W' ⟨he, bel⟩ => ?_
  subst he
  exact ⟨_, rfl, _, _, _, [], _, [], hW', trodAll_mk1 (shut_bool Try.underlying4 _), (trodAll_cons_mk (shut_string Try.underlying9 w0) (trodAll_cons_mk (shut_string Try.underlying9 w1) (trodAll_cons_mk (shut_int Try.underlying3 w2) trodAll_mk0))), rfl, bel.frame _, fun h => by cases h⟩

theorem over : Rows.rollPlacesRow.holds Try.pinned (OpenSpec.ofChange Rows.rollPlacesSpec) :=
  OpenClaim.holds_of_wide 8 Try.f8 rfl rfl rfl rfl rfl rfl rfl ⟨rfl, rfl, rfl, rfl, rfl⟩ rfl rfl rfl rfl rfl (by kernel_rfl) Try.func8 (by kernel_rfl)
    (of_decide_eq_true (by kernel_rfl)) (by unfold Func.isWrapper; first | (rw [if_pos (by decide +kernel)]; kernel_rfl) | (rw [if_neg (by decide +kernel)]; exact ⟨rfl, rfl⟩))
    (fun os started H enc _ => lifted os started H enc)

/-- The statement. -/
theorem proved : Rows.RollPlacesSaid := over
#print axioms proved
end Go.Proofs.Ytaofphifmgadjaa.rollPlaces
