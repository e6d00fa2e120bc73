/- The statement cheesepresslaw43.BoundSums holds: for every input the law returns true, and the arguments read as before. -/
import Derived.Test.YtfdbkpbgkpkckaaShell
import Derived.Test.YtfdbkpbgkpkckaaBoundLens
import Derived.Test.YtfdbkpbgkpkckaaLongest
namespace Go.Proofs.Ytfdbkpbgkpkckaa.boundSums
open Go.ChangeShapes Go.WideShapes Go.ChangeAt Go.RowKit
open Go.ChangeMaps (open_string shut_string)
set_option linter.unusedVariables false
set_option maxRecDepth 100000

theorem many_mono {Z Z' n : Int} (h : 1024 ≤ Z) (h' : Z ≤ Z') (hn : 0 ≤ n) : manyV Z' n ≤ manyV Z n := by
  obtain ⟨q, hq⟩ : ∃ q, q = (n + Z - 1) / Z := ⟨_, rfl⟩
  have h0 : 0 ≤ q := by rw [hq]; exact Int.ediv_nonneg (by omega) (by omega)
  have h1 : n + Z - 1 < (q + 1) * Z := by
    rw [hq]; exact Int.lt_ediv_add_one_mul_self _ (by omega)
  have h2 : q * Z ≤ q * Z' := Int.mul_le_mul_of_nonneg_left h' h0
  have h3 : (n + Z' - 1) / Z' ≤ q := by
    apply Int.le_of_lt_add_one
    rw [Int.ediv_lt_iff_lt_mul (by omega), Int.add_mul, Int.one_mul]
    rw [Int.add_mul, Int.one_mul] at h1
    omega
  unfold manyV
  rw [← hq]
  omega
theorem many_le {Z n : Int} (h : 1024 ≤ Z) (hn : 0 ≤ n) : manyV Z n ≤ max n 1 := by
  have h3 : (n + Z - 1) / Z ≤ max n 1 := by
    apply Int.le_of_lt_add_one
    rw [Int.ediv_lt_iff_lt_mul (by omega), Int.add_mul, Int.one_mul]
    have : max n 1 * 1 ≤ max n 1 * Z := Int.mul_le_mul_of_nonneg_left (by omega) (by omega)
    omega
  unfold manyV
  omega
theorem sum_mono {Z Z' : Int} (h : 1024 ≤ Z) (h' : Z ≤ Z') (xs : List Int) (ha : xs.all lenOk = true) : blkSum Z' xs ≤ blkSum Z xs := by
  induction xs with
  | nil => simp [blkSum]
  | cons x xs ih =>
    rw [List.all_cons, Bool.and_eq_true] at ha
    have h1 := many_mono h h' (lenOk_iff.1 ha.1).1
    have h2 := ih ha.2
    have e : ∀ Z, blkSum Z (x :: xs) = manyV Z x + blkSum Z xs := fun Z => by simp [blkSum]
    rw [e, e]
    omega
theorem blk_mono {a b : Int} (h : a ≤ b) : blkV a ≤ blkV b := by
  have : (2 : Int) ^ a.toNat ≤ 2 ^ b.toNat := par_pow (by omega)
  unfold blkV
  omega
theorem blks_in (wd : Int) (xs : List Int) (hw : 10 ≤ wd ∧ wd ≤ 27) (ha : xs.all lenOk = true) (hl : xs.length ≤ 70000) : blksV 1 wd 4096 0 xs = blkSum (blkV wd) xs ∧ blksE 1 wd 4096 0 xs = 0 :=
  blks_ok (by unfold blksBad parBad; rw [ha]; simp; omega)

attribute [local go_sem ↓] Go.wp_at_zero Go.wp_at_succ
set_option maxHeartbeats 8000000 in
theorem walk (A : Option Addr) (xs : List Int) (c : Nat) (A' : Option Addr) (ys : List Int) (c' : Nat) (a b : Int) (w : World)
    (hs : SliceAt .i64 w w.heap.size A xs) (hwx : ∀ x ∈ xs, (Lit.int .i64 x).wf = true) (hlen : xs.length ≤ 9223372036854775807)
    (hs' : SliceAt .i64 w w.heap.size A' ys) (hwy : ∀ x ∈ ys, (Lit.int .i64 x).wf = true) (hlen' : ys.length ≤ 9223372036854775807)
    (hab : -9223372036854775808 ≤ a ∧ a ≤ 9223372036854775807) (hbb : -9223372036854775808 ≤ b ∧ b ≤ 9223372036854775807) :
    Calls Try.prog 3 #[.slice A xs.length c, .slice A' ys.length c', .int .i64 a, .int .i64 b] w fun e w' => e = .returned (.bool true) ∧ Below w.heap.size w w' := by
  obtain ⟨M, hM⟩ : ∃ M, modI a 18 = M := ⟨_, rfl⟩
  obtain ⟨N, hN⟩ : ∃ N, modI b 18 = N := ⟨_, rfl⟩
  have m1 := modI_lo (n := a) (m := 18) (by omega)
  have m2 := modI_lo (n := b) (m := 18) (by omega)
  rw [hM] at m1
  rw [hN] at m2
  have HM := Lib.hid hM
  have HN := Lib.hid hN
  clear hM hN
  have HW1 := Lib.hid hwx
  have HW2 := Lib.hid hwy
  clear hwx hwy
  unfold parV at *
  go_enter Try.func3, Try.ntmps3
  go_wp2_with fail
  refine (params43_any _).mono ?_
  rintro e w1 ⟨rfl, hB1⟩
  unfold parV
  go_wp2_with fail
  refine (params43_any _).mono ?_
  rintro e w2 ⟨rfl, hB2⟩
  unfold parV
  go_wp2_with fail
  refine (Mod_any a 18 _ hab.1 hab.2 (by omega)).mono ?_
  rintro e w3 ⟨rfl, rfl⟩
  rw [HM.out]
  go_wp2_with fail
  go_region_held3 (fun w' => w'.cell? ⟨w2.heap.size, 1, none⟩ = some (.int .i64 (10 + M))) (go_keep) ((go_at_call 15; refine (Mod_any b _ _ hbb.1 hbb.2 (by omega)).mono ?_; rintro e w3 ⟨rfl, rfl⟩; rw [HN.out]))
  rename_i hHeld
  clear hHeld
  obtain ⟨V, hV⟩ : ∃ V, (if 27 < IntKind.i64.wrap (10 + M + N) then (27 : Int) else IntKind.i64.wrap (10 + M + N)) = V := ⟨_, rfl⟩
  have v1 : 10 + M ≤ V ∧ V ≤ 27 := by
    rw [IntWalk.i64_in _ (by omega)] at hV
    split at hV <;> omega
  have HV := Lib.hid hV
  clear hV
  rw [HV.out]
  obtain ⟨U, hU⟩ : ∃ U, 10 + M = U := ⟨_, rfl⟩
  have u1 : 10 ≤ U ∧ U ≤ V := by omega
  rw [hU]
  have HU := Lib.hid hU
  clear hU m1 m2
  obtain ⟨W3, hW3⟩ : ∃ W3, ((w2.alloc (.cells #[.int .i64 1, .int .i64 U, .int .i64 4096, .int .i64 0, .bool false, .bool false] 24)).alloc (.cells #[.int .i64 1, .int .i64 V, .int .i64 4096, .int .i64 0, .bool false, .bool false] 24)).drew = W3 := ⟨_, rfl⟩
  have PA : ParBox W3 w2.heap.size 1 U 4096 0 false false := by
    rw [← hW3]
    exact (((ParBox.new w2 1 U 4096 0 false false 24).keep (below_new _) (by simp)).keep (below_drew (Below.refl (w2.heap.size + 1) _)) (by simp))
  have PQ : ParBox W3 (w2.heap.size + 1) 1 V 4096 0 false false := by
    rw [← hW3]
    have := ((ParBox.new (w2.alloc (.cells #[.int .i64 1, .int .i64 U, .int .i64 4096, .int .i64 0, .bool false, .bool false] 24)) 1 V 4096 0 false false 24).keep (below_drew (Below.refl (w2.heap.size + 2) _)) (by simp))
    simpa using this
  have hB3 : Below w.heap.size w W3 := by
    rw [← hW3]
    exact below_drew (below_alloc (below_alloc (below_then hB1 hB2) _) _)
  have hz3 : w2.heap.size + 2 = W3.heap.size := by rw [← hW3]; simp
  rw [hW3]
  clear hW3
  have HPA := Lib.hid (fun V' (hV' : Below W3.heap.size W3 V') => PA.keep hV' (by omega))
  have HPQ := Lib.hid (fun V' (hV' : Below W3.heap.size W3 V') => PQ.keep hV' (by omega))
  have hz3' : w2.heap.size + 1 < W3.heap.size := by omega
  clear PA PQ hz3 hB1 hB2
  generalize w2.heap.size = g at *
  clear w2 w1
  go_wp2_with fail
  refine (lengths_any A xs c w.heap.size _ (hs.below hB3) hB3.size hlen HW1.out).mono ?_
  rintro e w4 ⟨D, d, rfl, hL4, hd, hB4⟩
  have LX2 := (lensV_len xs).1
  have OX := Lib.hid (lensV_ok xs)
  generalize lensV xs = lx at *
  go_wp2_with fail
  refine (lengths_any A' ys c' w.heap.size _ ((hs'.below hB3).below (hB4.mono hB3.size)) (Nat.le_trans hB3.size hB4.size) hlen' HW2.out).mono ?_
  rintro e w5 ⟨D', d', rfl, hL5', hd', hB5⟩
  have LY2 := (lensV_len ys).1
  have OY := Lib.hid (lensV_ok ys)
  generalize lensV ys = ly at *
  have hL5 : SliceAt .i64 w5 w5.heap.size D lx := (hL4.below hB5).more hB5.size
  have bB5 : Below W3.heap.size W3 w5 := below_then hB4 hB5
  have HBS := Lib.hid (fun wd xs (hw : 10 ≤ wd ∧ wd ≤ 27) (ha : xs.all lenOk = true) (hl : xs.length ≤ 70000) => blks_in wd xs hw ha hl)
  have OXY : Hid ((lx ++ ly).all lenOk = true) := by show _ = _; rw [List.all_append, OX.out, OY.out]; rfl
  have hZU := blkV_lo U (by omega)
  have hZV := blkV_lo V (by omega)
  have hUV := blk_mono u1.2
  have E1 := Lib.hid (HBS.out U lx (by omega) OX.out (by omega))
  have E2 := Lib.hid (HBS.out U ly (by omega) OY.out (by omega))
  have E3 := Lib.hid (HBS.out U (lx ++ ly) (by omega) OXY.out (by rw [List.length_append]; omega))
  have E4 := Lib.hid (HBS.out V lx (by omega) OX.out (by omega))
  have F3 := Lib.hid (blkSum_append (blkV U) lx ly)
  have F4 := sum_mono hZU.1 hUV lx OX.out
  have F5 := (blkSum_bd (blkV V) hZV lx OX.out)
  have F6 := (blkSum_bd (blkV U) hZU lx OX.out)
  have F7 := (blkSum_bd (blkV U) hZU ly OY.out)
  have HONE := Lib.hid (fun x (hx : x ∈ lx) => (show blksV 1 U 4096 0 [x] = manyV (blkV U) x ∧ blksE 1 U 4096 0 [x] = 0 ∧ 1 ≤ manyV (blkV U) x ∧ manyV (blkV U) x ≤ max x 1 ∧ (0 ≤ x ∧ x ≤ 1048576) from by
    have hx2 := lenOk_iff.1 (List.all_eq_true.1 OX.out x hx)
    have := HBS.out U [x] (by omega) (by simp [lenOk]; omega) (by simp)
    exact ⟨this.1.trans (blkSum_one _ _), this.2, (manyV_lo _ x hZU hx2).1, many_le hZU.1 hx2.1, hx2⟩))
  generalize blkSum (blkV U) lx = S1 at *
  generalize blkSum (blkV U) ly = S2 at *
  generalize blkSum (blkV V) lx = S4 at *
  generalize blkSum (blkV U) (lx ++ ly) = S3 at *
  obtain ⟨lz, hlz⟩ : ∃ lz, lx ++ ly = lz := ⟨_, rfl⟩
  have LZ2 : lz.length ≤ 40 := by rw [← hlz, List.length_append]; omega
  rw [hlz] at E3
  have HLZ := Lib.hid hlz
  clear hlz OXY
  obtain ⟨p0, p1, p2, p3, p4, p5⟩ := HPA.out w5 bB5
  go_wp2_with fail
  refine (Blocks_any 1 U 4096 0 false false D lx d _ w5 hL5 (Nat.le_refl _) (by omega)).mono ?_
  rintro e w6 ⟨rfl, hB6⟩
  rw [E1.out.1, E1.out.2]
  clear p0 p1 p2 p3 p4 p5
  have bB6 := below_then bB5 hB6
  obtain ⟨p0, p1, p2, p3, p4, p5⟩ := HPA.out w6 bB6
  go_wp2_with fail
  refine (Blocks_any 1 U 4096 0 false false D' ly d' _ w6 (hL5'.below hB6) hB6.size (by omega)).mono ?_
  rintro e w7 ⟨rfl, hB7⟩
  rw [E2.out.1, E2.out.2]
  clear p0 p1 p2 p3 p4 p5
  have bB7 := below_then bB6 hB7
  have b57 := below_then hB6 hB7
  have hL7 := (hL5.below b57).more b57.size
  have hL7' := (hL5'.below b57).more b57.size
  have hz37 : W3.heap.size ≤ w7.heap.size := bB7.size
  clear hB6 hL5 hL4 hL5' bB5 bB6
  obtain ⟨p0, p1, p2, p3, p4, p5⟩ := HPA.out w7 bB7
  obtain ⟨i0, hi, hz0, hz1, hz2⟩ := info_parts Try.infoInt
  have hbs : ∀ W, (Instr.buildSlice 22 0 #[]).run Try.prog W = .ok (.slice (some ⟨W.heap.size, 0, none⟩) 0 0) (W.alloc (.cells #[] 3)) := fun _ => by kernel_rfl
  have hown0 := World.ownsRow_made (e := 3) (size := 1) (base := w7.heap.size) w7 #[] 0 (Nat.le_refl _) (by simp [maxLen]) (by simp)
  go_wp2_with fail
  go_region_held3 (fun w' => Below w7.heap.size w7 w' ∧ w'.cell? ⟨g, 0, none⟩ = some (.int .i64 1) ∧ w'.cell? ⟨g, 1, none⟩ = some (.int .i64 U) ∧ w'.cell? ⟨g, 2, none⟩ = some (.int .i64 4096) ∧ w'.cell? ⟨g, 3, none⟩ = some (.int .i64 0) ∧ w'.cell? ⟨g, 4, none⟩ = some (.bool false) ∧ w'.cell? ⟨g, 5, none⟩ = some (.bool false))
    ((refine ⟨?_, ?_, ?_, ?_, ?_, ?_, ?_⟩ <;> first | assumption | exact below_drew (Below.refl _ _) | exact below_drew (below_new _) | exact (HPA.out _ (below_then bB7 (below_drew (below_new _)))).1 | exact (HPA.out _ (below_then bB7 (below_drew (below_new _)))).2.1 | exact (HPA.out _ (below_then bB7 (below_drew (below_new _)))).2.2.1 | exact (HPA.out _ (below_then bB7 (below_drew (below_new _)))).2.2.2.1 | exact (HPA.out _ (below_then bB7 (below_drew (below_new _)))).2.2.2.2.1 | exact (HPA.out _ (below_then bB7 (below_drew (below_new _)))).2.2.2.2.2))
    (first
      | (refine step_append_sl _ (by rfl) _ _ _ (by rfl) w7.heap.size 3 i0 (.int .i64 0) 8 Try.underlying22 hi hz0 hz1 hz2 rfl (.slice (some ⟨w7.heap.size, 0, none⟩) 0 0) 0 [] (by rfl) hown0.drew (k := .i64) (B := w7.heap.size) (xs := lx) d (by rfl) (hL7.below (below_drew (below_new _))) (by simp only [maxLen]; omega) (by omega) (by simp) ?_; intro va w8 hown1 hgrow1 _; have hB8 : Below w7.heap.size w7 w8 := (below_drew (below_new _)).grown hgrow1 (by simp) (fun z hz => (hown0.lt z hz).1); obtain ⟨q0, q1, q2, q3, q4, q5⟩ := HPA.out w8 (below_then bB7 hB8); clear hown0)
      | (refine step_append_sl _ (by rfl) _ _ _ (by rfl) w7.heap.size 3 i0 (.int .i64 0) 8 Try.underlying22 hi hz0 hz1 hz2 rfl va (0 + lx.length) ([] ++ lx.map (Value.int .i64)) (by rfl) hown1 (k := .i64) (B := w7.heap.size) (xs := ly) d' (by rfl) (hL7'.below hB8) (by simp only [maxLen]; omega) (by omega) hB8.size ?_; intro vb w9 hown2 hgrow2 _; have hB9 : Below w7.heap.size w7 w9 := hB8.grown hgrow2 hB8.size (fun z hz => (hown1.lt z hz).1); obtain ⟨q0, q1, q2, q3, q4, q5⟩ := HPA.out w9 (below_then bB7 hB9); have hown3 : w9.ownsRow w7.heap.size 3 1 vb lz.length (lz.map (Value.int .i64)) := (by rw [← HLZ.out, List.length_append, List.map_append]; simpa only [Nat.zero_add, List.nil_append] using hown2); obtain ⟨D3, d3, rfl⟩ := owns_slice hown3; have hL9 := SliceAt.of_own hown3; clear hown1 hown2)
      | (go_at_call 17; refine (Blocks_any 1 U 4096 0 false false D3 lz d3 _ w9 hL9 (Nat.le_refl _) (by omega)).mono ?_; rintro e w10 ⟨rfl, hB10⟩; rw [E3.out.1, E3.out.2]; have hB10' : Below w7.heap.size w7 w10 := below_then hB9 hB10; obtain ⟨q0, q1, q2, q3, q4, q5⟩ := HPA.out w10 (below_then bB7 hB10')))
  have bB10 := below_then bB7 hB10'
  have hL10 := (hL7.below hB10').more hB10'.size
  rename_i hHeld
  clear hHeld
  clear p0 p1 p2 p3 p4 p5 q0 q1 q2 q3 q4 q5
  obtain ⟨p0, p1, p2, p3, p4, p5⟩ := HPQ.out w10 bB10
  go_wp2_with fail
  refine (Blocks_any 1 V 4096 0 false false D lx d _ w10 hL10 (Nat.le_refl _) (by omega)).mono ?_
  rintro e w11 ⟨rfl, hB11⟩
  rw [E4.out.1, E4.out.2]
  have bB11 := below_then bB10 hB11
  have hL11 := (hL10.below hB11).more hB11.size
  clear p0 p1 p2 p3 p4 p5
  have hF3 := F3.out
  have t1 : (S3 != S1 + S2) = false := by simp; omega
  have t2 : decide (S1 < S4) = false := by simp; omega
  have t3 : decide (S4 < (lx.length : Int)) = false := by simp; omega
  clear hF3
  go_wp2
  clear t1 t2 t3
  go_loopw [21] (fun iv wr => ∃ k : Nat, k ≤ lx.length ∧ iv = .int .i64 k ∧ Below w11.heap.size w11 wr) (fun iv _ => lx.length - (intOf iv).toNat)
  case atStart => exact ⟨0, Nat.zero_le _, rfl, Below.refl _ _⟩
  case round =>
    obtain ⟨k, hk, rfl, hw⟩ := hrel
    have bBr := below_then bB11 hw
    by_cases hlt : k < lx.length
    · obtain ⟨bk, off, x, rfl, hx, hcx⟩ := (hL11.below hw).get hlt
      have HXC := Lib.hid (fun V hV => hL11.cell_all hx V hV)
      obtain ⟨o1, o2, o3, o4, o5⟩ := HONE.out x (List.mem_of_getElem? hx)
      have hbk : bk < w11.heap.size := by
        rcases hL11 with h0 | ⟨b0, f0, e0, hlt0, _⟩
        · rw [h0] at hlt; simp at hlt
        · injection e0 with e0; injection e0 with e1 e2 _; omega
      have hs6 : SliceAt .i64 w11 w11.heap.size (some ⟨bk, off + k, none⟩) [x] := .inr ⟨bk, off + k, rfl, hbk, fun i y hy => by
        cases i with
        | zero => injection hy with hy; subst hy; exact HXC.out w11 (Below.refl _ _)
        | succ i => simp at hy⟩
      have O1 := Lib.hid o1
      have O2 := Lib.hid o2
      have g1 : (0 : Int) ≤ (k : Int) := by omega
      have g2 : (k : Int) < (lx.length : Int) := by omega
      have g3 : (k : Int) + 1 ≤ (d : Int) := by omega
      have g4 : ¬ (d = k) := by omega
      have g5 : IntKind.i64.wrap ((k : Int) + 1) = (k : Int) + 1 := IntWalk.i64_in _ (by omega)
      have g6 : ((k : Int) + 1).toNat = k + 1 := rfl
      have g7 : (0 : Int) ≤ (k : Int) + 1 := by omega
      have g8 : (k : Int) ≤ (k : Int) + 1 := by omega
      clear hx o1 o2 hbk
      generalize manyV (blkV U) x = mv at *
      obtain ⟨p0, p1, p2, p3, p4, p5⟩ := HPA.out wr bBr
      go_wp2
      go_region_held3 (fun w' => Below w11.heap.size w11 w' ∧ w'.cell? ⟨g, 0, none⟩ = some (.int .i64 1) ∧ w'.cell? ⟨g, 1, none⟩ = some (.int .i64 U) ∧ w'.cell? ⟨g, 2, none⟩ = some (.int .i64 4096) ∧ w'.cell? ⟨g, 3, none⟩ = some (.int .i64 0) ∧ w'.cell? ⟨g, 4, none⟩ = some (.bool false) ∧ w'.cell? ⟨g, 5, none⟩ = some (.bool false))
        ((refine ⟨?_, ?_, ?_, ?_, ?_, ?_, ?_⟩ <;> first | assumption | exact below_drew (by assumption)))
        ((go_at_call 17; refine (Blocks_any 1 U 4096 0 false false (some ⟨bk, off + k, none⟩) [x] (d - k) w11.heap.size _ (hs6.below (below_drew hw)) hw.size (by simp)).mono ?_; rintro e w12 ⟨rfl, hB12⟩; rw [O1.out, O2.out]; have hB12' : Below w11.heap.size w11 w12 := below_then (below_drew hw) hB12; obtain ⟨q0, q1, q2, q3, q4, q5⟩ := HPA.out w12 (below_then bB11 hB12')))
      rename_i hHeld
      clear hHeld p0 p1 p2 p3 p4 p5 q0 q1 q2 q3 q4 q5
      have hcx2 := HXC.out w12 hB12'
      have t1 : decide (mv < 1) = false := by simp; omega
      by_cases hx1 : x < 1
      · have t2 : decide ((1 : Int) < mv) = false := by simp; omega
        go_wp2
        go_roundw
        case rel => exact ⟨k + 1, by omega, by go_num, hB12'⟩
        case measure => simp [intOf] <;> omega
      · have t2 : decide (x < mv) = false := by simp; omega
        go_wp2
        go_roundw
        case rel => exact ⟨k + 1, by omega, by go_num, hB12'⟩
        case measure => simp [intOf] <;> omega
    · obtain rfl : k = lx.length := by omega
      go_wp2_with fail
      refine (awake43_any _).mono ?_
      rintro e w12 ⟨rfl, hB12⟩
      go_wp2
      go_ret
      exact ⟨rfl, below_then hB3 (below_then bBr hB12)⟩

/-! The step from the walk to the statement: the shell's text. -/
set_option maxRecDepth 100000 in
theorem lifted (os : Os) (started : os.Started) (H : Type) (enc : TypeId × Value → H) :
    ReturnsInHanded {} Try.checked os 3 .any (Rows.boundSumsSpec.pre6 enc Try.prog Try.f3 Rows.boundSumsRow.domain false) (Rows.boundSumsSpec.post enc Try.prog Try.f3 false true false false) := by
  refine returnsInHanded_of_change (C := Try.checked) own started (by kernel_rfl) Try.func3
    (ChangeSpec.witness6 (enc := enc) (C := Try.checked) false ⟨#[], #[.slice none 0 0, .slice none 0 0, .int .i64 0, .int .i64 0], []⟩ 8 (by kernel_rfl) (by kernel_rfl) (by kernel_rfl) (by kernel_rfl)) ?_
  intro W base args ds gs before hval0 hW hcnd _
  have hval : ∀ (j : Nat) t v, Try.f3.params[j]? = some t → args[j]? = some v → Value.okWide Try.prog W .any base t v := hval0
  have hW' := hW
  obtain ⟨p, q, hA0, hV, rfl, hfz, hnd⟩ := hW
  have hA : DataW.TrodAll enc Try.prog W 0 (fun _ => true) true Try.f3.params.toList args.toList ds p := hA0
  rw [Try.params3] at hA hval
  obtain ⟨v0, vs0, d0, ds0, p0, q0, hargs, rfl, rfl, h0, r0⟩ := trodAll_cons hA
  obtain ⟨v1, vs1, d1, ds1, p1, q1, rfl, rfl, rfl, h1, r1⟩ := trodAll_cons r0
  obtain ⟨v2, vs2, d2, ds2, p2, q2, rfl, rfl, rfl, h2, r2⟩ := trodAll_cons r1
  obtain ⟨v3, vs3, d3, ds3, p3, q3, rfl, rfl, rfl, h3, r3⟩ := trodAll_cons r2
  obtain ⟨rfl, rfl, rfl⟩ := trodAll_nil r3
  obtain rfl : args = #[v0, v1, v2, v3] := by cases args; simp_all
  obtain ⟨rfl, rfl⟩ := trodVars_none hV
  obtain ⟨a0, len0, cap0, rfl⟩ := okWide_slice Try.underlying22 (hval 0 22 v0 rfl rfl)
  have k0 := h0
  have lt0 : ∀ x ∈ p0, x.block < W.heap.size := by obtain ⟨m, hm⟩ := k0; exact DataW.trod_lt m _ _ _ hm
  obtain ⟨z0, rfl, w0, b0, l0⟩ := open_sl Try.underlying22 Try.underlying3 (by kernel_rfl) h0
  obtain ⟨a1, len1, cap1, rfl⟩ := okWide_slice Try.underlying22 (hval 1 22 v1 rfl rfl)
  have k1 := h1
  have lt1 : ∀ x ∈ p1, x.block < W.heap.size := by obtain ⟨m, hm⟩ := k1; exact DataW.trod_lt m _ _ _ hm
  obtain ⟨z1, rfl, w1, b1, l1⟩ := open_sl Try.underlying22 Try.underlying3 (by kernel_rfl) h1
  obtain ⟨a2, rfl, rfl, rfl, w2⟩ := open_int Try.underlying3 (hval 2 3 v2 rfl rfl) h2
  obtain ⟨a3, rfl, rfl, rfl, w3⟩ := open_int Try.underlying3 (hval 3 3 v3 rfl rfl) h3
  clear hA0 hval0
  refine (walk a0 z0 cap0 a1 z1 cap1 a2 a3 W w0 b0 l0 w1 b1 l1 (bounds_i64 w2) (bounds_i64 w3)).mono fun e W' ⟨he, bel⟩ => ?_
  subst he
  exact ⟨_, rfl, _, _, _, [], _, [], hW', trodAll_mk1 (shut_bool Try.underlying4 _), (trodAll_cons_mk (Below.trod laidOut (by kernel_rfl) (of_decide_eq_true (by kernel_rfl)) k0 bel lt0) (trodAll_cons_mk (Below.trod laidOut (by kernel_rfl) (of_decide_eq_true (by kernel_rfl)) k1 bel lt1) (trodAll_cons_mk (shut_int Try.underlying3 w2) (trodAll_cons_mk (shut_int Try.underlying3 w3) trodAll_mk0)))), rfl, bel.frame _, fun h => by cases h⟩

theorem over : Rows.boundSumsRow.holds Try.pinned (OpenSpec.ofChange Rows.boundSumsSpec) :=
  OpenClaim.holds_of_wide 3 Try.f3 rfl rfl rfl rfl rfl rfl rfl ⟨rfl, rfl, rfl, rfl, rfl⟩ rfl rfl rfl rfl rfl (by kernel_rfl) Try.func3 (by kernel_rfl)
    (of_decide_eq_true (by kernel_rfl)) (by unfold Func.isWrapper; first | (rw [if_pos (by decide +kernel)]; kernel_rfl) | (rw [if_neg (by decide +kernel)]; exact ⟨rfl, rfl⟩))
    (fun os started H enc _ => lifted os started H enc)

/-- The statement. -/
theorem proved : Rows.BoundSumsSaid := over
#print axioms proved
end Go.Proofs.Ytfdbkpbgkpkckaa.boundSums
