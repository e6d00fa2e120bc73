/-
  The walks of cheesepresslaw35's params, bits, ends, awake.
-/
import Derived.Test.YtaofphifmgadjaaCutCount
import Derived.Test.YtaofphifmgadjaaRegions
import Derived.Test.YtaofphifmgadjaaStr
import Derived.OwnWalk
namespace Go.Proofs.Ytaofphifmgadjaa
open Go.RowKit
set_option linter.unusedVariables false
set_option maxRecDepth 100000
attribute [local go_sem ↓] Go.wp_at_zero Go.wp_at_succ

set_option maxHeartbeats 1600000 in
theorem params35_any (jb : Int) (sy : Bool) (w : World) :
    Calls Try.prog 48 #[.int .i64 jb, .bool sy] w fun e w' => e = .returned (.agg #[.int .i64 1, .int .i64 10, .int .i64 jb, .int .i64 0, .bool sy, .bool false]) ∧ Below w.heap.size w w' := by
  go_enter Try.func48, Try.ntmps48
  go_wp2
  exact bodyPost_ret (v := .agg #[.int .i64 1, .int .i64 10, .int .i64 jb, .int .i64 0, .bool sy, .bool false]) (by simp [results, Try.results48, go_sem]) rfl ⟨rfl, below_fresh _⟩

set_option maxHeartbeats 1600000 in
theorem bits35_yes (jb want : Int) (w : World) (hb : bitsO 1 10 jb 0 = want) (he : parE 1 10 jb 0 = 0) :
    Calls Try.prog 49 #[.int .i64 jb, .int .i64 want] w fun e w' => e = .returned (.bool true) ∧ Below w.heap.size w w' := by
  have HB := Lib.hid (fun W => Bits35_any 1 10 jb 0 true false W)
  rw [hb, he] at HB
  clear hb he
  go_enter Try.func49, Try.ntmps49
  go_wp2_with fail
  refine (params35_any jb true _).mono ?_
  rintro e w1 ⟨rfl, hB1⟩
  go_wp2_with fail
  refine (HB.out _).mono ?_
  rintro e w2 ⟨rfl, hB2⟩
  go_wp2
  go_ret
  exact ⟨rfl, below_then hB1 hB2⟩

set_option maxHeartbeats 4000000 in
theorem ends35_yes (n : Nat) (hn : n ≤ 1000000) (want : List Int) (A : Option Addr) (c B : Nat) (w : World) (hS : SliceAt .i64 w B A want) (hBw : B ≤ w.heap.size) (hl : want.length ≤ 1000000) (hE : endsO 1 10 16 0 false (zs n) = want) (hEE : endsOE 1 10 16 0 false (zs n) = 0) :
    Calls Try.prog 50 #[.int .i64 n, .slice A want.length c] w fun e w' => e = .returned (.bool true) ∧ Below w.heap.size w w' := by
  obtain ⟨i0, hi, hz0, hz1, hz2⟩ := info_parts Try.infoU8
  have HE := Lib.hid (fun W => Ends35_any 1 10 16 0 false false (zs n) W (by rw [zs_size]; omega))
  rw [hE, hEE] at HE
  clear hE hEE
  have HSS := Lib.hid hS
  clear hS
  have hBr := Below.refl w.heap.size w
  have hmk : ∀ V, (Instr.makeSlice 39 (.int .i64 (n : Int)) (.int .i64 (n : Int))).run Try.prog V = .ok (.slice (some ⟨V.heap.size, 0, none⟩) n n) (V.alloc (.cells (madeCells (Value.int .u8 0).cells (n * 1)) 5)) := fun V => by
    have hr := run_make (P := Try.prog) V 39 5 i0 (.int .u8 0) Try.underlying39 hi hz0 .i64 .i64 n n (by omega) (Int.le_refl _) (by rw [hz2]; omega) (by omega)
    simp only [Int.toNat_natCast, hz1] at hr
    exact hr
  have hcv : ∀ V : World, (convert 39 9 (.slice (some ⟨V.heap.size, 0, none⟩) n n)).run Try.prog (V.alloc (.cells (madeCells (Value.int .u8 0).cells (n * 1)) 5)) = .ok (.string (zs n)) (V.alloc (.cells (madeCells (Value.int .u8 0).cells (n * 1)) 5)) := fun V =>
    conv_zeros (P := Try.prog) (base := V.heap.size) Try.underlying39 Try.underlying5 (World.ownsRow_lit V _ n (Nat.le_refl _) (by simp only [maxLen]; omega) (size_madeCells _ _)) 9 Try.underlying9
  have HK : Hid (∀ V, Below (w.alloc (.cells (madeCells (Value.int .u8 0).cells (n * 1)) 5)).heap.size (w.alloc (.cells (madeCells (Value.int .u8 0).cells (n * 1)) 5)) V → (convert 39 9 (.slice (some ⟨w.heap.size, 0, none⟩) n n)).run Try.prog V = .ok (.string (zs n)) V) := fun V hV =>
    conv_zeros (P := Try.prog) (base := w.heap.size) Try.underlying39 Try.underlying5 ((World.ownsRow_lit w _ n (Nat.le_refl _) (by simp only [maxLen]; omega) (size_madeCells _ _)).kept (grown_below hV) (.inr (by simp [Value.ownBlock]))) 9 Try.underlying9
  generalize madeCells (Value.int .u8 0).cells (n * 1) = Z at *
  have hBzr := Below.refl (w.alloc (.cells Z 5)).heap.size (w.alloc (.cells Z 5))
  have hBzd := below_drew hBzr
  have hcd := HK.out _ hBzd
  generalize zs n = z at *
  have g0 : (0 : Int) ≤ (n : Int) := by omega
  clear hi hz0 hz1 hz2
  go_enter Try.func50, Try.ntmps50
  go_wp2_with fail
  go_region_with
    (first
      | (go_at_call 48; refine (params35_any 16 false _).mono ?_; rintro e6 w6 ⟨rfl, hB6⟩; have hB7 := below_then (by first | exact hBr | exact below_drew hBr | exact below_alloc hBr _ | exact below_drew (below_alloc hBr _)) hB6; first | (with_reducible have hc6 := HK.out _ (below_then hBzr hB6)) | (with_reducible have hc6 := HK.out _ (below_then hBzd hB6)) | skip)
      | (go_at_call 35; refine (HE.out _).mono ?_; rintro e8 w8 ⟨A', c', rfl, hS8, hB8⟩; have hB9 := below_then (by first | exact hB7 | exact below_drew hB7 | exact below_alloc hB7 _ | exact below_drew (below_alloc hB7 _)) hB8; have HS8 := Lib.hid hS8; clear hS8))
  all_goals (
    have HX := Lib.hid (fun V (hV : Below w8.heap.size w8 V) => hV)
    have hS1 := HSS.out.below (hB9.mono hBw)
    have HQ := Lib.hid (SameInts_any A' A want want c' c w8.heap.size w8 HS8.out (hS1.more (Nat.le_trans hBw hB9.size)) (Nat.le_refl _) (by omega) (by omega))
    clear hS1
    go_wp2_with fail
    refine HQ.out.mono ?_
    rintro e w9 ⟨rfl, hB10⟩
    rw [sameI_yes]
    go_wp2
    go_ret
    exact ⟨rfl, below_then hB9 hB10⟩)

theorem slice3 (W : World) (T : TypeId) (x y z : Int) : SliceAt .i64 (W.alloc (.cells #[.int .i64 x, .int .i64 y, .int .i64 z] T)) (W.heap.size + 1) (some ⟨W.heap.size, 0, none⟩) [x, y, z] := by
  refine .inr ⟨W.heap.size, 0, rfl, by omega, fun i u hu => ?_⟩
  match i, hu with
  | 0, hu => injection hu with hu; subst hu; exact World.cell?_alloc_at _ _ _ _ rfl
  | 1, hu => injection hu with hu; subst hu; exact World.cell?_alloc_at _ _ _ _ rfl
  | 2, hu => injection hu with hu; subst hu; exact World.cell?_alloc_at _ _ _ _ rfl
  | i + 3, hu => simp at hu

theorem ends_40 : endsO 1 10 16 0 false (zs 40) = [16, 32, 40] ∧ endsOE 1 10 16 0 false (zs 40) = 0 := by decide +kernel
theorem ends_0 : endsO 1 10 16 0 false (zs 0) = [0] ∧ endsOE 1 10 16 0 false (zs 0) = 0 := by decide +kernel
theorem bits_32 : bitsO 1 10 32 0 = 3 ∧ parE 1 10 32 0 = 0 := by decide +kernel

set_option maxHeartbeats 1600000 in
theorem awake35_any (w : World) :
    Calls Try.prog 36 #[] w fun e w' => e = .returned (.bool true) ∧ Below w.heap.size w w' := by
  have hs1 := slice3 w 3 16 32 40
  have HE1 := Lib.hid (ends35_yes 40 (by omega) [16, 32, 40] (some ⟨w.heap.size, 0, none⟩) 3 (w.heap.size + 1) _ hs1 (by simp) (by simp) ends_40.1 ends_40.2)
  have HE2 := Lib.hid (fun V => ends35_yes 0 (by omega) [0] (some ⟨V.heap.size, 0, none⟩) 1 (V.heap.size + 1) _ (slice_new1 V .i64 3 0) (by simp) (by simp) ends_0.1 ends_0.2)
  have HB := Lib.hid (fun V => bits35_yes 32 3 V bits_32.1 bits_32.2)
  clear hs1
  go_enter Try.func36, Try.ntmps36
  go_wp2_with fail
  refine HE1.out.mono ?_
  rintro e w1 ⟨rfl, hB1⟩
  go_wp2_with fail
  refine (HE2.out _).mono ?_
  rintro e w2 ⟨rfl, hB2⟩
  go_wp2_with fail
  refine (HB.out _).mono ?_
  rintro e w3 ⟨rfl, hB3⟩
  go_wp2
  go_ret
  exact ⟨rfl, below_then (below_then (below_alloc (below_then (below_fresh _) hB1) _) hB2) hB3⟩

end Go.Proofs.Ytaofphifmgadjaa
