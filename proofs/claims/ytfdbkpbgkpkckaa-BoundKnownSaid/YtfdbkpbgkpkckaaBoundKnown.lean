/-
  The walk of cheesepresslaw43.whole; the numbers of the chapter's examples.
-/
import Derived.Test.YtfdbkpbgkpkckaaBoundPlain
import Derived.Test.YtfdbkpbgkpkckaaBoundWhole3
import Derived.Test.YtfdbkpbgkpkckaaBoundJob
import Derived.Test.YtfdbkpbgkpkckaaBoundRefs
import Derived.Test.YtfdbkpbgkpkckaaKitNoise
import Derived.Test.YtfdbkpbgkpkckaaStr
import Derived.Test.YtfdbkpbgkpkckaaRegions
import Derived.OwnWalk
import Derived.Deep.DeepCutAuto
namespace Go.Proofs.Ytfdbkpbgkpkckaa
open Go.RowKit
set_option linter.unusedVariables false
set_option maxRecDepth 100000
attribute [local go_sem ↓] Go.wp_at_zero Go.wp_at_succ

theorem make43 (n : Nat) (hn : n ≤ 1000000) : ∃ Z : Array Value,
    (∀ V, (Instr.makeSlice 50 (.int .i64 (n : Int)) (.int .i64 (n : Int))).run Try.prog V = .ok (.slice (some ⟨V.heap.size, 0, none⟩) n n) (V.alloc (.cells Z 5))) ∧
    (∀ V U : World, Below (V.alloc (.cells Z 5)).heap.size (V.alloc (.cells Z 5)) U → (convert 50 9 (.slice (some ⟨V.heap.size, 0, none⟩) n n)).run Try.prog U = .ok (.string (zs n)) U) := by
  obtain ⟨i0, hi, hz0, hz1, hz2⟩ := info_parts Try.infoByte
  refine ⟨madeCells (Value.int .u8 0).cells (n * 1), fun V => ?_, fun V U hU => ?_⟩
  · have hr := run_make (P := Try.prog) V 50 5 i0 (.int .u8 0) Try.underlying50 hi hz0 .i64 .i64 n n (by omega) (Int.le_refl _) (by rw [hz2]; omega) (by omega)
    simp only [Int.toNat_natCast, hz1] at hr
    exact hr
  · exact conv_zeros (P := Try.prog) (base := V.heap.size) Try.underlying50 Try.underlying5 ((World.ownsRow_lit V _ n (Nat.le_refl _) (by simp only [maxLen]; omega) (size_madeCells _ _)).kept (grown_below hU) (.inr (by simp [Value.ownBlock]))) 9 Try.underlying9

set_option maxHeartbeats 4000000 in
theorem whole43_yes (n : Nat) (J B O : Int) (w : World) (hn : n ≤ 1000000) (h0 : askE 1 10 4096 0 (zs n) = 0) (h1 : wholeJ 1 10 4096 0 false (zs n) = J) (h2 : wholeB 1 10 4096 0 false (zs n) = B) (h3 : wholeO 1 10 4096 0 false (zs n) = O) :
    Calls Try.prog 34 #[.int .i64 n, .int .i64 J, .int .i64 B, .int .i64 O] w fun e w' => e = .returned (.bool true) ∧ Below w.heap.size w w' := by
  have HE := Lib.hid (fun W => Whole_any 1 10 4096 0 false false (zs n) W (by rw [zs_size]; omega))
  rw [h0, h1, h2, h3] at HE
  have HP := Lib.hid (fun W => params43_any W)
  unfold parV at HP
  clear h0 h1 h2 h3
  obtain ⟨Z, hmk, hcv⟩ := make43 n hn
  have HK := Lib.hid (fun V U h => hcv V U h)
  have hc0 := fun V => hcv V _ (Below.refl _ _)
  have hc1 := fun V => hcv V _ (below_drew (Below.refl (V.alloc (.cells Z 5)).heap.size (V.alloc (.cells Z 5))))
  clear hcv
  generalize zs n = z at *
  have g0 : (0 : Int) ≤ (n : Int) := by omega
  have hBr := Below.refl w.heap.size w
  have hBzr := Below.refl (w.alloc (.cells Z 5)).heap.size (w.alloc (.cells Z 5))
  have hBzd := below_drew hBzr
  go_enter Try.func34, Try.ntmps34
  go_wp2_with fail
  go_region_with
    (first
      | (go_at_call 14; refine (HP.out _).mono ?_; rintro e6 w6 ⟨rfl, hB6⟩; have hB7 := below_then (by first | exact hBr | exact below_drew hBr | exact below_alloc hBr _ | exact below_drew (below_alloc hBr _)) hB6; first | (with_reducible have hc6 := HK.out w _ (below_then hBzr hB6)) | (with_reducible have hc6 := HK.out w.drew _ (below_then hBzr hB6)) | (with_reducible have hc6 := HK.out w _ (below_then hBzd hB6)) | skip)
      | (go_at_call 28; refine (HE.out _).mono ?_; rintro e8 w8 ⟨rfl, hB8⟩; have hB9 := below_then (by first | exact hB7 | exact below_drew hB7 | exact below_alloc hB7 _ | exact below_drew (below_alloc hB7 _)) hB8))
  all_goals (
    go_wp2
    go_ret
    exact ⟨rfl, hB9⟩)

theorem known_whole : (askE 1 10 4096 0 (zs 5000) = 0 ∧ wholeJ 1 10 4096 0 false (zs 5000) = 2 ∧ wholeB 1 10 4096 0 false (zs 5000) = 5 ∧ wholeO 1 10 4096 0 false (zs 5000) = 5025) := by decide +kernel
theorem known_none : (askE 1 10 4096 0 (zs 0) = 0 ∧ wholeJ 1 10 4096 0 false (zs 0) = 1 ∧ wholeB 1 10 4096 0 false (zs 0) = 1 ∧ wholeO 1 10 4096 0 false (zs 0) = 13) := by decide +kernel
theorem known_holds : askE 1 10 4096 0 ByteArray.empty = 0 ∧ holdsV 1 10 4096 0 false ByteArray.empty (zs 9) = true ∧ holdsV 1 10 4096 0 false ByteArray.empty (zs 14) = false := by decide +kernel
theorem known_nums : blksV 1 10 4096 0 [] = 0 ∧ blksE 1 10 4096 0 [] = 0 ∧ blksE 1 10 4096 0 [-1] = 2 ∧ (outV 0 1 = 13 ∧ outE 0 1 = 0) ∧ (outV 100 2 = 116 ∧ outE 100 2 = 0) ∧ outE 0 0 = 2 ∧ (bufV 1 = 3 ∧ bufE 1 = 0) ∧ (bufV 64 = 66 ∧ bufE 64 = 0) ∧ bufE 0 = 30 ∧
    stepsE 0 1 5 3 = 2 ∧ stepsE 1 0 1 2 = 2 ∧ (jobN 1 10 4096 0 false = 4096 ∧ jobM 1 10 4096 0 false = 4 ∧ parE 1 10 4096 0 = 0) ∧ (jobN 1 10 4096 0 true = 16384 ∧ jobM 1 10 4096 0 true = 16) := by decide +kernel

end Go.Proofs.Ytfdbkpbgkpkckaa
