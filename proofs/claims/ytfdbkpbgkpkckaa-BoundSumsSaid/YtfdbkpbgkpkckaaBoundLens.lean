/-
  The walk of cheesepresslaw43.lengths.
-/
import Derived.Test.YtfdbkpbgkpkckaaKit
import Derived.Test.YtfdbkpbgkpkckaaBoundBlocksRef
import Derived.Test.YtfdbkpbgkpkckaaRegions
import Derived.OpenShut
namespace Go.Proofs.Ytfdbkpbgkpkckaa
open Go.RowKit Go.ChangeShapes Go.WideShapes
set_option linter.unusedVariables false
set_option maxRecDepth 100000

/-- A length made of a number. -/
def lenI (x : Int) : Int := modI x 1048577 / 2 ^ (modI x 14).toNat
def lensV (xs : List Int) : List Int := (xs.take 20).map lenI
theorem lenI_bd (x : Int) : 0 ≤ lenI x ∧ lenI x ≤ 1048576 := by
  have h1 := modI_lo (n := x) (m := 1048577) (by omega)
  have h2 : (0 : Int) < 2 ^ (modI x 14).toNat := Int.pow_pos (by omega)
  have h3 : modI x 1048577 / 2 ^ (modI x 14).toNat ≤ modI x 1048577 := Int.ediv_le_self _ h1.1
  have h4 : 0 ≤ modI x 1048577 / 2 ^ (modI x 14).toNat := Int.ediv_nonneg h1.1 (by omega)
  unfold lenI
  omega
theorem lensV_ok (xs : List Int) : (lensV xs).all lenOk = true := by
  rw [List.all_eq_true]
  intro y hy
  obtain ⟨x, _, rfl⟩ := List.mem_map.1 hy
  exact lenOk_iff.2 (lenI_bd x)
theorem lensV_len (xs : List Int) : (lensV xs).length ≤ 20 ∧ (lensV xs).length = min 20 xs.length := by
  unfold lensV; rw [List.length_map, List.length_take]; omega
theorem lens_succ {xs : List Int} {j : Nat} {x : Int} (h : xs[j]? = some x) : (xs.take (j + 1)).map lenI = (xs.take j).map lenI ++ [lenI x] := by
  rw [List.take_add_one, h]; simp

attribute [local go_sem ↓] Go.wp_at_zero Go.wp_at_succ
set_option maxHeartbeats 1600000 in
theorem lengths_any (A : Option Addr) (xs : List Int) (c B : Nat) (w : World) (h : SliceAt .i64 w B A xs) (hB : B ≤ w.heap.size) (hl : xs.length ≤ 9223372036854775807) (hwx : ∀ x ∈ xs, (Lit.int .i64 x).wf = true) :
    Calls Try.prog 16 #[.slice A xs.length c] w fun e w' => ∃ A' c', e = .returned (.slice A' (lensV xs).length c') ∧ SliceAt .i64 w' w'.heap.size A' (lensV xs) ∧ (lensV xs).length ≤ c' ∧ Below w.heap.size w w' := by
  obtain ⟨i0, hi, hz0, hz1, hz2⟩ := info_parts Try.infoInt
  have HW := Lib.hid hwx
  have HS := Lib.hid (fun j x (h : xs[j]? = some x) => @lens_succ xs j x h)
  clear hwx
  go_enter Try.func16, Try.ntmps16
  go_wp2
  go_loopw [3, 4] (fun v i wr => ∃ j : Nat, j ≤ xs.length ∧ j ≤ 20 ∧ i = .int .i64 j ∧ wr.ownsRow w.heap.size 3 1 v ((xs.take j).map lenI).length (((xs.take j).map lenI).map (Value.int .i64)) ∧ Below w.heap.size w wr) (fun _ i _ => xs.length - (intOf i).toNat)
  case atStart => exact ⟨0, Nat.zero_le _, Nat.zero_le _, rfl, World.ownsRow_nil _ _ _ _, Below.refl _ _⟩
  case round =>
    obtain ⟨j, hj, hj20, rfl, hown, hw⟩ := hrel
    obtain ⟨L, hL⟩ : ∃ L, (xs.take j).map lenI = L := ⟨_, rfl⟩
    rw [hL] at hown
    have hlj : L.length ≤ 20 := by rw [← hL, List.length_map, List.length_take]; omega
    have HL := Lib.hid hL
    clear hL
    obtain ⟨D, cd, rfl⟩ := owns_slice hown
    by_cases hlt : j < xs.length
    · have t1 : decide ((j : Int) < (xs.length : Int)) = true := by simp; omega
      by_cases h20 : j < 20
      · have t2 : decide ((j : Int) < 20) = true := by simp; omega
        obtain ⟨b, off, x, rfl, hx, hcx⟩ := (h.below (hw.mono hB)).get hlt
        have HXC := Lib.hid (fun V hV => (h.more hB).cell_all hx V hV)
        have hxw := bounds_i64 (HW.out x (List.mem_of_getElem? hx))
        have m1 := modI_lo (n := x) (m := 1048577) (by omega)
        have m2 := modI_lo (n := x) (m := 14) (by omega)
        have HSx := Lib.hid (HS.out j x hx)
        have HLx : Hid (lenI x = modI x 1048577 / 2 ^ (modI x 14).toNat) := rfl
        obtain ⟨M, hM⟩ : ∃ M, modI x 1048577 = M := ⟨_, rfl⟩
        obtain ⟨K, hK⟩ : ∃ K, modI x 14 = K := ⟨_, rfl⟩
        rw [hM] at m1 HLx
        rw [hK] at m2 HLx
        have HM := Lib.hid hM
        have HK := Lib.hid hK
        clear hM hK hx
        have g1 : (0 : Int) ≤ (j : Int) := by omega
        have g2 : (j : Int) < (xs.length : Int) := by omega
        rw [HL.out] at HSx
        have HE : Hid (M / 2 ^ min (IntKind.u64.wrap K).toNat 64 = M / 2 ^ K.toNat) := by
          show _ = _
          rw [show IntKind.u64.wrap K = K from IntWalk.u64_in _ (by omega), Nat.min_eq_left (by omega)]
        go_wp2
        go_region_held3 (fun w' => w'.cell? ⟨b, off + j, none⟩ = some (.int .i64 x)) (first | go_keep | exact HXC.out _ (by assumption)) (first | (go_at_call 15; refine (Mod_any x _ _ hxw.1 hxw.2 (by omega)).mono ?_; rintro e w3 ⟨rfl, rfl⟩; first | rw [HM.out] | rw [HK.out]) | (refine step_append_sl _ (by rfl) _ _ _ (by rfl) w.heap.size 3 i0 (.int .i64 0) 8 Try.underlying22 hi hz0 hz1 hz2 rfl _ L.length (L.map (Value.int .i64)) (by rfl) ((hown.alloc _).drew) (k := .i64) (B := wr.heap.size + 1) (xs := [M / 2 ^ min (IntKind.u64.wrap K).toNat 64]) 1 (by rfl) ((slice_new1 wr .i64 3 (M / 2 ^ min (IntKind.u64.wrap K).toNat 64)).keep (fun _ _ => rfl)) (by simp only [maxLen, List.length_singleton]; omega) (by simp only [List.length_singleton]; omega) (by have := hw.size; simp; omega) ?_; intro v' w6 hown' hgrow hblk; have hB6 : Below w.heap.size w w6 := (below_drew (hw.alloc hw.size _)).grown hgrow (by have := hw.size; simp; omega) (fun z hz => (hown.lt z hz).1)))
        obtain ⟨D', cd', rfl⟩ := owns_slice hown'
        rw [HE.out] at hown'
        clear hown hgrow hblk
        go_wp2
        go_roundw
        case rel => exact ⟨j + 1, by omega, by omega, by go_num, by rw [HSx.out, HLx.out]; simpa using hown', hB6⟩
        case measure => simp [intOf] <;> omega
      · have t2 : decide ((j : Int) < 20) = false := by simp; omega
        obtain rfl : j = 20 := by omega
        have HR : Hid (lensV xs = L) := HL.out
        go_wp2
        go_ret
        rw [HR.out]
        exact ⟨D, cd, rfl, SliceAt.of_own hown, own_cap hown, hw⟩
    · obtain rfl : j = xs.length := by omega
      have HR : Hid (lensV xs = L) := by show _ = _; rw [← HL.out]; unfold lensV; rw [List.take_of_length_le (by omega), List.take_of_length_le (Nat.le_refl _)]
      go_wp2
      go_ret
      rw [HR.out]
      exact ⟨D, cd, rfl, SliceAt.of_own hown, own_cap hown, hw⟩

end Go.Proofs.Ytfdbkpbgkpkckaa
