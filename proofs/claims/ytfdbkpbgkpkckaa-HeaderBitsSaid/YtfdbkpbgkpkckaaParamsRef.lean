/-
  The walks of the references of params.Window and params.Block.
-/
import Derived.Test.YtfdbkpbgkpkckaaParamsBlock
import Derived.Test.YtfdbkpbgkpkckaaParCk
namespace Go.Proofs.Ytfdbkpbgkpkckaa
open Go.RowKit
set_option linter.unusedVariables false
set_option maxRecDepth 100000

theorem pow_bd (wd : Int) (h : 10 ≤ wd ∧ wd ≤ 27) : (1024 : Int) ≤ 2 ^ wd.toNat ∧ (2 : Int) ^ wd.toNat ≤ 134217728 := by
  have h1 : (2 : Int) ^ 10 ≤ 2 ^ wd.toNat := par_pow (by omega)
  have h2 : (2 : Int) ^ wd.toNat ≤ 2 ^ 27 := par_pow (by omega)
  omega

set_option maxHeartbeats 800000 in
theorem rWindow_ok (l wd jb ov : Int) (sy ck : Bool) (w : World) (h : ¬ parBad l wd jb ov) :
    Calls Try.prog 80 #[parV l wd jb ov sy ck] w fun e w' => e = .returned (.tuple #[.int .i64 (2 ^ wd.toNat), .int .i64 0]) ∧ Below w.heap.size w w' := by
  have h' : 10 ≤ wd ∧ wd ≤ 27 := by unfold parBad at h; omega
  obtain ⟨p1, p2⟩ := pow_bd wd h'
  have HE := Lib.hid (parE_ok h)
  have HC := Lib.hid (fun W => rCheck_any l wd jb ov sy ck W)
  clear h
  unfold parV at *
  go_enter Try.func80, Try.ntmps80
  go_wp2_with fail
  refine (HC.out _).mono ?_
  rintro e w1 ⟨rfl, hB⟩
  rw [HE.out]
  have hc1 : w1.cell? ⟨w.heap.size, 1, none⟩ = some (.int .i64 wd) := (hB.cell (p := ⟨w.heap.size, 1, none⟩) (by simp)).trans (World.cell?_alloc_at _ _ _ _ rfl)
  go_wp2
  go_ret2
  exact ⟨rfl, below_then ((Below.refl _ _).alloc (Nat.le_refl _) _) hB⟩

set_option maxHeartbeats 800000 in
theorem rBlock_ok (l wd jb ov : Int) (sy ck : Bool) (w : World) (h : ¬ parBad l wd jb ov) :
    Calls Try.prog 84 #[parV l wd jb ov sy ck] w fun e w' => e = .returned (.tuple #[.int .i64 (min (2 ^ wd.toNat) 131072), .int .i64 0]) ∧ Below w.heap.size w w' := by
  have h' : 10 ≤ wd ∧ wd ≤ 27 := by unfold parBad at h; omega
  obtain ⟨p1, p2⟩ := pow_bd wd h'
  have HW := Lib.hid (fun W => rWindow_ok l wd jb ov sy ck W h)
  clear h
  unfold parV at *
  go_enter Try.func84, Try.ntmps84
  go_wp2_with fail
  refine (HW.out _).mono ?_
  rintro e w1 ⟨rfl, hB⟩
  go_wp2
  all_goals (
    go_ret2
    exact ⟨ret_two (val_int (by omega)) rfl, below_then ((Below.refl _ _).alloc (Nat.le_refl _) _) hB⟩)

end Go.Proofs.Ytfdbkpbgkpkckaa
