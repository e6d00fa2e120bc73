/-
  The walk of params.Block.
-/
import Derived.Test.YtfdbkpbgkpkckaaParams
namespace Go.Proofs.Ytfdbkpbgkpkckaa
open Go.RowKit
set_option linter.unusedVariables false
set_option maxRecDepth 100000

theorem par_pow {i j : Nat} (h : i ≤ j) : (2 : Int) ^ i ≤ 2 ^ j := by
  have := Nat.pow_le_pow_right (n := 2) (by decide) h
  exact_mod_cast this

/-- params.asked, with the closure of Block over a box that holds the parameters. -/
theorem askedB_ok (l wd jb ov : Int) (sy ck : Bool) (g : Nat) (w : World) (h : ¬ parBad l wd jb ov) (hg : g < w.heap.size) (hc : w.cell? ⟨g, 1, none⟩ = some (.int .i64 wd)) :
    Calls Try.prog 97 #[parV l wd jb ov sy ck, .func (.func 100) #[] #[.pointer (some ⟨g, 0, none⟩)]] w fun e w' => e = .returned (.tuple #[.int .i64 (min (2 ^ wd.toNat) 131072), .int .i64 0]) ∧ Below w.heap.size w w' := by
  have h' : 10 ≤ wd ∧ wd ≤ 27 := by unfold parBad at h; omega
  have HE : Hid (parE l wd jb ov = 0) := by unfold parE; rw [if_neg h]; rfl
  have HC := Lib.hid (fun W => Check_any l wd jb ov sy ck W)
  clear h
  unfold parV at *
  go_enter Try.func97, Try.ntmps97
  go_wp2_with fail
  refine (HC.out _).mono ?_
  rintro e w1 ⟨rfl, hB⟩
  rw [HE.out]
  have hc1 : w1.cell? ⟨g, 1, none⟩ = some (.int .i64 wd) := (hB.cell (p := ⟨g, 1, none⟩) (by simp; omega)).trans ((World.cell?_alloc_lt _ _ _ hg).trans hc)
  have hp1 : (1024 : Int) ≤ 2 ^ wd.toNat := by
    have : (2 : Int) ^ 10 ≤ 2 ^ wd.toNat := par_pow (by omega)
    omega
  have hp2 : (2 : Int) ^ wd.toNat ≤ 134217728 := by
    have : (2 : Int) ^ wd.toNat ≤ 2 ^ 27 := par_pow (by omega)
    omega
  go_wp2
  all_goals (
    go_ret2
    exact ⟨ret_two (val_int (by omega)) rfl, below_then ((Below.refl _ _).alloc (Nat.le_refl _) _) hB⟩)

theorem Block_ok (l wd jb ov : Int) (sy ck : Bool) (w : World) (h : ¬ parBad l wd jb ov) :
    Calls Try.prog 82 #[parV l wd jb ov sy ck] w fun e w' => e = .returned (.tuple #[.int .i64 (min (2 ^ wd.toNat) 131072), .int .i64 0]) ∧ Below w.heap.size w w' := by
  have HA := Lib.hid (fun g W hg hc => askedB_ok l wd jb ov sy ck g W h hg hc)
  unfold parV at *
  clear h
  go_enter Try.func82, Try.ntmps82
  go_wp2_with fail
  refine (HA.out _ _ (by simp) (World.cell?_alloc_at _ _ _ _ rfl)).mono ?_
  rintro e w1 ⟨rfl, hB⟩
  go_wp2
  go_ret2
  exact ⟨rfl, below_then ((Below.refl _ _).alloc (Nat.le_refl _) _) hB⟩

end Go.Proofs.Ytfdbkpbgkpkckaa
