/-
  The walks of params.Check and params.Block.
-/
import Derived.Test.YtfdbkpbgkpkckaaRows
import Derived.Test.YtfdbkpbgkpkckaaCommon
import Derived.WalkLawsBesides
namespace Go.Proofs.Ytfdbkpbgkpkckaa
open Go.RowKit
set_option linter.unusedVariables false
set_option maxRecDepth 100000

theorem within_any (x a b : Int) (w : World) :
    Calls Try.prog 99 #[.int .i64 x, .int .i64 a, .int .i64 b] w fun e w' => e = .returned (.bool (decide (a ≤ x) && decide (x ≤ b))) ∧ w = w' := by
  by_cases h : a ≤ x
  · go_enter Try.func99, Try.ntmps99
    go_wp2
    go_ret
    exact ⟨ret_bool (by simp [h]), rfl⟩
  · have h' : decide (a ≤ x) = false := by simpa using h
    go_enter Try.func99, Try.ntmps99
    go_wp2
    go_ret
    exact ⟨ret_bool rfl, rfl⟩

/-- Whether parameters are out of their ranges, and the error. -/
def parBad (l wd jb ov : Int) : Prop := l < 1 ∨ 9 < l ∨ wd < 10 ∨ 27 < wd ∨ jb < 16 ∨ 2097152 < jb ∨ ov < 0 ∨ 9 < ov
/-- Parameters as a value. -/
def parV (l wd jb ov : Int) (sy ck : Bool) : Value := .agg #[.int .i64 l, .int .i64 wd, .int .i64 jb, .int .i64 ov, .bool sy, .bool ck]

instance (l wd jb ov : Int) : Decidable (parBad l wd jb ov) := by unfold parBad; infer_instance
def parE (l wd jb ov : Int) : Int := if parBad l wd jb ov then 2 else 0

set_option maxHeartbeats 1600000 in
theorem Check_any (l wd jb ov : Int) (sy ck : Bool) (w : World) :
    Calls Try.prog 81 #[parV l wd jb ov sy ck] w fun e w' => e = .returned (.int .i64 (parE l wd jb ov)) ∧ Below w.heap.size w w' := by
  unfold parV
  by_cases c0 : 1 ≤ l ∧ l ≤ 9
  · skip
    by_cases c1 : 10 ≤ wd ∧ wd ≤ 27
    · skip
      by_cases c2 : 16 ≤ jb ∧ jb ≤ 2097152
      · skip
        by_cases c3 : 0 ≤ ov ∧ ov ≤ 9
        · skip
          have HE : Hid (parE l wd jb ov = 0) := by unfold parE; rw [if_neg (by unfold parBad; omega)]; rfl
          go_enter Try.func81, Try.ntmps81
          go_wp2_with fail
          refine (within_any l 1 9 _).mono ?_
          rintro e w1 ⟨rfl, rfl⟩
          rw [show (decide ((1 : Int) ≤ l) && decide (l ≤ (9 : Int))) = true by simp; omega]
          go_wp2_with fail
          refine (within_any wd 10 27 _).mono ?_
          rintro e w1 ⟨rfl, rfl⟩
          rw [show (decide ((10 : Int) ≤ wd) && decide (wd ≤ (27 : Int))) = true by simp; omega]
          go_wp2_with fail
          refine (within_any jb 16 2097152 _).mono ?_
          rintro e w1 ⟨rfl, rfl⟩
          rw [show (decide ((16 : Int) ≤ jb) && decide (jb ≤ (2097152 : Int))) = true by simp; omega]
          go_wp2_with fail
          refine (within_any ov 0 9 _).mono ?_
          rintro e w1 ⟨rfl, rfl⟩
          rw [show (decide ((0 : Int) ≤ ov) && decide (ov ≤ (9 : Int))) = true by simp; omega]
          go_wp2
          go_ret
          exact ⟨ret_int HE.out.symm, (Below.refl _ _).alloc (Nat.le_refl _) _⟩
        · have HE : Hid (parE l wd jb ov = 2) := by unfold parE; rw [if_pos (by unfold parBad; omega)]; rfl
          go_enter Try.func81, Try.ntmps81
          go_wp2_with fail
          refine (within_any l 1 9 _).mono ?_
          rintro e w1 ⟨rfl, rfl⟩
          rw [show (decide ((1 : Int) ≤ l) && decide (l ≤ (9 : Int))) = true by simp; omega]
          go_wp2_with fail
          refine (within_any wd 10 27 _).mono ?_
          rintro e w1 ⟨rfl, rfl⟩
          rw [show (decide ((10 : Int) ≤ wd) && decide (wd ≤ (27 : Int))) = true by simp; omega]
          go_wp2_with fail
          refine (within_any jb 16 2097152 _).mono ?_
          rintro e w1 ⟨rfl, rfl⟩
          rw [show (decide ((16 : Int) ≤ jb) && decide (jb ≤ (2097152 : Int))) = true by simp; omega]
          go_wp2_with fail
          refine (within_any ov 0 9 _).mono ?_
          rintro e w1 ⟨rfl, rfl⟩
          rw [show (decide ((0 : Int) ≤ ov) && decide (ov ≤ (9 : Int))) = false by simp; omega]
          go_wp2
          go_ret
          exact ⟨ret_int HE.out.symm, (Below.refl _ _).alloc (Nat.le_refl _) _⟩
      · have HE : Hid (parE l wd jb ov = 2) := by unfold parE; rw [if_pos (by unfold parBad; omega)]; rfl
        go_enter Try.func81, Try.ntmps81
        go_wp2_with fail
        refine (within_any l 1 9 _).mono ?_
        rintro e w1 ⟨rfl, rfl⟩
        rw [show (decide ((1 : Int) ≤ l) && decide (l ≤ (9 : Int))) = true by simp; omega]
        go_wp2_with fail
        refine (within_any wd 10 27 _).mono ?_
        rintro e w1 ⟨rfl, rfl⟩
        rw [show (decide ((10 : Int) ≤ wd) && decide (wd ≤ (27 : Int))) = true by simp; omega]
        go_wp2_with fail
        refine (within_any jb 16 2097152 _).mono ?_
        rintro e w1 ⟨rfl, rfl⟩
        rw [show (decide ((16 : Int) ≤ jb) && decide (jb ≤ (2097152 : Int))) = false by simp; omega]
        go_wp2
        go_ret
        exact ⟨ret_int HE.out.symm, (Below.refl _ _).alloc (Nat.le_refl _) _⟩
    · have HE : Hid (parE l wd jb ov = 2) := by unfold parE; rw [if_pos (by unfold parBad; omega)]; rfl
      go_enter Try.func81, Try.ntmps81
      go_wp2_with fail
      refine (within_any l 1 9 _).mono ?_
      rintro e w1 ⟨rfl, rfl⟩
      rw [show (decide ((1 : Int) ≤ l) && decide (l ≤ (9 : Int))) = true by simp; omega]
      go_wp2_with fail
      refine (within_any wd 10 27 _).mono ?_
      rintro e w1 ⟨rfl, rfl⟩
      rw [show (decide ((10 : Int) ≤ wd) && decide (wd ≤ (27 : Int))) = false by simp; omega]
      go_wp2
      go_ret
      exact ⟨ret_int HE.out.symm, (Below.refl _ _).alloc (Nat.le_refl _) _⟩
  · have HE : Hid (parE l wd jb ov = 2) := by unfold parE; rw [if_pos (by unfold parBad; omega)]; rfl
    go_enter Try.func81, Try.ntmps81
    go_wp2_with fail
    refine (within_any l 1 9 _).mono ?_
    rintro e w1 ⟨rfl, rfl⟩
    rw [show (decide ((1 : Int) ≤ l) && decide (l ≤ (9 : Int))) = false by simp; omega]
    go_wp2
    go_ret
    exact ⟨ret_int HE.out.symm, (Below.refl _ _).alloc (Nat.le_refl _) _⟩

end Go.Proofs.Ytfdbkpbgkpkckaa
