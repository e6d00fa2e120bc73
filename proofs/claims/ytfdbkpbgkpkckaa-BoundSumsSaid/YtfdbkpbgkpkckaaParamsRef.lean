/-
  The walks of the references of params.Check, params.Window and params.Block.
-/
import Derived.Test.YtfdbkpbgkpkckaaParamsBlock
namespace Go.Proofs.Ytfdbkpbgkpkckaa
open Go.RowKit
set_option linter.unusedVariables false
set_option maxRecDepth 100000

set_option maxHeartbeats 1600000 in
theorem rCheck_any (l wd jb ov : Int) (sy ck : Bool) (w : World) :
    Calls Try.prog 55 #[parV l wd jb ov sy ck] w fun e w' => e = .returned (.int .i64 (parE l wd jb ov)) ∧ Below w.heap.size w w' := by
  by_cases hb : parBad l wd jb ov
  · have HR : Hid (parE l wd jb ov = 2) := by unfold parE; rw [if_pos hb]; rfl
    by_cases c0 : l < 1
    · skip
      clear hb
      unfold parV
      go_enter Try.func55, Try.ntmps55
      go_wp2
      go_ret
      exact ⟨ret_int HR.out.symm, (Below.refl _ _).alloc (Nat.le_refl _) _⟩
    · by_cases c1 : 9 < l
      · skip
        clear hb
        unfold parV
        go_enter Try.func55, Try.ntmps55
        go_wp2
        go_ret
        exact ⟨ret_int HR.out.symm, (Below.refl _ _).alloc (Nat.le_refl _) _⟩
      · by_cases c2 : wd < 10
        · skip
          clear hb
          unfold parV
          go_enter Try.func55, Try.ntmps55
          go_wp2
          go_ret
          exact ⟨ret_int HR.out.symm, (Below.refl _ _).alloc (Nat.le_refl _) _⟩
        · by_cases c3 : 27 < wd
          · skip
            clear hb
            unfold parV
            go_enter Try.func55, Try.ntmps55
            go_wp2
            go_ret
            exact ⟨ret_int HR.out.symm, (Below.refl _ _).alloc (Nat.le_refl _) _⟩
          · by_cases c4 : jb < 16
            · skip
              clear hb
              unfold parV
              go_enter Try.func55, Try.ntmps55
              go_wp2
              go_ret
              exact ⟨ret_int HR.out.symm, (Below.refl _ _).alloc (Nat.le_refl _) _⟩
            · by_cases c5 : 2097152 < jb
              · skip
                clear hb
                unfold parV
                go_enter Try.func55, Try.ntmps55
                go_wp2
                go_ret
                exact ⟨ret_int HR.out.symm, (Below.refl _ _).alloc (Nat.le_refl _) _⟩
              · by_cases c6 : ov < 0
                · skip
                  clear hb
                  unfold parV
                  go_enter Try.func55, Try.ntmps55
                  go_wp2
                  go_ret
                  exact ⟨ret_int HR.out.symm, (Below.refl _ _).alloc (Nat.le_refl _) _⟩
                · have c7 : 9 < ov := by unfold parBad at hb; omega
                  clear hb
                  unfold parV
                  go_enter Try.func55, Try.ntmps55
                  go_wp2
                  go_ret
                  exact ⟨ret_int HR.out.symm, (Below.refl _ _).alloc (Nat.le_refl _) _⟩
  · have HR : Hid (parE l wd jb ov = 0) := by unfold parE; rw [if_neg hb]; rfl
    have b1 : 1 ≤ l ∧ l ≤ 9 ∧ 10 ≤ wd ∧ wd ≤ 27 ∧ 16 ≤ jb ∧ jb ≤ 2097152 ∧ 0 ≤ ov ∧ ov ≤ 9 := by unfold parBad at hb; omega
    clear hb
    unfold parV
    go_enter Try.func55, Try.ntmps55
    go_wp2
    go_ret
    exact ⟨ret_int HR.out.symm, (Below.refl _ _).alloc (Nat.le_refl _) _⟩

theorem parE_bad {l wd jb ov : Int} (h : parBad l wd jb ov) : parE l wd jb ov = 2 := if_pos h
theorem parE_ok {l wd jb ov : Int} (h : ¬ parBad l wd jb ov) : parE l wd jb ov = 0 := if_neg h
theorem pow_bd (wd : Int) (h : 10 ≤ wd ∧ wd ≤ 27) : (1024 : Int) ≤ 2 ^ wd.toNat ∧ (2 : Int) ^ wd.toNat ≤ 134217728 := by
  have h1 : (2 : Int) ^ 10 ≤ 2 ^ wd.toNat := par_pow (by omega)
  have h2 : (2 : Int) ^ wd.toNat ≤ 2 ^ 27 := par_pow (by omega)
  omega

set_option maxHeartbeats 800000 in
theorem rWindow_ok (l wd jb ov : Int) (sy ck : Bool) (w : World) (h : ¬ parBad l wd jb ov) :
    Calls Try.prog 80 #[parV l wd jb ov sy ck] w fun e w' => e = .returned (.tuple #[.int .i64 (2 ^ wd.toNat), .int .i64 0]) ∧ Below w.heap.size w w' := by
  have h' : 10 ≤ wd ∧ wd ≤ 27 := by unfold parBad at h; omega
  obtain ⟨p1, p2⟩ := pow_bd wd h'
  have HE := Lib.hid (parE_ok h)
  have HC := Lib.hid (fun W => rCheck_any l wd jb ov sy ck W)
  clear h
  unfold parV at *
  go_enter Try.func80, Try.ntmps80
  go_wp2_with fail
  refine (HC.out _).mono ?_
  rintro e w1 ⟨rfl, hB⟩
  rw [HE.out]
  have hc1 : w1.cell? ⟨w.heap.size, 1, none⟩ = some (.int .i64 wd) := (hB.cell (p := ⟨w.heap.size, 1, none⟩) (by simp)).trans (World.cell?_alloc_at _ _ _ _ rfl)
  go_wp2
  go_ret2
  exact ⟨rfl, below_then ((Below.refl _ _).alloc (Nat.le_refl _) _) hB⟩

set_option maxHeartbeats 800000 in
theorem rBlock_ok (l wd jb ov : Int) (sy ck : Bool) (w : World) (h : ¬ parBad l wd jb ov) :
    Calls Try.prog 84 #[parV l wd jb ov sy ck] w fun e w' => e = .returned (.tuple #[.int .i64 (min (2 ^ wd.toNat) 131072), .int .i64 0]) ∧ Below w.heap.size w w' := by
  have h' : 10 ≤ wd ∧ wd ≤ 27 := by unfold parBad at h; omega
  obtain ⟨p1, p2⟩ := pow_bd wd h'
  have HW := Lib.hid (fun W => rWindow_ok l wd jb ov sy ck W h)
  clear h
  unfold parV at *
  go_enter Try.func84, Try.ntmps84
  go_wp2_with fail
  refine (HW.out _).mono ?_
  rintro e w1 ⟨rfl, hB⟩
  go_wp2
  all_goals (
    go_ret2
    exact ⟨ret_two (val_int (by omega)) rfl, below_then ((Below.refl _ _).alloc (Nat.le_refl _) _) hB⟩)

end Go.Proofs.Ytfdbkpbgkpkckaa
