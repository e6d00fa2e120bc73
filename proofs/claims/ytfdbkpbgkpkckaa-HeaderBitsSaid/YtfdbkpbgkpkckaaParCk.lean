/-
  The walk of the reference of params.Check.
-/
import Derived.Test.YtfdbkpbgkpkckaaParams
namespace Go.Proofs.Ytfdbkpbgkpkckaa
open Go.RowKit
set_option linter.unusedVariables false
set_option maxRecDepth 100000

set_option maxHeartbeats 1600000 in
theorem rCheck_any (l wd jb ov : Int) (sy ck : Bool) (w : World) :
    Calls Try.prog 55 #[parV l wd jb ov sy ck] w fun e w' => e = .returned (.int .i64 (parE l wd jb ov)) ∧ Below w.heap.size w w' := by
  by_cases hb : parBad l wd jb ov
  · have HR : Hid (parE l wd jb ov = 2) := by unfold parE; rw [if_pos hb]; rfl
    by_cases c0 : l < 1
    · skip
      clear hb
      unfold parV
      go_enter Try.func55, Try.ntmps55
      go_wp2
      go_ret
      exact ⟨ret_int HR.out.symm, (Below.refl _ _).alloc (Nat.le_refl _) _⟩
    · by_cases c1 : 9 < l
      · skip
        clear hb
        unfold parV
        go_enter Try.func55, Try.ntmps55
        go_wp2
        go_ret
        exact ⟨ret_int HR.out.symm, (Below.refl _ _).alloc (Nat.le_refl _) _⟩
      · by_cases c2 : wd < 10
        · skip
          clear hb
          unfold parV
          go_enter Try.func55, Try.ntmps55
          go_wp2
          go_ret
          exact ⟨ret_int HR.out.symm, (Below.refl _ _).alloc (Nat.le_refl _) _⟩
        · by_cases c3 : 27 < wd
          · skip
            clear hb
            unfold parV
            go_enter Try.func55, Try.ntmps55
            go_wp2
            go_ret
            exact ⟨ret_int HR.out.symm, (Below.refl _ _).alloc (Nat.le_refl _) _⟩
          · by_cases c4 : jb < 16
            · skip
              clear hb
              unfold parV
              go_enter Try.func55, Try.ntmps55
              go_wp2
              go_ret
              exact ⟨ret_int HR.out.symm, (Below.refl _ _).alloc (Nat.le_refl _) _⟩
            · by_cases c5 : 2097152 < jb
              · skip
                clear hb
                unfold parV
                go_enter Try.func55, Try.ntmps55
                go_wp2
                go_ret
                exact ⟨ret_int HR.out.symm, (Below.refl _ _).alloc (Nat.le_refl _) _⟩
              · by_cases c6 : ov < 0
                · skip
                  clear hb
                  unfold parV
                  go_enter Try.func55, Try.ntmps55
                  go_wp2
                  go_ret
                  exact ⟨ret_int HR.out.symm, (Below.refl _ _).alloc (Nat.le_refl _) _⟩
                · have c7 : 9 < ov := by unfold parBad at hb; omega
                  clear hb
                  unfold parV
                  go_enter Try.func55, Try.ntmps55
                  go_wp2
                  go_ret
                  exact ⟨ret_int HR.out.symm, (Below.refl _ _).alloc (Nat.le_refl _) _⟩
  · have HR : Hid (parE l wd jb ov = 0) := by unfold parE; rw [if_neg hb]; rfl
    have b1 : 1 ≤ l ∧ l ≤ 9 ∧ 10 ≤ wd ∧ wd ≤ 27 ∧ 16 ≤ jb ∧ jb ≤ 2097152 ∧ 0 ≤ ov ∧ ov ≤ 9 := by unfold parBad at hb; omega
    clear hb
    unfold parV
    go_enter Try.func55, Try.ntmps55
    go_wp2
    go_ret
    exact ⟨ret_int HR.out.symm, (Below.refl _ _).alloc (Nat.le_refl _) _⟩

theorem parE_bad {l wd jb ov : Int} (h : parBad l wd jb ov) : parE l wd jb ov = 2 := if_pos h
theorem parE_ok {l wd jb ov : Int} (h : ¬ parBad l wd jb ov) : parE l wd jb ov = 0 := if_neg h

end Go.Proofs.Ytfdbkpbgkpkckaa
