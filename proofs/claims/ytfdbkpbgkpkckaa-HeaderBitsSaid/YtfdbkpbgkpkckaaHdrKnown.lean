/-
  The walk of the law HeaderKnown: the chapter's examples (printed by wip/bin/genhdknown.py).
-/
import Derived.Test.YtfdbkpbgkpkckaaHdrLaw
namespace Go.Proofs.Ytfdbkpbgkpkckaa
open Go.RowKit
set_option linter.unusedVariables false
set_option maxRecDepth 100000

theorem kn_1 : wrB 1 17 16 0 false = ⟨#[40, 181, 47, 253, 0, 56]⟩ := by decide +kernel
theorem kn_2 : wrE 1 17 16 0 = 0 := by decide +kernel
theorem kn_3 : bytB 5 5 true false = ⟨#[40, 181, 47, 253, 32, 5]⟩ := by decide +kernel
theorem kn_4 : chkV 5 5 true = 0 := by decide +kernel
theorem kn_5 : bytB 1024 5 false false = ⟨#[40, 181, 47, 253, 128, 0, 5, 0, 0, 0]⟩ := by decide +kernel
theorem kn_6 : chkV 1024 5 false = 0 := by decide +kernel
theorem kn_7 : blkN 1048576 (-1) false = 131072 := by decide +kernel
theorem kn_8 : chkV 1048576 (-1) false = 0 := by decide +kernel
theorem kn_9 : readD ⟨#[40, 181, 47]⟩ 0 = badD 5 3 := by decide +kernel
theorem kn_10 : readD ⟨#[]⟩ 0 = badD 5 0 := by decide +kernel
theorem kn_11 : readD ⟨#[40, 181, 47, 253, 0]⟩ 0 = badD 5 5 := by decide +kernel
theorem kn_12 : readD ⟨#[40, 181, 47, 253, 1, 0, 7]⟩ 0 = badD 16 6 := by decide +kernel
theorem kn_13 : readD ⟨#[40, 181, 47, 253, 0, 137]⟩ 0 = badD 17 5 := by decide +kernel
theorem kn_14 : readD (⟨#[40, 181, 47, 253]⟩ ++ ⟨#[96, 0, 1]⟩) 0 = ⟨512, 512, true, false, 7, 0, 0⟩ := by decide +kernel

set_option maxHeartbeats 4000000 in
theorem known29_any (w : World) :
    Calls Try.prog 11 #[] w fun r w' => r = .returned (.bool true) ∧ Below w.heap.size w w' := by
  have C1 := Lib.hid (fun W => hWrite_any 1 17 16 0 false false W)
  rw [kn_1, kn_2] at C1
  have C2 := Lib.hid (fun W => hBytes_any 5 5 true false W (by decide) (by decide))
  rw [kn_3, kn_4] at C2
  have C3 := Lib.hid (fun W => hBytes_any 1024 5 false false W (by decide) (by decide))
  rw [kn_5, kn_6] at C3
  have C4 := Lib.hid (fun W => hBlock_any 1048576 (-1) false false W (by decide) (by decide))
  rw [kn_7, kn_8] at C4
  have C5 := Lib.hid (fun W => fails_yes ⟨#[40, 181, 47]⟩ 5 3 W (by decide) kn_9)
  have C6 := Lib.hid (fun W => fails_yes ⟨#[]⟩ 5 0 W (by decide) kn_10)
  have C7 := Lib.hid (fun W => fails_yes ⟨#[40, 181, 47, 253, 0]⟩ 5 5 W (by decide) kn_11)
  have C8 := Lib.hid (fun W => fails_yes ⟨#[40, 181, 47, 253, 1, 0, 7]⟩ 16 6 W (by decide) kn_12)
  have C9 := Lib.hid (fun W => fails_yes ⟨#[40, 181, 47, 253, 0, 137]⟩ 17 5 W (by decide) kn_13)
  have C10 := Lib.hid (fun W => awake29_any W)
  have C11 := Lib.hid (fun W => reads_yes ⟨#[96, 0, 1]⟩ 512 512 true false W (by decide) kn_14)
  unfold hdrVal parV at *
  have hB0 := Below.refl w.heap.size w
  go_enter Try.func11, Try.ntmps11
  go_wp2_with fail
  refine (C1.out _).mono ?_
  rintro r w1 ⟨rfl, hY1⟩
  have hB1 := below_then hB0 hY1
  clear hY1 hB0 C1
  go_wp2_with fail
  refine (C2.out _).mono ?_
  rintro r w2 ⟨rfl, hY2⟩
  have hB2 := below_then hB1 hY2
  clear hY2 hB1 C2
  go_wp2_with fail
  refine (C3.out _).mono ?_
  rintro r w3 ⟨rfl, hY3⟩
  have hB3 := below_then hB2 hY3
  clear hY3 hB2 C3
  go_wp2_with fail
  refine (C4.out _).mono ?_
  rintro r w4 ⟨rfl, hY4⟩
  have hB4 := below_then hB3 hY4
  clear hY4 hB3 C4
  go_wp2_with fail
  refine (C5.out _).mono ?_
  rintro r w5 ⟨rfl, hY5⟩
  have hB5 := below_then hB4 hY5
  clear hY5 hB4 C5
  go_wp2_with fail
  refine (C6.out _).mono ?_
  rintro r w6 ⟨rfl, hY6⟩
  have hB6 := below_then hB5 hY6
  clear hY6 hB5 C6
  go_wp2_with fail
  refine (C7.out _).mono ?_
  rintro r w7 ⟨rfl, hY7⟩
  have hB7 := below_then hB6 hY7
  clear hY7 hB6 C7
  go_wp2_with fail
  refine (C8.out _).mono ?_
  rintro r w8 ⟨rfl, hY8⟩
  have hB8 := below_then hB7 hY8
  clear hY8 hB7 C8
  go_wp2_with fail
  refine (C9.out _).mono ?_
  rintro r w9 ⟨rfl, hY9⟩
  have hB9 := below_then hB8 hY9
  clear hY9 hB8 C9
  go_wp2_with fail
  refine (C10.out _).mono ?_
  rintro r w10 ⟨rfl, hY10⟩
  have hB10 := below_then hB9 hY10
  clear hY10 hB9 C10
  go_wp2_with fail
  refine (C11.out _).mono ?_
  rintro r w11 ⟨rfl, hY11⟩
  have hB11 := below_then hB10 hY11
  clear hY11 hB10 C11
  go_wp2_with fail
  go_ret
  exact ⟨rfl, hB11⟩

end Go.Proofs.Ytfdbkpbgkpkckaa
