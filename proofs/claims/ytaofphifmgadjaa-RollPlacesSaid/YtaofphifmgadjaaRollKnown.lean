/-
  The walk of cheesepresslaw34.RollKnown.
-/
import Derived.Test.YtaofphifmgadjaaRollRef
import Derived.Test.YtaofphifmgadjaaRollAwake
namespace Go.Proofs.Ytaofphifmgadjaa
open Go.RowKit Go.Shelf
set_option linter.unusedVariables false
set_option maxRecDepth 100000

set_option maxHeartbeats 1600000 in
theorem known34_any (w : World) :
    Calls Try.prog 4 #[] w fun e w' => e = .returned (.bool true) ∧ Below w.heap.size w w' := by
  have HF := Lib.hid h_facts
  have HA := Lib.hid fun W => add_z15_z W
  have hh0 := HF.out.1
  have hh1 := HF.out.2.1
  have HR := Lib.hid HF.out.2.2.2.2.2.2.2.2.2.2.1
  have E17 := Lib.hid HF.out.2.2.2.2.2.2.2.2.2.2.2
  have Ez := Lib.hid HF.out.2.2.2.2.2.2.2.2.2.1
  have E16 := Lib.hid HF.out.2.2.2.2.2.1
  have Z17 := Lib.hid (zs_size 17)
  have Z16 := Lib.hid (zs_size 16)
  have Z15 := Lib.hid (zs_size 15)
  have Zz := Lib.hid z15_z_size
  have L15 : Hid ((winsAll (zs 15)).length = 0) := by rw [winsAll_len, zs_size]; rfl
  have L17 : Hid ((winsAll (zs 17)).length = 2) := by rw [winsAll_len, zs_size]; rfl
  clear HF
  go_enter Try.func4, Try.ntmps4
  go_wp2_with fail
  refine (zeros34_any 17 _ (by omega)).mono ?_
  rintro e w1 ⟨rfl, hB1⟩
  go_wp2_with fail
  refine (Of_any (zs 17) _ (by rw [Z17.out]; decide)).mono ?_
  rintro e w2 ⟨rfl, hB2⟩
  rw [E17.out]
  go_wp2_with fail
  refine (zeros34_any 15 _ (by omega)).mono ?_
  rintro e w3 ⟨rfl, hB3⟩
  go_wp2_with fail
  refine (All_any (zs 15) _ (by rw [Z15.out]; decide)).mono ?_
  rintro e w4 ⟨A1, c1, rfl, _, hB4⟩
  rw [L15.out]
  go_wp2_with fail
  refine (zeros34_any 17 _ (by omega)).mono ?_
  rintro e w5 ⟨rfl, hB5⟩
  go_wp2_with fail
  refine (All_any (zs 17) _ (by rw [Z17.out]; decide)).mono ?_
  rintro e w6 ⟨A2, c2, rfl, _, hB6⟩
  rw [L17.out]
  go_wp2_with fail
  refine (hits34_yes 18446744073709551615 32 true 0 _ (by omega) (by decide +kernel) (by decide +kernel)).mono ?_
  rintro e w7 ⟨rfl, rfl⟩
  go_wp2_with fail
  refine (hits34_yes 9223372036854775808 2 false 0 _ (by omega) (by decide +kernel) (by decide +kernel)).mono ?_
  rintro e w7 ⟨rfl, rfl⟩
  go_wp2_with fail
  refine (hits34_yes 0 0 false 2 _ (by omega) (by decide +kernel) (by decide +kernel)).mono ?_
  rintro e w7 ⟨rfl, rfl⟩
  go_wp2_with fail
  refine (hits34_yes 0 33 false 2 _ (by omega) (by decide +kernel) (by decide +kernel)).mono ?_
  rintro e w7 ⟨rfl, rfl⟩
  go_wp2_with fail
  refine (zeros34_any 16 _ (by omega)).mono ?_
  rintro e w7 ⟨rfl, hB7⟩
  go_wp2_with fail
  refine (Of_any (zs 16) _ (by rw [Z16.out]; decide)).mono ?_
  rintro e w8 ⟨rfl, hB8⟩
  rw [E16.out, show ofV (zs 16) = h0 from rfl]
  go_wp2_with fail
  refine (zeros34_any 15 _ (by omega)).mono ?_
  rintro e w9 ⟨rfl, hB9⟩
  have ha := HA.out
  go_wp2_with fail
  clear ha
  refine (Of_any z15_z _ (by rw [Zz.out]; decide)).mono ?_
  rintro e w10 ⟨rfl, hB10⟩
  rw [Ez.out, show ofV z15_z = hz from rfl]
  go_wp2_with fail
  refine (awake34_any _).mono ?_
  rintro e w11 ⟨rfl, hB11⟩
  go_wp2_with fail
  refine (Roll_any h0 0 122 _ ⟨hh0, hh1⟩ (by omega) (by omega)).mono ?_
  rintro e w12 ⟨rfl, rfl⟩
  rw [HR.out]
  go_wp2_with fail
  go_ret
  exact ⟨rfl, below_then (below_then (below_then (below_then (below_then (below_then (below_then (below_then (below_then (below_then hB1 hB2) hB3) hB4) hB5) hB6) hB7) hB8) hB9) hB10) hB11⟩

end Go.Proofs.Ytaofphifmgadjaa
