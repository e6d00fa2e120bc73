/-
  The walks of the law package's helpers zeros, hits and awake (layer 34).
-/
import Derived.Test.YtaofphifmgadjaaRollHash
import Derived.Test.YtaofphifmgadjaaStr
namespace Go.Proofs.Ytaofphifmgadjaa
open Go.RowKit
set_option linter.unusedVariables false
set_option maxRecDepth 100000

set_option maxHeartbeats 800000 in
theorem zeros34_any (n : Nat) (w : World) (hn : n ≤ 1000000) :
    Calls Try.prog 22 #[.int .i64 n] w fun e w' => e = .returned (.string (zs n)) ∧ Below w.heap.size w w' := by
  obtain ⟨i0, hi, hz0, hz1, hz2⟩ := info_parts Try.infoU8
  go_enter Try.func22, Try.ntmps22
  go_wp2_with (at_make; refine wpList_make_full _ rfl _ _ 39 rfl w.heap.size 5 i0 (.int .u8 0) 1 Try.underlying39 hi hz0 hz1 .i64 .i64 n n n rfl rfl rfl rfl (by rw [hz2]; omega) (by simp only [maxLen]; omega) (Nat.le_refl _) ?_; intro w1 hown hgrow; have hc := conv_zeros (P := Try.prog) Try.underlying39 Try.underlying5 hown 9 Try.underlying9; have hw1 : Below w.heap.size w w1 := (Below.refl _ _).grown hgrow (Nat.le_refl _) (by simp); clear hown hgrow)
  go_ret
  exact ⟨rfl, hw1⟩

theorem hits34_yes (h n : Int) (want : Bool) (err : Int) (w : World) (hh : 0 ≤ h ∧ h ≤ 18446744073709551615) (e1 : hitsV h n = want) (e2 : hitsE n = err) :
    Calls Try.prog 24 #[.int .u64 h, .int .i64 n, .bool want, .int .i64 err] w fun e w' => e = .returned (.bool true) ∧ w = w' := by
  have E1 := Lib.hid e1
  have E2 := Lib.hid e2
  clear e1 e2
  go_enter Try.func24, Try.ntmps24
  go_wp2_with fail
  refine (Hits_any h n _ hh).mono ?_
  rintro e w1 ⟨rfl, rfl⟩
  rw [E1.out, E2.out]
  go_wp2_with fail
  go_ret
  exact ⟨rfl, rfl⟩

def z15_1 : ByteArray := zs 15 ++ ⟨#[1]⟩
def z15_z : ByteArray := zs 15 ++ ⟨#[122]⟩

theorem z15_1_size : z15_1.size = 16 := by unfold z15_1; rw [ByteArray.size_append, zs_size]; rfl
theorem z15_z_size : z15_z.size = 16 := by unfold z15_z; rw [ByteArray.size_append, zs_size]; rfl
theorem add_z15_1 (w : World) : (Op.stringOp .add (zs 15) ⟨#[1]⟩).run Try.prog w = .ok (.string z15_1) w :=
  run_string_add_sum w _ _ (by rw [zs_size]; decide)
theorem add_z15_z (w : World) : (Op.stringOp .add (zs 15) ⟨#[122]⟩).run Try.prog w = .ok (.string z15_z) w :=
  run_string_add_sum w _ _ (by rw [zs_size]; decide)

/-- The hash of sixteen bytes 0. -/
def h0 : Int := ofV (zs 16)
/-- The hash of fifteen bytes 0 and a byte 1. -/
def h1 : Int := ofV z15_1
/-- The hash of fifteen bytes 0 and a byte z. -/
def hz : Int := ofV z15_z

theorem h_facts : 0 ≤ h0 ∧ h0 ≤ 18446744073709551615 ∧ 0 ≤ h1 ∧ h1 ≤ 18446744073709551615 ∧ IntKind.u64.wrap (h1 - h0) = 1 ∧ ofE (zs 16) = 0 ∧ ofE z15_1 = 0 ∧ ofE (zs 15) = 5 ∧ ofV (zs 15) = 0 ∧ ofE z15_z = 0 ∧ rollV h0 0 122 = hz ∧ ofE (zs 17) = 4 := by decide +kernel

set_option maxHeartbeats 800000 in
theorem awake34_any (w : World) :
    Calls Try.prog 15 #[] w fun e w' => e = .returned (.bool true) ∧ Below w.heap.size w w' := by
  have HF := Lib.hid h_facts
  have ha := fun W => add_z15_1 W
  have hsub : IntKind.u64.wrap (h1 - h0) = 1 := HF.out.2.2.2.2.1
  have hh0 := HF.out.1
  have hh1 := HF.out.2.1
  have hh2 := HF.out.2.2.1
  have hh3 := HF.out.2.2.2.1
  have Z16 := Lib.hid (zs_size 16)
  have Z15 := Lib.hid (zs_size 15)
  have Z1 := Lib.hid z15_1_size
  go_enter Try.func15, Try.ntmps15
  go_wp2_with fail
  refine (zeros34_any 16 _ (by omega)).mono ?_
  rintro e w1 ⟨rfl, hB1⟩
  go_wp2_with fail
  refine (Of_any (zs 16) _ (by rw [Z16.out]; decide)).mono ?_
  rintro e w2 ⟨rfl, hB2⟩
  rw [HF.out.2.2.2.2.2.1, show ofV (zs 16) = h0 from rfl]
  go_wp2_with fail
  refine (zeros34_any 15 _ (by omega)).mono ?_
  rintro e w3 ⟨rfl, hB3⟩
  go_wp2_with fail
  refine (Of_any z15_1 _ (by rw [Z1.out]; decide)).mono ?_
  rintro e w4 ⟨rfl, hB4⟩
  rw [HF.out.2.2.2.2.2.2.1, show ofV z15_1 = h1 from rfl]
  go_wp2_with fail
  refine (zeros34_any 15 _ (by omega)).mono ?_
  rintro e w5 ⟨rfl, hB5⟩
  go_wp2_with fail
  refine (Of_any (zs 15) _ (by rw [Z15.out]; decide)).mono ?_
  rintro e w6 ⟨rfl, hB6⟩
  rw [HF.out.2.2.2.2.2.2.2.1, HF.out.2.2.2.2.2.2.2.2.1]
  go_wp2_with fail
  refine (hits34_yes 9223372036854775808 1 true 0 _ (by omega) (by decide +kernel) (by decide +kernel)).mono ?_
  rintro e w7 ⟨rfl, rfl⟩
  go_wp2_with fail
  go_ret
  exact ⟨rfl, below_then (below_then (below_then (below_then (below_then hB1 hB2) hB3) hB4) hB5) hB6⟩

end Go.Proofs.Ytaofphifmgadjaa
