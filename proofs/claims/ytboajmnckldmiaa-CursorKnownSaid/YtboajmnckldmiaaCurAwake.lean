/-
  The walk of cheesepresslaw04.awake.
-/
import Derived.Test.YtboajmnckldmiaaCurProg3
namespace Go.Proofs.Ytboajmnckldmiaa
open Go.RowKit
set_option linter.unusedVariables false
set_option maxRecDepth 100000

def s123 : ByteArray := ⟨#[1, 2, 3]⟩
theorem aw4_facts : newV s123 0 = ⟨s123, 0, 0, 0⟩ ∧ bytesC (rightC ⟨s123, 0, 0, 0⟩) 1 = ⟨s123, 1, 0, 0⟩ ∧ byteV (rightC ⟨s123, 0, 0, 0⟩) = 1 ∧ littleC (rightC ⟨s123, 1, 0, 0⟩) 2 = ⟨s123, 3, 0, 0⟩ ∧ littleV (rightC ⟨s123, 1, 0, 0⟩) 2 = 770 :=
  ⟨by kernel_rfl, by kernel_rfl, by kernel_rfl, by kernel_rfl, by kernel_rfl⟩

set_option maxHeartbeats 1600000 in
theorem awake04_any (w : World) :
    Calls Try.prog 14 #[] w fun e w' => e = .returned (.bool true) ∧ Below w.heap.size w w' := by
  have HF := Lib.hid aw4_facts
  go_enter Try.func14, Try.ntmps14
  go_wp2_with fail
  refine (New_any s123 0 _ (by decide)).mono ?_
  rintro r w1 ⟨rfl, hB1⟩
  rw [HF.out.1]
  unfold Cur.val
  go_wp2_with fail
  refine (Byte_any s123 0 0 0 _ (by decide)).mono ?_
  rintro r w2 ⟨rfl, hB2⟩
  rw [HF.out.2.1, HF.out.2.2.1]
  unfold Cur.val
  go_wp2_with fail
  refine (Little_any s123 1 0 0 2 _ (by decide) (by omega)).mono ?_
  rintro r w3 ⟨rfl, hB3⟩
  rw [HF.out.2.2.2.1, HF.out.2.2.2.2]
  unfold Cur.val
  have hx := (Cu.new w2 ⟨s123, 1, 0, 0⟩ 28).keep' hB3
  have hlt := hx.lt
  have p0 := hx.c0
  have p1 := hx.c1
  have p2 := hx.c2
  have p3 := hx.c3
  unfold s123 at *
  go_wp2_with fail
  go_ret
  exact ⟨rfl, below_alloc (below_then (below_alloc (below_then hB1 hB2) _) hB3) _⟩

end Go.Proofs.Ytboajmnckldmiaa
