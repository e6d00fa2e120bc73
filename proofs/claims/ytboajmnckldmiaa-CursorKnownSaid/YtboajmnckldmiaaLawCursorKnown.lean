/- The statement cheesepresslaw04.CursorKnown holds: the law returns true. -/
import Derived.Test.YtboajmnckldmiaaShell
import Derived.Test.YtboajmnckldmiaaCurAwake
import Derived.Test.YtboajmnckldmiaaCurProg4
namespace Go.Proofs.Ytboajmnckldmiaa.cursorKnown
open Go.ChangeShapes Go.WideShapes Go.ChangeAt Go.RowKit
open Go.ChangeMaps (open_string shut_string)
set_option linter.unusedVariables false
set_option maxRecDepth 100000

theorem kf1 : newV (⟨#[1, 2, 3]⟩ : ByteArray) 0 = ⟨(⟨#[1, 2, 3]⟩ : ByteArray), 0, 0, 0⟩ := by kernel_rfl
theorem kf2 : bytesC (rightC ⟨(⟨#[1, 2, 3]⟩ : ByteArray), 0, 0, 0⟩) 1 = ⟨(⟨#[1, 2, 3]⟩ : ByteArray), 1, 0, 0⟩ := by kernel_rfl
theorem kf3 : byteV (rightC ⟨(⟨#[1, 2, 3]⟩ : ByteArray), 0, 0, 0⟩) = 1 := by kernel_rfl
theorem kf4 : littleC (rightC ⟨(⟨#[1, 2, 3]⟩ : ByteArray), 1, 0, 0⟩) 2 = ⟨(⟨#[1, 2, 3]⟩ : ByteArray), 3, 0, 0⟩ := by kernel_rfl
theorem kf5 : littleV (rightC ⟨(⟨#[1, 2, 3]⟩ : ByteArray), 1, 0, 0⟩) 2 = 770 := by kernel_rfl
theorem kf6 : littleC (rightC ⟨(⟨#[1, 2, 3]⟩ : ByteArray), 3, 0, 0⟩) 1 = ⟨(⟨#[1, 2, 3]⟩ : ByteArray), 3, 5, 3⟩ := by kernel_rfl
theorem kf7 : littleV (rightC ⟨(⟨#[1, 2, 3]⟩ : ByteArray), 3, 0, 0⟩) 1 = 0 := by kernel_rfl
theorem kf8 : newV (⟨#[97, 98]⟩ : ByteArray) 1 = ⟨(⟨#[97, 98]⟩ : ByteArray), 1, 0, 0⟩ := by kernel_rfl
theorem kf9 : bytesC (rightC ⟨(⟨#[97, 98]⟩ : ByteArray), 1, 0, 0⟩) 1 = ⟨(⟨#[97, 98]⟩ : ByteArray), 2, 0, 0⟩ := by kernel_rfl
theorem kf10 : bytesO (rightC ⟨(⟨#[97, 98]⟩ : ByteArray), 1, 0, 0⟩) 1 = ⟨#[98]⟩ := by kernel_rfl
theorem kf11 : bytesC (rightC ⟨(⟨#[97, 98]⟩ : ByteArray), 1, 0, 0⟩) 2 = ⟨(⟨#[97, 98]⟩ : ByteArray), 1, 5, 2⟩ := by kernel_rfl
theorem kf12 : bytesO (rightC ⟨(⟨#[97, 98]⟩ : ByteArray), 1, 0, 0⟩) 2 = ⟨#[]⟩ := by kernel_rfl
theorem kf13 : bytesC (rightC ⟨(⟨#[97, 98]⟩ : ByteArray), 1, 0, 0⟩) (-1) = ⟨(⟨#[97, 98]⟩ : ByteArray), 1, 2, 1⟩ := by kernel_rfl
theorem kf14 : newV (⟨#[1, 2, 3]⟩ : ByteArray) 1 = ⟨(⟨#[1, 2, 3]⟩ : ByteArray), 1, 0, 0⟩ := by kernel_rfl
theorem kf15 : innerC (rightC ⟨(⟨#[1, 2, 3]⟩ : ByteArray), 1, 0, 0⟩) 1 = ⟨⟨#[1, 2]⟩, 1, 0, 0⟩ := by kernel_rfl
theorem kf16 : bytesC (rightC ⟨(⟨#[1, 2, 3]⟩ : ByteArray), 1, 0, 0⟩) 1 = ⟨(⟨#[1, 2, 3]⟩ : ByteArray), 2, 0, 0⟩ := by kernel_rfl
theorem kf17 : newV (⟨#[97]⟩ : ByteArray) 0 = ⟨(⟨#[97]⟩ : ByteArray), 0, 0, 0⟩ := by kernel_rfl
theorem kf18 : littleC (rightC ⟨(⟨#[97]⟩ : ByteArray), 0, 0, 0⟩) 0 = ⟨(⟨#[97]⟩ : ByteArray), 0, 2, 0⟩ := by kernel_rfl
theorem kf19 : littleV (rightC ⟨(⟨#[97]⟩ : ByteArray), 0, 0, 0⟩) 0 = 0 := by kernel_rfl
theorem kf20 : littleC (rightC ⟨(⟨#[97]⟩ : ByteArray), 0, 0, 0⟩) 9 = ⟨(⟨#[97]⟩ : ByteArray), 0, 2, 0⟩ := by kernel_rfl
theorem kf21 : littleV (rightC ⟨(⟨#[97]⟩ : ByteArray), 0, 0, 0⟩) 9 = 0 := by kernel_rfl
theorem kf22 : newV (⟨#[97]⟩ : ByteArray) 2 = ⟨(⟨#[97]⟩ : ByteArray), 0, 2, 0⟩ := by kernel_rfl
theorem kf23 : newV (⟨#[]⟩ : ByteArray) 0 = ⟨(⟨#[]⟩ : ByteArray), 0, 0, 0⟩ := by kernel_rfl
theorem kf24 : newV (⟨#[97]⟩ : ByteArray) 1 = ⟨(⟨#[97]⟩ : ByteArray), 1, 0, 0⟩ := by kernel_rfl
theorem kf25 : leftC (rightC ⟨(⟨#[97, 98]⟩ : ByteArray), 1, 0, 0⟩) = 1 := by kernel_rfl
theorem kf26 : endE (rightC ⟨(⟨#[97]⟩ : ByteArray), 0, 0, 0⟩) = 4 := by kernel_rfl
theorem kf27 : endF (rightC ⟨(⟨#[97]⟩ : ByteArray), 0, 0, 0⟩) = 0 := by kernel_rfl
theorem kf28 : endE (rightC ⟨(⟨#[97]⟩ : ByteArray), 1, 0, 0⟩) = 0 := by kernel_rfl
theorem kf29 : endF (rightC ⟨(⟨#[97]⟩ : ByteArray), 1, 0, 0⟩) = 0 := by kernel_rfl
theorem kf30 : endE (rightC ⟨(⟨#[97]⟩ : ByteArray), 0, 13, 1⟩) = 13 := by kernel_rfl
theorem kf31 : endF (rightC ⟨(⟨#[97]⟩ : ByteArray), 0, 13, 1⟩) = 1 := by kernel_rfl
theorem kf32 : failC (rightC ⟨(⟨#[97]⟩ : ByteArray), 0, 0, 0⟩) 13 9 = ⟨(⟨#[97]⟩ : ByteArray), 0, 13, 1⟩ := by kernel_rfl

set_option maxHeartbeats 8000000 in
theorem walk (w : World) :
    Calls Try.prog 12 #[] w fun r w' => r = .returned (.bool true) ∧ Below w.heap.size w w' := by
  have h1 := Lib.hid (fun W => New_any (⟨#[1, 2, 3]⟩ : ByteArray) 0 W (by decide))
  rw [kf1] at h1
  try unfold Cur.val at h1
  have h2 := Lib.hid (fun W => Byte_any (⟨#[1, 2, 3]⟩ : ByteArray) 0 0 0 W (by decide))
  rw [kf2, kf3] at h2
  try unfold Cur.val at h2
  have h3 := Lib.hid (fun W => Little_any (⟨#[1, 2, 3]⟩ : ByteArray) 1 0 0 2 W (by decide) (by decide))
  rw [kf4, kf5] at h3
  try unfold Cur.val at h3
  have h4 := Lib.hid (fun W => Little_any (⟨#[1, 2, 3]⟩ : ByteArray) 3 0 0 1 W (by decide) (by decide))
  rw [kf6, kf7] at h4
  try unfold Cur.val at h4
  have h5 := Lib.hid (fun W => New_any (⟨#[97, 98]⟩ : ByteArray) 1 W (by decide))
  rw [kf8] at h5
  try unfold Cur.val at h5
  have h6 := Lib.hid (fun W => Bytes_any (⟨#[97, 98]⟩ : ByteArray) 1 0 0 1 W (by decide) (by decide))
  rw [kf9, kf10] at h6
  try unfold Cur.val at h6
  have h7 := Lib.hid (fun W => Bytes_any (⟨#[97, 98]⟩ : ByteArray) 1 0 0 2 W (by decide) (by decide))
  rw [kf11, kf12] at h7
  try unfold Cur.val at h7
  have h8 := Lib.hid (fun W => Skip_any (⟨#[97, 98]⟩ : ByteArray) 1 0 0 (-1) W (by decide) (by decide))
  rw [kf13] at h8
  try unfold Cur.val at h8
  have h9 := Lib.hid (fun W => New_any (⟨#[1, 2, 3]⟩ : ByteArray) 1 W (by decide))
  rw [kf14] at h9
  try unfold Cur.val at h9
  have h10 := Lib.hid (fun W => Inner_any (⟨#[1, 2, 3]⟩ : ByteArray) 1 0 0 1 W (by decide) (by decide))
  rw [kf15, kf16] at h10
  try unfold Cur.val at h10
  have h11 := Lib.hid (fun W => New_any (⟨#[97]⟩ : ByteArray) 0 W (by decide))
  rw [kf17] at h11
  try unfold Cur.val at h11
  have h12 := Lib.hid (fun W => Little_any (⟨#[97]⟩ : ByteArray) 0 0 0 0 W (by decide) (by decide))
  rw [kf18, kf19] at h12
  try unfold Cur.val at h12
  have h13 := Lib.hid (fun W => Little_any (⟨#[97]⟩ : ByteArray) 0 0 0 9 W (by decide) (by decide))
  rw [kf20, kf21] at h13
  try unfold Cur.val at h13
  have h14 := Lib.hid (fun W => New_any (⟨#[97]⟩ : ByteArray) 2 W (by decide))
  rw [kf22] at h14
  try unfold Cur.val at h14
  have h15 := Lib.hid (fun W => New_any (⟨#[]⟩ : ByteArray) 0 W (by decide))
  rw [kf23] at h15
  try unfold Cur.val at h15
  have h16 := Lib.hid (fun W => New_any (⟨#[97]⟩ : ByteArray) 1 W (by decide))
  rw [kf24] at h16
  try unfold Cur.val at h16
  have h17 := Lib.hid (fun W => Left_any (⟨#[97, 98]⟩ : ByteArray) 1 0 0 W (by decide))
  rw [kf25] at h17
  try unfold Cur.val at h17
  have h18 := Lib.hid (fun W => End_any (⟨#[97]⟩ : ByteArray) 0 0 0 W (by decide))
  rw [kf26, kf27] at h18
  try unfold Cur.val at h18
  have h19 := Lib.hid (fun W => End_any (⟨#[97]⟩ : ByteArray) 1 0 0 W (by decide))
  rw [kf28, kf29] at h19
  try unfold Cur.val at h19
  have h20 := Lib.hid (fun W => End_any (⟨#[97]⟩ : ByteArray) 0 13 1 W (by decide))
  rw [kf30, kf31] at h20
  try unfold Cur.val at h20
  have h21 := Lib.hid (fun W => Fail_any (⟨#[97]⟩ : ByteArray) 0 0 0 13 9 W (by decide))
  rw [kf32] at h21
  try unfold Cur.val at h21
  have hfd1 : ∀ W, (Instr.field 28 (.agg #[.string ⟨#[97]⟩, .int .i64 0, .int .i64 2, .int .i64 0]) 2).run Try.prog W = .ok (.agg #[.int .i64 2, .int .i64 0]) W := fun _ => by kernel_rfl
  have hfd2 : ∀ W, (Instr.field 28 (.agg #[.string ⟨#[]⟩, .int .i64 0, .int .i64 0, .int .i64 0]) 2).run Try.prog W = .ok (.agg #[.int .i64 0, .int .i64 0]) W := fun _ => by kernel_rfl
  have bB := Below.refl w.heap.size w
  go_enter Try.func12, Try.ntmps12
  go_wp2_with fail
  refine (h1.out _).mono ?_
  rintro r w10 ⟨rfl, hB10⟩
  have bD10 := below_then bB hB10
  go_wp2_with fail
  refine (h2.out _).mono ?_
  rintro r w11 ⟨rfl, hB11⟩
  have bB11 := below_then bD10 hB11
  have sW11 := bB11.size
  have GC11 := Cu.new w11 ⟨(⟨#[1, 2, 3]⟩ : ByteArray), 1, 0, 0⟩ 28
  have bC11 := below_alloc (bB11) (.cells #[.string (⟨#[1, 2, 3]⟩ : ByteArray), .int .i64 1, .int .i64 0, .int .i64 0] 28)
  have kC0 := GC11.c0
  have kC1 := GC11.c1
  have kC2 := GC11.c2
  have kC3 := GC11.c3
  have gC911 := GC11
  clear GC11
  go_wp2_with fail
  refine (h3.out _).mono ?_
  rintro r w12 ⟨rfl, hB12⟩
  clear kC0 kC1 kC2 kC3
  have gC12 := (gC911).keep' hB12
  clear gC911
  have bB12 := below_then bC11 hB12
  have sW12 := bB12.size
  have u0 := gC12.c0
  have u1 := gC12.c1
  have u2 := gC12.c2
  have u3 := gC12.c3
  have uz0 := gC12.fz 0
  have uz1 := gC12.fz 1
  have uz2 := gC12.fz 2
  have uz3 := gC12.fz 3
  have GC12 := gC12.store ⟨(⟨#[1, 2, 3]⟩ : ByteArray), 3, 0, 0⟩
  have bC12 := setCu_below bB12 (g := w11.heap.size) (by omega) ⟨(⟨#[1, 2, 3]⟩ : ByteArray), 3, 0, 0⟩
  have kC0 := GC12.c0
  have kC1 := GC12.c1
  have kC2 := GC12.c2
  have kC3 := GC12.c3
  simp only [World.setCu] at kC0 kC1 kC2 kC3
  have gC912 := GC12
  clear GC12
  clear gC12
  go_wp2_with fail
  refine (h4.out _).mono ?_
  rintro r w13 ⟨rfl, hB13⟩
  clear u0 u1 u2 u3 uz0 uz1 uz2 uz3 kC0 kC1 kC2 kC3
  have gC13 := (gC912).keep' hB13
  clear gC912
  have bB13 := below_then bC12 hB13
  have sW13 := bB13.size
  have u0 := gC13.c0
  have u1 := gC13.c1
  have u2 := gC13.c2
  have u3 := gC13.c3
  have uz0 := gC13.fz 0
  have uz1 := gC13.fz 1
  have uz2 := gC13.fz 2
  have uz3 := gC13.fz 3
  have GC13 := gC13.store ⟨(⟨#[1, 2, 3]⟩ : ByteArray), 3, 5, 3⟩
  have bC13 := setCu_below bB13 (g := w11.heap.size) (by omega) ⟨(⟨#[1, 2, 3]⟩ : ByteArray), 3, 5, 3⟩
  have kC0 := GC13.c0
  have kC1 := GC13.c1
  have kC2 := GC13.c2
  have kC3 := GC13.c3
  simp only [World.setCu] at kC0 kC1 kC2 kC3
  have gC913 := GC13
  clear GC13
  clear gC13
  go_wp2_with fail
  refine (h5.out _).mono ?_
  rintro r w14 ⟨rfl, hB14⟩
  clear u0 u1 u2 u3 uz0 uz1 uz2 uz3 kC0 kC1 kC2 kC3
  have gC914 := gC913.keep' hB14
  clear gC913
  have bD14 := below_then bC13 hB14
  have ltC14 := gC914.lt
  go_wp2_with fail
  refine (h6.out _).mono ?_
  rintro r w15 ⟨rfl, hB15⟩
  have gC15 := (gC914).keep' hB15
  clear gC914
  have bB15 := below_then bD14 hB15
  have sW15 := bB15.size
  have GC15 := (gC15).alloc (.cells #[.string (⟨#[97, 98]⟩ : ByteArray), .int .i64 2, .int .i64 0, .int .i64 0] 28)
  have GA15 := Cu.new w15 ⟨(⟨#[97, 98]⟩ : ByteArray), 2, 0, 0⟩ 28
  have bC15 := below_alloc (bB15) (.cells #[.string (⟨#[97, 98]⟩ : ByteArray), .int .i64 2, .int .i64 0, .int .i64 0] 28)
  have nC15 := gC15.lt
  have gC915 := GC15
  clear GC15
  have gA915 := GA15
  clear GA15
  clear gC15
  go_wp2_with fail
  refine (h5.out _).mono ?_
  rintro r w16 ⟨rfl, hB16⟩
  have gC916 := gC915.keep' hB16
  clear gC915
  have gA916 := gA915.keep' hB16
  clear gA915
  have bD16 := below_then bC15 hB16
  have ltC16 := gC916.lt
  have ltA16 := gA916.lt
  go_wp2_with fail
  refine (h7.out _).mono ?_
  rintro r w17 ⟨rfl, hB17⟩
  have gC17 := (gC916).keep' hB17
  have gA17 := (gA916).keep' hB17
  clear gC916
  clear gA916
  have bB17 := below_then bD16 hB17
  have sW17 := bB17.size
  have GC17 := (gC17).alloc (.cells #[.string (⟨#[97, 98]⟩ : ByteArray), .int .i64 1, .int .i64 5, .int .i64 2] 28)
  have GA17 := (gA17).alloc (.cells #[.string (⟨#[97, 98]⟩ : ByteArray), .int .i64 1, .int .i64 5, .int .i64 2] 28)
  have GB17 := Cu.new w17 ⟨(⟨#[97, 98]⟩ : ByteArray), 1, 5, 2⟩ 28
  have bC17 := below_alloc (bB17) (.cells #[.string (⟨#[97, 98]⟩ : ByteArray), .int .i64 1, .int .i64 5, .int .i64 2] 28)
  have nC17 := gC17.lt
  have nA17 := gA17.lt
  have gC917 := GC17
  clear GC17
  have gA917 := GA17
  clear GA17
  have gB917 := GB17
  clear GB17
  clear gC17 gA17
  go_wp2_with fail
  refine (h5.out _).mono ?_
  rintro r w18 ⟨rfl, hB18⟩
  have gC918 := gC917.keep' hB18
  clear gC917
  have gA918 := gA917.keep' hB18
  clear gA917
  have gB918 := gB917.keep' hB18
  clear gB917
  have bD18 := below_then bC17 hB18
  have ltC18 := gC918.lt
  have ltA18 := gA918.lt
  have ltB18 := gB918.lt
  go_wp2_with fail
  refine (h8.out _).mono ?_
  rintro r w19 ⟨rfl, hB19⟩
  have gC19 := (gC918).keep' hB19
  have gA19 := (gA918).keep' hB19
  have gB19 := (gB918).keep' hB19
  clear gC918
  clear gA918
  clear gB918
  have bB19 := below_then bD18 hB19
  have sW19 := bB19.size
  have GC19 := (gC19).alloc (.cells #[.string (⟨#[97, 98]⟩ : ByteArray), .int .i64 1, .int .i64 2, .int .i64 1] 28)
  have GA19 := (gA19).alloc (.cells #[.string (⟨#[97, 98]⟩ : ByteArray), .int .i64 1, .int .i64 2, .int .i64 1] 28)
  have GB19 := (gB19).alloc (.cells #[.string (⟨#[97, 98]⟩ : ByteArray), .int .i64 1, .int .i64 2, .int .i64 1] 28)
  have GD19 := Cu.new w19 ⟨(⟨#[97, 98]⟩ : ByteArray), 1, 2, 1⟩ 28
  have bC19 := below_alloc (bB19) (.cells #[.string (⟨#[97, 98]⟩ : ByteArray), .int .i64 1, .int .i64 2, .int .i64 1] 28)
  have nC19 := gC19.lt
  have nA19 := gA19.lt
  have nB19 := gB19.lt
  have kA0 := GA19.c0
  have kA1 := GA19.c1
  have kA2 := GA19.c2
  have kA3 := GA19.c3
  have kB0 := GB19.c0
  have kB1 := GB19.c1
  have kB2 := GB19.c2
  have kB3 := GB19.c3
  have kD0 := GD19.c0
  have kD1 := GD19.c1
  have kD2 := GD19.c2
  have kD3 := GD19.c3
  have gC919 := GC19
  clear GC19
  have gA919 := GA19
  clear GA19
  have gB919 := GB19
  clear GB19
  have gD919 := GD19
  clear GD19
  clear gC19 gA19 gB19
  go_wp2_with fail
  refine (h9.out _).mono ?_
  rintro r w20 ⟨rfl, hB20⟩
  clear kA0 kA1 kA2 kA3 kB0 kB1 kB2 kB3 kD0 kD1 kD2 kD3
  have gC920 := gC919.keep' hB20
  clear gC919
  have gA920 := gA919.keep' hB20
  clear gA919
  have gB920 := gB919.keep' hB20
  clear gB919
  have gD920 := gD919.keep' hB20
  clear gD919
  have bD20 := below_then bC19 hB20
  have ltC20 := gC920.lt
  have ltA20 := gA920.lt
  have ltB20 := gB920.lt
  have ltD20 := gD920.lt
  go_wp2_with fail
  refine (h10.out _).mono ?_
  rintro r w21 ⟨rfl, hB21⟩
  have gC21 := (gC920).keep' hB21
  have gA21 := (gA920).keep' hB21
  have gB21 := (gB920).keep' hB21
  have gD21 := (gD920).keep' hB21
  clear gC920
  clear gA920
  clear gB920
  clear gD920
  have bB21 := below_then bD20 hB21
  have sW21 := bB21.size
  have GC21 := ((gC21).alloc (.cells #[.string (⟨#[1, 2]⟩ : ByteArray), .int .i64 1, .int .i64 0, .int .i64 0] 28)).alloc (.cells #[.string (⟨#[1, 2, 3]⟩ : ByteArray), .int .i64 2, .int .i64 0, .int .i64 0] 28)
  have GA21 := ((gA21).alloc (.cells #[.string (⟨#[1, 2]⟩ : ByteArray), .int .i64 1, .int .i64 0, .int .i64 0] 28)).alloc (.cells #[.string (⟨#[1, 2, 3]⟩ : ByteArray), .int .i64 2, .int .i64 0, .int .i64 0] 28)
  have GB21 := ((gB21).alloc (.cells #[.string (⟨#[1, 2]⟩ : ByteArray), .int .i64 1, .int .i64 0, .int .i64 0] 28)).alloc (.cells #[.string (⟨#[1, 2, 3]⟩ : ByteArray), .int .i64 2, .int .i64 0, .int .i64 0] 28)
  have GD21 := ((gD21).alloc (.cells #[.string (⟨#[1, 2]⟩ : ByteArray), .int .i64 1, .int .i64 0, .int .i64 0] 28)).alloc (.cells #[.string (⟨#[1, 2, 3]⟩ : ByteArray), .int .i64 2, .int .i64 0, .int .i64 0] 28)
  have GI21 := (Cu.new w21 ⟨(⟨#[1, 2]⟩ : ByteArray), 1, 0, 0⟩ 28).alloc (.cells #[.string (⟨#[1, 2, 3]⟩ : ByteArray), .int .i64 2, .int .i64 0, .int .i64 0] 28)
  have GJ21 := Cu.new (w21.alloc (.cells #[.string (⟨#[1, 2]⟩ : ByteArray), .int .i64 1, .int .i64 0, .int .i64 0] 28)) ⟨(⟨#[1, 2, 3]⟩ : ByteArray), 2, 0, 0⟩ 28
  rw [World.size_alloc] at GJ21
  have bC21 := below_alloc (below_alloc (bB21) (.cells #[.string (⟨#[1, 2]⟩ : ByteArray), .int .i64 1, .int .i64 0, .int .i64 0] 28)) (.cells #[.string (⟨#[1, 2, 3]⟩ : ByteArray), .int .i64 2, .int .i64 0, .int .i64 0] 28)
  have nC21 := gC21.lt
  have nA21 := gA21.lt
  have nB21 := gB21.lt
  have nD21 := gD21.lt
  have kI0 := GI21.c0
  have kI1 := GI21.c1
  have kI2 := GI21.c2
  have kI3 := GI21.c3
  have kJ0 := GJ21.c0
  have kJ1 := GJ21.c1
  have kJ2 := GJ21.c2
  have kJ3 := GJ21.c3
  have gC921 := GC21
  clear GC21
  have gA921 := GA21
  clear GA21
  have gB921 := GB21
  clear GB21
  have gD921 := GD21
  clear GD21
  have gI921 := GI21
  clear GI21
  have gJ921 := GJ21
  clear GJ21
  clear gC21 gA21 gB21 gD21
  go_wp2_with fail
  refine (h11.out _).mono ?_
  rintro r w22 ⟨rfl, hB22⟩
  clear kI0 kI1 kI2 kI3 kJ0 kJ1 kJ2 kJ3
  have gC922 := gC921.keep' hB22
  clear gC921
  have gA922 := gA921.keep' hB22
  clear gA921
  have gB922 := gB921.keep' hB22
  clear gB921
  have gD922 := gD921.keep' hB22
  clear gD921
  have gI922 := gI921.keep' hB22
  clear gI921
  have gJ922 := gJ921.keep' hB22
  clear gJ921
  have bD22 := below_then bC21 hB22
  have ltC22 := gC922.lt
  have ltA22 := gA922.lt
  have ltB22 := gB922.lt
  have ltD22 := gD922.lt
  have ltI22 := gI922.lt
  have ltJ22 := gJ922.lt
  go_wp2_with fail
  refine (h12.out _).mono ?_
  rintro r w23 ⟨rfl, hB23⟩
  have gC23 := (gC922).keep' hB23
  have gA23 := (gA922).keep' hB23
  have gB23 := (gB922).keep' hB23
  have gD23 := (gD922).keep' hB23
  have gI23 := (gI922).keep' hB23
  have gJ23 := (gJ922).keep' hB23
  clear gC922
  clear gA922
  clear gB922
  clear gD922
  clear gI922
  clear gJ922
  have bB23 := below_then bD22 hB23
  have sW23 := bB23.size
  have GC23 := (gC23).alloc (.cells #[.string (⟨#[97]⟩ : ByteArray), .int .i64 0, .int .i64 2, .int .i64 0] 28)
  have GA23 := (gA23).alloc (.cells #[.string (⟨#[97]⟩ : ByteArray), .int .i64 0, .int .i64 2, .int .i64 0] 28)
  have GB23 := (gB23).alloc (.cells #[.string (⟨#[97]⟩ : ByteArray), .int .i64 0, .int .i64 2, .int .i64 0] 28)
  have GD23 := (gD23).alloc (.cells #[.string (⟨#[97]⟩ : ByteArray), .int .i64 0, .int .i64 2, .int .i64 0] 28)
  have GI23 := (gI23).alloc (.cells #[.string (⟨#[97]⟩ : ByteArray), .int .i64 0, .int .i64 2, .int .i64 0] 28)
  have GJ23 := (gJ23).alloc (.cells #[.string (⟨#[97]⟩ : ByteArray), .int .i64 0, .int .i64 2, .int .i64 0] 28)
  have GX23 := Cu.new w23 ⟨(⟨#[97]⟩ : ByteArray), 0, 2, 0⟩ 28
  have bC23 := below_alloc (bB23) (.cells #[.string (⟨#[97]⟩ : ByteArray), .int .i64 0, .int .i64 2, .int .i64 0] 28)
  have nC23 := gC23.lt
  have nA23 := gA23.lt
  have nB23 := gB23.lt
  have nD23 := gD23.lt
  have nI23 := gI23.lt
  have nJ23 := gJ23.lt
  have gC923 := GC23
  clear GC23
  have gA923 := GA23
  clear GA23
  have gB923 := GB23
  clear GB23
  have gD923 := GD23
  clear GD23
  have gI923 := GI23
  clear GI23
  have gJ923 := GJ23
  clear GJ23
  have gX923 := GX23
  clear GX23
  clear gC23 gA23 gB23 gD23 gI23 gJ23
  go_wp2_with fail
  refine (h11.out _).mono ?_
  rintro r w24 ⟨rfl, hB24⟩
  have gC924 := gC923.keep' hB24
  clear gC923
  have gA924 := gA923.keep' hB24
  clear gA923
  have gB924 := gB923.keep' hB24
  clear gB923
  have gD924 := gD923.keep' hB24
  clear gD923
  have gI924 := gI923.keep' hB24
  clear gI923
  have gJ924 := gJ923.keep' hB24
  clear gJ923
  have gX924 := gX923.keep' hB24
  clear gX923
  have bD24 := below_then bC23 hB24
  have ltC24 := gC924.lt
  have ltA24 := gA924.lt
  have ltB24 := gB924.lt
  have ltD24 := gD924.lt
  have ltI24 := gI924.lt
  have ltJ24 := gJ924.lt
  have ltX24 := gX924.lt
  go_wp2_with fail
  refine (h13.out _).mono ?_
  rintro r w25 ⟨rfl, hB25⟩
  have gC25 := (gC924).keep' hB25
  have gA25 := (gA924).keep' hB25
  have gB25 := (gB924).keep' hB25
  have gD25 := (gD924).keep' hB25
  have gI25 := (gI924).keep' hB25
  have gJ25 := (gJ924).keep' hB25
  have gX25 := (gX924).keep' hB25
  clear gC924
  clear gA924
  clear gB924
  clear gD924
  clear gI924
  clear gJ924
  clear gX924
  have bB25 := below_then bD24 hB25
  have sW25 := bB25.size
  have GC25 := (gC25).alloc (.cells #[.string (⟨#[97]⟩ : ByteArray), .int .i64 0, .int .i64 2, .int .i64 0] 28)
  have GA25 := (gA25).alloc (.cells #[.string (⟨#[97]⟩ : ByteArray), .int .i64 0, .int .i64 2, .int .i64 0] 28)
  have GB25 := (gB25).alloc (.cells #[.string (⟨#[97]⟩ : ByteArray), .int .i64 0, .int .i64 2, .int .i64 0] 28)
  have GD25 := (gD25).alloc (.cells #[.string (⟨#[97]⟩ : ByteArray), .int .i64 0, .int .i64 2, .int .i64 0] 28)
  have GI25 := (gI25).alloc (.cells #[.string (⟨#[97]⟩ : ByteArray), .int .i64 0, .int .i64 2, .int .i64 0] 28)
  have GJ25 := (gJ25).alloc (.cells #[.string (⟨#[97]⟩ : ByteArray), .int .i64 0, .int .i64 2, .int .i64 0] 28)
  have GX25 := (gX25).alloc (.cells #[.string (⟨#[97]⟩ : ByteArray), .int .i64 0, .int .i64 2, .int .i64 0] 28)
  have GY25 := Cu.new w25 ⟨(⟨#[97]⟩ : ByteArray), 0, 2, 0⟩ 28
  have bC25 := below_alloc (bB25) (.cells #[.string (⟨#[97]⟩ : ByteArray), .int .i64 0, .int .i64 2, .int .i64 0] 28)
  have nC25 := gC25.lt
  have nA25 := gA25.lt
  have nB25 := gB25.lt
  have nD25 := gD25.lt
  have nI25 := gI25.lt
  have nJ25 := gJ25.lt
  have nX25 := gX25.lt
  have gC925 := GC25
  clear GC25
  have gA925 := GA25
  clear GA25
  have gB925 := GB25
  clear GB25
  have gD925 := GD25
  clear GD25
  have gI925 := GI25
  clear GI25
  have gJ925 := GJ25
  clear GJ25
  have gX925 := GX25
  clear GX25
  have gY925 := GY25
  clear GY25
  clear gC25 gA25 gB25 gD25 gI25 gJ25 gX25
  go_wp2_with fail
  refine (h14.out _).mono ?_
  rintro r w26 ⟨rfl, hB26⟩
  have gC926 := gC925.keep' hB26
  clear gC925
  have gA926 := gA925.keep' hB26
  clear gA925
  have gB926 := gB925.keep' hB26
  clear gB925
  have gD926 := gD925.keep' hB26
  clear gD925
  have gI926 := gI925.keep' hB26
  clear gI925
  have gJ926 := gJ925.keep' hB26
  clear gJ925
  have gX926 := gX925.keep' hB26
  clear gX925
  have gY926 := gY925.keep' hB26
  clear gY925
  have bD26 := below_then bC25 hB26
  have ltC26 := gC926.lt
  have ltA26 := gA926.lt
  have ltB26 := gB926.lt
  have ltD26 := gD926.lt
  have ltI26 := gI926.lt
  have ltJ26 := gJ926.lt
  have ltX26 := gX926.lt
  have ltY26 := gY926.lt
  go_wp2_with fail
  refine (h15.out _).mono ?_
  rintro r w27 ⟨rfl, hB27⟩
  have gC927 := gC926.keep' hB27
  clear gC926
  have gA927 := gA926.keep' hB27
  clear gA926
  have gB927 := gB926.keep' hB27
  clear gB926
  have gD927 := gD926.keep' hB27
  clear gD926
  have gI927 := gI926.keep' hB27
  clear gI926
  have gJ927 := gJ926.keep' hB27
  clear gJ926
  have gX927 := gX926.keep' hB27
  clear gX926
  have gY927 := gY926.keep' hB27
  clear gY926
  have bD27 := below_then bD26 hB27
  have ltC27 := gC927.lt
  have ltA27 := gA927.lt
  have ltB27 := gB927.lt
  have ltD27 := gD927.lt
  have ltI27 := gI927.lt
  have ltJ27 := gJ927.lt
  have ltX27 := gX927.lt
  have ltY27 := gY927.lt
  go_wp2_with fail
  refine (h5.out _).mono ?_
  rintro r w28 ⟨rfl, hB28⟩
  have gC928 := gC927.keep' hB28
  clear gC927
  have gA928 := gA927.keep' hB28
  clear gA927
  have gB928 := gB927.keep' hB28
  clear gB927
  have gD928 := gD927.keep' hB28
  clear gD927
  have gI928 := gI927.keep' hB28
  clear gI927
  have gJ928 := gJ927.keep' hB28
  clear gJ927
  have gX928 := gX927.keep' hB28
  clear gX927
  have gY928 := gY927.keep' hB28
  clear gY927
  have bD28 := below_then bD27 hB28
  have ltC28 := gC928.lt
  have ltA28 := gA928.lt
  have ltB28 := gB928.lt
  have ltD28 := gD928.lt
  have ltI28 := gI928.lt
  have ltJ28 := gJ928.lt
  have ltX28 := gX928.lt
  have ltY28 := gY928.lt
  go_wp2_with fail
  refine (h17.out _).mono ?_
  rintro r w29 ⟨rfl, hB29⟩
  have gC929 := gC928.keep' hB29
  clear gC928
  have gA929 := gA928.keep' hB29
  clear gA928
  have gB929 := gB928.keep' hB29
  clear gB928
  have gD929 := gD928.keep' hB29
  clear gD928
  have gI929 := gI928.keep' hB29
  clear gI928
  have gJ929 := gJ928.keep' hB29
  clear gJ928
  have gX929 := gX928.keep' hB29
  clear gX928
  have gY929 := gY928.keep' hB29
  clear gY928
  have bD29 := below_then bD28 hB29
  have ltC29 := gC929.lt
  have ltA29 := gA929.lt
  have ltB29 := gB929.lt
  have ltD29 := gD929.lt
  have ltI29 := gI929.lt
  have ltJ29 := gJ929.lt
  have ltX29 := gX929.lt
  have ltY29 := gY929.lt
  go_wp2_with fail
  refine (h11.out _).mono ?_
  rintro r w30 ⟨rfl, hB30⟩
  have gC930 := gC929.keep' hB30
  clear gC929
  have gA930 := gA929.keep' hB30
  clear gA929
  have gB930 := gB929.keep' hB30
  clear gB929
  have gD930 := gD929.keep' hB30
  clear gD929
  have gI930 := gI929.keep' hB30
  clear gI929
  have gJ930 := gJ929.keep' hB30
  clear gJ929
  have gX930 := gX929.keep' hB30
  clear gX929
  have gY930 := gY929.keep' hB30
  clear gY929
  have bD30 := below_then bD29 hB30
  have ltC30 := gC930.lt
  have ltA30 := gA930.lt
  have ltB30 := gB930.lt
  have ltD30 := gD930.lt
  have ltI30 := gI930.lt
  have ltJ30 := gJ930.lt
  have ltX30 := gX930.lt
  have ltY30 := gY930.lt
  go_wp2_with fail
  refine (h18.out _).mono ?_
  rintro r w31 ⟨rfl, hB31⟩
  have gC931 := gC930.keep' hB31
  clear gC930
  have gA931 := gA930.keep' hB31
  clear gA930
  have gB931 := gB930.keep' hB31
  clear gB930
  have gD931 := gD930.keep' hB31
  clear gD930
  have gI931 := gI930.keep' hB31
  clear gI930
  have gJ931 := gJ930.keep' hB31
  clear gJ930
  have gX931 := gX930.keep' hB31
  clear gX930
  have gY931 := gY930.keep' hB31
  clear gY930
  have bD31 := below_then bD30 hB31
  have ltC31 := gC931.lt
  have ltA31 := gA931.lt
  have ltB31 := gB931.lt
  have ltD31 := gD931.lt
  have ltI31 := gI931.lt
  have ltJ31 := gJ931.lt
  have ltX31 := gX931.lt
  have ltY31 := gY931.lt
  go_wp2_with fail
  refine (h16.out _).mono ?_
  rintro r w32 ⟨rfl, hB32⟩
  have gC932 := gC931.keep' hB32
  clear gC931
  have gA932 := gA931.keep' hB32
  clear gA931
  have gB932 := gB931.keep' hB32
  clear gB931
  have gD932 := gD931.keep' hB32
  clear gD931
  have gI932 := gI931.keep' hB32
  clear gI931
  have gJ932 := gJ931.keep' hB32
  clear gJ931
  have gX932 := gX931.keep' hB32
  clear gX931
  have gY932 := gY931.keep' hB32
  clear gY931
  have bD32 := below_then bD31 hB32
  have ltC32 := gC932.lt
  have ltA32 := gA932.lt
  have ltB32 := gB932.lt
  have ltD32 := gD932.lt
  have ltI32 := gI932.lt
  have ltJ32 := gJ932.lt
  have ltX32 := gX932.lt
  have ltY32 := gY932.lt
  go_wp2_with fail
  refine (h19.out _).mono ?_
  rintro r w33 ⟨rfl, hB33⟩
  have gC933 := gC932.keep' hB33
  clear gC932
  have gA933 := gA932.keep' hB33
  clear gA932
  have gB933 := gB932.keep' hB33
  clear gB932
  have gD933 := gD932.keep' hB33
  clear gD932
  have gI933 := gI932.keep' hB33
  clear gI932
  have gJ933 := gJ932.keep' hB33
  clear gJ932
  have gX933 := gX932.keep' hB33
  clear gX932
  have gY933 := gY932.keep' hB33
  clear gY932
  have bD33 := below_then bD32 hB33
  have ltC33 := gC933.lt
  have ltA33 := gA933.lt
  have ltB33 := gB933.lt
  have ltD33 := gD933.lt
  have ltI33 := gI933.lt
  have ltJ33 := gJ933.lt
  have ltX33 := gX933.lt
  have ltY33 := gY933.lt
  go_wp2_with fail
  refine (h11.out _).mono ?_
  rintro r w34 ⟨rfl, hB34⟩
  have gC934 := gC933.keep' hB34
  clear gC933
  have gA934 := gA933.keep' hB34
  clear gA933
  have gB934 := gB933.keep' hB34
  clear gB933
  have gD934 := gD933.keep' hB34
  clear gD933
  have gI934 := gI933.keep' hB34
  clear gI933
  have gJ934 := gJ933.keep' hB34
  clear gJ933
  have gX934 := gX933.keep' hB34
  clear gX933
  have gY934 := gY933.keep' hB34
  clear gY933
  have bD34 := below_then bD33 hB34
  have ltC34 := gC934.lt
  have ltA34 := gA934.lt
  have ltB34 := gB934.lt
  have ltD34 := gD934.lt
  have ltI34 := gI934.lt
  have ltJ34 := gJ934.lt
  have ltX34 := gX934.lt
  have ltY34 := gY934.lt
  go_wp2_with fail
  refine (h21.out _).mono ?_
  rintro r w35 ⟨rfl, hB35⟩
  have gC935 := gC934.keep' hB35
  clear gC934
  have gA935 := gA934.keep' hB35
  clear gA934
  have gB935 := gB934.keep' hB35
  clear gB934
  have gD935 := gD934.keep' hB35
  clear gD934
  have gI935 := gI934.keep' hB35
  clear gI934
  have gJ935 := gJ934.keep' hB35
  clear gJ934
  have gX935 := gX934.keep' hB35
  clear gX934
  have gY935 := gY934.keep' hB35
  clear gY934
  have bD35 := below_then bD34 hB35
  have ltC35 := gC935.lt
  have ltA35 := gA935.lt
  have ltB35 := gB935.lt
  have ltD35 := gD935.lt
  have ltI35 := gI935.lt
  have ltJ35 := gJ935.lt
  have ltX35 := gX935.lt
  have ltY35 := gY935.lt
  go_wp2_with fail
  refine (h20.out _).mono ?_
  rintro r w36 ⟨rfl, hB36⟩
  have gC936 := gC935.keep' hB36
  clear gC935
  have gA936 := gA935.keep' hB36
  clear gA935
  have gB936 := gB935.keep' hB36
  clear gB935
  have gD936 := gD935.keep' hB36
  clear gD935
  have gI936 := gI935.keep' hB36
  clear gI935
  have gJ936 := gJ935.keep' hB36
  clear gJ935
  have gX936 := gX935.keep' hB36
  clear gX935
  have gY936 := gY935.keep' hB36
  clear gY935
  have bD36 := below_then bD35 hB36
  have ltC36 := gC936.lt
  have ltA36 := gA936.lt
  have ltB36 := gB936.lt
  have ltD36 := gD936.lt
  have ltI36 := gI936.lt
  have ltJ36 := gJ936.lt
  have ltX36 := gX936.lt
  have ltY36 := gY936.lt
  have kX0 := gX936.c0
  have kX1 := gX936.c1
  have kX2 := gX936.c2
  have kX3 := gX936.c3
  have kY0 := gY936.c0
  have kY1 := gY936.c1
  have kY2 := gY936.c2
  have kY3 := gY936.c3
  go_wp2_with fail
  refine (awake04_any _).mono ?_
  rintro r w99 ⟨rfl, hB99⟩
  go_wp2
  go_ret
  exact ⟨rfl, below_then bD36 hB99⟩

/-! The step from the walk to the statement: the shell's text. -/
set_option maxRecDepth 100000 in
theorem lifted (os : Os) (started : os.Started) (H : Type) (enc : TypeId × Value → H) :
    ReturnsInHanded {} Try.checked os 12 .any (Rows.cursorKnownSpec.pre6 enc Try.prog Try.f12 Rows.cursorKnownRow.domain false) (Rows.cursorKnownSpec.post enc Try.prog Try.f12 false true false false) := by
  refine returnsInHanded_of_change (C := Try.checked) own started (by kernel_rfl) Try.func12
    (ChangeSpec.witness6 (enc := enc) (C := Try.checked) false ⟨#[], #[], []⟩ 8 (by kernel_rfl) (by kernel_rfl) (by kernel_rfl) (by kernel_rfl)) ?_
  intro W base args ds gs before hval0 hW hcnd _
  have hval : ∀ (j : Nat) t v, Try.f12.params[j]? = some t → args[j]? = some v → Value.okWide Try.prog W .any base t v := hval0
  have hW' := hW
  obtain ⟨p, q, hA0, hV, rfl, hfz, hnd⟩ := hW
  have hA : DataW.TrodAll enc Try.prog W 0 (fun _ => true) true Try.f12.params.toList args.toList ds p := hA0
  rw [Try.params12] at hA hval
  obtain ⟨rfl, rfl, rfl⟩ := trodAll_none hA
  obtain ⟨rfl, rfl⟩ := trodVars_none hV
  clear hA0 hval0
  refine (walk  W ).mono fun e W' ⟨he, bel⟩ => ?_
  subst he
  exact ⟨_, rfl, _, _, _, [], _, [], hW', trodAll_mk1 (shut_bool Try.underlying4 _), rfl, rfl, bel.frame _, fun h => by cases h⟩

theorem over : Rows.cursorKnownRow.holds Try.pinned (OpenSpec.ofChange Rows.cursorKnownSpec) :=
  OpenClaim.holds_of_wide 12 Try.f12 rfl rfl rfl rfl rfl rfl rfl ⟨rfl, rfl, rfl, rfl, rfl⟩ rfl rfl rfl rfl rfl (by kernel_rfl) Try.func12 (by kernel_rfl)
    (of_decide_eq_true (by kernel_rfl)) (by unfold Func.isWrapper; first | (rw [if_pos (by decide +kernel)]; kernel_rfl) | (rw [if_neg (by decide +kernel)]; exact ⟨rfl, rfl⟩))
    (fun os started H enc _ => lifted os started H enc)

/-- The statement. -/
theorem proved : Rows.CursorKnownSaid := over
#print axioms proved
end Go.Proofs.Ytboajmnckldmiaa.cursorKnown
