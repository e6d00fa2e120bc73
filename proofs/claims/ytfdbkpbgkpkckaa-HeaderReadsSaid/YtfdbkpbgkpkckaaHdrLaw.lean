/-
  What header.Read returns, field by field; the walks of the laws' reads, fails and awake.
-/
import Derived.Test.YtfdbkpbgkpkckaaHdrRefA
import Derived.Test.YtfdbkpbgkpkckaaHdrReadW
import Derived.Test.YtfdbkpbgkpkckaaHdrWrite
namespace Go.Proofs.Ytfdbkpbgkpkckaa
open Go.RowKit
set_option linter.unusedVariables false
set_option maxRecDepth 100000

/-- A header, where it ends, and a fault. -/
structure RdV where
  w : Int
  z : Int
  i : Bool
  u : Bool
  n : Int
  e : Int
  f : Int
instance : DecidableEq RdV := fun a b =>
  if h : a.w = b.w ∧ a.z = b.z ∧ a.i = b.i ∧ a.u = b.u ∧ a.n = b.n ∧ a.e = b.e ∧ a.f = b.f then .isTrue (by cases a; cases b; simp_all) else .isFalse (by intro e; subst e; simp at h)
def RdV.val (d : RdV) : Value := .tuple #[.agg #[.int .i64 d.w, .int .i64 d.z, .bool d.i, .bool d.u], .int .i64 d.n, .agg #[.int .i64 d.e, .int .i64 d.f]]
def badD (e f : Int) : RdV := ⟨0, 0, false, false, 0, e, f⟩
def tailD (s : ByteArray) (a : Nat) (d : Int) : RdV :=
  if s.size < nxV a d + dictN d + sizeN d then badD 5 s.size
  else if rd s (nxV a d) (dictN d) ≠ 0 then badD 16 (nxV a d)
  else if sgV d = false ∧ 134217728 < windowV (sb s (a + 5)) then badD 17 ((a + 5 : Nat) : Int)
  else if 0 < sizeN d then
    (if sgV d = true ∧ 134217728 < numV s a d then badD 17 ((nxV a d + dictN d : Nat) : Int)
     else if 1099511627776 < numV s a d then badD 2 ((nxV a d + dictN d : Nat) : Int)
     else ⟨if sgV d = true then numV s a d else windowV (sb s (a + 5)), numV s a d, sgV d, smV d, ((nxV a d + dictN d + sizeN d : Nat) : Int), 0, 0⟩)
  else ⟨windowV (sb s (a + 5)), -1, sgV d, smV d, ((nxV a d + dictN d : Nat) : Int), 0, 0⟩
def readD (s : ByteArray) (x : Int) : RdV :=
  if 0 ≤ x ∧ x ≤ (s.size : Int) then
    (if magOk s x.toNat then
      (if s.size < x.toNat + 5 then badD 5 s.size
       else if rsV (sb s (x.toNat + 4)) = true then badD 15 (x + 4)
       else tailD s x.toNat (sb s (x.toNat + 4)))
     else badD 14 x)
  else badD 2 0
theorem tailD_val (s : ByteArray) (a : Nat) (d : Int) : refTail s a d = (tailD s a d).val := by
  unfold refTail tailD
  (repeat' split) <;> rfl
theorem readD_val (s : ByteArray) (x : Int) : readR s x = (readD s x).val := by
  rw [read_eq]
  unfold refR readD
  split
  · split
    · split
      · rfl
      · split
        · rfl
        · exact tailD_val _ _ _
    · rfl
  · rfl

theorem Read_is (s : ByteArray) (x : Int) (w : World) (hs : s.size ≤ 4611686018427387904) (hx : -9223372036854775808 ≤ x ∧ x ≤ 9223372036854775807) :
    Calls Try.prog 36 #[.string s, .int .i64 x] w fun r w' => r = .returned (readD s x).val ∧ Below w.heap.size w w' := by
  rw [← readD_val]; exact hread_any s x w hs hx
theorem rRead_is (s : ByteArray) (x : Int) (w : World) (hs : s.size ≤ 4611686018427387904) :
    Calls Try.prog 37 #[.string s, .int .i64 x] w fun r w' => r = .returned (readD s x).val ∧ Below w.heap.size w w' := by
  rw [← readD_val]; exact rhread_any s x w hs

set_option maxHeartbeats 1600000 in
theorem reads_yes (s : ByteArray) (wv z : Int) (i u : Bool) (w : World) (hs : s.size ≤ 1000) (h : readD (⟨#[40, 181, 47, 253]⟩ ++ s) 0 = ⟨wv, z, i, u, 4 + s.size, 0, 0⟩) :
    Calls Try.prog 49 #[.string s, hdrVal wv z i u] w fun r w' => r = .returned (.bool true) ∧ Below w.heap.size w w' := by
  have hsz : (⟨#[40, 181, 47, 253]⟩ ++ s : ByteArray).size = 4 + s.size := by rw [ByteArray.size_append]; rfl
  have HR := Lib.hid (fun W => Read_is (⟨#[40, 181, 47, 253]⟩ ++ s) 0 W (by omega) (by omega))
  rw [h] at HR
  have had : ∀ W, (Op.stringOp .add ⟨#[40, 181, 47, 253]⟩ s).run Try.prog W = .ok (.string (⟨#[40, 181, 47, 253]⟩ ++ s)) W := fun W => run_string_add_sum W _ _ (by rw [show (⟨#[40, 181, 47, 253]⟩ : ByteArray).size = 4 from rfl]; omega)
  clear h
  generalize (⟨#[40, 181, 47, 253]⟩ ++ s : ByteArray) = t at *
  have hB0 := below_new (w := w) (.cells #[.int .i64 wv, .int .i64 z, .bool i, .bool u] 52)
  have HB0 := Blk.new w #[.int .i64 wv, .int .i64 z, .bool i, .bool u] 52
  unfold hdrVal RdV.val at *
  simp only at HR
  go_enter Try.func49, Try.ntmps49
  go_wp2_with fail
  refine (HR.out _).mono ?_
  rintro r w1 ⟨rfl, hY⟩
  have HB1 := HB0.keep' hY
  have hB1 := below_then hB0 hY
  have k0 := HB1.cell 0 rfl
  have k1 := HB1.cell 1 rfl
  have k2 := HB1.cell 2 rfl
  have k3 := HB1.cell 3 rfl
  have hl := HB1.lt
  clear HB0 hB0 hY
  go_wp2_with fail
  go_ret
  exact ⟨rfl, below_alloc (below_alloc hB1 _) _⟩

set_option maxHeartbeats 1600000 in
theorem fails_yes (s : ByteArray) (e f : Int) (w : World) (hs : s.size ≤ 1000) (h : readD s 0 = badD e f) :
    Calls Try.prog 48 #[.string s, .int .i64 e, .int .i64 f] w fun r w' => r = .returned (.bool true) ∧ Below w.heap.size w w' := by
  have HR := Lib.hid (fun W => Read_is s 0 W (by omega) (by omega))
  rw [h] at HR
  clear h
  unfold RdV.val badD at *
  simp only at HR
  go_enter Try.func48, Try.ntmps48
  go_wp2_with fail
  refine (HR.out _).mono ?_
  rintro r w1 ⟨rfl, hY⟩
  go_wp2_with fail
  go_ret
  exact ⟨rfl, below_alloc (below_alloc hY _) _⟩

theorem ex_a : readD (⟨#[40, 181, 47, 253]⟩ ++ ⟨#[4, 0]⟩) 0 = ⟨1024, -1, false, true, 6, 0, 0⟩ := by decide +kernel
theorem ex_b : readD (⟨#[40, 181, 47, 253]⟩ ++ ⟨#[32, 5]⟩) 0 = ⟨5, 5, true, false, 6, 0, 0⟩ := by decide +kernel
theorem ex_c : readD ⟨#[40, 180]⟩ 0 = badD 14 0 := by decide +kernel
theorem ex_d : readD ⟨#[40, 181, 47, 253, 8, 0]⟩ 0 = badD 15 4 := by decide +kernel
theorem ex_e : wrB 1 10 16 0 true = ⟨#[40, 181, 47, 253, 4, 0]⟩ := by decide +kernel
theorem ex_f : wrE 1 10 16 0 = 0 := by decide +kernel

set_option maxHeartbeats 1600000 in
theorem awake29_any (w : World) :
    Calls Try.prog 35 #[] w fun r w' => r = .returned (.bool true) ∧ Below w.heap.size w w' := by
  have HW := Lib.hid (fun W => hWrite_any 1 10 16 0 false true W)
  rw [ex_e, ex_f] at HW
  unfold parV at HW
  have H1 := Lib.hid (fun W => reads_yes ⟨#[4, 0]⟩ 1024 (-1) false true W (by decide) ex_a)
  have H2 := Lib.hid (fun W => reads_yes ⟨#[32, 5]⟩ 5 5 true false W (by decide) ex_b)
  have H3 := Lib.hid (fun W => fails_yes ⟨#[40, 180]⟩ 14 0 W (by decide) ex_c)
  have H4 := Lib.hid (fun W => fails_yes ⟨#[40, 181, 47, 253, 8, 0]⟩ 15 4 W (by decide) ex_d)
  unfold hdrVal at *
  go_enter Try.func35, Try.ntmps35
  go_wp2_with fail
  refine (HW.out _).mono ?_
  rintro r w1 ⟨rfl, hY1⟩
  go_wp2_with fail
  refine (H1.out _).mono ?_
  rintro r w2 ⟨rfl, hY2⟩
  have hB2 := below_then hY1 hY2
  clear hY1 hY2
  go_wp2_with fail
  refine (H2.out _).mono ?_
  rintro r w3 ⟨rfl, hY3⟩
  have hB3 := below_then hB2 hY3
  clear hB2 hY3
  go_wp2_with fail
  refine (H3.out _).mono ?_
  rintro r w4 ⟨rfl, hY4⟩
  have hB4 := below_then hB3 hY4
  clear hB3 hY4
  go_wp2_with fail
  refine (H4.out _).mono ?_
  rintro r w5 ⟨rfl, hY5⟩
  have hB5 := below_then hB4 hY5
  clear hB4 hY5
  go_wp2_with fail
  go_ret
  exact ⟨rfl, hB5⟩

end Go.Proofs.Ytfdbkpbgkpkckaa
