/-
  HeaderReads: for every string of at most 60 bytes and every offset header.Read and the reference return the same header, end and fault, and the chapter's examples hold. No condition.
-/
import Derived.Test.YtfdbkpbgkpkckaaHdrLaw
import Derived.Test.YtfdbkpbgkpkckaaShell
import Derived.Test.YtfdbkpbgkpkckaaOpenStructs
namespace Go.Proofs.Ytfdbkpbgkpkckaa.headerReads
open Go.ChangeShapes Go.WideShapes Go.ChangeAt Go.RowKit
open Go.ChangeMaps (open_string shut_string)
set_option linter.unusedVariables false
set_option maxRecDepth 100000

set_option maxHeartbeats 1600000 in
theorem walk (s : ByteArray) (x : Int) (W : World) (hs : s.size ≤ 9223372036854775807) (hx : -9223372036854775808 ≤ x ∧ x ≤ 9223372036854775807) :
    Calls Try.prog 9 #[.string s, .int .i64 x] W fun e W' => e = .returned (.bool true) ∧ Below W.heap.size W W' := by
  have HA := Lib.hid (fun W => awake29_any W)
  by_cases h60 : s.size ≤ 60
  · have HR := Lib.hid (fun W => Read_is s x W (by omega) hx)
    have HQ := Lib.hid (fun W => rRead_is s x W (by omega))
    generalize readD s x = D at *
    obtain ⟨a, z, i, u, n, e, f⟩ := D
    unfold RdV.val at *
    simp only at HR HQ
    have g0 : decide (60 < (s.size : Int)) = false := decide_eq_false (by omega)
    go_enter Try.func9, Try.ntmps9
    go_wp2_with fail
    refine (HR.out _).mono ?_
    rintro r w1 ⟨rfl, hY1⟩
    have HB1 := (Blk.new w1 #[.int .i64 a, .int .i64 z, .bool i, .bool u] 52).alloc (.cells #[.int .i64 e, .int .i64 f] 54)
    have HF1 := Blk.new (w1.alloc (.cells #[.int .i64 a, .int .i64 z, .bool i, .bool u] 52)) #[.int .i64 e, .int .i64 f] 54
    have hB1 := below_alloc (below_alloc hY1 (.cells #[.int .i64 a, .int .i64 z, .bool i, .bool u] 52)) (.cells #[.int .i64 e, .int .i64 f] 54)
    rw [World.size_alloc] at HF1
    go_upto_region 4 with fail
    generalize (w1.alloc (.cells #[.int .i64 a, .int .i64 z, .bool i, .bool u] 52)).alloc (.cells #[.int .i64 e, .int .i64 f] 54) = w2 at *
    generalize w1.heap.size = b1 at *
    clear hY1
    go_wp2_with fail
    refine (HQ.out _).mono ?_
    rintro r w3 ⟨rfl, hY3⟩
    have HB3 := HB1.keep' hY3
    have HF3 := HF1.keep' hY3
    have hB3 := below_then hB1 hY3
    have hl1 := HB3.lt
    have hl2 := HF3.lt
    clear HB1 HF1 hB1 hY3
    have k0 := HB3.cell 0 rfl
    have k1 := HB3.cell 1 rfl
    have k2 := HB3.cell 2 rfl
    have k3 := HB3.cell 3 rfl
    have l0 := HF3.cell 0 rfl
    have l1 := HF3.cell 1 rfl
    have hB5 := below_alloc (below_alloc hB3 (.cells #[.int .i64 a, .int .i64 z, .bool i, .bool u] 52)) (.cells #[.int .i64 e, .int .i64 f] 54)
    go_wp2_with fail
    refine (HA.out _).mono ?_
    rintro r w6 ⟨rfl, hY6⟩
    have hB6 := below_then hB5 hY6
    go_wp2_with fail
    go_ret
    exact ⟨rfl, hB6⟩
  · have g0 : decide (60 < (s.size : Int)) = true := decide_eq_true (by omega)
    go_enter Try.func9, Try.ntmps9
    go_wp2_with fail
    refine (HA.out _).mono ?_
    rintro r w6 ⟨rfl, hY6⟩
    go_wp2_with fail
    go_ret
    exact ⟨rfl, hY6⟩

/-! The step from the walk to the statement: the shell's text. -/
set_option maxRecDepth 100000 in
theorem lifted (os : Os) (started : os.Started) (H : Type) (enc : TypeId × Value → H) :
    ReturnsInHanded {} Try.checked os 9 .any (Rows.headerReadsSpec.pre6 enc Try.prog Try.f9 Rows.headerReadsRow.domain false) (Rows.headerReadsSpec.post enc Try.prog Try.f9 false true false false) := by
  refine returnsInHanded_of_change (C := Try.checked) own started (by kernel_rfl) Try.func9
    (ChangeSpec.witness6 (enc := enc) (C := Try.checked) false ⟨#[], #[.string ByteArray.empty, .int .i64 0], []⟩ 8 (by kernel_rfl) (by kernel_rfl) (by kernel_rfl) (by kernel_rfl)) ?_
  intro W base args ds gs before hval0 hW hcnd _
  have hval : ∀ (j : Nat) t v, Try.f9.params[j]? = some t → args[j]? = some v → Value.okWide Try.prog W .any base t v := hval0
  have hW' := hW
  obtain ⟨p, q, hA0, hV, rfl, hfz, hnd⟩ := hW
  have hA : DataW.TrodAll enc Try.prog W 0 (fun _ => true) true Try.f9.params.toList args.toList ds p := hA0
  rw [Try.params9] at hA hval
  obtain ⟨v0, vs0, d0, ds0, p0, q0, hargs, rfl, rfl, h0, r0⟩ := trodAll_cons hA
  obtain ⟨v1, vs1, d1, ds1, p1, q1, rfl, rfl, rfl, h1, r1⟩ := trodAll_cons r0
  obtain ⟨rfl, rfl, rfl⟩ := trodAll_nil r1
  obtain rfl : args = #[v0, v1] := by cases args; simp_all
  obtain ⟨rfl, rfl⟩ := trodVars_none hV
  obtain ⟨a0, rfl, rfl, rfl, w0⟩ := open_string Try.underlying9 (hval 0 9 v0 rfl rfl) h0
  obtain ⟨a1, rfl, rfl, rfl, w1⟩ := open_int Try.underlying3 (hval 1 3 v1 rfl rfl) h1
  clear hA0 hval0
  refine (walk a0 a1 W w0 (bounds_i64 w1)).mono fun e W' ⟨he, bel⟩ => ?_
  subst he
  exact ⟨_, rfl, _, _, _, [], _, [], hW', trodAll_mk1 (shut_bool Try.underlying4 _), (trodAll_cons_mk (shut_string Try.underlying9 w0) (trodAll_cons_mk (shut_int Try.underlying3 w1) trodAll_mk0)), rfl, bel.frame _, fun h => by cases h⟩

theorem over : Rows.headerReadsRow.holds Try.pinned (OpenSpec.ofChange Rows.headerReadsSpec) :=
  OpenClaim.holds_of_wide 9 Try.f9 rfl rfl rfl rfl rfl rfl rfl ⟨rfl, rfl, rfl, rfl, rfl⟩ rfl rfl rfl rfl rfl (by kernel_rfl) Try.func9 (by kernel_rfl)
    (of_decide_eq_true (by kernel_rfl)) (by unfold Func.isWrapper; first | (rw [if_pos (by decide +kernel)]; kernel_rfl) | (rw [if_neg (by decide +kernel)]; exact ⟨rfl, rfl⟩))
    (fun os started H enc _ => lifted os started H enc)

/-- The statement. -/
theorem proved : Rows.HeaderReadsSaid := over
#print axioms proved

end Go.Proofs.Ytfdbkpbgkpkckaa.headerReads
