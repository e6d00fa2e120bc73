/-
  HeaderBack: a valid header made of numbers is read from its bytes, whatever follows and stands before, and what is cut off is ErrShort; and the chapter's examples hold. No condition.
-/
import Derived.Test.YtfdbkpbgkpkckaaHdrMadeW
import Derived.Test.YtfdbkpbgkpkckaaHdrKnown
import Derived.Test.YtfdbkpbgkpkckaaShell
import Derived.Deep.LoopGhost
namespace Go.Proofs.Ytfdbkpbgkpkckaa.headerBack
open Go.ChangeShapes Go.WideShapes Go.ChangeAt Go.RowKit
open Go.ChangeMaps (open_string shut_string)
set_option linter.unusedVariables false
set_option maxRecDepth 100000
attribute [local go_sem ↓] Go.wp_at_zero Go.wp_at_succ

set_option maxHeartbeats 16000000 in
theorem walk (a c : Int) (u : Bool) (bf mo : ByteArray) (W : World) (ha : -9223372036854775808 ≤ a ∧ a ≤ 9223372036854775807) (hc : -9223372036854775808 ≤ c ∧ c ≤ 9223372036854775807) (hbf : bf.size ≤ 9223372036854775807) (hmo : mo.size ≤ 9223372036854775807) :
    Calls Try.prog 12 #[.int .i64 a, .int .i64 c, .bool u, .string bf, .string mo] W fun e W' => e = .returned (.bool true) ∧ Below W.heap.size W W' := by
  have HK := Lib.hid (fun W => known29_any W)
  by_cases hsm : bf.size ≤ 10 ∧ mo.size ≤ 10
  case neg =>
    by_cases h1 : bf.size ≤ 10
    · have g0 : decide (10 < (bf.size : Int)) = false := decide_eq_false (by omega)
      have g1 : decide (10 < (mo.size : Int)) = true := decide_eq_true (by omega)
      go_enter Try.func12, Try.ntmps12
      go_wp2_with fail
      refine (HK.out _).mono ?_
      rintro r w1 ⟨rfl, hY⟩
      go_wp2_with fail
      go_ret
      exact ⟨rfl, hY⟩
    · have g0 : decide (10 < (bf.size : Int)) = true := decide_eq_true (by omega)
      go_enter Try.func12, Try.ntmps12
      go_wp2_with fail
      refine (HK.out _).mono ?_
      rintro r w1 ⟨rfl, hY⟩
      go_wp2_with fail
      go_ret
      exact ⟨rfl, hY⟩
  case pos =>
  obtain ⟨hs1, hs2⟩ := hsm
  obtain ⟨w, z, i, hchk, HM0⟩ := made_any a c u ha hc
  have HM := Lib.hid HM0
  have hck := chk_ok hchk
  have C1 := Lib.hid (fun W => hBytes_any w z i u W (by omega) (by omega))
  have C2 := Lib.hid (fun W => hCheck_any w z i u W (by omega) (by omega))
  rw [hchk] at C1 C2
  have hLb := lenB_bd z i
  have hL6 := lenB_six hchk
  have hsz := bytB_size u hchk
  have hback := read_back bf mo u hchk
  have hpre := fun m hm => read_prefix u hchk m hm
  generalize lenB z i = N at *
  generalize bytB w z i u = b at *
  have hbs : (bf ++ b ++ mo).size = bf.size + N + mo.size := by rw [ByteArray.size_append, ByteArray.size_append, hsz]
  have HR := Lib.hid (fun W => Read_is (bf ++ b ++ mo) (bf.size : Int) W (by omega) (by omega))
  rw [hback] at HR
  have HP : Hid (∀ (m : Nat) (W : World), m < N → Calls Try.prog 36 #[.string (b.extract 0 m), .int .i64 0] W fun r w' => r = .returned (.tuple #[.agg #[.int .i64 0, .int .i64 0, .bool false, .bool false], .int .i64 0, .agg #[.int .i64 5, .int .i64 m]]) ∧ Below W.heap.size W w') := fun m W hm => by
    have := Read_is (b.extract 0 m) 0 W (by rw [ByteArray.size_extract]; omega) (by omega)
    rw [hpre m hm] at this
    exact this
  have had1 : ∀ W, (Op.stringOp .add bf b).run Try.prog W = .ok (.string (bf ++ b)) W := fun W => run_string_add_sum W _ _ (by omega)
  have had2 : ∀ W, (Op.stringOp .add (bf ++ b) mo).run Try.prog W = .ok (.string (bf ++ b ++ mo)) W := fun W => run_string_add_sum W _ _ (by rw [ByteArray.size_append]; omega)
  clear HM0 hchk hck hback hpre
  generalize hx1 : bf ++ b = x1 at *
  generalize hx2 : x1 ++ mo = x2 at *
  clear hx1 hx2
  unfold RdV.val at HR
  unfold hdrVal at *
  simp only at HR
  have g0 : decide (10 < (bf.size : Int)) = false := decide_eq_false (by omega)
  have g1 : decide (10 < (mo.size : Int)) = false := decide_eq_false (by omega)
  have hBs : (b.size : Int) = (N : Int) := by omega
  have g6 : decide ((N : Int) < 6) = false := decide_eq_false (by omega)
  have g7 : decide (14 < (N : Int)) = false := decide_eq_false (by omega)
  have gsum : IntKind.i64.wrap ((bf.size : Int) + (N : Int)) = (bf.size : Int) + (N : Int) := by rw [IntKind.wrap_i64]; omega
  have HSB := Lib.hid hBs
  go_enter Try.func12, Try.ntmps12
  go_wp2_with fail
  refine (HK.out _).mono ?_
  rintro r w1 ⟨rfl, hB1⟩
  go_wp2_with fail
  refine (HM.out _).mono ?_
  rintro r w2 ⟨rfl, hY⟩
  have HH2 := Blk.new w2 #[.int .i64 w, .int .i64 z, .bool i, .bool u] 52
  have hB2 := below_alloc (below_then hB1 hY) (.cells #[.int .i64 w, .int .i64 z, .bool i, .bool u] 52)
  clear hB1 hY
  go_upto_region 5 with fail
  generalize w2.alloc (.cells #[.int .i64 w, .int .i64 z, .bool i, .bool u] 52) = w3 at *
  generalize w2.heap.size = gh at *
  have q0 : w3.cell? ⟨gh, 0, none⟩ = some (.int .i64 w) := HH2.cell 0 rfl
  have q1 : w3.cell? ⟨gh, 1, none⟩ = some (.int .i64 z) := HH2.cell 1 rfl
  have q2 : w3.cell? ⟨gh, 2, none⟩ = some (.bool i) := HH2.cell 2 rfl
  have q3 : w3.cell? ⟨gh, 3, none⟩ = some (.bool u) := HH2.cell 3 rfl
  go_wp2_with fail
  refine (C1.out _).mono ?_
  rintro r w4 ⟨rfl, hY⟩
  have HH4 := HH2.keep' hY
  have hB4 := below_then hB2 hY
  clear HH2 hB2 hY q0 q1 q2 q3
  go_wp2_with fail
  refine (HR.out _).mono ?_
  rintro r w5 ⟨rfl, hY⟩
  have HH5 := ((HH4.keep' hY).alloc (.cells #[.int .i64 w, .int .i64 z, .bool i, .bool u] 52)).alloc (.cells #[.int .i64 0, .int .i64 0] 54)
  have HX5 := (Blk.new w5 #[.int .i64 w, .int .i64 z, .bool i, .bool u] 52).alloc (.cells #[.int .i64 0, .int .i64 0] 54)
  have HF5 := Blk.new (w5.alloc (.cells #[.int .i64 w, .int .i64 z, .bool i, .bool u] 52)) #[.int .i64 0, .int .i64 0] 54
  have hB5 := below_alloc (below_alloc (below_then hB4 hY) (.cells #[.int .i64 w, .int .i64 z, .bool i, .bool u] 52)) (.cells #[.int .i64 0, .int .i64 0] 54)
  rw [World.size_alloc] at HF5
  clear HH4 hB4 hY
  go_upto_region 7 with fail
  generalize (w5.alloc (.cells #[.int .i64 w, .int .i64 z, .bool i, .bool u] 52)).alloc (.cells #[.int .i64 0, .int .i64 0] 54) = w6 at *
  generalize w5.heap.size = gx at *
  have q0 : w6.cell? ⟨gh, 0, none⟩ = some (.int .i64 w) := HH5.cell 0 rfl
  have q1 : w6.cell? ⟨gh, 1, none⟩ = some (.int .i64 z) := HH5.cell 1 rfl
  have q2 : w6.cell? ⟨gh, 2, none⟩ = some (.bool i) := HH5.cell 2 rfl
  have q3 : w6.cell? ⟨gh, 3, none⟩ = some (.bool u) := HH5.cell 3 rfl
  go_wp2_with fail
  refine (C2.out _).mono ?_
  rintro r w7 ⟨rfl, hY⟩
  have HH7 := HH5.keep' hY
  have HX7 := HX5.keep' hY
  have HF7 := HF5.keep' hY
  have hB7 := below_then hB5 hY
  clear HH5 HX5 HF5 hB5 hY q0 q1 q2 q3
  have q0 : w7.cell? ⟨gh, 0, none⟩ = some (.int .i64 w) := HH7.cell 0 rfl
  have q1 : w7.cell? ⟨gh, 1, none⟩ = some (.int .i64 z) := HH7.cell 1 rfl
  have q2 : w7.cell? ⟨gh, 2, none⟩ = some (.bool i) := HH7.cell 2 rfl
  have q3 : w7.cell? ⟨gh, 3, none⟩ = some (.bool u) := HH7.cell 3 rfl
  have x0 : w7.cell? ⟨gx, 0, none⟩ = some (.int .i64 w) := HX7.cell 0 rfl
  have x1' : w7.cell? ⟨gx, 1, none⟩ = some (.int .i64 z) := HX7.cell 1 rfl
  have x2' : w7.cell? ⟨gx, 2, none⟩ = some (.bool i) := HX7.cell 2 rfl
  have x3 : w7.cell? ⟨gx, 3, none⟩ = some (.bool u) := HX7.cell 3 rfl
  have f0 : w7.cell? ⟨gx + 1, 0, none⟩ = some (.int .i64 0) := HF7.cell 0 rfl
  have f1 : w7.cell? ⟨gx + 1, 1, none⟩ = some (.int .i64 0) := HF7.cell 1 rfl
  go_wp2_with fail
  go_loopg [18] N (fun m iv wx => ∃ j : Nat, j ≤ N ∧ m = N - j ∧ iv = .int .i64 j ∧ Below W.heap.size W wx)
  case atStart => exact ⟨0, by omega, rfl, rfl, hB7⟩
  case round =>
  obtain ⟨j, hj, rfl, rfl, hBR⟩ := hrel
  by_cases hlt : j < N
  · have g0' : decide ((j : Int) < (N : Int)) = true := decide_eq_true (by omega)
    have hjb : (j : Int) ≤ (b.size : Int) := by omega
    have hj0 : (0 : Int) ≤ (j : Int) := by omega
    go_wp2_with fail
    refine (HP.out j _ hlt).mono ?_
    rintro r w8 ⟨rfl, hY⟩
    have hB8 := below_alloc (below_alloc (below_then hBR hY) (.cells #[.int .i64 0, .int .i64 0, .bool false, .bool false] 52)) (.cells #[.int .i64 5, .int .i64 j] 54)
    go_wp2_with fail
    go_roundg (N - (j + 1))
    case rel => exact ⟨j + 1, by omega, rfl, by go_num, hB8⟩
    case measure => omega
  · have g0' : decide ((j : Int) < (N : Int)) = false := decide_eq_false (by omega)
    go_wp2_with fail
    go_ret
    exact ⟨rfl, hBR⟩

/-! The step from the walk to the statement: the shell's text. -/
set_option maxRecDepth 100000 in
theorem lifted (os : Os) (started : os.Started) (H : Type) (enc : TypeId × Value → H) :
    ReturnsInHanded {} Try.checked os 12 .any (Rows.headerBackSpec.pre6 enc Try.prog Try.f12 Rows.headerBackRow.domain false) (Rows.headerBackSpec.post enc Try.prog Try.f12 false true false false) := by
  refine returnsInHanded_of_change (C := Try.checked) own started (by kernel_rfl) Try.func12
    (ChangeSpec.witness6 (enc := enc) (C := Try.checked) false ⟨#[], #[.int .i64 0, .int .i64 0, .bool false, .string ByteArray.empty, .string ByteArray.empty], []⟩ 8 (by kernel_rfl) (by kernel_rfl) (by kernel_rfl) (by kernel_rfl)) ?_
  intro W base args ds gs before hval0 hW hcnd _
  have hval : ∀ (j : Nat) t v, Try.f12.params[j]? = some t → args[j]? = some v → Value.okWide Try.prog W .any base t v := hval0
  have hW' := hW
  obtain ⟨p, q, hA0, hV, rfl, hfz, hnd⟩ := hW
  have hA : DataW.TrodAll enc Try.prog W 0 (fun _ => true) true Try.f12.params.toList args.toList ds p := hA0
  rw [Try.params12] at hA hval
  obtain ⟨v0, vs0, d0, ds0, p0, q0, hargs, rfl, rfl, h0, r0⟩ := trodAll_cons hA
  obtain ⟨v1, vs1, d1, ds1, p1, q1, rfl, rfl, rfl, h1, r1⟩ := trodAll_cons r0
  obtain ⟨v2, vs2, d2, ds2, p2, q2, rfl, rfl, rfl, h2, r2⟩ := trodAll_cons r1
  obtain ⟨v3, vs3, d3, ds3, p3, q3, rfl, rfl, rfl, h3, r3⟩ := trodAll_cons r2
  obtain ⟨v4, vs4, d4, ds4, p4, q4, rfl, rfl, rfl, h4, r4⟩ := trodAll_cons r3
  obtain ⟨rfl, rfl, rfl⟩ := trodAll_nil r4
  obtain rfl : args = #[v0, v1, v2, v3, v4] := by cases args; simp_all
  obtain ⟨rfl, rfl⟩ := trodVars_none hV
  obtain ⟨a0, rfl, rfl, rfl, w0⟩ := open_int Try.underlying3 (hval 0 3 v0 rfl rfl) h0
  obtain ⟨a1, rfl, rfl, rfl, w1⟩ := open_int Try.underlying3 (hval 1 3 v1 rfl rfl) h1
  obtain ⟨a2, rfl, rfl, rfl⟩ := open_bool Try.underlying4 (hval 2 4 v2 rfl rfl) h2
  obtain ⟨a3, rfl, rfl, rfl, w3⟩ := open_string Try.underlying9 (hval 3 9 v3 rfl rfl) h3
  obtain ⟨a4, rfl, rfl, rfl, w4⟩ := open_string Try.underlying9 (hval 4 9 v4 rfl rfl) h4
  clear hA0 hval0
  refine (walk a0 a1 a2 a3 a4 W (bounds_i64 w0) (bounds_i64 w1) w3 w4).mono fun e W' ⟨he, bel⟩ => ?_
  subst he
  exact ⟨_, rfl, _, _, _, [], _, [], hW', trodAll_mk1 (shut_bool Try.underlying4 _), (trodAll_cons_mk (shut_int Try.underlying3 w0) (trodAll_cons_mk (shut_int Try.underlying3 w1) (trodAll_cons_mk (shut_bool Try.underlying4 _) (trodAll_cons_mk (shut_string Try.underlying9 w3) (trodAll_cons_mk (shut_string Try.underlying9 w4) trodAll_mk0))))), rfl, bel.frame _, fun h => by cases h⟩

theorem over : Rows.headerBackRow.holds Try.pinned (OpenSpec.ofChange Rows.headerBackSpec) :=
  OpenClaim.holds_of_wide 12 Try.f12 rfl rfl rfl rfl rfl rfl rfl ⟨rfl, rfl, rfl, rfl, rfl⟩ rfl rfl rfl rfl rfl (by kernel_rfl) Try.func12 (by kernel_rfl)
    (of_decide_eq_true (by kernel_rfl)) (by unfold Func.isWrapper; first | (rw [if_pos (by decide +kernel)]; kernel_rfl) | (rw [if_neg (by decide +kernel)]; exact ⟨rfl, rfl⟩))
    (fun os started H enc _ => lifted os started H enc)

/-- The statement. -/
theorem proved : Rows.HeaderBackSaid := over
#print axioms proved

end Go.Proofs.Ytfdbkpbgkpkckaa.headerBack
