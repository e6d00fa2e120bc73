/-
  HeaderBits: what is read is valid and has no longer bytes, a bit without a meaning changes nothing, each of the first four bytes matters, the bytes of an encoder's header are six, and the chapter's examples hold. No condition.
-/
import Derived.Test.YtfdbkpbgkpkckaaHdrBits
import Derived.Test.YtfdbkpbgkpkckaaHdrKnown
import Derived.Test.YtfdbkpbgkpkckaaShell
import Derived.Deep.DeepCutAuto
namespace Go.Proofs.Ytfdbkpbgkpkckaa.headerBits
open Go.ChangeShapes Go.WideShapes Go.ChangeAt Go.RowKit
open Go.ChangeMaps (open_string shut_string)
set_option linter.unusedVariables false
set_option maxRecDepth 100000
attribute [local go_sem ↓] Go.wp_at_zero Go.wp_at_succ

set_option maxHeartbeats 32000000 in
theorem walk (a c : Int) (u : Bool) (s : ByteArray) (bt : Int) (W : World) (ha : -9223372036854775808 ≤ a ∧ a ≤ 9223372036854775807) (hc : -9223372036854775808 ≤ c ∧ c ≤ 9223372036854775807) (hs : s.size ≤ 9223372036854775807) (hbt : -9223372036854775808 ≤ bt ∧ bt ≤ 9223372036854775807) :
    Calls Try.prog 13 #[.int .i64 a, .int .i64 c, .bool u, .string s, .int .i64 bt] W fun e W' => e = .returned (.bool true) ∧ Below W.heap.size W W' := by
  have HK := Lib.hid (fun W => known29_any W)
  by_cases hsm : s.size ≤ 14
  case neg =>
    have g0 : decide (14 < (s.size : Int)) = true := decide_eq_true (by omega)
    go_enter Try.func13, Try.ntmps13
    go_wp2_with fail
    refine (HK.out _).mono ?_
    rintro r w1 ⟨rfl, hY⟩
    go_wp2_with fail
    go_ret
    exact ⟨rfl, hY⟩
  case pos =>
  have had : ∀ W, (Op.stringOp .add ⟨#[40, 181, 47, 253]⟩ s).run Try.prog W = .ok (.string (⟨#[40, 181, 47, 253]⟩ ++ s)) W := fun W => run_string_add_sum W _ _ (by rw [show (⟨#[40, 181, 47, 253]⟩ : ByteArray).size = 4 from rfl]; omega)
  have htsz : (⟨#[40, 181, 47, 253]⟩ ++ s : ByteArray).size = 4 + s.size := by rw [ByteArray.size_append]; rfl
  generalize (⟨#[40, 181, 47, 253]⟩ ++ s : ByteArray) = t at *
  have HRT := Lib.hid (fun W => Read_is t 0 W (by omega) (by omega))
  have hval : ∀ w z i u n, readD t 0 = ⟨w, z, i, u, n, 0, 0⟩ → chkV w z i = 0 ∧ (lenB z i : Int) ≤ n ∧ n ≤ t.size := fun w z i u n h => read_valid t h
  generalize readD t 0 = D at *
  obtain ⟨w0, z0, i0, u0, n0, e0, f0⟩ := D
  have HV : Hid (e0 = 0 → f0 = 0 → chkV w0 z0 i0 = 0 ∧ (lenB z0 i0 : Int) ≤ n0 ∧ n0 ≤ 4 + (s.size : Int)) := fun he hf => by
    have := hval w0 z0 i0 u0 n0 (by rw [he, hf])
    refine ⟨this.1, this.2.1, by omega⟩
  clear hval
  unfold RdV.val at HRT
  simp only at HRT
  obtain ⟨w, z, i, hchk, HM0⟩ := made_any a c u ha hc
  have HM := Lib.hid HM0
  have hck := chk_ok hchk
  have C1 := Lib.hid (fun W => hBytes_any w z i u W (by omega) (by omega))
  rw [hchk] at C1
  have hLb := lenB_bd z i
  have hL6 := lenB_six hchk
  have hsz := bytB_size u hchk
  have hb4 := read_bit4 u hchk
  have hfl := fun k hk => read_flip u hchk k hk
  generalize bytB w z i u = b at *
  have hx4 : 0 ≤ bits BinOp.xor IntKind.u8 (sb b 4) 16 ∧ bits BinOp.xor IntKind.u8 (sb b 4) 16 ≤ 255 := by
    have : ∀ n : Fin 256, 0 ≤ bits BinOp.xor IntKind.u8 ((n.val : Nat) : Int) 16 ∧ bits BinOp.xor IntKind.u8 ((n.val : Nat) : Int) 16 ≤ 255 := by decide +kernel
    have hsb := sb_lo b 4
    obtain ⟨n, hn⟩ : ∃ n : Nat, sb b 4 = n := ⟨(sb b 4).toNat, by omega⟩
    rw [hn]
    exact this ⟨n, by omega⟩
  have HR4 : Hid (∀ W, Calls Try.prog 36 #[.string (strOfNums ((numsB b).set 4 (bits BinOp.xor IntKind.u8 (sb b 4) 16))), .int .i64 0] W fun r w' => r = .returned (.tuple #[.agg #[.int .i64 w, .int .i64 z, .bool i, .bool u], .int .i64 (lenB z i : Int), .agg #[.int .i64 0, .int .i64 0]]) ∧ Below W.heap.size W w') := fun W => by
    have := Read_is (strOfNums ((numsB b).set 4 (bits BinOp.xor IntKind.u8 (sb b 4) 16))) 0 W (by rw [strOfNums_size, List.length_set, numsB_len]; omega) (by omega)
    rw [hb4] at this
    exact this
  have HMB := Lib.hid (fun W => Mod_any bt 32 W (by omega) (by omega) (by omega))
  have hkb := modI_lo (n := bt) (m := 32) (by decide)
  obtain ⟨k, hk⟩ : ∃ k : Nat, modI bt 32 = k := ⟨(modI bt 32).toNat, by omega⟩
  rw [hk] at HMB hkb
  have hk32 : k < 32 := by omega
  have HR5 : Hid (∀ W, Calls Try.prog 36 #[.string (strOfNums ((numsB b).set (k / 8) (bits BinOp.xor IntKind.u8 (sb b (k / 8)) (2 ^ (k % 8))))), .int .i64 0] W fun r w' => r = .returned (.tuple #[.agg #[.int .i64 0, .int .i64 0, .bool false, .bool false], .int .i64 0, .agg #[.int .i64 14, .int .i64 0]]) ∧ Below W.heap.size W w') := fun W => by
    have := Read_is (strOfNums ((numsB b).set (k / 8) (bits BinOp.xor IntKind.u8 (sb b (k / 8)) (2 ^ (k % 8))))) 0 W (by rw [strOfNums_size, List.length_set, numsB_len]; omega) (by omega)
    rw [hfl k hk32] at this
    exact this
  have HWR := Lib.hid (fun W => hWrite_any (1 + (k : Int) % 9) (10 + (k : Int) % 18) 16 0 false u W)
  have h6 := write_six (k : Int) (by omega) u
  rw [h6.1] at HWR
  have h66 := h6.2
  generalize wrB (1 + (k : Int) % 9) (10 + (k : Int) % 18) 16 0 u = wb at *
  clear HM0 hb4 hfl hk h6 hchk hck
  generalize hN : lenB z i = N at *
  clear hN
  unfold hdrVal parV at *
  have g0 : decide (14 < (s.size : Int)) = false := decide_eq_false (by omega)
  go_enter Try.func13, Try.ntmps13
  go_wp2_with fail
  refine (HK.out _).mono ?_
  rintro r w1 ⟨rfl, hB1⟩
  go_wp2_with fail
  refine (HRT.out _).mono ?_
  rintro r w2 ⟨rfl, hY⟩
  have HH2 := (Blk.new w2 #[.int .i64 w0, .int .i64 z0, .bool i0, .bool u0] 52).alloc (.cells #[.int .i64 e0, .int .i64 f0] 54)
  have HF2 := Blk.new (w2.alloc (.cells #[.int .i64 w0, .int .i64 z0, .bool i0, .bool u0] 52)) #[.int .i64 e0, .int .i64 f0] 54
  have hB2 := below_alloc (below_alloc (below_then hB1 hY) (.cells #[.int .i64 w0, .int .i64 z0, .bool i0, .bool u0] 52)) (.cells #[.int .i64 e0, .int .i64 f0] 54)
  rw [World.size_alloc] at HF2
  clear hB1 hY had htsz
  go_upto_region 5 with fail
  generalize (w2.alloc (.cells #[.int .i64 w0, .int .i64 z0, .bool i0, .bool u0] 52)).alloc (.cells #[.int .i64 e0, .int .i64 f0] 54) = w3 at *
  generalize w2.heap.size = gh at *
  have q0 : w3.cell? ⟨gh, 0, none⟩ = some (.int .i64 w0) := HH2.cell 0 rfl
  have q1 : w3.cell? ⟨gh, 1, none⟩ = some (.int .i64 z0) := HH2.cell 1 rfl
  have q2 : w3.cell? ⟨gh, 2, none⟩ = some (.bool i0) := HH2.cell 2 rfl
  have q3 : w3.cell? ⟨gh, 3, none⟩ = some (.bool u0) := HH2.cell 3 rfl
  have p0 : w3.cell? ⟨gh + 1, 0, none⟩ = some (.int .i64 e0) := HF2.cell 0 rfl
  have p1 : w3.cell? ⟨gh + 1, 1, none⟩ = some (.int .i64 f0) := HF2.cell 1 rfl
  obtain ⟨pb, hpb1, hpb2⟩ : ∃ pb : Bool, Hid (pb = true → e0 = 0 ∧ f0 = 0) ∧ Hid (pb = decide (e0 = 0 ∧ f0 = 0)) := ⟨_, fun h => of_decide_eq_true h, rfl⟩
  go_cut [45] (fun s45 wx => s45 = .bool pb ∧ wx = w3)
  case first =>
    by_cases he : e0 = 0
    · by_cases hf : f0 = 0
      · have hp : Hid (pb = true) := by show _ = _; rw [hpb2.out]; exact decide_eq_true ⟨he, hf⟩
        have g1 : (e0 == 0) = true := by rw [he]; rfl
        have g2 : (f0 == 0) = true := by rw [hf]; rfl
        clear he hf
        go_wp2_with fail
        go_meet
        exact ⟨by rw [hp.out], rfl⟩
      · have hp : Hid (pb = false) := by show _ = _; rw [hpb2.out]; exact decide_eq_false (fun h => hf h.2)
        have g1 : (e0 == 0) = true := by rw [he]; rfl
        have g2 : (f0 == 0) = false := beq_false_of_ne hf
        clear he hf
        go_wp2_with fail
        go_meet
        exact ⟨by rw [hp.out], rfl⟩
    · have hp : Hid (pb = false) := by show _ = _; rw [hpb2.out]; exact decide_eq_false (fun h => he h.1)
      have g1 : (e0 == 0) = false := beq_false_of_ne he
      clear he
      go_wp2_with fail
      go_meet
      exact ⟨by rw [hp.out], rfl⟩
  case rest =>
  obtain ⟨rfl, hWc⟩ := hcut
  subst hWc
  generalize wc = w3 at *
  go_upto_if 45 with fail
  go_cut [15] (fun s15 wx => Below W.heap.size W wx)
  case first =>
    cases pb
    · go_wp2_with fail
      go_meet
      exact hB2
    · have hp0 := hpb1.out rfl
      obtain ⟨rfl, rfl⟩ := hp0
      have HX := HV
      ( skip
        skip
        have HV' := HV.out rfl rfl
        have hck0 := chk_ok HV'.1
        have E1 := Lib.hid (fun W => hBytes_any w0 z0 i0 u0 W (by omega) (by omega))
        have E2 := Lib.hid (fun W => hCheck_any w0 z0 i0 u0 W (by omega) (by omega))
        have hsz0 := bytB_size u0 HV'.1
        rw [HV'.1] at E1 E2
        unfold hdrVal at E1 E2
        have hlen := HV'.2
        generalize bytB w0 z0 i0 u0 = b0 at *
        generalize lenB z0 i0 = N0 at *
        have g1 : decide (n0 < (b0.size : Int)) = false := decide_eq_false (by omega)
        have g1' : decide (n0 < (N0 : Int)) = false := decide_eq_false (by omega)
        have g2 : decide (4 + (s.size : Int) < n0) = false := decide_eq_false (by omega)
        clear HV HV' hck0 hlen
        go_wp2_with fail
        refine (E1.out _).mono ?_
        rintro r v1 ⟨rfl, hY⟩
        have HH3 := HH2.keep' hY
        have hB3 := below_then hB2 hY
        clear q0 q1 q2 q3 p0 p1
        have q0 : v1.cell? ⟨gh, 0, none⟩ = some (.int .i64 w0) := HH3.cell 0 rfl
        have q1 : v1.cell? ⟨gh, 1, none⟩ = some (.int .i64 z0) := HH3.cell 1 rfl
        have q2 : v1.cell? ⟨gh, 2, none⟩ = some (.bool i0) := HH3.cell 2 rfl
        have q3 : v1.cell? ⟨gh, 3, none⟩ = some (.bool u0) := HH3.cell 3 rfl
        go_wp2_with fail
        refine (E2.out _).mono ?_
        rintro r v2 ⟨rfl, hY⟩
        have hB4 := below_then hB3 hY
        go_wp2_with fail
        go_meet
        exact hB4)
  case rest =>
  have hB4 := hcut
  clear hcut HH2 HF2 hB2 q0 q1 q2 q3 p0 p1 HV HRT HK
  generalize wc = w4 at *
  go_wp2_with fail
  refine (HM.out _).mono ?_
  rintro r w5 ⟨rfl, hY⟩
  have HM6 := Blk.new w5 #[.int .i64 w, .int .i64 z, .bool i, .bool u] 52
  have hB6 := below_alloc (below_then hB4 hY) (.cells #[.int .i64 w, .int .i64 z, .bool i, .bool u] 52)
  clear hB4 hY HM
  go_upto_region 10 with fail
  generalize w5.alloc (.cells #[.int .i64 w, .int .i64 z, .bool i, .bool u] 52) = w6 at *
  generalize w5.heap.size = gm at *
  have q0 : w6.cell? ⟨gm, 0, none⟩ = some (.int .i64 w) := HM6.cell 0 rfl
  have q1 : w6.cell? ⟨gm, 1, none⟩ = some (.int .i64 z) := HM6.cell 1 rfl
  have q2 : w6.cell? ⟨gm, 2, none⟩ = some (.bool i) := HM6.cell 2 rfl
  have q3 : w6.cell? ⟨gm, 3, none⟩ = some (.bool u) := HM6.cell 3 rfl
  go_wp2_with fail
  refine (C1.out _).mono ?_
  rintro r w7 ⟨rfl, hY⟩
  have HM7 := HM6.keep' hY
  have hB7 := below_then hB6 hY
  clear HM6 hB6 hY q0 q1 q2 q3 C1
  have g1 : decide ((b.size : Int) < 6) = false := decide_eq_false (by omega)
  have g1' : decide ((N : Int) < 6) = false := decide_eq_false (by omega)
  have hgm := HM7.lt
  obtain ⟨cap, w8, hrun, hRB, hfz, hY, hs8⟩ := conv_bytes (P := Try.prog) w7 9 50 5 b Try.underlying9 Try.underlying50 Try.underlying5
  have HM8 := HM7.keep' hY
  have hB8 := below_then hB7 hY
  have hlt8 : W.heap.size ≤ w7.heap.size := hB7.size
  go_upto_region 14 with fail
  clear hrun hY HM7 hB7
  generalize w7.heap.size = gc at *
  have l4 : w8.cell? ⟨gc, 4, none⟩ = some (.int .u8 (sb b 4)) := by
    have := hRB 4 (by rw [numsB_len]; omega)
    rw [numsB_get b 4 (by omega)] at this
    exact this
  have z4 := hfz 4 (by omega)
  have hl4 : (4 : Int) < (b.size : Int) := by omega
  have hl4' : (4 : Int) < (N : Int) := by omega
  go_upto_region 15 with fail
  have hR9 := hRB.set 4 (by rw [numsB_len]; omega) (bits BinOp.xor IntKind.u8 (sb b 4) 16)
  have hB9 := hB8.setCell (p := ⟨gc, 4, none⟩) hlt8 (.int .u8 (bits BinOp.xor IntKind.u8 (sb b 4) 16))
  have HM9 := HM8.other ⟨gc, 4, none⟩ (by simp only; omega) (.int .u8 (bits BinOp.xor IntKind.u8 (sb b 4) 16))
  generalize w8.setCell ⟨gc, 4, none⟩ (.int .u8 (bits BinOp.xor IntKind.u8 (sb b 4) 16)) = w9 at *
  have hcv := hR9.conv (P := Try.prog) (src := 50) (dst := 9) Try.underlying50 Try.underlying5 Try.underlying9 N cap (by rw [List.length_set, numsB_len]; exact hsz)
  generalize strOfNums ((numsB b).set 4 (bits BinOp.xor IntKind.u8 (sb b 4) 16)) = S4 at *
  clear hR9 hRB hfz l4 z4 hl4 hl4' hB8 HM8 hlt8 hx4 hgm
  go_wp2_with fail
  refine (HR4.out _).mono ?_
  rintro r w10 ⟨rfl, hY⟩
  have HM11 := ((HM9.keep' hY).alloc (.cells #[.int .i64 w, .int .i64 z, .bool i, .bool u] 52)).alloc (.cells #[.int .i64 0, .int .i64 0] 54)
  have HY11 := (Blk.new w10 #[.int .i64 w, .int .i64 z, .bool i, .bool u] 52).alloc (.cells #[.int .i64 0, .int .i64 0] 54)
  have HF11 := Blk.new (w10.alloc (.cells #[.int .i64 w, .int .i64 z, .bool i, .bool u] 52)) #[.int .i64 0, .int .i64 0] 54
  have hB11 := below_alloc (below_alloc (below_then hB9 hY) (.cells #[.int .i64 w, .int .i64 z, .bool i, .bool u] 52)) (.cells #[.int .i64 0, .int .i64 0] 54)
  rw [World.size_alloc] at HF11
  clear HM9 hB9 hY HR4 hcv
  go_upto_region 16 with fail
  generalize (w10.alloc (.cells #[.int .i64 w, .int .i64 z, .bool i, .bool u] 52)).alloc (.cells #[.int .i64 0, .int .i64 0] 54) = w11 at *
  generalize w10.heap.size = gy at *
  obtain ⟨cap2, w12, hrun, hRB, hfz, hY, hs12⟩ := conv_bytes (P := Try.prog) w11 9 50 5 b Try.underlying9 Try.underlying50 Try.underlying5
  have HM12 := HM11.keep' hY
  have HY12 := HY11.keep' hY
  have HF12 := HF11.keep' hY
  have hB12 := below_then hB11 hY
  have hlt12 : W.heap.size ≤ w11.heap.size := hB11.size
  have hgm := HM11.lt
  have hgy := HY11.lt
  have hgf := HF11.lt
  go_upto_region 17 with fail
  clear hrun hY HM11 HY11 HF11 hB11
  generalize w11.heap.size = gd at *
  go_wp2_with fail
  refine (HMB.out _).mono ?_
  rintro r w13 ⟨rfl, rfl⟩
  have hm8 : k / 8 < 4 := by omega
  have hmb : k % 8 < 8 := by omega
  have e8 : (k : Int) / 8 = ((k / 8 : Nat) : Int) := by omega
  have e9 : (k : Int) % 8 = ((k % 8 : Nat) : Int) := by omega
  generalize k / 8 = m8 at *
  generalize k % 8 = mb at *
  have hp : (1 : Int) ≤ 2 ^ mb ∧ (2 : Int) ^ mb ≤ 128 := by
    have h1 := pow_pos2 mb
    have h2 : (2 : Int) ^ mb ≤ 2 ^ 7 := pow_le_pow2 (by omega)
    omega
  have l8 : w12.cell? ⟨gd, m8, none⟩ = some (.int .u8 (sb b m8)) := by
    have := hRB m8 (by rw [numsB_len]; omega)
    rw [numsB_get b m8 (by omega)] at this
    exact this
  have z8 := hfz m8 (by omega)
  have hl8 : (m8 : Int) < (b.size : Int) := by omega
  have hl8' : (m8 : Int) < (N : Int) := by omega
  have hl80 : (0 : Int) ≤ (m8 : Int) := by omega
  go_upto_region 19 with fail
  have hR14 := hRB.set m8 (by rw [numsB_len]; omega) (bits BinOp.xor IntKind.u8 (sb b m8) (2 ^ mb))
  have hB14 := hB12.setCell (p := ⟨gd, m8, none⟩) hlt12 (.int .u8 (bits BinOp.xor IntKind.u8 (sb b m8) (2 ^ mb)))
  have HM14 := HM12.other ⟨gd, m8, none⟩ (by simp only; omega) (.int .u8 (bits BinOp.xor IntKind.u8 (sb b m8) (2 ^ mb)))
  have HY14 := HY12.other ⟨gd, m8, none⟩ (by simp only; omega) (.int .u8 (bits BinOp.xor IntKind.u8 (sb b m8) (2 ^ mb)))
  have HF14 := HF12.other ⟨gd, m8, none⟩ (by simp only; omega) (.int .u8 (bits BinOp.xor IntKind.u8 (sb b m8) (2 ^ mb)))
  generalize w12.setCell ⟨gd, m8, none⟩ (.int .u8 (bits BinOp.xor IntKind.u8 (sb b m8) (2 ^ mb))) = w14 at *
  have hcv := hR14.conv (P := Try.prog) (src := 50) (dst := 9) Try.underlying50 Try.underlying5 Try.underlying9 N cap2 (by rw [List.length_set, numsB_len]; exact hsz)
  generalize strOfNums ((numsB b).set m8 (bits BinOp.xor IntKind.u8 (sb b m8) (2 ^ mb))) = S5 at *
  clear hR14 hRB hfz l8 z8 hl8 hl8' hl80 hB12 HM12 HY12 HF12 hlt12 hp e8 e9 hm8 hmb hgm hgy hgf
  go_wp2_with fail
  refine (HR5.out _).mono ?_
  rintro r w15 ⟨rfl, hY⟩
  have HM16 := ((HM14.keep' hY).alloc (.cells #[.int .i64 0, .int .i64 0, .bool false, .bool false] 52)).alloc (.cells #[.int .i64 14, .int .i64 0] 54)
  have HY16 := ((HY14.keep' hY).alloc (.cells #[.int .i64 0, .int .i64 0, .bool false, .bool false] 52)).alloc (.cells #[.int .i64 14, .int .i64 0] 54)
  have HF16 := ((HF14.keep' hY).alloc (.cells #[.int .i64 0, .int .i64 0, .bool false, .bool false] 52)).alloc (.cells #[.int .i64 14, .int .i64 0] 54)
  have HE16 := Blk.new (w15.alloc (.cells #[.int .i64 0, .int .i64 0, .bool false, .bool false] 52)) #[.int .i64 14, .int .i64 0] 54
  have hB16 := below_alloc (below_alloc (below_then hB14 hY) (.cells #[.int .i64 0, .int .i64 0, .bool false, .bool false] 52)) (.cells #[.int .i64 14, .int .i64 0] 54)
  rw [World.size_alloc] at HE16
  clear HM14 HY14 HF14 hB14 hY HR5 hcv
  go_upto_region 20 with fail
  generalize (w15.alloc (.cells #[.int .i64 0, .int .i64 0, .bool false, .bool false] 52)).alloc (.cells #[.int .i64 14, .int .i64 0] 54) = w16 at *
  generalize w15.heap.size = gz at *
  go_wp2_with fail
  refine (HWR.out _).mono ?_
  rintro r w17 ⟨rfl, hY⟩
  have HM17 := HM16.keep' hY
  have HY17 := HY16.keep' hY
  have HF17 := HF16.keep' hY
  have HE17 := HE16.keep' hY
  have hB17 := below_then hB16 hY
  clear HM16 HY16 HF16 HE16 hB16 hY HWR
  have q0 : w17.cell? ⟨gm, 0, none⟩ = some (.int .i64 w) := HM17.cell 0 rfl
  have q1 : w17.cell? ⟨gm, 1, none⟩ = some (.int .i64 z) := HM17.cell 1 rfl
  have q2 : w17.cell? ⟨gm, 2, none⟩ = some (.bool i) := HM17.cell 2 rfl
  have q3 : w17.cell? ⟨gm, 3, none⟩ = some (.bool u) := HM17.cell 3 rfl
  have y0 : w17.cell? ⟨gy, 0, none⟩ = some (.int .i64 w) := HY17.cell 0 rfl
  have y1 : w17.cell? ⟨gy, 1, none⟩ = some (.int .i64 z) := HY17.cell 1 rfl
  have y2 : w17.cell? ⟨gy, 2, none⟩ = some (.bool i) := HY17.cell 2 rfl
  have y3 : w17.cell? ⟨gy, 3, none⟩ = some (.bool u) := HY17.cell 3 rfl
  have f0' : w17.cell? ⟨gy + 1, 0, none⟩ = some (.int .i64 0) := HF17.cell 0 rfl
  have f1' : w17.cell? ⟨gy + 1, 1, none⟩ = some (.int .i64 0) := HF17.cell 1 rfl
  have d0' : w17.cell? ⟨gz + 1, 0, none⟩ = some (.int .i64 14) := HE17.cell 0 rfl
  have d1' : w17.cell? ⟨gz + 1, 1, none⟩ = some (.int .i64 0) := HE17.cell 1 rfl
  go_wp2_with fail
  go_ret
  exact ⟨rfl, hB17⟩

/-! The step from the walk to the statement: the shell's text. -/
set_option maxRecDepth 100000 in
theorem lifted (os : Os) (started : os.Started) (H : Type) (enc : TypeId × Value → H) :
    ReturnsInHanded {} Try.checked os 13 .any (Rows.headerBitsSpec.pre6 enc Try.prog Try.f13 Rows.headerBitsRow.domain false) (Rows.headerBitsSpec.post enc Try.prog Try.f13 false true false false) := by
  refine returnsInHanded_of_change (C := Try.checked) own started (by kernel_rfl) Try.func13
    (ChangeSpec.witness6 (enc := enc) (C := Try.checked) false ⟨#[], #[.int .i64 0, .int .i64 0, .bool false, .string ByteArray.empty, .int .i64 0], []⟩ 8 (by kernel_rfl) (by kernel_rfl) (by kernel_rfl) (by kernel_rfl)) ?_
  intro W base args ds gs before hval0 hW hcnd _
  have hval : ∀ (j : Nat) t v, Try.f13.params[j]? = some t → args[j]? = some v → Value.okWide Try.prog W .any base t v := hval0
  have hW' := hW
  obtain ⟨p, q, hA0, hV, rfl, hfz, hnd⟩ := hW
  have hA : DataW.TrodAll enc Try.prog W 0 (fun _ => true) true Try.f13.params.toList args.toList ds p := hA0
  rw [Try.params13] at hA hval
  obtain ⟨v0, vs0, d0, ds0, p0, q0, hargs, rfl, rfl, h0, r0⟩ := trodAll_cons hA
  obtain ⟨v1, vs1, d1, ds1, p1, q1, rfl, rfl, rfl, h1, r1⟩ := trodAll_cons r0
  obtain ⟨v2, vs2, d2, ds2, p2, q2, rfl, rfl, rfl, h2, r2⟩ := trodAll_cons r1
  obtain ⟨v3, vs3, d3, ds3, p3, q3, rfl, rfl, rfl, h3, r3⟩ := trodAll_cons r2
  obtain ⟨v4, vs4, d4, ds4, p4, q4, rfl, rfl, rfl, h4, r4⟩ := trodAll_cons r3
  obtain ⟨rfl, rfl, rfl⟩ := trodAll_nil r4
  obtain rfl : args = #[v0, v1, v2, v3, v4] := by cases args; simp_all
  obtain ⟨rfl, rfl⟩ := trodVars_none hV
  obtain ⟨a0, rfl, rfl, rfl, w0⟩ := open_int Try.underlying3 (hval 0 3 v0 rfl rfl) h0
  obtain ⟨a1, rfl, rfl, rfl, w1⟩ := open_int Try.underlying3 (hval 1 3 v1 rfl rfl) h1
  obtain ⟨a2, rfl, rfl, rfl⟩ := open_bool Try.underlying4 (hval 2 4 v2 rfl rfl) h2
  obtain ⟨a3, rfl, rfl, rfl, w3⟩ := open_string Try.underlying9 (hval 3 9 v3 rfl rfl) h3
  obtain ⟨a4, rfl, rfl, rfl, w4⟩ := open_int Try.underlying3 (hval 4 3 v4 rfl rfl) h4
  clear hA0 hval0
  refine (walk a0 a1 a2 a3 a4 W (bounds_i64 w0) (bounds_i64 w1) w3 (bounds_i64 w4)).mono fun e W' ⟨he, bel⟩ => ?_
  subst he
  exact ⟨_, rfl, _, _, _, [], _, [], hW', trodAll_mk1 (shut_bool Try.underlying4 _), (trodAll_cons_mk (shut_int Try.underlying3 w0) (trodAll_cons_mk (shut_int Try.underlying3 w1) (trodAll_cons_mk (shut_bool Try.underlying4 _) (trodAll_cons_mk (shut_string Try.underlying9 w3) (trodAll_cons_mk (shut_int Try.underlying3 w4) trodAll_mk0))))), rfl, bel.frame _, fun h => by cases h⟩

theorem over : Rows.headerBitsRow.holds Try.pinned (OpenSpec.ofChange Rows.headerBitsSpec) :=
  OpenClaim.holds_of_wide 13 Try.f13 rfl rfl rfl rfl rfl rfl rfl ⟨rfl, rfl, rfl, rfl, rfl⟩ rfl rfl rfl rfl rfl (by kernel_rfl) Try.func13 (by kernel_rfl)
    (of_decide_eq_true (by kernel_rfl)) (by unfold Func.isWrapper; first | (rw [if_pos (by decide +kernel)]; kernel_rfl) | (rw [if_neg (by decide +kernel)]; exact ⟨rfl, rfl⟩))
    (fun os started H enc _ => lifted os started H enc)

/-- The statement. -/
theorem proved : Rows.HeaderBitsSaid := over
#print axioms proved

end Go.Proofs.Ytfdbkpbgkpkckaa.headerBits
