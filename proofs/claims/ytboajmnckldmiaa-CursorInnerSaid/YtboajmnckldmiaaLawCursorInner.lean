/- The statement cheesepresslaw04.CursorInner holds: for every input the law returns true, and the arguments read as before. -/
import Derived.Test.YtboajmnckldmiaaShell
import Derived.Test.YtboajmnckldmiaaKit
import Derived.Test.YtboajmnckldmiaaCurAwake
namespace Go.Proofs.Ytboajmnckldmiaa.cursorInner
open Go.ChangeShapes Go.WideShapes Go.ChangeAt Go.RowKit
open Go.ChangeMaps (open_string shut_string)
set_option linter.unusedVariables false
set_option maxRecDepth 100000

theorem ok0 (s : ByteArray) (N : Nat) (h : N ≤ s.size) : CurOk ⟨s, N, 0, 0⟩ := ⟨⟨by simp only; omega, by simp only; omega⟩, ⟨by simp only; omega, by simp only; omega⟩, ⟨by simp only; omega, by simp only; omega⟩, fun _ => rfl⟩
theorem r0 (s : ByteArray) (N : Nat) (h : N ≤ s.size) : rightC ⟨s, N, 0, 0⟩ = ⟨s, N, 0, 0⟩ := if_pos (ok0 s N h)
theorem in_C (s : ByteArray) (N A : Nat) (h : N + A ≤ s.size) : bytesC (rightC ⟨s, N, 0, 0⟩) A = ⟨s, (N : Int) + A, 0, 0⟩ ∧ bytesO (rightC ⟨s, N, 0, 0⟩) A = s.extract N (N + A) := by
  rw [r0 s N (by omega)]
  have := bytes_D (c := ⟨s, N, 0, 0⟩) (n := A) rfl (by omega) (by simp only; omega)
  refine ⟨this.1, this.2.trans ?_⟩
  show s.extract (N : Int).toNat ((N : Int) + A).toNat = _
  rw [show ((N : Int) + A).toNat = N + A by omega, Int.toNat_natCast]
theorem out_C (s : ByteArray) (N A : Nat) (h0 : N ≤ s.size) (h : s.size < N + A) : bytesC (rightC ⟨s, N, 0, 0⟩) A = ⟨s, N, 5, s.size⟩ ∧ bytesO (rightC ⟨s, N, 0, 0⟩) A = ByteArray.empty := by
  rw [r0 s N h0]
  exact bytes_C (c := ⟨s, N, 0, 0⟩) (n := A) rfl (by omega) (by simp only; omega)
theorem inner_C (s : ByteArray) (N A : Nat) (h : N + A ≤ s.size) : innerC (rightC ⟨s, N, 0, 0⟩) A = ⟨s.extract 0 (N + A), N, 0, 0⟩ := by
  have hb := (in_C s N A h).1
  unfold innerC
  rw [if_neg (by rw [hb]; simp), hb, r0 s N (by omega)]
  simp only [Cur.mk.injEq, and_self, and_true]
  rw [show ((N : Int) + A).toNat = N + A by omega]
theorem part_part (s : ByteArray) (N n K : Nat) (h : N + n ≤ s.size) (hK : K ≤ n) : (s.extract 0 (N + n)).extract N (N + K) = s.extract N (N + K) := by
  rw [ByteArray.extract_extract]
  congr 1 <;> omega
theorem part_size (s : ByteArray) (N n : Nat) (h : N + n ≤ s.size) : (s.extract 0 (N + n)).size = N + n := by rw [ByteArray.size_extract]; omega

set_option maxHeartbeats 4000000 in
theorem walkA (s : ByteArray) (at_ a b : Int) (N n K : Nat) (w : World) (hs : s.size ≤ 100) (h1 : -9223372036854775808 ≤ at_ ∧ at_ ≤ 9223372036854775807) (h2 : -9223372036854775808 ≤ a ∧ a ≤ 9223372036854775807) (h3 : -9223372036854775808 ≤ b ∧ b ≤ 9223372036854775807)
    (eN : Hid (modI at_ ((s.size : Int) + 1) = N)) (eA : Hid (modI a ((s.size : Int) - N + 1) = n)) (eB : Hid (modI b ((n : Int) + 2) = K)) (hN : N ≤ s.size) (hn : N + n ≤ s.size) (hK : K ≤ n) :
    Calls Try.prog 4 #[.string s, .int .i64 at_, .int .i64 a, .int .i64 b] w fun e w' => e = .returned (.bool true) ∧ Below w.heap.size w w' := by
  have E0 : Hid (newV s N = ⟨s, N, 0, 0⟩) := if_pos (by omega)
  have HI := Lib.hid (inner_C s N n hn)
  have HA := Lib.hid (in_C s N n hn).1
  have hus := part_size s N n hn
  have HL : Hid (leftC (rightC ⟨s.extract 0 (N + n), N, 0, 0⟩) = n) := by
    show _ = _
    rw [r0 _ N (by omega)]
    show (if _ then _ else _) = _
    rw [if_pos rfl, hus]
    simp only
    omega
  have HX := Lib.hid (in_C (s.extract 0 (N + n)) N K (by omega))
  have HY := Lib.hid (in_C s N K (by omega))
  have HPP := part_part s N n K hn hK
  rw [HPP] at HX
  clear HPP
  have tk : decide ((n : Int) < K) = false := by simp; omega
  generalize s.extract 0 (N + n) = u at *
  generalize s.extract N (N + K) = p at *
  have t1 : (p.toList == p.toList) = true := by simp
  have hu9 : u.size ≤ 100 := by omega
  have HUS := Lib.hid hus
  clear hus
  have tn : ((n : Int) != n) = false := by simp
  go_enter Try.func4, Try.ntmps4
  go_wp2_with fail
  refine (Mod_any at_ _ _ h1.1 h1.2 (by omega)).mono ?_
  rintro r w1 ⟨rfl, rfl⟩
  rw [eN.out]
  go_wp2_with fail
  refine (Mod_any a _ _ h2.1 h2.2 (by omega)).mono ?_
  rintro r w1 ⟨rfl, rfl⟩
  rw [eA.out]
  go_wp2_with fail
  refine (Mod_any b _ _ h3.1 h3.2 (by omega)).mono ?_
  rintro r w1 ⟨rfl, rfl⟩
  rw [eB.out]
  go_wp2_with fail
  refine (New_any s N _ (by omega)).mono ?_
  rintro r w1 ⟨rfl, hB1⟩
  rw [E0.out]
  unfold Cur.val
  have hC1 := Cu.new w1 ⟨s, (N : Int), 0, 0⟩ 28
  have bB1 := below_alloc hB1 (.cells #[.string s, .int .i64 (N : Int), .int .i64 0, .int .i64 0] 28)
  go_wp2_with fail
  refine (Inner_any s N 0 0 n _ (by omega) (by omega)).mono ?_
  rintro r w2 ⟨rfl, hB2⟩
  rw [HI.out, HA.out]
  unfold Cur.val
  have hC2 := ((hC1.keep' hB2).alloc (.cells #[.string u, .int .i64 (N : Int), .int .i64 0, .int .i64 0] 28)).alloc (.cells #[.string s, .int .i64 ((N : Int) + n), .int .i64 0, .int .i64 0] 28)
  have hI2 := (Cu.new w2 ⟨u, (N : Int), 0, 0⟩ 28).alloc (.cells #[.string s, .int .i64 ((N : Int) + n), .int .i64 0, .int .i64 0] 28)
  have hA2 := Cu.new (w2.alloc (.cells #[.string u, .int .i64 (N : Int), .int .i64 0, .int .i64 0] 28)) ⟨s, ((N : Int) + n), 0, 0⟩ 28
  rw [World.size_alloc] at hA2
  have bB2 := below_alloc (below_alloc (below_then bB1 hB2) (.cells #[.string u, .int .i64 (N : Int), .int .i64 0, .int .i64 0] 28)) (.cells #[.string s, .int .i64 ((N : Int) + n), .int .i64 0, .int .i64 0] 28)
  clear hC1 bB1
  go_wp2_with fail
  refine (Bytes_any u N 0 0 K _ (by omega) (by omega)).mono ?_
  rintro r w3 ⟨rfl, hB3⟩
  rw [HX.out.1, HX.out.2]
  unfold Cur.val
  have hC3 := (hC2.keep' hB3).alloc (.cells #[.string u, .int .i64 ((N : Int) + K), .int .i64 0, .int .i64 0] 28)
  have hI3 := (hI2.keep' hB3).alloc (.cells #[.string u, .int .i64 ((N : Int) + K), .int .i64 0, .int .i64 0] 28)
  have hA3 := (hA2.keep' hB3).alloc (.cells #[.string u, .int .i64 ((N : Int) + K), .int .i64 0, .int .i64 0] 28)
  have hX3 := Cu.new w3 ⟨u, ((N : Int) + K), 0, 0⟩ 28
  have bB3 := below_alloc (below_then bB2 hB3) (.cells #[.string u, .int .i64 ((N : Int) + K), .int .i64 0, .int .i64 0] 28)
  clear hC2 hI2 hA2 bB2
  have c0 := hC3.c0
  have c1 := hC3.c1
  have c2 := hC3.c2
  have c3 := hC3.c3
  go_wp2_with fail
  clear c0 c1 c2 c3
  refine (Bytes_any s N 0 0 K _ (by omega) (by omega)).mono ?_
  rintro r w4 ⟨rfl, hB4⟩
  rw [HY.out.1, HY.out.2]
  unfold Cur.val
  have hI4 := (hI3.keep' hB4).alloc (.cells #[.string s, .int .i64 ((N : Int) + K), .int .i64 0, .int .i64 0] 28)
  have hA4 := (hA3.keep' hB4).alloc (.cells #[.string s, .int .i64 ((N : Int) + K), .int .i64 0, .int .i64 0] 28)
  have hX4 := (hX3.keep' hB4).alloc (.cells #[.string s, .int .i64 ((N : Int) + K), .int .i64 0, .int .i64 0] 28)
  have hY4 := Cu.new w4 ⟨s, ((N : Int) + K), 0, 0⟩ 28
  have bB4 := below_alloc (below_then bB3 hB4) (.cells #[.string s, .int .i64 ((N : Int) + K), .int .i64 0, .int .i64 0] 28)
  clear hC3 hI3 hA3 hX3 bB3
  have i0 := hI4.c0
  have i1 := hI4.c1
  have i2 := hI4.c2
  have i3 := hI4.c3
  have a0 := hA4.c0
  have a1 := hA4.c1
  have a2 := hA4.c2
  have a3 := hA4.c3
  simp only at i0 i1 i2 i3 a0 a1 a2 a3
  go_wp2_with fail
  refine (Left_any u N 0 0 _ (by omega)).mono ?_
  rintro r w5 ⟨rfl, hB5⟩
  rw [HL.out]
  have hX5 := hX4.keep' hB5
  have hY5 := hY4.keep' hB5
  have bB5 := below_then bB4 hB5
  clear i0 i1 i2 i3 a0 a1 a2 a3 hI4 hA4 hX4 hY4 bB4
  have x0 := hX5.c0
  have x1 := hX5.c1
  have x2 := hX5.c2
  have x3 := hX5.c3
  have y0 := hY5.c0
  have y1 := hY5.c1
  have y2 := hY5.c2
  have y3 := hY5.c3
  simp only at x0 x1 x2 x3 y0 y1 y2 y3
  go_wp2_with fail
  refine (awake04_any _).mono ?_
  rintro r w6 ⟨rfl, hB6⟩
  go_wp2
  go_ret
  exact ⟨rfl, below_then bB5 hB6⟩

set_option maxHeartbeats 4000000 in
theorem walkB (s : ByteArray) (at_ a b : Int) (N n K : Nat) (w : World) (hs : s.size ≤ 100) (h1 : -9223372036854775808 ≤ at_ ∧ at_ ≤ 9223372036854775807) (h2 : -9223372036854775808 ≤ a ∧ a ≤ 9223372036854775807) (h3 : -9223372036854775808 ≤ b ∧ b ≤ 9223372036854775807)
    (eN : Hid (modI at_ ((s.size : Int) + 1) = N)) (eA : Hid (modI a ((s.size : Int) - N + 1) = n)) (eB : Hid (modI b ((n : Int) + 2) = K)) (hN : N ≤ s.size) (hn : N + n ≤ s.size) (hK : n < K) (hK2 : K ≤ n + 1) :
    Calls Try.prog 4 #[.string s, .int .i64 at_, .int .i64 a, .int .i64 b] w fun e w' => e = .returned (.bool true) ∧ Below w.heap.size w w' := by
  have E0 : Hid (newV s N = ⟨s, N, 0, 0⟩) := if_pos (by omega)
  have HI := Lib.hid (inner_C s N n hn)
  have HA := Lib.hid (in_C s N n hn).1
  have hus := part_size s N n hn
  have HL : Hid (leftC (rightC ⟨s.extract 0 (N + n), N, 0, 0⟩) = n) := by
    show _ = _
    rw [r0 _ N (by omega)]
    show (if _ then _ else _) = _
    rw [if_pos rfl, hus]
    simp only
    omega
  have HX : Hid (bytesC (rightC ⟨s.extract 0 (N + n), N, 0, 0⟩) K = ⟨s.extract 0 (N + n), N, 5, (N : Int) + n⟩ ∧ bytesO (rightC ⟨s.extract 0 (N + n), N, 0, 0⟩) K = ByteArray.empty) := by
    have := out_C (s.extract 0 (N + n)) N K (by omega) (by omega)
    rw [hus] at this
    exact this
  obtain ⟨⟨ys, ya, ye, yf⟩, hy⟩ : ∃ y, bytesC (rightC ⟨s, (N : Int), 0, 0⟩) K = y := ⟨_, rfl⟩
  obtain ⟨q, hq⟩ : ∃ q, bytesO (rightC ⟨s, (N : Int), 0, 0⟩) K = q := ⟨_, rfl⟩
  have HY := Lib.hid (And.intro hy hq)
  clear hy hq
  have tk : decide ((n : Int) < K) = true := by simp; omega
  generalize s.extract 0 (N + n) = u at *
  have hu9 : u.size ≤ 100 := by omega
  have HUS := Lib.hid hus
  clear hus
  have tn : ((n : Int) != n) = false := by simp
  go_enter Try.func4, Try.ntmps4
  go_wp2_with fail
  refine (Mod_any at_ _ _ h1.1 h1.2 (by omega)).mono ?_
  rintro r w1 ⟨rfl, rfl⟩
  rw [eN.out]
  go_wp2_with fail
  refine (Mod_any a _ _ h2.1 h2.2 (by omega)).mono ?_
  rintro r w1 ⟨rfl, rfl⟩
  rw [eA.out]
  go_wp2_with fail
  refine (Mod_any b _ _ h3.1 h3.2 (by omega)).mono ?_
  rintro r w1 ⟨rfl, rfl⟩
  rw [eB.out]
  go_wp2_with fail
  refine (New_any s N _ (by omega)).mono ?_
  rintro r w1 ⟨rfl, hB1⟩
  rw [E0.out]
  unfold Cur.val
  have hC1 := Cu.new w1 ⟨s, (N : Int), 0, 0⟩ 28
  have bB1 := below_alloc hB1 (.cells #[.string s, .int .i64 (N : Int), .int .i64 0, .int .i64 0] 28)
  go_wp2_with fail
  refine (Inner_any s N 0 0 n _ (by omega) (by omega)).mono ?_
  rintro r w2 ⟨rfl, hB2⟩
  rw [HI.out, HA.out]
  unfold Cur.val
  have hC2 := ((hC1.keep' hB2).alloc (.cells #[.string u, .int .i64 (N : Int), .int .i64 0, .int .i64 0] 28)).alloc (.cells #[.string s, .int .i64 ((N : Int) + n), .int .i64 0, .int .i64 0] 28)
  have hI2 := (Cu.new w2 ⟨u, (N : Int), 0, 0⟩ 28).alloc (.cells #[.string s, .int .i64 ((N : Int) + n), .int .i64 0, .int .i64 0] 28)
  have hA2 := Cu.new (w2.alloc (.cells #[.string u, .int .i64 (N : Int), .int .i64 0, .int .i64 0] 28)) ⟨s, ((N : Int) + n), 0, 0⟩ 28
  rw [World.size_alloc] at hA2
  have bB2 := below_alloc (below_alloc (below_then bB1 hB2) (.cells #[.string u, .int .i64 (N : Int), .int .i64 0, .int .i64 0] 28)) (.cells #[.string s, .int .i64 ((N : Int) + n), .int .i64 0, .int .i64 0] 28)
  clear hC1 bB1
  go_wp2_with fail
  refine (Bytes_any u N 0 0 K _ (by omega) (by omega)).mono ?_
  rintro r w3 ⟨rfl, hB3⟩
  rw [HX.out.1, HX.out.2]
  unfold Cur.val
  have hC3 := (hC2.keep' hB3).alloc (.cells #[.string u, .int .i64 (N : Int), .int .i64 5, .int .i64 ((N : Int) + n)] 28)
  have hI3 := (hI2.keep' hB3).alloc (.cells #[.string u, .int .i64 (N : Int), .int .i64 5, .int .i64 ((N : Int) + n)] 28)
  have hA3 := (hA2.keep' hB3).alloc (.cells #[.string u, .int .i64 (N : Int), .int .i64 5, .int .i64 ((N : Int) + n)] 28)
  have hX3 := Cu.new w3 ⟨u, (N : Int), 5, ((N : Int) + n)⟩ 28
  have bB3 := below_alloc (below_then bB2 hB3) (.cells #[.string u, .int .i64 (N : Int), .int .i64 5, .int .i64 ((N : Int) + n)] 28)
  clear hC2 hI2 hA2 bB2
  have c0 := hC3.c0
  have c1 := hC3.c1
  have c2 := hC3.c2
  have c3 := hC3.c3
  go_wp2_with fail
  clear c0 c1 c2 c3
  refine (Bytes_any s N 0 0 K _ (by omega) (by omega)).mono ?_
  rintro r w4 ⟨rfl, hB4⟩
  rw [HY.out.1, HY.out.2]
  unfold Cur.val
  have hI4 := (hI3.keep' hB4).alloc (.cells #[.string ys, .int .i64 ya, .int .i64 ye, .int .i64 yf] 28)
  have hA4 := (hA3.keep' hB4).alloc (.cells #[.string ys, .int .i64 ya, .int .i64 ye, .int .i64 yf] 28)
  have hX4 := (hX3.keep' hB4).alloc (.cells #[.string ys, .int .i64 ya, .int .i64 ye, .int .i64 yf] 28)
  have hY4 := Cu.new w4 ⟨ys, ya, ye, yf⟩ 28
  have bB4 := below_alloc (below_then bB3 hB4) (.cells #[.string ys, .int .i64 ya, .int .i64 ye, .int .i64 yf] 28)
  clear hC3 hI3 hA3 hX3 bB3
  have i0 := hI4.c0
  have i1 := hI4.c1
  have i2 := hI4.c2
  have i3 := hI4.c3
  have a0 := hA4.c0
  have a1 := hA4.c1
  have a2 := hA4.c2
  have a3 := hA4.c3
  simp only at i0 i1 i2 i3 a0 a1 a2 a3
  go_wp2_with fail
  refine (Left_any u N 0 0 _ (by omega)).mono ?_
  rintro r w5 ⟨rfl, hB5⟩
  rw [HL.out]
  have hX5 := hX4.keep' hB5
  have hY5 := hY4.keep' hB5
  have bB5 := below_then bB4 hB5
  clear i0 i1 i2 i3 a0 a1 a2 a3 hI4 hA4 hX4 hY4 bB4
  have x0 := hX5.c0
  have x1 := hX5.c1
  have x2 := hX5.c2
  have x3 := hX5.c3
  have y0 := hY5.c0
  have y1 := hY5.c1
  have y2 := hY5.c2
  have y3 := hY5.c3
  simp only at x0 x1 x2 x3 y0 y1 y2 y3
  go_wp2_with fail
  refine (awake04_any _).mono ?_
  rintro r w6 ⟨rfl, hB6⟩
  go_wp2
  go_ret
  exact ⟨rfl, below_then bB5 hB6⟩

set_option maxHeartbeats 1600000 in
theorem walk (s : ByteArray) (at_ a b : Int) (w : World) (hs : s.size ≤ maxLen) (h1 : -9223372036854775808 ≤ at_ ∧ at_ ≤ 9223372036854775807) (h2 : -9223372036854775808 ≤ a ∧ a ≤ 9223372036854775807) (h3 : -9223372036854775808 ≤ b ∧ b ≤ 9223372036854775807) :
    Calls Try.prog 4 #[.string s, .int .i64 at_, .int .i64 a, .int .i64 b] w fun e w' => e = .returned (.bool true) ∧ Below w.heap.size w w' := by
  have hs' : s.size ≤ 9223372036854775807 := hs
  clear hs
  by_cases hl : 100 < s.size
  · go_enter Try.func4, Try.ntmps4
    go_wp2_with fail
    refine (awake04_any _).mono ?_
    rintro r w6 ⟨rfl, hB6⟩
    go_wp2
    go_ret
    exact ⟨rfl, hB6⟩
  · have m1 := modI_lo (n := at_) (m := (s.size : Int) + 1) (by omega)
    obtain ⟨N, eN⟩ := Int.eq_ofNat_of_zero_le m1.1
    have m2 := modI_lo (n := a) (m := (s.size : Int) - N + 1) (by omega)
    obtain ⟨n, eA⟩ := Int.eq_ofNat_of_zero_le m2.1
    have m3 := modI_lo (n := b) (m := (n : Int) + 2) (by omega)
    obtain ⟨K, eB⟩ := Int.eq_ofNat_of_zero_le m3.1
    by_cases c1 : K ≤ n
    · exact walkA s at_ a b N n K w (by omega) h1 h2 h3 eN eA eB (by omega) (by omega) c1
    · exact walkB s at_ a b N n K w (by omega) h1 h2 h3 eN eA eB (by omega) (by omega) (by omega) (by omega)

/-! The step from the walk to the statement: the shell's text. -/
set_option maxRecDepth 100000 in
theorem lifted (os : Os) (started : os.Started) (H : Type) (enc : TypeId × Value → H) :
    ReturnsInHanded {} Try.checked os 4 .any (Rows.cursorInnerSpec.pre6 enc Try.prog Try.f4 Rows.cursorInnerRow.domain false) (Rows.cursorInnerSpec.post enc Try.prog Try.f4 false true false false) := by
  refine returnsInHanded_of_change (C := Try.checked) own started (by kernel_rfl) Try.func4
    (ChangeSpec.witness6 (enc := enc) (C := Try.checked) false ⟨#[], #[.string ByteArray.empty, .int .i64 0, .int .i64 0, .int .i64 0], []⟩ 8 (by kernel_rfl) (by kernel_rfl) (by kernel_rfl) (by kernel_rfl)) ?_
  intro W base args ds gs before hval0 hW hcnd _
  have hval : ∀ (j : Nat) t v, Try.f4.params[j]? = some t → args[j]? = some v → Value.okWide Try.prog W .any base t v := hval0
  have hW' := hW
  obtain ⟨p, q, hA0, hV, rfl, hfz, hnd⟩ := hW
  have hA : DataW.TrodAll enc Try.prog W 0 (fun _ => true) true Try.f4.params.toList args.toList ds p := hA0
  rw [Try.params4] at hA hval
  obtain ⟨v0, vs0, d0, ds0, p0, q0, hargs, rfl, rfl, h0, r0⟩ := trodAll_cons hA
  obtain ⟨v1, vs1, d1, ds1, p1, q1, rfl, rfl, rfl, h1, r1⟩ := trodAll_cons r0
  obtain ⟨v2, vs2, d2, ds2, p2, q2, rfl, rfl, rfl, h2, r2⟩ := trodAll_cons r1
  obtain ⟨v3, vs3, d3, ds3, p3, q3, rfl, rfl, rfl, h3, r3⟩ := trodAll_cons r2
  obtain ⟨rfl, rfl, rfl⟩ := trodAll_nil r3
  obtain rfl : args = #[v0, v1, v2, v3] := by cases args; simp_all
  obtain ⟨rfl, rfl⟩ := trodVars_none hV
  obtain ⟨a0, rfl, rfl, rfl, w0⟩ := open_string Try.underlying9 (hval 0 9 v0 rfl rfl) h0
  obtain ⟨a1, rfl, rfl, rfl, w1⟩ := open_int Try.underlying3 (hval 1 3 v1 rfl rfl) h1
  obtain ⟨a2, rfl, rfl, rfl, w2⟩ := open_int Try.underlying3 (hval 2 3 v2 rfl rfl) h2
  obtain ⟨a3, rfl, rfl, rfl, w3⟩ := open_int Try.underlying3 (hval 3 3 v3 rfl rfl) h3
  clear hA0 hval0
  refine (walk a0 a1 a2 a3 W w0 (bounds_i64 w1) (bounds_i64 w2) (bounds_i64 w3)).mono fun e W' ⟨he, bel⟩ => ?_
  subst he
  exact ⟨_, rfl, _, _, _, [], _, [], hW', trodAll_mk1 (shut_bool Try.underlying4 _), (trodAll_cons_mk (shut_string Try.underlying9 w0) (trodAll_cons_mk (shut_int Try.underlying3 w1) (trodAll_cons_mk (shut_int Try.underlying3 w2) (trodAll_cons_mk (shut_int Try.underlying3 w3) trodAll_mk0)))), rfl, bel.frame _, fun h => by cases h⟩

theorem over : Rows.cursorInnerRow.holds Try.pinned (OpenSpec.ofChange Rows.cursorInnerSpec) :=
  OpenClaim.holds_of_wide 4 Try.f4 rfl rfl rfl rfl rfl rfl rfl ⟨rfl, rfl, rfl, rfl, rfl⟩ rfl rfl rfl rfl rfl (by kernel_rfl) Try.func4 (by kernel_rfl)
    (of_decide_eq_true (by kernel_rfl)) (by unfold Func.isWrapper; first | (rw [if_pos (by decide +kernel)]; kernel_rfl) | (rw [if_neg (by decide +kernel)]; exact ⟨rfl, rfl⟩))
    (fun os started H enc _ => lifted os started H enc)

/-- The statement. -/
theorem proved : Rows.CursorInnerSaid := over
#print axioms proved
end Go.Proofs.Ytboajmnckldmiaa.cursorInner
