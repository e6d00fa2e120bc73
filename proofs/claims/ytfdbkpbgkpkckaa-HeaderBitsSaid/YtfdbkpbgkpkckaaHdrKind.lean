/-
  The walks of header.kind, params.Window, header.Of and of their references (printed by wip/bin/genhdkind.py).
-/
import Derived.Test.YtfdbkpbgkpkckaaHdrCheck
namespace Go.Proofs.Ytfdbkpbgkpkckaa
open Go.RowKit
set_option linter.unusedVariables false
set_option maxRecDepth 100000

/-- The kind of the size of a header. -/
def kindV (z : Int) (i : Bool) : Int := if z < 0 ∨ (i = true ∧ z < 256) then 0 else if 256 ≤ z ∧ z < 65792 then 1 else if z < 4294967296 then 2 else 3

set_option maxHeartbeats 1600000 in
theorem kind_any (w z : Int) (i u : Bool) (W : World) :
    Calls Try.prog 74 #[hdrVal w z i u] W fun r W' => r = .returned (.int .i64 (kindV z i)) ∧ Below W.heap.size W W' := by
  unfold hdrVal
  cases i
  · by_cases hz : z < 0
    · have HE : Hid (kindV z false = 0) := by show _ = _; unfold kindV; rw [if_pos (.inl hz)]
      have g0 : decide (z < 0) = true := decide_eq_true (by omega)
      clear hz
      go_enter Try.func74, Try.ntmps74
      go_wp2_with fail
      go_ret
      exact ⟨ret_int HE.out.symm, below_new _⟩
    have h0 := hz
    clear hz
    by_cases hz : z < 256
    · have HE : Hid (kindV z false = 2) := by show _ = _; unfold kindV; rw [if_neg (by simp; omega), if_neg (by omega), if_pos (by omega)]
      have g0 : decide (z < 0) = false := decide_eq_false (by omega)
      have g1 : decide (z < 256) = true := decide_eq_true (by omega)
      have g2 : decide (256 ≤ z) = false := decide_eq_false (by omega)
      clear hz
      go_enter Try.func74, Try.ntmps74
      go_wp2_with fail
      go_ret
      exact ⟨ret_int HE.out.symm, below_new _⟩
    have h1 := hz
    clear hz
    by_cases hz : z < 65792
    · have HE : Hid (kindV z false = 1) := by show _ = _; unfold kindV; rw [if_neg (by simp; omega), if_pos (by omega)]
      have g0 : decide (z < 0) = false := decide_eq_false (by omega)
      have g1 : decide (z < 256) = false := decide_eq_false (by omega)
      have g2 : decide (256 ≤ z) = true := decide_eq_true (by omega)
      have g3 : decide (z < 65792) = true := decide_eq_true (by omega)
      clear hz
      go_enter Try.func74, Try.ntmps74
      go_wp2_with fail
      go_ret
      exact ⟨ret_int HE.out.symm, below_new _⟩
    have h2 := hz
    clear hz
    by_cases hz : z < 4294967296
    · have HE : Hid (kindV z false = 2) := by show _ = _; unfold kindV; rw [if_neg (by simp; omega), if_neg (by omega), if_pos hz]
      have g0 : decide (z < 0) = false := decide_eq_false (by omega)
      have g1 : decide (z < 256) = false := decide_eq_false (by omega)
      have g2 : decide (256 ≤ z) = true := decide_eq_true (by omega)
      have g3 : decide (z < 65792) = false := decide_eq_false (by omega)
      have g4 : decide (z < 4294967296) = true := decide_eq_true (by omega)
      clear hz
      go_enter Try.func74, Try.ntmps74
      go_wp2_with fail
      go_ret
      exact ⟨ret_int HE.out.symm, below_new _⟩
    · have HE : Hid (kindV z false = 3) := by show _ = _; unfold kindV; rw [if_neg (by simp; omega), if_neg (by omega), if_neg hz]
      have g0 : decide (z < 0) = false := decide_eq_false (by omega)
      have g1 : decide (z < 256) = false := decide_eq_false (by omega)
      have g2 : decide (256 ≤ z) = true := decide_eq_true (by omega)
      have g3 : decide (z < 65792) = false := decide_eq_false (by omega)
      have g4 : decide (z < 4294967296) = false := decide_eq_false (by omega)
      clear hz
      go_enter Try.func74, Try.ntmps74
      go_wp2_with fail
      go_ret
      exact ⟨ret_int HE.out.symm, below_new _⟩
  · by_cases hz : z < 0
    · have HE : Hid (kindV z true = 0) := by show _ = _; unfold kindV; rw [if_pos (.inl hz)]
      have g0 : decide (z < 0) = true := decide_eq_true (by omega)
      clear hz
      go_enter Try.func74, Try.ntmps74
      go_wp2_with fail
      go_ret
      exact ⟨ret_int HE.out.symm, below_new _⟩
    have h0 := hz
    clear hz
    by_cases hz : z < 256
    · have HE : Hid (kindV z true = 0) := by show _ = _; unfold kindV; rw [if_pos (.inr ⟨rfl, hz⟩)]
      have g0 : decide (z < 0) = false := decide_eq_false (by omega)
      have g1 : decide (z < 256) = true := decide_eq_true (by omega)
      clear hz
      go_enter Try.func74, Try.ntmps74
      go_wp2_with fail
      go_ret
      exact ⟨ret_int HE.out.symm, below_new _⟩
    have h1 := hz
    clear hz
    by_cases hz : z < 65792
    · have HE : Hid (kindV z true = 1) := by show _ = _; unfold kindV; rw [if_neg (by simp; omega), if_pos (by omega)]
      have g0 : decide (z < 0) = false := decide_eq_false (by omega)
      have g1 : decide (z < 256) = false := decide_eq_false (by omega)
      have g2 : decide (256 ≤ z) = true := decide_eq_true (by omega)
      have g3 : decide (z < 65792) = true := decide_eq_true (by omega)
      clear hz
      go_enter Try.func74, Try.ntmps74
      go_wp2_with fail
      go_ret
      exact ⟨ret_int HE.out.symm, below_new _⟩
    have h2 := hz
    clear hz
    by_cases hz : z < 4294967296
    · have HE : Hid (kindV z true = 2) := by show _ = _; unfold kindV; rw [if_neg (by simp; omega), if_neg (by omega), if_pos hz]
      have g0 : decide (z < 0) = false := decide_eq_false (by omega)
      have g1 : decide (z < 256) = false := decide_eq_false (by omega)
      have g2 : decide (256 ≤ z) = true := decide_eq_true (by omega)
      have g3 : decide (z < 65792) = false := decide_eq_false (by omega)
      have g4 : decide (z < 4294967296) = true := decide_eq_true (by omega)
      clear hz
      go_enter Try.func74, Try.ntmps74
      go_wp2_with fail
      go_ret
      exact ⟨ret_int HE.out.symm, below_new _⟩
    · have HE : Hid (kindV z true = 3) := by show _ = _; unfold kindV; rw [if_neg (by simp; omega), if_neg (by omega), if_neg hz]
      have g0 : decide (z < 0) = false := decide_eq_false (by omega)
      have g1 : decide (z < 256) = false := decide_eq_false (by omega)
      have g2 : decide (256 ≤ z) = true := decide_eq_true (by omega)
      have g3 : decide (z < 65792) = false := decide_eq_false (by omega)
      have g4 : decide (z < 4294967296) = false := decide_eq_false (by omega)
      clear hz
      go_enter Try.func74, Try.ntmps74
      go_wp2_with fail
      go_ret
      exact ⟨ret_int HE.out.symm, below_new _⟩

/-- The window of parameters. -/
def winP (l wd jb ov : Int) : Int := if parBad l wd jb ov then 0 else 2 ^ wd.toNat

set_option maxHeartbeats 1600000 in
theorem askedW_any (l wd jb ov : Int) (sy ck : Bool) (g : Nat) (w : World) (hg : g < w.heap.size) (hc : w.cell? ⟨g, 1, none⟩ = some (.int .i64 wd)) :
    Calls Try.prog 97 #[parV l wd jb ov sy ck, .func (.func 98) #[] #[.pointer (some ⟨g, 0, none⟩)]] w fun e w' => e = .returned (.tuple #[.int .i64 (winP l wd jb ov), .int .i64 (parE l wd jb ov)]) ∧ Below w.heap.size w w' := by
  have HC := Lib.hid (fun W => Check_any l wd jb ov sy ck W)
  by_cases h : parBad l wd jb ov
  · have HE := Lib.hid (parE_bad h)
    have HV : Hid (winP l wd jb ov = 0) := if_pos h
    clear h
    unfold parV at *
    go_enter Try.func97, Try.ntmps97
    go_wp2_with fail
    refine (HC.out _).mono ?_
    rintro e w1 ⟨rfl, hB⟩
    rw [HE.out]
    go_wp2
    go_ret2
    exact ⟨ret_two (val_int HV.out.symm) (val_int HE.out.symm), below_then ((Below.refl _ _).alloc (Nat.le_refl _) _) hB⟩
  · have HE := Lib.hid (parE_ok h)
    have HV : Hid (winP l wd jb ov = 2 ^ wd.toNat) := if_neg h
    have h' : 10 ≤ wd ∧ wd ≤ 27 := by unfold parBad at h; omega
    obtain ⟨p1, p2⟩ := pow_bd wd h'
    clear h
    unfold parV at *
    go_enter Try.func97, Try.ntmps97
    go_wp2_with fail
    refine (HC.out _).mono ?_
    rintro e w1 ⟨rfl, hB⟩
    rw [HE.out]
    have hc1 : w1.cell? ⟨g, 1, none⟩ = some (.int .i64 wd) := (hB.cell (p := ⟨g, 1, none⟩) (by simp; omega)).trans ((World.cell?_alloc_lt _ _ _ hg).trans hc)
    go_wp2
    go_ret2
    exact ⟨ret_two (val_int HV.out.symm) (val_int HE.out.symm), below_then ((Below.refl _ _).alloc (Nat.le_refl _) _) hB⟩

set_option maxHeartbeats 1600000 in
theorem Window_any (l wd jb ov : Int) (sy ck : Bool) (w : World) :
    Calls Try.prog 79 #[parV l wd jb ov sy ck] w fun e w' => e = .returned (.tuple #[.int .i64 (winP l wd jb ov), .int .i64 (parE l wd jb ov)]) ∧ Below w.heap.size w w' := by
  have HA := Lib.hid (fun g W hg hc => askedW_any l wd jb ov sy ck g W hg hc)
  generalize winP l wd jb ov = wp at *
  generalize parE l wd jb ov = pe at *
  unfold parV at *
  go_enter Try.func79, Try.ntmps79
  go_wp2_with fail
  refine (HA.out _ _ (by simp) (World.cell?_alloc_at _ _ _ _ rfl)).mono ?_
  rintro e w1 ⟨rfl, hB⟩
  go_wp2
  go_ret2
  exact ⟨rfl, below_then ((Below.refl _ _).alloc (Nat.le_refl _) _) hB⟩

set_option maxHeartbeats 1600000 in
theorem rWindow_any (l wd jb ov : Int) (sy ck : Bool) (w : World) :
    Calls Try.prog 80 #[parV l wd jb ov sy ck] w fun e w' => e = .returned (.tuple #[.int .i64 (winP l wd jb ov), .int .i64 (parE l wd jb ov)]) ∧ Below w.heap.size w w' := by
  by_cases h : parBad l wd jb ov
  · have HE := Lib.hid (parE_bad h)
    have HV : Hid (winP l wd jb ov = 0) := if_pos h
    have HC := Lib.hid (fun W => rCheck_any l wd jb ov sy ck W)
    clear h
    unfold parV at *
    go_enter Try.func80, Try.ntmps80
    go_wp2_with fail
    refine (HC.out _).mono ?_
    rintro e w1 ⟨rfl, hB⟩
    rw [HE.out]
    go_wp2
    go_ret2
    exact ⟨ret_two (val_int HV.out.symm) (val_int HE.out.symm), below_then ((Below.refl _ _).alloc (Nat.le_refl _) _) hB⟩
  · have HE := Lib.hid (parE_ok h)
    have HV : Hid (winP l wd jb ov = 2 ^ wd.toNat) := if_neg h
    rw [HE.out, HV.out]
    exact rWindow_ok l wd jb ov sy ck w h

theorem win_bd (l wd jb ov : Int) : 0 ≤ winP l wd jb ov ∧ winP l wd jb ov ≤ 134217728 := by
  unfold winP
  split
  · omega
  · rename_i h
    have h' : 10 ≤ wd ∧ wd ≤ 27 := by unfold parBad at h; omega
    obtain ⟨p1, p2⟩ := pow_bd wd h'
    omega

/-- The header of an encoder. -/
def ofV (l wd jb ov : Int) (ck : Bool) : Value := if parE l wd jb ov ≠ 0 then hdrVal 0 0 false false else hdrVal (winP l wd jb ov) (-1) false ck

set_option maxHeartbeats 1600000 in
theorem hOf_any (l wd jb ov : Int) (sy ck : Bool) (w : World) :
    Calls Try.prog 46 #[parV l wd jb ov sy ck] w fun e w' => e = .returned (.tuple #[ofV l wd jb ov ck, .int .i64 (parE l wd jb ov)]) ∧ Below w.heap.size w w' := by
  have HW := Lib.hid (fun W => Window_any l wd jb ov sy ck W)
  have HV1 : Hid (parE l wd jb ov ≠ 0 → ofV l wd jb ov ck = hdrVal 0 0 false false) := fun h => if_pos h
  have HV2 : Hid (parE l wd jb ov = 0 → ofV l wd jb ov ck = hdrVal (winP l wd jb ov) (-1) false ck) := fun h => if_neg (by simpa using h)
  generalize ofV l wd jb ov ck = V at *
  generalize winP l wd jb ov = wp at *
  generalize parE l wd jb ov = pe at *
  unfold parV at *
  have hp0 := Blk.new w #[.int .i64 l, .int .i64 wd, .int .i64 jb, .int .i64 ov, .bool sy, .bool ck] 24
  have hp := hp0.alloc (.cells #[.int .i64 0, .int .i64 0, .bool false, .bool false] 52)
  have hh := Blk.new (w.alloc (.cells #[.int .i64 l, .int .i64 wd, .int .i64 jb, .int .i64 ov, .bool sy, .bool ck] 24)) #[.int .i64 0, .int .i64 0, .bool false, .bool false] 52
  rw [World.size_alloc] at hh
  have hBw := below_alloc (below_new (w := w) (.cells #[.int .i64 l, .int .i64 wd, .int .i64 jb, .int .i64 ov, .bool sy, .bool ck] 24)) (.cells #[.int .i64 0, .int .i64 0, .bool false, .bool false] 52)
  clear hp0
  go_enter Try.func46, Try.ntmps46
  go_wp2_with fail
  refine (HW.out _).mono ?_
  rintro e w1 ⟨rfl, hB⟩
  have hp1 := hp.keep' hB
  have hh1 := hh.keep' hB
  have hB1 := below_then hBw hB
  clear hp hh hBw hB
  have k5 := hp1.cell 5 rfl
  have m0 := hh1.cell 0 rfl
  have m1 := hh1.cell 1 rfl
  have m2 := hh1.cell 2 rfl
  have m3 := hh1.cell 3 rfl
  have z0 := hh1.fz 0
  have z1 := hh1.fz 1
  have z2 := hh1.fz 2
  have z3 := hh1.fz 3
  by_cases hc : pe = 0
  · subst hc
    have HV := Lib.hid (HV2.out rfl)
    clear HV1 HV2
    have hh4 : Blk 52 ((((w1.setCell ⟨w.heap.size + 1, 0, none⟩ (.int .i64 (wp))).setCell ⟨w.heap.size + 1, 1, none⟩ (.int .i64 (-1))).setCell ⟨w.heap.size + 1, 2, none⟩ (.bool false)).setCell ⟨w.heap.size + 1, 3, none⟩ (.bool ck)) (w.heap.size + 1) #[.int .i64 (wp), .int .i64 (-1), .bool false, .bool ck] := (((hh1.set 0 _).set 1 _).set 2 _).set 3 _
    have hB4 := (((hB1.setCell (p := ⟨w.heap.size + 1, 0, none⟩) (by simp only; omega) (.int .i64 (wp))).setCell (p := ⟨w.heap.size + 1, 1, none⟩) (by simp only; omega) (.int .i64 (-1))).setCell (p := ⟨w.heap.size + 1, 2, none⟩) (by simp only; omega) (.bool false)).setCell (p := ⟨w.heap.size + 1, 3, none⟩) (by simp only; omega) (.bool ck)
    have j0 := hh4.cell 0 rfl
    have j1 := hh4.cell 1 rfl
    have j2 := hh4.cell 2 rfl
    have j3 := hh4.cell 3 rfl
    go_wp2_with fail
    exact bodyPost_ret (v := .tuple #[.agg #[.int .i64 (wp), .int .i64 (-1), .bool false, .bool ck], .int .i64 0]) (by simp [results, Try.results46, go_sem, j0, j1, j2, j3]) rfl ⟨by rw [HV.out]; rfl, hB4⟩
  · have HV := Lib.hid (HV1.out hc)
    have g0 : (pe != 0) = true := by simpa using hc
    clear hc HV1 HV2
    have hh4 : Blk 52 ((((w1.setCell ⟨w.heap.size + 1, 0, none⟩ (.int .i64 (0))).setCell ⟨w.heap.size + 1, 1, none⟩ (.int .i64 (0))).setCell ⟨w.heap.size + 1, 2, none⟩ (.bool false)).setCell ⟨w.heap.size + 1, 3, none⟩ (.bool false)) (w.heap.size + 1) #[.int .i64 (0), .int .i64 (0), .bool false, .bool false] := (((hh1.set 0 _).set 1 _).set 2 _).set 3 _
    have hB4 := (((hB1.setCell (p := ⟨w.heap.size + 1, 0, none⟩) (by simp only; omega) (.int .i64 (0))).setCell (p := ⟨w.heap.size + 1, 1, none⟩) (by simp only; omega) (.int .i64 (0))).setCell (p := ⟨w.heap.size + 1, 2, none⟩) (by simp only; omega) (.bool false)).setCell (p := ⟨w.heap.size + 1, 3, none⟩) (by simp only; omega) (.bool false)
    have j0 := hh4.cell 0 rfl
    have j1 := hh4.cell 1 rfl
    have j2 := hh4.cell 2 rfl
    have j3 := hh4.cell 3 rfl
    go_wp2_with fail
    exact bodyPost_ret (v := .tuple #[.agg #[.int .i64 (0), .int .i64 (0), .bool false, .bool false], .int .i64 pe]) (by simp [results, Try.results46, go_sem, j0, j1, j2, j3]) rfl ⟨by rw [HV.out]; rfl, hB4⟩

set_option maxHeartbeats 1600000 in
theorem rhOf_any (l wd jb ov : Int) (sy ck : Bool) (w : World) :
    Calls Try.prog 47 #[parV l wd jb ov sy ck] w fun e w' => e = .returned (.tuple #[ofV l wd jb ov ck, .int .i64 (parE l wd jb ov)]) ∧ Below w.heap.size w w' := by
  have HW := Lib.hid (fun W => rWindow_any l wd jb ov sy ck W)
  have HV1 : Hid (parE l wd jb ov ≠ 0 → ofV l wd jb ov ck = hdrVal 0 0 false false) := fun h => if_pos h
  have HV2 : Hid (parE l wd jb ov = 0 → ofV l wd jb ov ck = hdrVal (winP l wd jb ov) (-1) false ck) := fun h => if_neg (by simpa using h)
  generalize ofV l wd jb ov ck = V at *
  generalize winP l wd jb ov = wp at *
  generalize parE l wd jb ov = pe at *
  unfold parV at *
  have hp0 := Blk.new w #[.int .i64 l, .int .i64 wd, .int .i64 jb, .int .i64 ov, .bool sy, .bool ck] 24
  have hp := hp0.alloc (.cells #[.int .i64 0, .int .i64 0, .bool false, .bool false] 52)
  have hh := Blk.new (w.alloc (.cells #[.int .i64 l, .int .i64 wd, .int .i64 jb, .int .i64 ov, .bool sy, .bool ck] 24)) #[.int .i64 0, .int .i64 0, .bool false, .bool false] 52
  rw [World.size_alloc] at hh
  have hBw := below_alloc (below_new (w := w) (.cells #[.int .i64 l, .int .i64 wd, .int .i64 jb, .int .i64 ov, .bool sy, .bool ck] 24)) (.cells #[.int .i64 0, .int .i64 0, .bool false, .bool false] 52)
  clear hp0
  go_enter Try.func47, Try.ntmps47
  go_wp2_with fail
  refine (HW.out _).mono ?_
  rintro e w1 ⟨rfl, hB⟩
  have hp1 := hp.keep' hB
  have hh1 := hh.keep' hB
  have hB1 := below_then hBw hB
  clear hp hh hBw hB
  have k5 := hp1.cell 5 rfl
  have m0 := hh1.cell 0 rfl
  have m1 := hh1.cell 1 rfl
  have m2 := hh1.cell 2 rfl
  have m3 := hh1.cell 3 rfl
  have z0 := hh1.fz 0
  have z1 := hh1.fz 1
  have z2 := hh1.fz 2
  have z3 := hh1.fz 3
  by_cases hc : pe = 0
  · subst hc
    have HV := Lib.hid (HV2.out rfl)
    clear HV1 HV2
    have hh4 : Blk 52 ((((w1.setCell ⟨w.heap.size + 1, 0, none⟩ (.int .i64 (wp))).setCell ⟨w.heap.size + 1, 1, none⟩ (.int .i64 (-1))).setCell ⟨w.heap.size + 1, 2, none⟩ (.bool false)).setCell ⟨w.heap.size + 1, 3, none⟩ (.bool ck)) (w.heap.size + 1) #[.int .i64 (wp), .int .i64 (-1), .bool false, .bool ck] := (((hh1.set 0 _).set 1 _).set 2 _).set 3 _
    have hB4 := (((hB1.setCell (p := ⟨w.heap.size + 1, 0, none⟩) (by simp only; omega) (.int .i64 (wp))).setCell (p := ⟨w.heap.size + 1, 1, none⟩) (by simp only; omega) (.int .i64 (-1))).setCell (p := ⟨w.heap.size + 1, 2, none⟩) (by simp only; omega) (.bool false)).setCell (p := ⟨w.heap.size + 1, 3, none⟩) (by simp only; omega) (.bool ck)
    have j0 := hh4.cell 0 rfl
    have j1 := hh4.cell 1 rfl
    have j2 := hh4.cell 2 rfl
    have j3 := hh4.cell 3 rfl
    go_wp2_with fail
    exact bodyPost_ret (v := .tuple #[.agg #[.int .i64 (wp), .int .i64 (-1), .bool false, .bool ck], .int .i64 0]) (by simp [results, Try.results47, go_sem, j0, j1, j2, j3]) rfl ⟨by rw [HV.out]; rfl, hB4⟩
  · have HV := Lib.hid (HV1.out hc)
    have g0 : (pe != 0) = true := by simpa using hc
    clear hc HV1 HV2
    have hh4 : Blk 52 ((((w1.setCell ⟨w.heap.size + 1, 0, none⟩ (.int .i64 (0))).setCell ⟨w.heap.size + 1, 1, none⟩ (.int .i64 (0))).setCell ⟨w.heap.size + 1, 2, none⟩ (.bool false)).setCell ⟨w.heap.size + 1, 3, none⟩ (.bool false)) (w.heap.size + 1) #[.int .i64 (0), .int .i64 (0), .bool false, .bool false] := (((hh1.set 0 _).set 1 _).set 2 _).set 3 _
    have hB4 := (((hB1.setCell (p := ⟨w.heap.size + 1, 0, none⟩) (by simp only; omega) (.int .i64 (0))).setCell (p := ⟨w.heap.size + 1, 1, none⟩) (by simp only; omega) (.int .i64 (0))).setCell (p := ⟨w.heap.size + 1, 2, none⟩) (by simp only; omega) (.bool false)).setCell (p := ⟨w.heap.size + 1, 3, none⟩) (by simp only; omega) (.bool false)
    have j0 := hh4.cell 0 rfl
    have j1 := hh4.cell 1 rfl
    have j2 := hh4.cell 2 rfl
    have j3 := hh4.cell 3 rfl
    go_wp2_with fail
    exact bodyPost_ret (v := .tuple #[.agg #[.int .i64 (0), .int .i64 (0), .bool false, .bool false], .int .i64 pe]) (by simp [results, Try.results47, go_sem, j0, j1, j2, j3]) rfl ⟨by rw [HV.out]; rfl, hB4⟩

end Go.Proofs.Ytfdbkpbgkpkckaa
