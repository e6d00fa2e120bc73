/-
  The walks of strings.HasPrefix and of header.reader's begins.
-/
import Derived.Test.YtfdbkpbgkpkckaaHdrReader
import Derived.Test.YtfdbkpbgkpkckaaBlk
import Derived.Deep.QuietTactic
import Derived.BigQuiet
namespace Go.Proofs.Ytfdbkpbgkpkckaa
open Go.RowKit
set_option linter.unusedVariables false
set_option maxRecDepth 100000

/-- Whether a string begins with another. -/
def preB (x y : ByteArray) : Bool := decide (y.size ≤ x.size) && ((x.extract 0 y.size).toList == y.toList)

theorem litePrefix_any (x y : ByteArray) (w : World) (hx : x.size ≤ 9223372036854775807) (hy : y.size ≤ 9223372036854775807) :
    Calls Try.prog 105 #[.string x, .string y] w fun r w' => r = .returned (.bool (preB x y)) ∧ w = w' := by
  by_cases h : y.size ≤ x.size
  · have HV : Hid (preB x y = ((x.extract 0 y.size).toList == y.toList)) := by show _ = _; unfold preB; simp [h]
    have g1 : (y.size : Int) ≤ (x.size : Int) := by omega
    have g2 : (0 : Int) ≤ (y.size : Int) := by omega
    go_enter Try.func105, Try.ntmps105
    go_wp2
    go_ret
    exact ⟨by rw [HV.out]; rfl, rfl⟩
  · have HV : Hid (preB x y = false) := by show _ = _; unfold preB; simp [h]
    have g1 : ¬ (y.size : Int) ≤ (x.size : Int) := by omega
    go_enter Try.func105, Try.ntmps105
    go_wp2
    go_ret
    exact ⟨by rw [HV.out]; rfl, rfl⟩

theorem HasPrefix_any (x y : ByteArray) (w : World) (hx : x.size ≤ 9223372036854775807) (hy : y.size ≤ 9223372036854775807) :
    Calls Try.prog 91 #[.string x, .string y] w fun r w' => r = .returned (.bool (preB x y)) ∧ w = w' := by
  have H := Lib.hid (fun W => litePrefix_any x y W hx hy)
  generalize preB x y = b at *
  go_enter Try.func91, Try.ntmps91
  go_wp2_with fail
  refine (H.out _).mono ?_
  rintro r w1 ⟨rfl, rfl⟩
  go_wp2
  go_ret
  exact ⟨rfl, rfl⟩

def magicB : ByteArray := ⟨#[40, 181, 47, 253]⟩
/-- The bytes that begin a header, as far as there are any. -/
def firstB (c : Cur) : ByteArray := c.s.extract c.a.toNat (min c.s.size (c.a.toNat + 4))
def begOk (c : Cur) : Bool := preB magicB (firstB c)
def begC (c : Cur) : Cur := if begOk c then bytesC c 4 else c
def begE (c : Cur) : Int := if begOk c then (bytesC c 4).e else 14
def begF (c : Cur) : Int := if begOk c then (bytesC c 4).f else c.a

set_option maxHeartbeats 4000000 in
theorem rbegins_any (g : Nat) (c : Cur) (w : World) (hg : Cu 96 w g c) (hc : CurOk c) (hs : c.s.size ≤ 4611686018427387904) :
    Calls Try.prog 65 #[.pointer (some ⟨g, 0, none⟩)] w fun r w' => r = .returned (.agg #[.int .i64 (begE c), .int .i64 (begF c)]) ∧ Cu 96 w' g (begC c) ∧ But g w w' := by
  have hca := hc.1
  obtain ⟨n, hn⟩ : ∃ n : Nat, c.a = n := ⟨c.a.toNat, by omega⟩
  have HF : Hid (firstB c = c.s.extract n (min c.s.size (n + 4))) := by show _ = _; unfold firstB; rw [hn, Int.toNat_natCast]
  have HP := Lib.hid (fun W => HasPrefix_any magicB (firstB c) W (by decide) (by unfold firstB; rw [ByteArray.size_extract]; omega))
  have HB := Lib.hid (fun W => Skip_any c.s c.a c.e c.f 4 W (by omega) (by omega))
  rw [show rightC ⟨c.s, c.a, c.e, c.f⟩ = c from rightC_id hc] at HB
  have HO : Hid (preB magicB (firstB c) = begOk c) := rfl
  rw [HO.out] at HP
  unfold begE begF begC
  have hlt := hg.lt
  generalize begOk c = ok at *
  generalize firstB c = fb at *
  generalize bytesC c 4 = d at *
  obtain ⟨s, a, e, f⟩ := c
  obtain ⟨s1, a1, e1, f1⟩ := d
  unfold Cur.val at HB
  simp only at HB hca hn HF hs
  subst hn
  have p0 := hg.c0
  have p1 := hg.c1
  have p2 := hg.c2
  have p3 := hg.c3
  simp only at p0 p1 p2 p3
  have hg0 := hg.alloc (.cells #[.int .i64 0, .int .i64 0] 54)
  have hwr : IntKind.i64.wrap ((n : Int) + 4) = (n : Int) + 4 := by rw [IntKind.wrap_i64]; omega
  by_cases hsz : n + 4 < s.size
  · have k1 : (n : Int) + 4 < (s.size : Int) := by omega
    have k1' : (n : Int) + 4 ≤ (s.size : Int) := by omega
    have HF2 : Hid (s.extract n (n + 4) = fb) := by show _ = _; rw [HF.out]; congr 1; omega
    have k2 : (0 : Int) ≤ (n : Int) := by omega
    have k3 : (n : Int) ≤ (n : Int) + 4 := by omega
    go_enter Try.func65, Try.ntmps65
    go_wp2_with fail
    go_quiet (fail)
    go_wp2_with fail
    rw [HF2.out]
    refine (HP.out _).mono ?_
    rintro r w1 ⟨rfl, rfl⟩
    have hgN := (hg.alloc (.cells #[.int .i64 0, .int .i64 0] 54)).drewN nq
    have hfN := (Blk.new w #[.int .i64 0, .int .i64 0] 54).drewN nq
    have huN : But g w ((w.alloc (.cells #[.int .i64 0, .int .i64 0] 54)).drewN nq) := ((But.refl g w).alloc _).drewN nq
    generalize (w.alloc (.cells #[.int .i64 0, .int .i64 0] 54)).drewN nq = W1 at *
    have hne : g ≠ w.heap.size := by omega
    clear p0 p1 p2 p3 hg0 hg hwr k1 k2 k3
    cases ok
    · have p0 := hgN.c0
      have p1 := hgN.c1
      simp only at p0 p1
      have f0 := hfN.cell 0 rfl
      have f1 := hfN.cell 1 rfl
      have z0 := hfN.fz 0
      have z1 := hfN.fz 1
      have hst := (hfN.set 0 (.int .i64 14)).set 1 (.int .i64 (n : Int))
      have j0 := hst.cell 0 rfl
      have j1 := hst.cell 1 rfl
      have hc1 := (hgN.setOther ⟨w.heap.size, 0, none⟩ hne (.int .i64 14)).setOther ⟨w.heap.size, 1, none⟩ hne (.int .i64 (n : Int))
      have hu1 := (huN.setNew ⟨w.heap.size, 0, none⟩ (Nat.le_refl _) (.int .i64 14)).setNew ⟨w.heap.size, 1, none⟩ (Nat.le_refl _) (.int .i64 (n : Int))
      clear hst
      go_wp2_with fail
      exact bodyPost_ret (v := .agg #[.int .i64 14, .int .i64 (n : Int)]) (by simp [results, Try.results65, go_sem, j0, j1]) rfl ⟨by simp, hc1, hu1⟩
    · have p0 := hgN.c0
      have p1 := hgN.c1
      have p2 := hgN.c2
      have p3 := hgN.c3
      simp only at p0 p1 p2 p3
      go_wp2_with fail
      refine (HB.out _).mono ?_
      rintro r w3 ⟨rfl, hB3⟩
      have hg3 := hgN.keep' hB3
      have hf3 := hfN.keep' hB3
      have hu3 := huN.then (But.of_below (g := g) hB3)
      clear p0 p1 p2 p3 hgN hfN huN
      have p0 := hg3.c0
      have p1 := hg3.c1
      have p2 := hg3.c2
      have p3 := hg3.c3
      have y0 := hg3.fz 0
      have y1 := hg3.fz 1
      have y2 := hg3.fz 2
      have y3 := hg3.fz 3
      simp only at p0 p1 p2 p3
      have hgs := hg3.store ⟨s1, a1, e1, f1⟩
      have m2 := hgs.c2
      have m3 := hgs.c3
      simp only [World.setCu] at m2 m3
      have hfs := (((hf3.other ⟨g, 0, none⟩ (Ne.symm hne) (.string s1)).other ⟨g, 1, none⟩ (Ne.symm hne) (.int .i64 a1)).other ⟨g, 2, none⟩ (Ne.symm hne) (.int .i64 e1)).other ⟨g, 3, none⟩ (Ne.symm hne) (.int .i64 f1)
      have f0 := hfs.cell 0 rfl
      have f1' := hfs.cell 1 rfl
      have z0 := hfs.fz 0
      have z1 := hfs.fz 1
      have hst := (hfs.set 0 (.int .i64 e1)).set 1 (.int .i64 f1)
      have j0 := hst.cell 0 rfl
      have j1 := hst.cell 1 rfl
      have hc1 := (hgs.setOther ⟨w.heap.size, 0, none⟩ hne (.int .i64 e1)).setOther ⟨w.heap.size, 1, none⟩ hne (.int .i64 f1)
      have hu1 := ((hu3.setCu ⟨s1, a1, e1, f1⟩).setNew ⟨w.heap.size, 0, none⟩ (Nat.le_refl _) (.int .i64 e1)).setNew ⟨w.heap.size, 1, none⟩ (Nat.le_refl _) (.int .i64 f1)
      clear hst hfs hgs
      go_wp2_with fail
      exact bodyPost_ret (v := .agg #[.int .i64 e1, .int .i64 f1]) (by simp [results, Try.results65, go_sem, j0, j1]) rfl ⟨by simp, hc1, hu1⟩
  · have k1 : ¬ (n : Int) + 4 < (s.size : Int) := by omega
    have HF2 : Hid (s.extract n s.size = fb) := by show _ = _; rw [HF.out]; congr 1; omega
    have k2 : (0 : Int) ≤ (n : Int) := by omega
    have k3 : (n : Int) ≤ (s.size : Int) := by omega
    go_enter Try.func65, Try.ntmps65
    go_wp2_with fail
    go_quiet (fail)
    go_wp2_with fail
    rw [HF2.out]
    refine (HP.out _).mono ?_
    rintro r w1 ⟨rfl, rfl⟩
    have hgN := (hg.alloc (.cells #[.int .i64 0, .int .i64 0] 54)).drewN nq
    have hfN := (Blk.new w #[.int .i64 0, .int .i64 0] 54).drewN nq
    have huN : But g w ((w.alloc (.cells #[.int .i64 0, .int .i64 0] 54)).drewN nq) := ((But.refl g w).alloc _).drewN nq
    generalize (w.alloc (.cells #[.int .i64 0, .int .i64 0] 54)).drewN nq = W1 at *
    have hne : g ≠ w.heap.size := by omega
    clear p0 p1 p2 p3 hg0 hg hwr k1 k2 k3
    cases ok
    · have p0 := hgN.c0
      have p1 := hgN.c1
      simp only at p0 p1
      have f0 := hfN.cell 0 rfl
      have f1 := hfN.cell 1 rfl
      have z0 := hfN.fz 0
      have z1 := hfN.fz 1
      have hst := (hfN.set 0 (.int .i64 14)).set 1 (.int .i64 (n : Int))
      have j0 := hst.cell 0 rfl
      have j1 := hst.cell 1 rfl
      have hc1 := (hgN.setOther ⟨w.heap.size, 0, none⟩ hne (.int .i64 14)).setOther ⟨w.heap.size, 1, none⟩ hne (.int .i64 (n : Int))
      have hu1 := (huN.setNew ⟨w.heap.size, 0, none⟩ (Nat.le_refl _) (.int .i64 14)).setNew ⟨w.heap.size, 1, none⟩ (Nat.le_refl _) (.int .i64 (n : Int))
      clear hst
      go_wp2_with fail
      exact bodyPost_ret (v := .agg #[.int .i64 14, .int .i64 (n : Int)]) (by simp [results, Try.results65, go_sem, j0, j1]) rfl ⟨by simp, hc1, hu1⟩
    · have p0 := hgN.c0
      have p1 := hgN.c1
      have p2 := hgN.c2
      have p3 := hgN.c3
      simp only at p0 p1 p2 p3
      go_wp2_with fail
      refine (HB.out _).mono ?_
      rintro r w3 ⟨rfl, hB3⟩
      have hg3 := hgN.keep' hB3
      have hf3 := hfN.keep' hB3
      have hu3 := huN.then (But.of_below (g := g) hB3)
      clear p0 p1 p2 p3 hgN hfN huN
      have p0 := hg3.c0
      have p1 := hg3.c1
      have p2 := hg3.c2
      have p3 := hg3.c3
      have y0 := hg3.fz 0
      have y1 := hg3.fz 1
      have y2 := hg3.fz 2
      have y3 := hg3.fz 3
      simp only at p0 p1 p2 p3
      have hgs := hg3.store ⟨s1, a1, e1, f1⟩
      have m2 := hgs.c2
      have m3 := hgs.c3
      simp only [World.setCu] at m2 m3
      have hfs := (((hf3.other ⟨g, 0, none⟩ (Ne.symm hne) (.string s1)).other ⟨g, 1, none⟩ (Ne.symm hne) (.int .i64 a1)).other ⟨g, 2, none⟩ (Ne.symm hne) (.int .i64 e1)).other ⟨g, 3, none⟩ (Ne.symm hne) (.int .i64 f1)
      have f0 := hfs.cell 0 rfl
      have f1' := hfs.cell 1 rfl
      have z0 := hfs.fz 0
      have z1 := hfs.fz 1
      have hst := (hfs.set 0 (.int .i64 e1)).set 1 (.int .i64 f1)
      have j0 := hst.cell 0 rfl
      have j1 := hst.cell 1 rfl
      have hc1 := (hgs.setOther ⟨w.heap.size, 0, none⟩ hne (.int .i64 e1)).setOther ⟨w.heap.size, 1, none⟩ hne (.int .i64 f1)
      have hu1 := ((hu3.setCu ⟨s1, a1, e1, f1⟩).setNew ⟨w.heap.size, 0, none⟩ (Nat.le_refl _) (.int .i64 e1)).setNew ⟨w.heap.size, 1, none⟩ (Nat.le_refl _) (.int .i64 f1)
      clear hst hfs hgs
      go_wp2_with fail
      exact bodyPost_ret (v := .agg #[.int .i64 e1, .int .i64 f1]) (by simp [results, Try.results65, go_sem, j0, j1]) rfl ⟨by simp, hc1, hu1⟩

end Go.Proofs.Ytfdbkpbgkpkckaa
