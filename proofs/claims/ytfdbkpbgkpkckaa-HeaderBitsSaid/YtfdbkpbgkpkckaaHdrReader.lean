/-
  The walks of header.reader's byte and field.
-/
import Derived.Test.YtfdbkpbgkpkckaaCurProg3
namespace Go.Proofs.Ytfdbkpbgkpkckaa
open Go.RowKit
set_option linter.unusedVariables false
set_option maxRecDepth 100000

theorem rightC_id {c : Cur} (h : CurOk c) : rightC c = c := if_pos h
theorem But.setCu {g : Nat} {a w : World} (h : But g a w) (c : Cur) : But g a (World.setCu w g c) := (((h.setG 0 _).setG 1 _).setG 2 _).setG 3 _

set_option maxHeartbeats 1600000 in
theorem rbyte_any (g : Nat) (c : Cur) (w : World) (hg : Cu 96 w g c) (hc : CurOk c) (hs : c.s.size ≤ 9223372036854775807) :
    Calls Try.prog 66 #[.pointer (some ⟨g, 0, none⟩)] w fun r w' => r = .returned (.int .i64 (byteV c)) ∧ Cu 96 w' g (bytesC c 1) ∧ But g w w' := by
  have HB := Lib.hid (fun W => Byte_any c.s c.a c.e c.f W hs)
  rw [show rightC ⟨c.s, c.a, c.e, c.f⟩ = c from rightC_id hc] at HB
  generalize byteV c = v at *
  generalize bytesC c 1 = d at *
  obtain ⟨s, a, e, f⟩ := c
  obtain ⟨s1, a1, e1, f1⟩ := d
  unfold Cur.val at HB
  simp only at HB
  have p0 := hg.c0
  have p1 := hg.c1
  have p2 := hg.c2
  have p3 := hg.c3
  simp only at p0 p1 p2 p3
  go_enter Try.func66, Try.ntmps66
  go_wp2_with fail
  refine (HB.out _).mono ?_
  rintro r w1 ⟨rfl, hB1⟩
  have hg1 := hg.keep' hB1
  have hlt := hg1.lt
  have hu := But.of_below (g := g) hB1
  clear p0 p1 p2 p3 hg
  have p0 := hg1.c0
  have p1 := hg1.c1
  have p2 := hg1.c2
  have p3 := hg1.c3
  have z0 := hg1.fz 0
  have z1 := hg1.fz 1
  have z2 := hg1.fz 2
  have z3 := hg1.fz 3
  simp only at p0 p1 p2 p3
  go_wp2
  go_ret
  exact ⟨rfl, (hg1.store ⟨s1, a1, e1, f1⟩).alloc _, (hu.setCu ⟨s1, a1, e1, f1⟩).alloc _⟩

/-- What a field of so many bytes reads, and the cursor behind it. -/
def fieldC (c : Cur) (n : Int) : Cur := if n = 0 then c else littleC c n
def fieldV (c : Cur) (n : Int) : Int := if n = 0 then 0 else littleV c n

set_option maxHeartbeats 1600000 in
theorem rfield_any (g : Nat) (c : Cur) (n : Int) (w : World) (hg : Cu 96 w g c) (hc : CurOk c) (hs : c.s.size ≤ 9223372036854775807) (hn : 0 ≤ n ∧ n ≤ 8) :
    Calls Try.prog 68 #[.pointer (some ⟨g, 0, none⟩), .int .i64 n] w fun r w' => r = .returned (.int .u64 (fieldV c n)) ∧ Cu 96 w' g (fieldC c n) ∧ But g w w' := by
  unfold fieldC fieldV
  by_cases h0 : n = 0
  · rw [if_pos h0, if_pos h0]
    have g0 : (n == 0) = true := by rw [h0]; rfl
    clear h0
    go_enter Try.func68, Try.ntmps68
    go_wp2
    go_ret
    exact ⟨rfl, hg, But.refl _ _⟩
  · rw [if_neg h0, if_neg h0]
    have g0 : (n == 0) = false := by simpa using h0
    have HB := Lib.hid (fun W => Little_any c.s c.a c.e c.f n W hs (by omega))
    rw [show rightC ⟨c.s, c.a, c.e, c.f⟩ = c from rightC_id hc] at HB
    generalize littleV c n = v at *
    generalize littleC c n = d at *
    obtain ⟨s, a, e, f⟩ := c
    obtain ⟨s1, a1, e1, f1⟩ := d
    unfold Cur.val at HB
    simp only at HB
    have p0 := hg.c0
    have p1 := hg.c1
    have p2 := hg.c2
    have p3 := hg.c3
    simp only at p0 p1 p2 p3
    clear h0
    go_enter Try.func68, Try.ntmps68
    go_wp2_with fail
    refine (HB.out _).mono ?_
    rintro r w1 ⟨rfl, hB1⟩
    have hg1 := hg.keep' hB1
    have hlt := hg1.lt
    have hu := But.of_below (g := g) hB1
    clear p0 p1 p2 p3 hg
    have p0 := hg1.c0
    have p1 := hg1.c1
    have p2 := hg1.c2
    have p3 := hg1.c3
    have z0 := hg1.fz 0
    have z1 := hg1.fz 1
    have z2 := hg1.fz 2
    have z3 := hg1.fz 3
    simp only at p0 p1 p2 p3
    go_wp2
    go_ret
    exact ⟨rfl, (hg1.store ⟨s1, a1, e1, f1⟩).alloc _, (hu.setCu ⟨s1, a1, e1, f1⟩).alloc _⟩

end Go.Proofs.Ytfdbkpbgkpkckaa
