/-
  The walk of the method add of a state.
-/
import Derived.Test.YtboajmnckldmiaaXxhCheck
import Derived.Test.YtboajmnckldmiaaCurBytes
import Derived.Deep.RegionHeld3
import Derived.Deep.DrawnRows
namespace Go.Proofs.Ytboajmnckldmiaa
open Go.RowKit
set_option linter.unusedVariables false
set_option maxRecDepth 100000

attribute [local go_sem ↓] Go.wp_at_zero Go.wp_at_succ
theorem rd_take (s : ByteArray) (k p n : Nat) (h : p + n ≤ k) (hk : k ≤ s.size) : rd (s.extract 0 k) p n = rd s p n := by
  induction n with
  | zero => rfl
  | succ n ih =>
    have e : sb (s.extract 0 k) (p + n) = sb s (p + n) := by
      have h1 : p + n < (s.extract 0 k).size := by rw [ByteArray.size_extract]; omega
      have h2 : p + n < s.size := by omega
      rw [← sb_get _ (p + n) h1, ← sb_get _ (p + n) h2, ByteArray.getElem_extract]
      simp
    simp only [rd]
    rw [ih (by omega), e]
theorem takeV_take (l : Lan) (s : ByteArray) (h : 32 ≤ s.size) : takeV l (s.extract 0 32) 0 = takeV l s 0 := by
  unfold takeV
  rw [rd_take s 32 0 8 (by omega) h, rd_take s 32 (0 + 8) 8 (by omega) h, rd_take s 32 (0 + 16) 8 (by omega) h, rd_take s 32 (0 + 24) 8 (by omega) h]

set_option maxHeartbeats 4000000 in
theorem add_any (g : Nat) (la lb lc ld t : Int) (u s : ByteArray) (sd : Int) (w : World) (hl : LanIn ⟨la, lb, lc, ld⟩) (ht : 0 ≤ t ∧ t ≤ 1099511627776) (hu : u.size ≤ 1000) (hs : s.size ≤ 1099511627776) (hg : Hs 79 w g ⟨⟨la, lb, lc, ld⟩, t, u, sd⟩) :
    Calls Try.prog 61 #[.pointer (some ⟨g, 0, none⟩), .string s] w fun e w' => e = .returned (.tuple #[]) ∧ Hs 79 w' g (addH ⟨⟨la, lb, lc, ld⟩, t, u, sd⟩ s) ∧ But g w w' := by
  have HA : Hid (addH ⟨⟨la, lb, lc, ld⟩, t, u, sd⟩ s = ⟨(stripV ⟨la, lb, lc, ld⟩ (u ++ s)).1, t + s.size, (stripV ⟨la, lb, lc, ld⟩ (u ++ s)).2, sd⟩) := rfl
  have p0 := hg.c0
  have p1 := hg.c1
  have p2 := hg.c2
  have p3 := hg.c3
  have p4 := hg.c4
  have p5 := hg.c5
  have z0 := hg.fz 0
  have z1 := hg.fz 1
  have z2 := hg.fz 2
  have z3 := hg.fz 3
  have z4 := hg.fz 4
  have z5 := hg.fz 5
  have hlt := hg.lt
  simp only at p0 p1 p2 p3 p4 p5
  have hv : (u ++ s).size ≤ 1099511628776 := by rw [ByteArray.size_append]; omega
  have HB0 := Lib.hid (((But.refl g w).setG 4 (.int .i64 (t + (s.size : Int)))).alloc (.cells #[.int .u64 la, .int .u64 lb, .int .u64 lc, .int .u64 ld] 84))
  have HL0 := Lb.new (w.setCell ⟨g, 4, none⟩ (.int .i64 (t + (s.size : Int)))) ⟨la, lb, lc, ld⟩ 84
  rw [show (w.setCell ⟨g, 4, none⟩ (.int .i64 (t + (s.size : Int)))).heap.size = w.heap.size by simp [World.setCell]] at HL0
  have HL0 := Lib.hid HL0
  have HG0 := Lib.hid ((hg.set4 (t + (s.size : Int))).alloc (.cells #[.int .u64 la, .int .u64 lb, .int .u64 lc, .int .u64 ld] 84))
  go_enter Try.func61, Try.ntmps61
  go_wp2
  go_loopw [1] (fun rv wr => ∃ (l : Lan) (r : ByteArray), rv = .string r ∧ Lb 84 wr w.heap.size l ∧ LanIn l ∧ r.size ≤ 1099511628776 ∧ Hid (stripV l r = stripV ⟨la, lb, lc, ld⟩ (u ++ s)) ∧ Hs 79 wr g ⟨⟨la, lb, lc, ld⟩, t + (s.size : Int), u, sd⟩ ∧ But g w wr) (fun rv _ => match rv with | .string r => r.size | _ => 0)
  case atStart => exact ⟨⟨la, lb, lc, ld⟩, u ++ s, rfl, HL0.out, hl, hv, Lib.hid rfl, HG0.out, HB0.out⟩
  case round =>
    clear p0 p1 p2 p3 p4 p5 z0 z1 z2 z3 z4 z5 HL0 HB0 HG0
    obtain ⟨l, r, rfl, hb, hln, hr, HR, hgr, hBt⟩ := hrel
    obtain ⟨xa, xb, xc, xd⟩ := l
    have p0 := hb.c0
    have p1 := hb.c1
    have p2 := hb.c2
    have p3 := hb.c3
    simp only at p0 p1 p2 p3
    by_cases h32 : 32 ≤ r.size
    · have HV := Lib.hid (stripV_32 ⟨xa, xb, xc, xd⟩ r h32)
      have hsz : (r.extract 0 32).size = 32 := by rw [ByteArray.size_extract]; omega
      have HT := Lib.hid (fun W => taken_any xa xb xc xd (r.extract 0 32) W hln (by omega) (by omega))
      rw [takeV_take _ r h32] at HT
      clear hsz
      have hmn := takeV_in ⟨xa, xb, xc, xd⟩ r 0
      generalize takeV ⟨xa, xb, xc, xd⟩ r 0 = m at *
      obtain ⟨ma, mb, mc, md⟩ := m
      unfold Lan.val at HT
      simp only at HT
      have g32 : (32 : Int) ≤ (r.size : Int) := by omega
      have hz := ext_lt r 32 (by omega) (by omega)
      have he := ext_in r 32 (by omega)
      have he' : (r.extract 32 r.size).size ≤ 1099511628776 := by omega
      have HB := Lib.hid (fun V (hV : Below wr.heap.size wr V) => And.intro (hb.keep' hV) (hgr.keep' hV))
      have hwlt := hb.lt
      go_wp2
      go_region_with
        (first
          | (go_at_call 69; refine (HT.out _).mono ?_; rintro e5 w5 ⟨rfl, hB5⟩; have hB6 : Below wr.heap.size wr w5 := below_then (by first | exact Below.refl _ _ | exact below_drew (Below.refl _ _)) hB5; obtain ⟨e1, e2⟩ := HB.out _ hB6; have u0 := e1.c0; have u1 := e1.c1; have u2 := e1.c2; have u3 := e1.c3; have v0 := e1.fz 0; have v1 := e1.fz 1; have v2 := e1.fz 2; have v3 := e1.fz 3; simp only at u0 u1 u2 u3))
      all_goals (
        go_wp2
        go_roundw
        case rel => exact ⟨⟨ma, mb, mc, md⟩, r.extract 32 r.size, rfl, ((((e1.set0 ma).set1 mb).set2 mc).set3 md), hmn, he', Lib.hid (HV.out.symm.trans HR.out), ((((e2.setOther ⟨w.heap.size, 0, none⟩ (by simp only; omega) _).setOther ⟨w.heap.size, 1, none⟩ (by simp only; omega) _).setOther ⟨w.heap.size, 2, none⟩ (by simp only; omega) _).setOther ⟨w.heap.size, 3, none⟩ (by simp only; omega) _), ((((hBt.then (But.of_below hB6)).setNew ⟨w.heap.size, 0, none⟩ (Nat.le_refl _) _).setNew ⟨w.heap.size, 1, none⟩ (Nat.le_refl _) _).setNew ⟨w.heap.size, 2, none⟩ (Nat.le_refl _) _).setNew ⟨w.heap.size, 3, none⟩ (Nat.le_refl _) _⟩
        case measure => exact hz)
    · have HV := Lib.hid (stripV_lt ⟨xa, xb, xc, xd⟩ r (by omega))
      have g32 : ¬ (32 : Int) ≤ (r.size : Int) := by omega
      have z0 := hgr.fz 0
      have z1 := hgr.fz 1
      have z2 := hgr.fz 2
      have z3 := hgr.fz 3
      have z5 := hgr.fz 5
      have q0 := hgr.c0
      have q1 := hgr.c1
      have q2 := hgr.c2
      have q3 := hgr.c3
      have q5 := hgr.c5
      simp only at q0 q1 q2 q3 q5
      go_wp2
      go_end0
      refine ⟨rfl, ?_, ((((hBt.setG 0 _).setG 1 _).setG 2 _).setG 3 _).setG 5 _⟩
      rw [HA.out, ← HR.out, HV.out]
      exact ((((hgr.set0 xa).set1 xb).set2 xc).set3 xd).set5 r

end Go.Proofs.Ytboajmnckldmiaa
