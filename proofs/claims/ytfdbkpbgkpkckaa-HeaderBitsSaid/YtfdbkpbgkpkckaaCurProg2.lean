/-
  The walks of cursor.New, Check, Skip, Byte, Little, Inner, Fail, End and Left.
-/
import Derived.Test.YtfdbkpbgkpkckaaCurProg
import Derived.Test.YtfdbkpbgkpkckaaCurNum
namespace Go.Proofs.Ytfdbkpbgkpkckaa
open Go.RowKit
set_option linter.unusedVariables false
set_option maxRecDepth 100000

def checkV (c : Cur) : Int := if CurOk c then 0 else 10
def newV (s : ByteArray) (x : Int) : Cur := if 0 ≤ x ∧ x ≤ (s.size : Int) then ⟨s, x, 0, 0⟩ else ⟨s, 0, 2, 0⟩

theorem bytesO_size (c : Cur) (n : Int) (hc : CurOk c) : ((bytesO c n).size : Int) ≤ max n 0 := by
  unfold bytesO
  split
  · show ((0 : Nat) : Int) ≤ _; omega
  · have := hc.1
    rw [ByteArray.size_extract]
    omega
theorem bytesO_bad {c : Cur} (n : Int) (h : c.e ≠ 0) : bytesO c n = ByteArray.empty := if_pos (.inl h)
theorem bytesO_after {c : Cur} (n : Int) (h : (bytesC c n).e ≠ 0) : bytesO c n = ByteArray.empty := by
  unfold bytesC at h
  by_cases h0 : c.e = 0
  · rw [if_neg (by omega)] at h
    by_cases h1 : n < 0
    · exact if_pos (.inr (.inl h1))
    · rw [if_neg h1] at h
      by_cases h2 : (c.s.size : Int) - c.a < n
      · exact if_pos (.inr (.inr h2))
      · rw [if_neg h2] at h; exact absurd h0 h
  · exact if_pos (.inl h0)
theorem sb_empty (i : Nat) : sb ByteArray.empty i = 0 := by simp [sb]
/-- A number, or 0 behind a fault. -/
def doneV (e n : Int) : Int := if e = 0 then n else 0
theorem rd_one (s : ByteArray) (h : s.size ≤ 1) : rd s 0 s.size = sb s 0 := by
  rcases Nat.lt_or_ge s.size 1 with h1 | h1
  · have e : s = ByteArray.empty := by
      cases s with | mk d => cases d with | mk l => cases l with | nil => rfl | cons x l => simp [ByteArray.size] at h1
    rw [e, sb_empty]; rfl
  · rw [show s.size = 1 by omega]; simp [rd]

theorem New_any (s : ByteArray) (x : Int) (w : World) (hs : s.size ≤ 9223372036854775807) :
    Calls Try.prog 64 #[.string s, .int .i64 x] w fun r w' => r = .returned ((newV s x).val) ∧ Below w.heap.size w w' := by
  by_cases h0 : x < 0
  · have HR : Hid (newV s x = ⟨s, 0, 2, 0⟩) := if_neg (by omega)
    go_enter Try.func64, Try.ntmps64
    go_wp2
    exact bodyPost_ret (v := .agg #[.string s, .int .i64 0, .int .i64 2, .int .i64 0]) (by simp [results, Try.results64, go_sem]) rfl ⟨by rw [HR.out]; rfl, (Below.refl _ _).alloc (Nat.le_refl _) _⟩
  · have h0' : decide (x < 0) = false := by simpa using h0
    by_cases h1 : (s.size : Int) < x
    · have HR : Hid (newV s x = ⟨s, 0, 2, 0⟩) := if_neg (by omega)
      go_enter Try.func64, Try.ntmps64
      go_wp2
      exact bodyPost_ret (v := .agg #[.string s, .int .i64 0, .int .i64 2, .int .i64 0]) (by simp [results, Try.results64, go_sem]) rfl ⟨by rw [HR.out]; rfl, (Below.refl _ _).alloc (Nat.le_refl _) _⟩
    · have h1' : decide ((s.size : Int) < x) = false := by simpa using h1
      have HR : Hid (newV s x = ⟨s, x, 0, 0⟩) := if_pos (by omega)
      go_enter Try.func64, Try.ntmps64
      go_wp2
      exact bodyPost_ret (v := .agg #[.string s, .int .i64 x, .int .i64 0, .int .i64 0]) (by simp [results, Try.results64, go_sem]) rfl ⟨by rw [HR.out]; rfl, (Below.refl _ _).alloc (Nat.le_refl _) _⟩



set_option maxHeartbeats 800000 in
theorem Skip_any (s : ByteArray) (a e f n : Int) (w : World) (hs : s.size ≤ 9223372036854775807) (hn : -9223372036854775808 ≤ n ∧ n ≤ 9223372036854775807) :
    Calls Try.prog 92 #[.agg #[.string s, .int .i64 a, .int .i64 e, .int .i64 f], .int .i64 n] w fun r w' => r = .returned ((bytesC (rightC ⟨s, a, e, f⟩) n).val) ∧ Below w.heap.size w w' := by
  have HBY := Lib.hid (fun W => Bytes_any s a e f n W hs hn)
  generalize rightC ⟨s, a, e, f⟩ = c at *
  generalize bytesO c n = out at *
  obtain ⟨⟨s2, a2, e2, f2⟩, hc2⟩ : ∃ c2, bytesC c n = c2 := ⟨_, rfl⟩
  rw [hc2] at HBY
  have HC2 := Lib.hid hc2
  clear hc2
  unfold Cur.val at HBY
  go_enter Try.func92, Try.ntmps92
  go_wp2_with fail
  refine (HBY.out _).mono ?_
  rintro r w1 ⟨rfl, hB⟩
  have hz := ((Cu.new (w.alloc (.cells #[.string s, .int .i64 a, .int .i64 e, .int .i64 f] 93)) zeroCur 93).keep' hB).alloc (.cells #[.string s2, .int .i64 a2, .int .i64 e2, .int .i64 f2] 93)
  rw [World.size_alloc] at hz
  have hBB := below_alloc (below_then (below_alloc (below_new _) _) hB) (.cells #[.string s2, .int .i64 a2, .int .i64 e2, .int .i64 f2] 93)
  have q0 := hz.c0
  have q1 := hz.c1
  have q2 := hz.c2
  have q3 := hz.c3
  have z0 := hz.fz 0
  have z1 := hz.fz 1
  have z2 := hz.fz 2
  have z3 := hz.fz 3
  have hst := hz.store ⟨s2, a2, e2, f2⟩
  have r0 := hst.c0
  have r1 := hst.c1
  have r2 := hst.c2
  have r3 := hst.c3
  simp only [World.setCu] at r0 r1 r2 r3
  go_wp2
  refine bodyPost_ret (v := .agg #[.string s2, .int .i64 a2, .int .i64 e2, .int .i64 f2]) (by simp [results, Try.results92, go_sem, r0, r1, r2, r3]) rfl ⟨?_, ?_⟩
  · rw [HC2.out]; rfl
  · exact setCu_below hBB (by omega) ⟨s2, a2, e2, f2⟩

set_option maxHeartbeats 800000 in
theorem done_any (g : Nat) (c : Cur) (n : Int) (w : World) (hg : Rd w g c) :
    Calls Try.prog 108 #[.pointer (some ⟨g, 0, none⟩), .int .i64 n] w fun r w' => r = .returned (.tuple #[c.val, .int .i64 (doneV c.e n)]) ∧ Below w.heap.size w w' := by
  obtain ⟨s2, a2, e2, f2⟩ := c
  have hr := hg.alloc (.cells #[.string ByteArray.empty, .int .i64 0, .int .i64 0, .int .i64 0] 93)
  have p0 := hr.c0
  have p1 := hr.c1
  have p2 := hr.c2
  have p3 := hr.c3
  simp only at p0 p1 p2 p3
  have hl := hg.lt
  clear hg hr
  by_cases he : e2 = 0
  · have t0 : (e2 != 0) = false := by simp [he]
    have HI : Hid (doneV e2 n = n) := if_pos he
    clear he
    go_enter Try.func108, Try.ntmps108
    go_wp2_with fail
    refine (bad_any g e2 _ p2).mono ?_
    rintro r w1 ⟨rfl, rfl⟩
    rw [t0]
    go_wp2
    exact bodyPost_ret (v := .tuple #[.agg #[.string s2, .int .i64 a2, .int .i64 e2, .int .i64 f2], .int .i64 n]) (by simp [results, Try.results108, go_sem]) rfl ⟨by simp only [HI.out]; rfl, below_new _⟩
  · have t0 : (e2 != 0) = true := by simp [he]
    have HI : Hid (doneV e2 n = 0) := if_neg he
    clear he
    go_enter Try.func108, Try.ntmps108
    go_wp2_with fail
    refine (bad_any g e2 _ p2).mono ?_
    rintro r w1 ⟨rfl, rfl⟩
    rw [t0]
    go_wp2
    exact bodyPost_ret (v := .tuple #[.agg #[.string s2, .int .i64 a2, .int .i64 e2, .int .i64 f2], .int .i64 0]) (by simp [results, Try.results108, go_sem]) rfl ⟨by simp only [HI.out]; rfl, below_new _⟩

/-- The byte that Byte reads; 0 without one. -/
def byteV (c : Cur) : Int := sb (bytesO c 1) 0

set_option maxHeartbeats 800000 in
theorem Byte_any (s : ByteArray) (a e f : Int) (w : World) (hs : s.size ≤ 9223372036854775807) :
    Calls Try.prog 93 #[.agg #[.string s, .int .i64 a, .int .i64 e, .int .i64 f]] w fun r w' => r = .returned (.tuple #[(bytesC (rightC ⟨s, a, e, f⟩) 1).val, .int .i64 (byteV (rightC ⟨s, a, e, f⟩))]) ∧ Below w.heap.size w w' := by
  have HO := Lib.hid (fun W => of_any s a e f W hs)
  have hok := Lib.hid (rightC_ok ⟨s, a, e, f⟩)
  have hsz := rightC_size ⟨s, a, e, f⟩
  simp only at hsz
  unfold OfPost at HO
  generalize rightC ⟨s, a, e, f⟩ = c at *
  have ho1 := bytesO_size c 1 hok.out
  have HN := Lib.hid (fun W => number_any (bytesO c 1) W (by omega))
  have HR1 := Lib.hid (rd_one (bytesO c 1) (by omega))
  have HBV : Hid (byteV c = sb (bytesO c 1) 0) := rfl
  have HAF : Hid (doneV (bytesC c 1).e (sb (bytesO c 1) 0) = sb (bytesO c 1) 0) := by
    show (if _ then _ else _) = _
    split
    · rfl
    · rename_i h; rw [bytesO_after 1 h, sb_empty]
  have hsb := sb_lo (bytesO c 1) 0
  have hcs := Lib.hid (bytesC_s c 1)
  generalize hO : bytesO c 1 = out at *
  have HOo := Lib.hid hO
  clear hO
  generalize sb out 0 = x at *
  go_enter Try.func93, Try.ntmps93
  go_wp2_with fail
  refine (HO.out _).mono ?_
  rintro r w1 ⟨g, rfl, hr, hg, hB⟩
  have hz := (Cu.new (w.alloc (.cells #[.string s, .int .i64 a, .int .i64 e, .int .i64 f] 93)) zeroCur 93).keep' hB
  rw [World.size_alloc] at hz
  simp at hg
  go_wp2_with fail
  refine (bytes_any g c 1 _ hr hok.out (by omega) (by omega)).mono ?_
  rintro r w2 ⟨rfl, hr2, hU⟩
  have hz2 := hz.but hU (by omega)
  have hBB := But.below (B := w.heap.size) (below_then (below_alloc (below_new _) _) hB) (by omega) (by have := hB.size; simp at this; omega) hU
  clear hz hr hU hB
  rw [HOo.out]
  go_wp2_with fail
  refine (HN.out _).mono ?_
  rintro r w3 ⟨rfl, rfl⟩
  rw [HR1.out]
  go_wp2_with fail
  refine (done_any g (bytesC c 1) x _ hr2).mono ?_
  rintro r w3 ⟨rfl, hB3⟩
  rw [HAF.out]
  have hz3 := hz2.keep' hB3
  have hBB3 := below_then hBB hB3
  obtain ⟨⟨s2, a2, e2, f2⟩, hc2⟩ : ∃ c2, bytesC c 1 = c2 := ⟨_, rfl⟩
  have HC2 := Lib.hid hc2
  rw [HC2.out]
  clear hc2 hr2 hz2 hBB
  unfold Cur.val
  have q0 := hz3.c0
  have q1 := hz3.c1
  have q2 := hz3.c2
  have q3 := hz3.c3
  have z0 := hz3.fz 0
  have z1 := hz3.fz 1
  have z2 := hz3.fz 2
  have z3 := hz3.fz 3
  have hst := hz3.store ⟨s2, a2, e2, f2⟩
  have r0 := hst.c0
  have r1 := hst.c1
  have r2 := hst.c2
  have r3 := hst.c3
  simp only [World.setCu] at r0 r1 r2 r3
  go_wp2
  refine bodyPost_ret (v := .tuple #[.agg #[.string s2, .int .i64 a2, .int .i64 e2, .int .i64 f2], .int .i64 x]) (by simp [results, Try.results93, go_sem, r0, r1, r2, r3]) rfl ⟨?_, ?_⟩
  · first | rfl | rw [HC2.out, HBV.out]; rfl | (rw [HBV.out]; rfl)
  · exact setCu_below hBB3 (by omega) ⟨s2, a2, e2, f2⟩

end Go.Proofs.Ytfdbkpbgkpkckaa
