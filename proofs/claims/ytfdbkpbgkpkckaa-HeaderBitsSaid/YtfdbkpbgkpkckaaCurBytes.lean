/-
  The walks of cursor.of, and of the reader's methods bad, left and bytes.
-/
import Derived.Test.YtfdbkpbgkpkckaaCurOf
import Derived.Test.YtfdbkpbgkpkckaaRegions
namespace Go.Proofs.Ytfdbkpbgkpkckaa
open Go.RowKit
set_option linter.unusedVariables false
set_option maxRecDepth 100000

/-- What cursor.of makes: a new reader that holds what the cursor counts as. -/
def OfPost (w : World) (c : Cur) (r : Ending) (w' : World) : Prop := ∃ g, r = .returned (.pointer (some ⟨g, 0, none⟩)) ∧ Rd w' g (rightC c) ∧ w.heap.size ≤ g ∧ Below w.heap.size w w'

set_option maxHeartbeats 1600000 in
theorem of_any (s : ByteArray) (a e f : Int) (w : World) (hs : s.size ≤ 9223372036854775807) :
    Calls Try.prog 107 #[.agg #[.string s, .int .i64 a, .int .i64 e, .int .i64 f]] w (OfPost w ⟨s, a, e, f⟩) := by
  have HV := Lib.hid (fun W => valid_any s a e f W hs)
  by_cases h : CurOk ⟨s, a, e, f⟩
  · have HB : Hid (okB ⟨s, a, e, f⟩ = true) := by simp [okB, h, Hid]
    have HR : Hid (rightC ⟨s, a, e, f⟩ = ⟨s, a, e, f⟩) := if_pos h
    clear h
    go_enter Try.func107, Try.ntmps107
    go_wp2_with fail
    refine (HV.out _).mono ?_
    rintro r w1 ⟨rfl, hB⟩
    rw [HB.out]
    have p0 : w1.cell? ⟨w.heap.size, 0, none⟩ = some (.string s) := (hB.cell (p := ⟨w.heap.size, 0, none⟩) (by simp)).trans (World.cell?_alloc_at _ _ _ _ rfl)
    have p1 : w1.cell? ⟨w.heap.size, 1, none⟩ = some (.int .i64 a) := (hB.cell (p := ⟨w.heap.size, 1, none⟩) (by simp)).trans (World.cell?_alloc_at _ _ _ _ rfl)
    have p2 : w1.cell? ⟨w.heap.size, 2, none⟩ = some (.int .i64 e) := (hB.cell (p := ⟨w.heap.size, 2, none⟩) (by simp)).trans (World.cell?_alloc_at _ _ _ _ rfl)
    have p3 : w1.cell? ⟨w.heap.size, 3, none⟩ = some (.int .i64 f) := (hB.cell (p := ⟨w.heap.size, 3, none⟩) (by simp)).trans (World.cell?_alloc_at _ _ _ _ rfl)
    have hsz : w.heap.size ≤ w1.heap.size := by have := hB.size; simp at this; omega
    go_wp2
    go_ret
    exact ⟨w1.heap.size, rfl, by rw [HR.out]; exact Rd.new w1 ⟨s, a, e, f⟩, hsz, below_alloc (below_then (below_new _) hB) _⟩
  · have HB : Hid (okB ⟨s, a, e, f⟩ = false) := by simp only [okB, Hid, decide_eq_false_iff_not]; exact h
    have HR : Hid (rightC ⟨s, a, e, f⟩ = emptyCur) := if_neg h
    clear h
    go_enter Try.func107, Try.ntmps107
    go_wp2_with fail
    refine (HV.out _).mono ?_
    rintro r w1 ⟨rfl, hB⟩
    rw [HB.out]
    have hbk : w1.heap[w.heap.size]? = some (.cells #[.string s, .int .i64 a, .int .i64 e, .int .i64 f] 93 (0, 0)) := (hB.block w.heap.size (by simp)).trans (heap_alloc_new _ _)
    have p0 := Joins.cell_of_block hbk 0
    have p1 := Joins.cell_of_block hbk 1
    have p2 := Joins.cell_of_block hbk 2
    have p3 := Joins.cell_of_block hbk 3
    have q0 := Joins.unfrozen_of_block hbk 0
    have q1 := Joins.unfrozen_of_block hbk 1
    have q2 := Joins.unfrozen_of_block hbk 2
    have q3 := Joins.unfrozen_of_block hbk 3
    simp at p0 p1 p2 p3
    have hsz : w.heap.size < w1.heap.size := by have := hB.size; simp at this; omega
    go_wp2
    go_ret
    refine ⟨w1.heap.size, rfl, ?_, Nat.le_of_lt hsz, below_alloc (((((below_then (below_new _) hB).setCell (p := ⟨w.heap.size, 0, none⟩) (Nat.le_refl _) _).setCell (p := ⟨w.heap.size, 1, none⟩) (Nat.le_refl _) _).setCell (p := ⟨w.heap.size, 2, none⟩) (Nat.le_refl _) _).setCell (p := ⟨w.heap.size, 3, none⟩) (Nat.le_refl _) _) _⟩
    rw [HR.out]
    unfold Rd
    have := heap_alloc_new ((((w1.setCell ⟨w.heap.size, 0, none⟩ (.string ⟨#[]⟩)).setCell ⟨w.heap.size, 1, none⟩ (.int .i64 0)).setCell ⟨w.heap.size, 2, none⟩ (.int .i64 10)).setCell ⟨w.heap.size, 3, none⟩ (.int .i64 0)) (.cells #[.string ⟨#[]⟩, .int .i64 0, .int .i64 10, .int .i64 0] 139)
    have hz : ((((w1.setCell ⟨w.heap.size, 0, none⟩ (.string ⟨#[]⟩)).setCell ⟨w.heap.size, 1, none⟩ (.int .i64 0)).setCell ⟨w.heap.size, 2, none⟩ (.int .i64 10)).setCell ⟨w.heap.size, 3, none⟩ (.int .i64 0)).heap.size = w1.heap.size := by simp [World.setCell]
    rw [hz] at this
    exact this

theorem bad_any (g : Nat) (e : Int) (w : World) (hc : w.cell? ⟨g, 2, none⟩ = some (.int .i64 e)) :
    Calls Try.prog 111 #[.pointer (some ⟨g, 0, none⟩)] w fun r w' => r = .returned (.bool (e != 0)) ∧ w = w' := by
  go_enter Try.func111, Try.ntmps111
  go_wp2
  go_ret
  exact ⟨rfl, rfl⟩

/-- How many bytes are left. -/
def leftC (c : Cur) : Int := if c.e = 0 then (c.s.size : Int) - c.a else 0

set_option maxHeartbeats 800000 in
theorem left_any (g : Nat) (c : Cur) (w : World) (hg : Rd w g c) (hc : CurOk c) (hs : c.s.size ≤ 9223372036854775807) :
    Calls Try.prog 119 #[.pointer (some ⟨g, 0, none⟩)] w fun r w' => r = .returned (.int .i64 (leftC c)) ∧ ∃ k, w' = w.drewN k := by
  obtain ⟨s, a, e, f⟩ := c
  have h0 := hg.c0
  have h1 := hg.c1
  have h2 := hg.c2
  have hA := hc.1
  clear hg hc
  simp only at h0 h1 h2 hA hs
  by_cases he : e = 0
  · have HR : Hid (leftC ⟨s, a, e, f⟩ = (s.size : Int) - a) := if_pos he
    have t0 : (e != 0) = false := by simp [he]
    clear he
    go_enter Try.func119, Try.ntmps119
    go_wp2_with fail
    refine (bad_any g e _ h2).mono ?_
    rintro r w1 ⟨rfl, rfl⟩
    rw [t0]
    go_wp2
    go_quiet (fail)
    go_wp2
    go_ret
    exact ⟨ret_int (by rw [HR.out]), _, rfl⟩
  · have HR : Hid (leftC ⟨s, a, e, f⟩ = 0) := if_neg he
    have t0 : (e != 0) = true := by simp [he]
    clear he
    go_enter Try.func119, Try.ntmps119
    go_wp2_with fail
    refine (bad_any g e _ h2).mono ?_
    rintro r w1 ⟨rfl, rfl⟩
    rw [t0]
    go_wp2
    go_ret
    exact ⟨ret_int (by rw [HR.out]), 0, rfl⟩

/-- The deferred closure of bytes: without a fault, and with one. -/
theorem kept_none (p q g : Nat) (u : FrameMode) (w : World) (hp : w.cell? ⟨p, 0, none⟩ = some (.int .i64 0)) :
    CallsD Try.prog 118 #[.pointer (some ⟨p, 0, none⟩), .pointer (some ⟨q, 0, none⟩)] u w fun r u' w' => u' = u ∧ (r = .returned (.tuple #[]) ∧ w = w') := by
  go_enter_d Try.func118, Try.ntmps118
  go_wp2
  go_end0
  exact ⟨rfl, rfl⟩
theorem kept_some (p q g : Nat) (e f : Int) (u : FrameMode) (w : World) (hp : w.cell? ⟨p, 0, none⟩ = some (.int .i64 e)) (hp1 : w.cell? ⟨p, 1, none⟩ = some (.int .i64 f)) (he : (e != 0) = true) (hq : w.cell? ⟨q, 0, none⟩ = some (.pointer (some ⟨g, 0, none⟩)))
    (hc : w.cell? ⟨g, 2, none⟩ = some (.int .i64 0)) (hc3 : w.cell? ⟨g, 3, none⟩ = some (.int .i64 0)) (hz : w.frozen? ⟨g, 2, none⟩ = false) (hz3 : w.frozen? ⟨g, 3, none⟩ = false) :
    CallsD Try.prog 118 #[.pointer (some ⟨p, 0, none⟩), .pointer (some ⟨q, 0, none⟩)] u w fun r u' w' => u' = u ∧ (r = .returned (.tuple #[]) ∧ w' = (w.setCell ⟨g, 2, none⟩ (.int .i64 e)).setCell ⟨g, 3, none⟩ (.int .i64 f)) := by
  have hb := bad_any g 0 w hc
  go_enter_d Try.func118, Try.ntmps118
  go_wp2_with fail
  refine hb.mono ?_
  rintro r w1 ⟨rfl, rfl⟩
  rw [show ((0 : Int) != 0) = false from rfl]
  go_wp2
  go_end0
  exact ⟨rfl, rfl⟩

/-- w' is w with new blocks and with writes to block g alone. -/
structure But (g : Nat) (w w' : World) : Prop where
  os : w'.os = w.os
  tape : w'.tape = w.tape
  output : w'.output = w.output
  size : w.heap.size ≤ w'.heap.size
  block : ∀ k, k < w.heap.size → k ≠ g → w'.heap[k]? = w.heap[k]?
section
variable {g : Nat} {a w : World}
theorem But.refl (g : Nat) (w : World) : But g w w := ⟨rfl, rfl, rfl, Nat.le_refl _, fun _ _ _ => rfl⟩
theorem But.alloc (h : But g a w) (o : Obj) : But g a (w.alloc o) :=
  ⟨h.os, h.tape, h.output, by have := h.size; simp; omega, fun k hk hn => (Below.heap_alloc _ _ _ (Nat.lt_of_lt_of_le hk h.size)).trans (h.block k hk hn)⟩
theorem But.setG (h : But g a w) (i : Nat) (v : Value) : But g a (w.setCell ⟨g, i, none⟩ v) :=
  ⟨h.os, h.tape, h.output, by have := h.size; simp [World.setCell]; omega, fun k hk hn => (Below.heap_setCell _ _ _ _ hn).trans (h.block k hk hn)⟩
theorem But.setNew (h : But g a w) (p : Addr) (hp : a.heap.size ≤ p.block) (v : Value) : But g a (w.setCell p v) :=
  ⟨h.os, h.tape, h.output, by have := h.size; simp [World.setCell]; omega, fun k hk hn => (Below.heap_setCell _ _ _ _ (by omega)).trans (h.block k hk hn)⟩
theorem But.drewN (h : But g a w) (n : Nat) : But g a (w.drewN n) := ⟨h.os, h.tape, h.output, h.size, h.block⟩
theorem But.below {B : Nat} {b : World} (h : Below B b a) (hg : B ≤ g) (hB : B ≤ a.heap.size) (k : But g a w) : Below B b w :=
  h.trans ⟨k.os, k.tape, k.output, k.size, fun i hi => k.block i (by omega) (by omega)⟩
theorem But.of_below (h : Below a.heap.size a w) : But g a w := ⟨h.os, h.tape, h.output, h.size, fun k hk _ => h.block k hk⟩
theorem But.then {b : World} (h : But g a b) (k : But g b w) : But g a w :=
  ⟨k.os.trans h.os, k.tape.trans h.tape, k.output.trans h.output, Nat.le_trans h.size k.size, fun i hi hn => (k.block i (Nat.lt_of_lt_of_le hi h.size) hn).trans (h.block i hi hn)⟩
end
section
variable {W : World} {g : Nat} {c : Cur}
theorem Rd.alloc (h : Rd W g c) (o : Obj) : Rd (W.alloc o) g c := h.keep (below_new o) h.lt
theorem Rd.setOther (h : Rd W g c) (p : Addr) (hp : g ≠ p.block) (v : Value) : Rd (W.setCell p v) g c := (Below.heap_setCell _ _ _ _ hp).trans h
theorem Rd.drewN (h : Rd W g c) (n : Nat) : Rd (W.drewN n) g c := h
theorem Rd.set1 (h : Rd W g c) (x : Int) : Rd (W.setCell ⟨g, 1, none⟩ (.int .i64 x)) g ⟨c.s, x, c.e, c.f⟩ := (Joins.block_setCell h _).trans rfl
theorem Rd.set2 (h : Rd W g c) (x : Int) : Rd (W.setCell ⟨g, 2, none⟩ (.int .i64 x)) g ⟨c.s, c.a, x, c.f⟩ := (Joins.block_setCell h _).trans rfl
theorem Rd.set3 (h : Rd W g c) (x : Int) : Rd (W.setCell ⟨g, 3, none⟩ (.int .i64 x)) g ⟨c.s, c.a, c.e, x⟩ := (Joins.block_setCell h _).trans rfl
end

/-- What bytes does to a cursor, and what it reads. -/
def bytesC (c : Cur) (n : Int) : Cur := if c.e ≠ 0 then c else if n < 0 then ⟨c.s, c.a, 2, c.a⟩ else if (c.s.size : Int) - c.a < n then ⟨c.s, c.a, 5, c.s.size⟩ else ⟨c.s, c.a + n, c.e, c.f⟩
def bytesO (c : Cur) (n : Int) : ByteArray := if c.e ≠ 0 ∨ n < 0 ∨ (c.s.size : Int) - c.a < n then ByteArray.empty else c.s.extract c.a.toNat (c.a + n).toNat
theorem bytes_A {c : Cur} (n : Int) (h : c.e ≠ 0) : bytesC c n = c ∧ bytesO c n = ByteArray.empty := ⟨if_pos h, if_pos (.inl h)⟩
theorem bytes_B {c : Cur} {n : Int} (h : c.e = 0) (h1 : n < 0) : bytesC c n = ⟨c.s, c.a, 2, c.a⟩ ∧ bytesO c n = ByteArray.empty := ⟨by unfold bytesC; rw [if_neg (by omega), if_pos h1], if_pos (.inr (.inl h1))⟩
theorem bytes_C {c : Cur} {n : Int} (h : c.e = 0) (h1 : 0 ≤ n) (h2 : (c.s.size : Int) - c.a < n) : bytesC c n = ⟨c.s, c.a, 5, c.s.size⟩ ∧ bytesO c n = ByteArray.empty :=
  ⟨by unfold bytesC; rw [if_neg (by omega), if_neg (by omega), if_pos h2], if_pos (.inr (.inr h2))⟩
theorem bytes_D {c : Cur} {n : Int} (h : c.e = 0) (h1 : 0 ≤ n) (h2 : n ≤ (c.s.size : Int) - c.a) : bytesC c n = ⟨c.s, c.a + n, c.e, c.f⟩ ∧ bytesO c n = c.s.extract c.a.toNat (c.a + n).toNat :=
  ⟨by unfold bytesC; rw [if_neg (by omega), if_neg (by omega), if_neg (by omega)], if_neg (by omega)⟩

def BytesPost (w : World) (g : Nat) (c : Cur) (n : Int) (r : Ending) (w' : World) : Prop := r = .returned (.string (bytesO c n)) ∧ Rd w' g (bytesC c n) ∧ But g w w'

set_option maxHeartbeats 1600000 in
theorem bytes_any (g : Nat) (c : Cur) (n : Int) (w : World) (hg : Rd w g c) (hc : CurOk c) (hs : c.s.size ≤ 9223372036854775807) (hn : -9223372036854775808 ≤ n ∧ n ≤ 9223372036854775807) :
    Calls Try.prog 110 #[.pointer (some ⟨g, 0, none⟩), .int .i64 n] w (BytesPost w g c n) := by
  have hmf : ∀ (fn : Fn) (first cap : Array Value) (w : World), (Instr.makeFunc fn first cap).run Try.prog w = .ok (.func fn first cap) w := fun _ _ _ _ => rfl
  obtain ⟨s, a, e, f⟩ := c
  have HG := Lib.hid hg
  have h0 := hg.c0
  have h1 := hg.c1
  have h2 := hg.c2
  have h3 := hg.c3
  have f1 := hg.fz 1
  have f2 := hg.fz 2
  have f3 := hg.fz 3
  have hl := hg.lt
  have hA := hc.1
  have hF := Lib.hid hc.2.2.2
  clear hg hc
  simp only at h0 h1 h2 h3 hA hs hF
  have WW : ∀ (x y : Int), Rd ((w.alloc (.cells #[.pointer (some ⟨g, 0, none⟩)] 134)).alloc (.cells #[.int .i64 x, .int .i64 y] 54)) g ⟨s, a, e, f⟩ := fun x y => (HG.out.alloc _).alloc _
  have HWW := Lib.hid WW
  have HBU := Lib.hid (fun (x y : Int) => (((But.refl g w).alloc (.cells #[.pointer (some ⟨g, 0, none⟩)] 134)).alloc (.cells #[.int .i64 x, .int .i64 y] 54)))
  have HP := Lib.hid (fun (x y : Int) => (show ((w.alloc (.cells #[.pointer (some ⟨g, 0, none⟩)] 134)).alloc (.cells #[.int .i64 x, .int .i64 y] 54)).cell? ⟨w.heap.size + 1, 0, none⟩ = some (.int .i64 x) ∧ ((w.alloc (.cells #[.pointer (some ⟨g, 0, none⟩)] 134)).alloc (.cells #[.int .i64 x, .int .i64 y] 54)).cell? ⟨w.heap.size + 1, 1, none⟩ = some (.int .i64 y) ∧ ((w.alloc (.cells #[.pointer (some ⟨g, 0, none⟩)] 134)).alloc (.cells #[.int .i64 x, .int .i64 y] 54)).cell? ⟨w.heap.size, 0, none⟩ = some (.pointer (some ⟨g, 0, none⟩)) from
    ⟨World.cell?_alloc_at _ _ _ _ (by simp), World.cell?_alloc_at _ _ _ _ (by simp), (World.cell?_alloc_lt _ _ _ (by simp)).trans (World.cell?_alloc_at _ _ _ _ rfl)⟩))
  clear WW
  by_cases he : e = 0
  · have t0 : (e != 0) = false := by simp [he]
    have hf : f = 0 := hF.out he
    by_cases hn0 : n < 0
    · have HR := Lib.hid (bytes_B (c := ⟨s, a, e, f⟩) he hn0)
      subst he hf
      go_enter_defers Try.func110, Try.ntmps110
      go_wp2_with fail
      refine (bad_any g 0 _ ((World.cell?_alloc_lt _ _ _ (by simp; omega)).trans ((World.cell?_alloc_lt _ _ _ hl).trans h2))).mono ?_
      rintro r w1 ⟨rfl, rfl⟩
      rw [t0]
      go_wp2
      refine leaves_cons (f := 118) (args := #[.pointer (some ⟨w.heap.size + 1, 0, none⟩), .pointer (some ⟨w.heap.size, 0, none⟩)]) (by simp) (by simp [go_sem]) ?_
      refine (kept_some (w.heap.size + 1) w.heap.size g 2 a .returning _ (HP.out 2 a).1 (HP.out 2 a).2.1 rfl (HP.out 2 a).2.2 (HWW.out 2 a).c2 (HWW.out 2 a).c3 ((HWW.out 2 a).fz 2) ((HWW.out 2 a).fz 3)).mono ?_
      rintro r u' w'' ⟨rfl, rfl, rfl⟩
      refine ⟨_, results_tmp rfl _ _ _, ?_, ?_, ((HBU.out 2 a).setG 2 _).setG 3 _⟩
      · rw [HR.out.2]; rfl
      · rw [HR.out.1]; exact ((HWW.out 2 a).set2 2).set3 a
    · by_cases hn1 : (s.size : Int) - a < n
      · have HR := Lib.hid (bytes_C (c := ⟨s, a, e, f⟩) he (by omega) hn1)
        have HL : Hid (leftC ⟨s, a, e, f⟩ = (s.size : Int) - a) := if_pos he
        have HLA := Lib.hid (fun W (hW : Rd W g ⟨s, a, e, f⟩) => left_any g ⟨s, a, e, f⟩ W hW ⟨hA, ⟨by simp only; omega, by simp only; omega⟩, ⟨by simp only; omega, by simp only; omega⟩, fun _ => hf⟩ hs)
        subst he hf
        go_enter_defers Try.func110, Try.ntmps110
        go_wp2_with fail
        refine (bad_any g 0 _ ((World.cell?_alloc_lt _ _ _ (by simp; omega)).trans ((World.cell?_alloc_lt _ _ _ hl).trans h2))).mono ?_
        rintro r w1 ⟨rfl, rfl⟩
        rw [t0]
        go_wp2_with fail
        refine (HLA.out _ (HWW.out 0 0)).mono ?_
        rintro r w1 ⟨rfl, kq, rfl⟩
        rw [HL.out]
        go_wp2
        obtain ⟨W4, hW4⟩ : ∃ W4, (((((w.alloc (.cells #[.pointer (some ⟨g, 0, none⟩)] 134)).alloc (.cells #[.int .i64 0, .int .i64 0] 54)).drewN kq).setCell ⟨w.heap.size + 1, 0, none⟩ (.int .i64 5)).setCell ⟨w.heap.size + 1, 1, none⟩ (.int .i64 (s.size : Int))) = W4 := ⟨_, rfl⟩
        have hb0 : (((w.alloc (.cells #[.pointer (some ⟨g, 0, none⟩)] 134)).alloc (.cells #[.int .i64 0, .int .i64 0] 54)).drewN kq).heap[w.heap.size + 1]? = some (.cells #[.int .i64 0, .int .i64 0] 54 (0, 0)) := by
          have := heap_alloc_new (w.alloc (.cells #[.pointer (some ⟨g, 0, none⟩)] 134)) (.cells #[.int .i64 0, .int .i64 0] 54)
          rwa [World.size_alloc] at this
        have hb2 := Joins.block_setCell (i := 1) (Joins.block_setCell (i := 0) hb0 (.int .i64 5)) (.int .i64 (s.size : Int))
        have hq2 := (Below.heap_setCell ((((w.alloc (.cells #[.pointer (some ⟨g, 0, none⟩)] 134)).alloc (.cells #[.int .i64 0, .int .i64 0] 54)).drewN kq).setCell ⟨w.heap.size + 1, 0, none⟩ (.int .i64 5)) ⟨w.heap.size + 1, 1, none⟩ (.int .i64 (s.size : Int)) w.heap.size (by simp)).trans (Below.heap_setCell _ _ _ _ (by simp))
        have hR2 := (((HWW.out 0 0).drewN kq).setOther ⟨w.heap.size + 1, 0, none⟩ (by simp; omega) (.int .i64 5)).setOther ⟨w.heap.size + 1, 1, none⟩ (by simp; omega) (.int .i64 (s.size : Int))
        have hU2 := (((HBU.out 0 0).drewN kq).setNew ⟨w.heap.size + 1, 0, none⟩ (by simp) (.int .i64 5)).setNew ⟨w.heap.size + 1, 1, none⟩ (by simp) (.int .i64 (s.size : Int))
        rw [hW4] at hb2 hq2 hR2 hU2 ⊢
        have hq3 : W4.cell? ⟨w.heap.size, 0, none⟩ = some (.pointer (some ⟨g, 0, none⟩)) := (World.cell?_of_block (w := (((w.alloc (.cells #[.pointer (some ⟨g, 0, none⟩)] 134)).alloc (.cells #[.int .i64 0, .int .i64 0] 54)).drewN kq)) hq2).trans (HP.out 0 0).2.2
        refine leaves_cons (f := 118) (args := #[.pointer (some ⟨w.heap.size + 1, 0, none⟩), .pointer (some ⟨w.heap.size, 0, none⟩)]) (by simp) (by simp [go_sem]) ?_
        refine (kept_some (w.heap.size + 1) w.heap.size g 5 s.size .returning _ ((Joins.cell_of_block hb2 0).trans rfl) ((Joins.cell_of_block hb2 1).trans rfl) rfl hq3 hR2.c2 hR2.c3 (hR2.fz 2) (hR2.fz 3)).mono ?_
        rintro r u' w'' ⟨rfl, rfl, rfl⟩
        refine ⟨_, results_tmp rfl _ _ _, ?_, ?_, (hU2.setG 2 _).setG 3 _⟩
        · rw [HR.out.2]; rfl
        · rw [HR.out.1]; exact (hR2.set2 5).set3 s.size
      · have HR := Lib.hid (bytes_D (c := ⟨s, a, e, f⟩) (n := n) he (by omega) (by simp only; omega))
        have HL : Hid (leftC ⟨s, a, e, f⟩ = (s.size : Int) - a) := if_pos he
        have HLA := Lib.hid (fun W (hW : Rd W g ⟨s, a, e, f⟩) => left_any g ⟨s, a, e, f⟩ W hW ⟨hA, ⟨by simp only; omega, by simp only; omega⟩, ⟨by simp only; omega, by simp only; omega⟩, fun _ => hf⟩ hs)
        have hn9 : n ≤ (s.size : Int) - a := by omega
        have hsl : ∀ V, (Instr.slice 9 (.string s) (some (.int .i64 a)) (some (.int .i64 (a + n))) none).run Try.prog V = .ok (.string (s.extract a.toNat (a + n).toNat)) V := fun V => by
          rw [run_slice_string (P := Try.prog) (w := V) 9 s .i64 .i64 a (a + n) Try.underlying9 (by omega) (by omega) (by omega)]
        subst he hf
        go_enter_defers Try.func110, Try.ntmps110
        go_wp2_with fail
        refine (bad_any g 0 _ ((World.cell?_alloc_lt _ _ _ (by simp; omega)).trans ((World.cell?_alloc_lt _ _ _ hl).trans h2))).mono ?_
        rintro r w1 ⟨rfl, rfl⟩
        rw [t0]
        go_wp2_with fail
        refine (HLA.out _ (HWW.out 0 0)).mono ?_
        rintro r w1 ⟨rfl, kq, rfl⟩
        rw [HL.out]
        go_wp2
        go_quiet (fail)
        go_wp2
        refine leaves_cons (f := 118) (args := #[.pointer (some ⟨w.heap.size + 1, 0, none⟩), .pointer (some ⟨w.heap.size, 0, none⟩)]) (by simp) (by simp [go_sem]) ?_
        refine (kept_none (w.heap.size + 1) w.heap.size g .returning _ ((World.cell?_of_block (w := (((w.alloc (.cells #[.pointer (some ⟨g, 0, none⟩)] 134)).alloc (.cells #[.int .i64 0, .int .i64 0] 54)).drewN (kq + nq))) (Below.heap_setCell _ _ _ _ (by simp; omega))).trans (HP.out 0 0).1)).mono ?_
        rintro r u' w'' ⟨rfl, rfl, rfl⟩
        refine ⟨_, results_tmp rfl _ _ _, ?_, ?_, ((HBU.out 0 0).drewN (kq + nq)).setG 1 _⟩
        · rw [HR.out.2]; rfl
        · rw [HR.out.1]; exact ((HWW.out 0 0).drewN (kq + nq)).set1 (a + n)
  · have t0 : (e != 0) = true := by simp [he]
    have HR := Lib.hid (bytes_A (c := ⟨s, a, e, f⟩) n he)
    clear he
    go_enter_defers Try.func110, Try.ntmps110
    go_wp2_with fail
    refine (bad_any g e _ ((World.cell?_alloc_lt _ _ _ (by simp; omega)).trans ((World.cell?_alloc_lt _ _ _ hl).trans h2))).mono ?_
    rintro r w1 ⟨rfl, rfl⟩
    rw [t0]
    go_wp2
    refine leaves_cons (f := 118) (args := #[.pointer (some ⟨w.heap.size + 1, 0, none⟩), .pointer (some ⟨w.heap.size, 0, none⟩)]) (by simp) (by simp [go_sem]) ?_
    refine (kept_none (w.heap.size + 1) w.heap.size g .returning _ (HP.out 0 0).1).mono ?_
    rintro r u' w'' ⟨rfl, rfl, rfl⟩
    refine ⟨_, results_tmp rfl _ _ _, ?_, ?_, HBU.out 0 0⟩
    · rw [HR.out.2]; rfl
    · rw [HR.out.1]; exact HWW.out 0 0

end Go.Proofs.Ytfdbkpbgkpkckaa
