/-
  Cursors as values; the walks of cursor.valid, cursor.of and of the reader's small methods.
-/
import Derived.Test.YtfdbkpbgkpkckaaRows
import Derived.Test.YtfdbkpbgkpkckaaCommon
import Derived.WalkLawsBesides
import Derived.Lib.SmallJoins
import Derived.Deep.QuietTactic
import Derived.BigQuiet
import Derived.Defers
namespace Go.Proofs.Ytfdbkpbgkpkckaa
open Go.RowKit
set_option linter.unusedVariables false
set_option maxRecDepth 100000

/-- A cursor. -/
structure Cur where
  s : ByteArray
  a : Int
  e : Int
  f : Int
def Cur.val (c : Cur) : Value := .agg #[.string c.s, .int .i64 c.a, .int .i64 c.e, .int .i64 c.f]
def insB (s : ByteArray) (x : Int) : Bool := decide (0 ≤ x ∧ x ≤ (s.size : Int))
theorem insB_yes {s : ByteArray} {x : Int} (h : 0 ≤ x ∧ x ≤ (s.size : Int)) : insB s x = true := by simp [insB, h]
theorem insB_no {s : ByteArray} {x : Int} (h : ¬ (0 ≤ x ∧ x ≤ (s.size : Int))) : insB s x = false := by simp only [insB, decide_eq_false_iff_not]; exact h
def CurOk (c : Cur) : Prop := (0 ≤ c.a ∧ c.a ≤ (c.s.size : Int)) ∧ (0 ≤ c.e ∧ c.e ≤ 31) ∧ (0 ≤ c.f ∧ c.f ≤ (c.s.size : Int)) ∧ (c.e = 0 → c.f = 0)
instance (c : Cur) : Decidable (CurOk c) := by unfold CurOk; infer_instance
def okB (c : Cur) : Bool := decide (CurOk c)
def emptyCur : Cur := ⟨ByteArray.empty, 0, 10, 0⟩
/-- What a cursor counts as. -/
def rightC (c : Cur) : Cur := if CurOk c then c else emptyCur
theorem rightC_ok (c : Cur) : CurOk (rightC c) := by
  unfold rightC
  split
  · assumption
  · exact ⟨⟨by decide, by decide⟩, ⟨by decide, by decide⟩, ⟨by decide, by decide⟩, fun h => by cases h⟩
theorem rightC_size (c : Cur) : (rightC c).s.size ≤ c.s.size := by
  unfold rightC
  split
  · exact Nat.le_refl _
  · exact Nat.zero_le _

theorem inside_any (s : ByteArray) (x : Int) (g : Nat) (w : World) (hs : s.size ≤ 9223372036854775807) (hc : w.cell? ⟨g, 0, none⟩ = some (.string s)) :
    Calls Try.prog 125 #[.int .i64 x, .pointer (some ⟨g, 0, none⟩)] w fun e w' => e = .returned (.bool (insB s x)) ∧ w = w' := by
  by_cases h0 : 0 ≤ x
  · by_cases h1 : x ≤ (s.size : Int)
    · have HR := Lib.hid (insB_yes (s := s) ⟨h0, h1⟩)
      go_enter Try.func125, Try.ntmps125
      go_wp2
      go_ret
      exact ⟨ret_bool (by rw [HR.out]), rfl⟩
    · have HR := Lib.hid (insB_no (s := s) (x := x) (by omega))
      go_enter Try.func125, Try.ntmps125
      go_wp2
      go_ret
      exact ⟨ret_bool (by first | rw [HR.out] | (rw [HR.out]; simpa using h1)), rfl⟩
  · have HR := Lib.hid (insB_no (s := s) (x := x) (by omega))
    have h0' : decide (0 ≤ x) = false := by simpa using h0
    go_enter Try.func125, Try.ntmps125
    go_wp2
    go_ret
    exact ⟨ret_bool (by rw [HR.out]), rfl⟩

set_option maxHeartbeats 1600000 in
theorem valid_any (s : ByteArray) (a e f : Int) (w : World) (hs : s.size ≤ 9223372036854775807) :
    Calls Try.prog 117 #[.agg #[.string s, .int .i64 a, .int .i64 e, .int .i64 f]] w fun r w' => r = .returned (.bool (okB ⟨s, a, e, f⟩)) ∧ Below w.heap.size w w' := by
  have HI := Lib.hid (fun (x : Int) (g : Nat) (W : World) (hc : W.cell? ⟨g, 0, none⟩ = some (.string s)) => inside_any s x g W hs hc)
  have HY := Lib.hid (fun (h : CurOk ⟨s, a, e, f⟩) => (show okB ⟨s, a, e, f⟩ = true by simp [okB, h]))
  have HN := Lib.hid (fun (h : ¬ CurOk ⟨s, a, e, f⟩) => (show okB ⟨s, a, e, f⟩ = false by simp only [okB, decide_eq_false_iff_not]; exact h))
  by_cases h0 : e = 0
  · have t0 : (e == 0) = true := by simp [h0]
    have hc0 := World.cell?_alloc_at (w := w) (#[.string s, .int .i64 a, .int .i64 e, .int .i64 f]) 93 w.heap.size 0 rfl
    by_cases hA : 0 ≤ a ∧ a ≤ (s.size : Int)
    · have HA := Lib.hid (insB_yes hA)
      by_cases h1 : f = 0
      · have HR := Lib.hid (HY.out ⟨hA, ⟨by simp only; omega, by simp only; omega⟩, ⟨by simp only; omega, by simp only; omega⟩, fun _ => h1⟩)
        have t1 : (f == 0) = true := by simp [h1]
        clear h0 h1 hA
        go_enter Try.func117, Try.ntmps117
        go_wp2_with fail
        refine (HI.out a w.heap.size _ (World.cell?_alloc_at _ _ _ _ rfl)).mono ?_
        rintro r w1 ⟨rfl, rfl⟩
        rw [HA.out]
        go_wp2
        go_ret
        exact ⟨ret_bool (by rw [HR.out]), (Below.refl _ _).alloc (Nat.le_refl _) _⟩
      · have HR := Lib.hid (HN.out (fun h => h1 (h.2.2.2 h0)))
        have t1 : (f == 0) = false := by simp [h1]
        clear h0 h1 hA
        go_enter Try.func117, Try.ntmps117
        go_wp2_with fail
        refine (HI.out a w.heap.size _ (World.cell?_alloc_at _ _ _ _ rfl)).mono ?_
        rintro r w1 ⟨rfl, rfl⟩
        rw [HA.out]
        go_wp2
        go_ret
        exact ⟨ret_bool (by rw [HR.out]), (Below.refl _ _).alloc (Nat.le_refl _) _⟩
    · have HA := Lib.hid (insB_no hA)
      have HR := Lib.hid (HN.out (fun h => hA h.1))
      clear h0 hA
      go_enter Try.func117, Try.ntmps117
      go_wp2_with fail
      refine (HI.out a w.heap.size _ (World.cell?_alloc_at _ _ _ _ rfl)).mono ?_
      rintro r w1 ⟨rfl, rfl⟩
      rw [HA.out]
      go_wp2
      go_ret
      exact ⟨ret_bool (by rw [HR.out]), (Below.refl _ _).alloc (Nat.le_refl _) _⟩
  · have t0 : (e == 0) = false := by simp [h0]
    by_cases hA : 0 ≤ a ∧ a ≤ (s.size : Int)
    · have HA := Lib.hid (insB_yes hA)
      by_cases h1 : 1 ≤ e
      · by_cases h2 : e ≤ 31
        · by_cases hF : 0 ≤ f ∧ f ≤ (s.size : Int)
          · have HF := Lib.hid (insB_yes hF)
            have HR := Lib.hid (HY.out ⟨hA, ⟨by simp only; omega, h2⟩, hF, fun h => absurd h h0⟩)
            clear h0 hA hF
            go_enter Try.func117, Try.ntmps117
            go_wp2_with fail
            refine (HI.out a w.heap.size _ (World.cell?_alloc_at _ _ _ _ rfl)).mono ?_
            rintro r w1 ⟨rfl, rfl⟩
            rw [HA.out]
            go_wp2_with fail
            refine (HI.out f w.heap.size _ (World.cell?_alloc_at _ _ _ _ rfl)).mono ?_
            rintro r w1 ⟨rfl, rfl⟩
            rw [HF.out]
            go_wp2
            go_ret
            exact ⟨ret_bool (by rw [HR.out]), (Below.refl _ _).alloc (Nat.le_refl _) _⟩
          · have HF := Lib.hid (insB_no hF)
            have HR := Lib.hid (HN.out (fun h => hF h.2.2.1))
            clear h0 hA hF
            go_enter Try.func117, Try.ntmps117
            go_wp2_with fail
            refine (HI.out a w.heap.size _ (World.cell?_alloc_at _ _ _ _ rfl)).mono ?_
            rintro r w1 ⟨rfl, rfl⟩
            rw [HA.out]
            go_wp2_with fail
            refine (HI.out f w.heap.size _ (World.cell?_alloc_at _ _ _ _ rfl)).mono ?_
            rintro r w1 ⟨rfl, rfl⟩
            rw [HF.out]
            go_wp2
            go_ret
            exact ⟨ret_bool (by rw [HR.out]), (Below.refl _ _).alloc (Nat.le_refl _) _⟩
        · have h2' : decide (e ≤ 31) = false := by simpa using h2
          have HR := Lib.hid (HN.out (fun h => h2 h.2.1.2))
          clear h0 hA
          go_enter Try.func117, Try.ntmps117
          go_wp2_with fail
          refine (HI.out a w.heap.size _ (World.cell?_alloc_at _ _ _ _ rfl)).mono ?_
          rintro r w1 ⟨rfl, rfl⟩
          rw [HA.out]
          go_wp2
          go_ret
          exact ⟨ret_bool (by rw [HR.out]), (Below.refl _ _).alloc (Nat.le_refl _) _⟩
      · have h1' : decide (1 ≤ e) = false := by simpa using h1
        have HR := Lib.hid (HN.out (fun h => by have := h.2.1.1; simp only at this; omega))
        clear h0 hA
        go_enter Try.func117, Try.ntmps117
        go_wp2_with fail
        refine (HI.out a w.heap.size _ (World.cell?_alloc_at _ _ _ _ rfl)).mono ?_
        rintro r w1 ⟨rfl, rfl⟩
        rw [HA.out]
        go_wp2
        go_ret
        exact ⟨ret_bool (by rw [HR.out]), (Below.refl _ _).alloc (Nat.le_refl _) _⟩
    · have HA := Lib.hid (insB_no hA)
      have HR := Lib.hid (HN.out (fun h => hA h.1))
      clear h0 hA
      go_enter Try.func117, Try.ntmps117
      go_wp2_with fail
      refine (HI.out a w.heap.size _ (World.cell?_alloc_at _ _ _ _ rfl)).mono ?_
      rintro r w1 ⟨rfl, rfl⟩
      rw [HA.out]
      go_wp2
      go_ret
      exact ⟨ret_bool (by rw [HR.out]), (Below.refl _ _).alloc (Nat.le_refl _) _⟩

/-- A reader: a block that holds a cursor. -/
def Rd (W : World) (g : Nat) (c : Cur) : Prop := W.heap[g]? = some (.cells #[.string c.s, .int .i64 c.a, .int .i64 c.e, .int .i64 c.f] 139 (0, 0))
section
variable {W W' : World} {g : Nat} {c : Cur}
theorem Rd.c0 (h : Rd W g c) : W.cell? ⟨g, 0, none⟩ = some (.string c.s) := (Joins.cell_of_block h 0).trans rfl
theorem Rd.c1 (h : Rd W g c) : W.cell? ⟨g, 1, none⟩ = some (.int .i64 c.a) := (Joins.cell_of_block h 1).trans rfl
theorem Rd.c2 (h : Rd W g c) : W.cell? ⟨g, 2, none⟩ = some (.int .i64 c.e) := (Joins.cell_of_block h 2).trans rfl
theorem Rd.c3 (h : Rd W g c) : W.cell? ⟨g, 3, none⟩ = some (.int .i64 c.f) := (Joins.cell_of_block h 3).trans rfl
theorem Rd.fz (h : Rd W g c) (i : Nat) : W.frozen? ⟨g, i, none⟩ = false := Joins.unfrozen_of_block h i
theorem Rd.lt (h : Rd W g c) : g < W.heap.size := by
  rcases Nat.lt_or_ge g W.heap.size with h' | h'
  · exact h'
  · unfold Rd at h; rw [Array.getElem?_eq_none h'] at h; cases h
theorem Rd.keep {B : Nat} (h : Rd W g c) (hb : Below B W W') (hg : g < B) : Rd W' g c := (hb.block g hg).trans h
theorem Rd.new (W : World) (c : Cur) : Rd (W.alloc (.cells #[.string c.s, .int .i64 c.a, .int .i64 c.e, .int .i64 c.f] 139)) W.heap.size c := heap_alloc_new _ _
end

end Go.Proofs.Ytfdbkpbgkpkckaa
