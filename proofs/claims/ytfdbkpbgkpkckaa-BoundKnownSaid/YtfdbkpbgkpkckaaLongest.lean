/-
  The walks of cutter.Longest and of its reference.
-/
import Derived.Test.YtfdbkpbgkpkckaaParCk
namespace Go.Proofs.Ytfdbkpbgkpkckaa
open Go.RowKit
set_option linter.unusedVariables false
set_option maxRecDepth 100000

/-- How many bytes a job has at most. -/
def longV (jb : Int) (sy : Bool) : Int := if sy then 4 * jb else jb
theorem long_yes (jb : Int) : longV jb true = 4 * jb := rfl
theorem long_no (jb : Int) : longV jb false = jb := rfl

theorem par_in {l wd jb ov : Int} (h : ¬ parBad l wd jb ov) : (1 ≤ l ∧ l ≤ 9) ∧ (10 ≤ wd ∧ wd ≤ 27) ∧ (16 ≤ jb ∧ jb ≤ 2097152) ∧ 0 ≤ ov ∧ ov ≤ 9 := by unfold parBad at h; omega

/-- The cells of a box that holds parameters, in every later world. -/
def ParBox (W : World) (g : Nat) (l wd jb ov : Int) (sy ck : Bool) : Prop :=
  W.cell? ⟨g, 0, none⟩ = some (.int .i64 l) ∧ W.cell? ⟨g, 1, none⟩ = some (.int .i64 wd) ∧ W.cell? ⟨g, 2, none⟩ = some (.int .i64 jb) ∧ W.cell? ⟨g, 3, none⟩ = some (.int .i64 ov) ∧ W.cell? ⟨g, 4, none⟩ = some (.bool sy) ∧ W.cell? ⟨g, 5, none⟩ = some (.bool ck)
theorem ParBox.new (W : World) (l wd jb ov : Int) (sy ck : Bool) (t : TypeId) : ParBox (W.alloc (.cells #[.int .i64 l, .int .i64 wd, .int .i64 jb, .int .i64 ov, .bool sy, .bool ck] t)) W.heap.size l wd jb ov sy ck :=
  ⟨World.cell?_alloc_at _ _ _ _ rfl, World.cell?_alloc_at _ _ _ _ rfl, World.cell?_alloc_at _ _ _ _ rfl, World.cell?_alloc_at _ _ _ _ rfl, World.cell?_alloc_at _ _ _ _ rfl, World.cell?_alloc_at _ _ _ _ rfl⟩
theorem ParBox.keep {W W' : World} {g B : Nat} {l wd jb ov : Int} {sy ck : Bool} (h : ParBox W g l wd jb ov sy ck) (hB : Below B W W') (hg : g < B) : ParBox W' g l wd jb ov sy ck := by
  have hc : ∀ o, W'.cell? ⟨g, o, none⟩ = W.cell? ⟨g, o, none⟩ := fun o => hB.cell (p := ⟨g, o, none⟩) hg
  obtain ⟨h0, h1, h2, h3, h4, h5⟩ := h
  exact ⟨(hc 0).trans h0, (hc 1).trans h1, (hc 2).trans h2, (hc 3).trans h3, (hc 4).trans h4, (hc 5).trans h5⟩

set_option maxHeartbeats 800000 in
theorem Longest_bad (l wd jb ov : Int) (sy ck : Bool) (w : World) (h : parBad l wd jb ov) :
    Calls Try.prog 57 #[parV l wd jb ov sy ck] w fun e w' => e = .returned (.tuple #[.int .i64 0, .int .i64 2]) ∧ Below w.heap.size w w' := by
  have HE := Lib.hid (parE_bad h)
  have HC := Lib.hid (fun W => Check_any l wd jb ov sy ck W)
  clear h
  unfold parV at *
  go_enter Try.func57, Try.ntmps57
  go_wp2_with fail
  refine (HC.out _).mono ?_
  rintro e w1 ⟨rfl, hB⟩
  rw [HE.out]
  go_wp2
  go_ret2
  exact ⟨rfl, below_then ((Below.refl _ _).alloc (Nat.le_refl _) _) hB⟩

set_option maxHeartbeats 800000 in
theorem Longest_ok (l wd jb ov : Int) (sy ck : Bool) (w : World) (h : ¬ parBad l wd jb ov) :
    Calls Try.prog 57 #[parV l wd jb ov sy ck] w fun e w' => e = .returned (.tuple #[.int .i64 (longV jb sy), .int .i64 0]) ∧ Below w.heap.size w w' := by
  have HE := Lib.hid (parE_ok h)
  have HC := Lib.hid (fun W => Check_any l wd jb ov sy ck W)
  have hj := (par_in h).2.2.1
  clear h
  cases sy
  all_goals (
    unfold parV at *
    go_enter Try.func57, Try.ntmps57
    go_wp2_with fail
    refine (HC.out _).mono ?_
    rintro e w1 ⟨rfl, hB⟩
    rw [HE.out]
    obtain ⟨p0, p1, p2, p3, p4, p5⟩ := (ParBox.new w l wd jb ov _ ck 24).keep hB (by simp)
    go_wp2
    go_ret2
    exact ⟨rfl, below_then ((Below.refl _ _).alloc (Nat.le_refl _) _) hB⟩)

set_option maxHeartbeats 800000 in
theorem rlongest_any (l wd jb ov : Int) (sy ck : Bool) (w : World) (h : ¬ parBad l wd jb ov) :
    Calls Try.prog 85 #[parV l wd jb ov sy ck] w fun e w' => e = .returned (.int .i64 (longV jb sy)) ∧ Below w.heap.size w w' := by
  have hj := (par_in h).2.2.1
  clear h
  cases sy
  all_goals (
    unfold parV at *
    go_enter Try.func85, Try.ntmps85
    go_wp2
    go_ret
    exact ⟨rfl, (Below.refl _ _).alloc (Nat.le_refl _) _⟩)

set_option maxHeartbeats 800000 in
theorem rLongest_bad (l wd jb ov : Int) (sy ck : Bool) (w : World) (h : parBad l wd jb ov) :
    Calls Try.prog 58 #[parV l wd jb ov sy ck] w fun e w' => e = .returned (.tuple #[.int .i64 0, .int .i64 2]) ∧ Below w.heap.size w w' := by
  have HE := Lib.hid (parE_bad h)
  have HC := Lib.hid (fun W => rCheck_any l wd jb ov sy ck W)
  clear h
  unfold parV at *
  go_enter Try.func58, Try.ntmps58
  go_wp2_with fail
  refine (HC.out _).mono ?_
  rintro e w1 ⟨rfl, hB⟩
  rw [HE.out]
  go_wp2
  go_ret2
  exact ⟨rfl, below_then ((Below.refl _ _).alloc (Nat.le_refl _) _) hB⟩

set_option maxHeartbeats 800000 in
theorem rLongest_ok (l wd jb ov : Int) (sy ck : Bool) (w : World) (h : ¬ parBad l wd jb ov) :
    Calls Try.prog 58 #[parV l wd jb ov sy ck] w fun e w' => e = .returned (.tuple #[.int .i64 (longV jb sy), .int .i64 0]) ∧ Below w.heap.size w w' := by
  have HE := Lib.hid (parE_ok h)
  have HC := Lib.hid (fun W => rCheck_any l wd jb ov sy ck W)
  have HL := Lib.hid (fun W => rlongest_any l wd jb ov sy ck W h)
  clear h
  unfold parV at *
  go_enter Try.func58, Try.ntmps58
  go_wp2_with fail
  refine (HC.out _).mono ?_
  rintro e w1 ⟨rfl, hB⟩
  rw [HE.out]
  obtain ⟨p0, p1, p2, p3, p4, p5⟩ := (ParBox.new w l wd jb ov sy ck 24).keep hB (by simp)
  go_wp2_with fail
  refine (HL.out _).mono ?_
  rintro e w2 ⟨rfl, hB2⟩
  go_wp2
  go_ret2
  exact ⟨rfl, below_then (below_then ((Below.refl _ _).alloc (Nat.le_refl _) _) hB) hB2⟩

end Go.Proofs.Ytfdbkpbgkpkckaa
