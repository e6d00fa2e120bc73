/-
  Small helpers for regions that draw their order beside calls that make memory. No program here.
-/
import Derived.Test.YtfdbkpbgkpkckaaCommon
import Derived.Test.YtfdbkpbgkpkckaaSlices
namespace Go.Proofs.Ytfdbkpbgkpkckaa
open Go.RowKit

theorem below_drew {B : Nat} {a b : World} (h : Below B a b) : Below B a b.drew := ⟨h.os, h.tape, h.output, h.size, h.block⟩
theorem below_new {w : World} (o : Obj) : Below w.heap.size w (w.alloc o) := (Below.refl _ _).alloc (Nat.le_refl _) _

/-- A cell of a slice, in every later world. -/
theorem SliceAt.cell_all {k : IntKind} {w : World} {B : Nat} {b off : Nat} {xs : List Int} (h : SliceAt k w B (some ⟨b, off, none⟩) xs) {j : Nat} {x : Int} (hx : xs[j]? = some x) :
    ∀ V : World, Below B w V → V.cell? ⟨b, off + j, none⟩ = some (.int k x) := fun V hV => by
  have hj : j < xs.length := by
    rcases Nat.lt_or_ge j xs.length with h | h
    · exact h
    · rw [List.getElem?_eq_none h] at hx; cases hx
  obtain ⟨b4, off4, x4, he4, hx4, hc4⟩ := (h.below hV).get hj
  injection he4 with he4
  injection he4 with h1 h2 _
  subst h1 h2
  rw [hx] at hx4
  injection hx4 with hx4
  subst hx4
  exact hc4

end Go.Proofs.Ytfdbkpbgkpkckaa
