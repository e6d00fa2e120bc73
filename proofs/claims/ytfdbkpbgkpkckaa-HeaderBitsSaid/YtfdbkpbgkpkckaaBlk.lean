/-
  A block of cells, known whole. No program here.
-/
import Derived.Test.YtfdbkpbgkpkckaaCommon
import Derived.Test.YtfdbkpbgkpkckaaRegions
import Derived.Lib.SmallJoins
import Derived.Laws.Rows
namespace Go.Proofs.Ytfdbkpbgkpkckaa
open Go.RowKit
set_option linter.unusedVariables false

/-- Block g of the world holds these cells. -/
def Blk (T : TypeId) (W : World) (g : Nat) (cs : Array Value) : Prop := W.heap[g]? = some (.cells cs T (0, 0))
section
variable {T : TypeId} {W W' : World} {g B : Nat} {cs : Array Value}
theorem Blk.cell (H : Blk T W g cs) (i : Nat) {v : Value} (h : cs[i]? = some v) : W.cell? ⟨g, i, none⟩ = some v := (Joins.cell_of_block H i).trans h
theorem Blk.fz (H : Blk T W g cs) (i : Nat) : W.frozen? ⟨g, i, none⟩ = false := Joins.unfrozen_of_block H i
theorem Blk.lt (H : Blk T W g cs) : g < W.heap.size := by
  rcases Nat.lt_or_ge g W.heap.size with h' | h'
  · exact h'
  · unfold Blk at H; rw [Array.getElem?_eq_none h'] at H; cases H
theorem Blk.keep (H : Blk T W g cs) (hb : Below B W W') (hg : g < B) : Blk T W' g cs := (hb.block g hg).trans H
theorem Blk.keep' (H : Blk T W g cs) (hb : Below W.heap.size W W') : Blk T W' g cs := (hb.block g H.lt).trans H
theorem Blk.new (W : World) (cs : Array Value) (T : TypeId) : Blk T (W.alloc (.cells cs T)) W.heap.size cs := heap_alloc_new W _
theorem Blk.alloc (H : Blk T W g cs) (o : Obj) : Blk T (W.alloc o) g cs := H.keep (below_new o) H.lt
theorem Blk.drew (H : Blk T W g cs) : Blk T W.drew g cs := H
theorem Blk.drewN (H : Blk T W g cs) (n : Nat) : Blk T (W.drewN n) g cs := H
theorem Blk.set (H : Blk T W g cs) (i : Nat) (v : Value) : Blk T (W.setCell ⟨g, i, none⟩ v) g (cs.set! i v) := Joins.block_setCell H v
theorem Blk.other (H : Blk T W g cs) (p : Addr) (hp : g ≠ p.block) (v : Value) : Blk T (W.setCell p v) g cs := (Below.heap_setCell _ _ _ _ hp).trans H
end

end Go.Proofs.Ytfdbkpbgkpkckaa
