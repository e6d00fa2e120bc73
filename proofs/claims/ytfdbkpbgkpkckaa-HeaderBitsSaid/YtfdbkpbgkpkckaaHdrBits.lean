/-
  A string's bytes in a block of their own, one of them changed. No program here.
-/
import Derived.Test.YtfdbkpbgkpkckaaHdrMadeW
import Derived.Laws.IdiomStrings
namespace Go.Proofs.Ytfdbkpbgkpkckaa
open Go.RowKit
set_option linter.unusedVariables false
set_option maxRecDepth 100000

theorem ReadsB.set {W : World} {g : Nat} {xs : List Int} (h : ReadsB W g xs) (k : Nat) (hk : k < xs.length) (v : Int) : ReadsB (W.setCell ⟨g, k, none⟩ (.int .u8 v)) g (xs.set k v) := by
  intro i hi
  rw [List.length_set] at hi
  rw [List.getD_eq_getElem?_getD, List.getElem?_set]
  by_cases e : k = i
  · subst e
    rw [if_pos rfl, if_pos hk, World.cell?_setCell_same _ _ _ (h k hk)]
    rfl
  · rw [if_neg e, ← List.getD_eq_getElem?_getD, World.cell?_setCell_other _ _ _ _ (by intro hh; injection hh with _ h2 _; exact e h2)]
    exact h i hi

/-- '[]byte(s)': a new block, whose first cells read as the string's bytes. -/
theorem conv_bytes {P : Program} (w : World) (src dst e : TypeId) (s : ByteArray) (hs : P.underlying src = some .string) (hd : P.underlying dst = some (.slice e)) (he : P.underlying e = some (.int .u8)) :
    ∃ cap w', (convert src dst (.string s)).run P w = .ok (.slice (some ⟨w.heap.size, 0, none⟩) s.size cap) w' ∧ ReadsB w' w.heap.size (numsB s) ∧ (∀ j, j < s.size → w'.frozen? ⟨w.heap.size, j, none⟩ = false) ∧ Below w.heap.size w w' ∧ w'.heap.size = w.heap.size + 1 := by
  have hr := run_bytes_of_string (P := P) w src dst e s hs hd he
  refine ⟨_, _, hr, fun j hj => ?_, fun j hj => ?_, (below_drew (Below.refl _ _)).alloc (Nat.le_refl _) _, by simp⟩
  · rw [numsB_len] at hj
    refine Eq.trans (World.cell?_alloc_mark w.drew _ e _ j) ?_
    rw [bytesRow_at s _ j hj, numsB_get s j hj, ← sb_get s j hj]
    rfl
  · refine Eq.trans (World.frozen?_alloc_mark w.drew _ e _ _ j) ?_
    have hsz : s.size ≤ (bytesRow s (grownCap w s.size 0 e)).size := by
      unfold bytesRow
      rw [Array.size_append, Array.size_map]
      exact Nat.le_add_right _ _
    rw [decide_eq_false (by omega), Bool.false_and]

end Go.Proofs.Ytfdbkpbgkpkckaa
