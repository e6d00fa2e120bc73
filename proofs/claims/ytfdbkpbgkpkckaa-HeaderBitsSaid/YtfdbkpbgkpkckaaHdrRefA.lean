/-
  The reference's Read returns what header.Read returns.
-/
import Derived.Test.YtfdbkpbgkpkckaaHdrRefL
import Derived.Test.YtfdbkpbgkpkckaaHdrRefM
namespace Go.Proofs.Ytfdbkpbgkpkckaa
open Go.RowKit
set_option linter.unusedVariables false

theorem rhread_any (s : ByteArray) (x : Int) (w : World) (hs : s.size ≤ 4611686018427387904) :
    Calls Try.prog 37 #[.string s, .int .i64 x] w fun r w' => r = .returned (readR s x) ∧ Below w.heap.size w w' := by
  rw [read_eq]
  by_cases hx : 0 ≤ x ∧ x ≤ (s.size : Int)
  · obtain ⟨a, rfl⟩ : ∃ a : Nat, x = a := ⟨x.toNat, by omega⟩
    by_cases h5 : s.size < a + 5
    · exact rhread_short s a w hs (by omega) h5
    · by_cases hsg : sgV (sb s (a + 4)) = true
      · exact rhread_long_t s a w hs (by omega) hsg
      · exact rhread_long_f s a w hs (by omega) (by simpa using hsg)
  · exact rhread_bad s x w hs hx

end Go.Proofs.Ytfdbkpbgkpkckaa
