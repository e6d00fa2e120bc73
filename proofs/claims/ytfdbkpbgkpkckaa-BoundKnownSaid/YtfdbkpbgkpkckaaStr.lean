/-
  Strings made of byte slices: what the walks need. No program here.
-/
import Derived.WalkKit
import Derived.Laws.BytesArg
import Derived.Laws.OwnMore
namespace Go.Proofs.Ytfdbkpbgkpkckaa
open Go.RowKit

theorem strOfNums_append (a b : List Int) : strOfNums a ++ strOfNums b = strOfNums (a ++ b) := by
  unfold strOfNums
  rw [ByteArray.mk_append_mk, List.map_append]

section
variable {P : Program} {w : World}
theorem run_add_nums (a b : List Int) (h : a.length + b.length ≤ 9223372036854775807) (w : World) :
    (Op.stringOp .add (strOfNums a) (strOfNums b)).run P w = .ok (.string (strOfNums (a ++ b))) w := by
  rw [run_string_add_sum w _ _ (by rw [strOfNums_size, strOfNums_size]; exact h), strOfNums_append]

/-- A row of bytes of the call's own, as a string. -/
theorem conv_own {base : Nat} {t e : TypeId} {v : Value} {n : Nat} {xs : List Int} (ht : P.underlying t = some (.slice e)) (he : P.underlying e = some (.int .u8)) (hn : xs.length = n)
    (hown : w.ownsRow base e 1 v n (xs.map (Value.int .u8))) (dst : TypeId) (hd : P.underlying dst = some .string) : (convert t dst v).run P w = .ok (.string (strOfNums xs)) w := by
  rcases hown.2 with ⟨rfl, h0⟩ | ⟨g, cap, cur, rfl, hg⟩
  · have e : xs = [] := List.eq_nil_of_length_eq_zero (by omega)
    rw [e]
    exact run_convert_bytes_nil _ _ _ ht he 0 0 _ hd
  · refine run_convert_bytes_arg w t e ht he g 0 n cap xs hn (fun i hi => ?_) _ hd
    have := hown.cellAt i (by omega)
    rw [Nat.zero_add, this]
    simp [hi, hn]

/-- One byte in a new block, as a string. -/
theorem conv_one {t e : TypeId} (ht : P.underlying t = some (.slice e)) (he : P.underlying e = some (.int .u8)) (x : Int) (w : World) (dst : TypeId) (hd : P.underlying dst = some .string) :
    (convert t dst (.slice (some ⟨w.heap.size, 0, none⟩) 1 1)).run P (w.alloc (.cells #[.int .u8 x] e)) = .ok (.string (strOfNums [x])) (w.alloc (.cells #[.int .u8 x] e)) := by
  refine run_convert_bytes_arg _ t e ht he w.heap.size 0 1 1 [x] rfl (fun i hi => ?_) _ hd
  obtain rfl : i = 0 := by omega
  rw [World.cell?_alloc_at _ _ _ _ rfl]
  rfl
end

/-- n bytes 0. -/
def zs (n : Nat) : ByteArray := strOfNums (List.replicate n 0)
theorem zs_size (n : Nat) : (zs n).size = n := by unfold zs; rw [strOfNums_size]; simp

theorem conv_zeros {P : Program} {w : World} {base : Nat} {t e : TypeId} {v : Value} {n : Nat} (ht : P.underlying t = some (.slice e)) (he : P.underlying e = some (.int .u8))
    (hown : w.ownsRow base e 1 v n (madeCells (Value.int .u8 0).cells (n * 1)).toList) (dst : TypeId) (hd : P.underlying dst = some .string) : (convert t dst v).run P w = .ok (.string (zs n)) w := by
  refine conv_own (base := base) (n := n) (xs := List.replicate n 0) ht he (by simp) ?_ _ hd
  have e1 : (madeCells (Value.int .u8 0).cells (n * 1)).toList = (List.replicate n (0 : Int)).map (Value.int .u8) := by
    rw [Nat.mul_one]
    show (madeCells #[.int .u8 0] n).toList = _
    rw [toList_madeCells_one]; simp
  rw [← e1]
  exact hown

end Go.Proofs.Ytfdbkpbgkpkckaa
