/-
  Strings made of the bytes of a number; different ones have different checksums. No walk here but the run of two operations.
-/
import Derived.Test.YtboajmnckldmiaaXxhInj
import Derived.Laws.BytesArg
namespace Go.Proofs.Ytboajmnckldmiaa
open Go.RowKit
set_option linter.unusedVariables false
set_option maxRecDepth 100000

theorem short_sum (s : ByteArray) (sd : Int) (h : s.size < 32) : seededV s sd = finV (restV (addV (addV sd pE) s.size) s) := by
  unfold seededV sumV endV
  rw [stripV_lt _ _ h, if_neg (by omega)]
theorem rd_u {s : ByteArray} {k : Nat} (hk : k ≤ 8) : U (rd s 0 k) := by
  have h := rd_lo s 0 k
  have := pow256_le hk
  unfold U
  have e : (256 : Int) ^ 8 = 18446744073709551616 := by decide
  omega
theorem apart8 {s t : ByteArray} {sd : Int} (hs : s.size = 8) (ht : t.size = 8) (e : seededV s sd = seededV t sd) : rd s 0 8 = rd t 0 8 := by
  rw [short_sum s sd (by omega), short_sum t sd (by omega), hs, ht, restV_8 _ s (by omega), restV_8 _ t (by omega), restV_0 _ (s.extract 8 s.size) (by rw [ByteArray.size_extract]; omega), restV_0 _ (t.extract 8 t.size) (by rw [ByteArray.size_extract]; omega)] at e
  exact rest8_inj (rd_u (by omega)) (rd_u (by omega)) (finV_inj (rest8_in _ _) (rest8_in _ _) e)
theorem apart4 {s t : ByteArray} {sd : Int} (hs : s.size = 4) (ht : t.size = 4) (e : seededV s sd = seededV t sd) : rd s 0 4 = rd t 0 4 := by
  rw [short_sum s sd (by omega), short_sum t sd (by omega), hs, ht, restV_4 _ s (by omega) (by omega), restV_4 _ t (by omega) (by omega), restV_0 _ (s.extract 4 s.size) (by rw [ByteArray.size_extract]; omega), restV_0 _ (t.extract 4 t.size) (by rw [ByteArray.size_extract]; omega)] at e
  exact rest4_inj (rd_u (by omega)) (rd_u (by omega)) (finV_inj (rest4_in _ _) (rest4_in _ _) e)
theorem apart1 {s t : ByteArray} {sd : Int} (hs : s.size = 1) (ht : t.size = 1) (e : seededV s sd = seededV t sd) : rd s 0 1 = rd t 0 1 := by
  have b : ∀ s : ByteArray, U (sb s 0) := fun s => by have := sb_lo s 0; unfold U; omega
  rw [short_sum s sd (by omega), short_sum t sd (by omega), hs, ht, restV_1 _ s (by omega) (by omega), restV_1 _ t (by omega) (by omega), restV_0 _ (s.extract 1 s.size) (by rw [ByteArray.size_extract]; omega), restV_0 _ (t.extract 1 t.size) (by rw [ByteArray.size_extract]; omega)] at e
  have := rest1_inj (b s) (b t) (finV_inj (rest1_in _ _) (rest1_in _ _) e)
  simp only [rd, Nat.zero_add]
  rw [this]
theorem rd_bytes {s t : ByteArray} : ∀ k, rd s 0 k = rd t 0 k → ∀ i, i < k → sb s i = sb t i
  | 0, _, i, hi => by omega
  | k + 1, e, i, hi => by
    have h1 := rd_lo s 0 k
    have h2 := rd_lo t 0 k
    simp only [rd, Nat.zero_add] at e
    have hp : (0 : Int) < 256 ^ k := Int.pow_pos (by decide)
    have m1 : (rd s 0 k + sb s k * 256 ^ k) % 256 ^ k = rd s 0 k := by rw [Int.add_mul_emod_self_right, Int.emod_eq_of_lt h1.1 h1.2]
    have m2 : (rd t 0 k + sb t k * 256 ^ k) % 256 ^ k = rd t 0 k := by rw [Int.add_mul_emod_self_right, Int.emod_eq_of_lt h2.1 h2.2]
    have e0 : rd s 0 k = rd t 0 k := by rw [← m1, ← m2, e]
    rcases Nat.lt_or_ge i k with hk | hk
    · exact rd_bytes k e0 i hk
    · obtain rfl : i = k := by omega
      exact Int.eq_of_mul_eq_mul_right (by omega) (by omega : sb s i * 256 ^ i = sb t i * 256 ^ i)
theorem rd_inj {s t : ByteArray} (n : Nat) (hs : s.size = n) (ht : t.size = n) (e : rd s 0 n = rd t 0 n) : s = t := by
  apply ByteArray.ext
  apply Array.ext'
  have ls : s.data.toList.length = n := by simpa using hs
  have lt : t.data.toList.length = n := by simpa using ht
  refine List.ext_getElem (by omega) fun i h1 h2 => ?_
  have hb := rd_bytes n e i (by omega)
  unfold sb at hb
  rw [List.getD_eq_getElem?_getD, List.getD_eq_getElem?_getD, List.getElem?_eq_getElem h1, List.getElem?_eq_getElem h2] at hb
  simp only [Option.getD_some] at hb
  exact UInt8.toNat_inj.1 (by omega)
theorem apart {s t : ByteArray} {sd : Int} (n : Nat) (hn : n = 1 ∨ n = 4 ∨ n = 8) (hs : s.size = n) (ht : t.size = n) (e : seededV s sd = seededV t sd) : s = t := by
  rcases hn with rfl | rfl | rfl
  · exact rd_inj 1 hs ht (apart1 hs ht e)
  · exact rd_inj 4 hs ht (apart4 hs ht e)
  · exact rd_inj 8 hs ht (apart8 hs ht e)

/-- The k lowest bytes of a number, the lowest one first. -/
def leB (n : Int) (k : Nat) : List Int := (List.range k).map fun i => n / 2 ^ (8 * i) % 256
theorem leB_succ (n : Int) (k : Nat) : leB n (k + 1) = leB n k ++ [n / 2 ^ (8 * k) % 256] := by simp [leB, List.range_succ]
def sOf (n : Int) (k : Nat) : ByteArray := strOfNums (leB n k)
theorem sOf_size (n : Int) (k : Nat) : (sOf n k).size = k := by unfold sOf; rw [strOfNums_size]; simp [leB]
theorem sOf_zero (n : Int) : sOf n 0 = ⟨#[]⟩ := rfl
theorem run_add_byte {P : Program} (n : Int) (k : Nat) (hk : k ≤ 8) (w : World) :
    (Op.stringOp .add (sOf n k) (strOfNums [n / 2 ^ (8 * k) % 256])).run P w = .ok (.string (sOf n (k + 1))) w := by
  rw [run_string_add_sum w _ _ (by rw [sOf_size, strOfNums_size]; simp; omega)]
  unfold sOf
  rw [leB_succ]
  unfold strOfNums
  rw [ByteArray.mk_append_mk, List.map_append]
theorem conv_one (x : Int) (w : World) :
    (convert 66 9 (.slice (some ⟨w.heap.size, 0, none⟩) 1 1)).run Try.prog (w.alloc (.cells #[.int .u8 x] 5)) = .ok (.string (strOfNums [x])) (w.alloc (.cells #[.int .u8 x] 5)) := by
  refine run_convert_bytes_arg _ 66 5 Try.underlying66 Try.underlying5 w.heap.size 0 1 1 [x] rfl (fun i hi => ?_) _ Try.underlying9
  obtain rfl : i = 0 := by omega
  rw [World.cell?_alloc_at _ _ _ _ rfl]
  rfl

end Go.Proofs.Ytboajmnckldmiaa
