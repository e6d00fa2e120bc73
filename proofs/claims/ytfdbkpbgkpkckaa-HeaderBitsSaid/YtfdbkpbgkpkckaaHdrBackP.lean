/-
  Plain laws of headers: what is written is read back; what is cut off is short; a bit without a meaning; what is read is valid. No program here.
-/
import Derived.Test.YtfdbkpbgkpkckaaHdrLaw
namespace Go.Proofs.Ytfdbkpbgkpkckaa
open Go.RowKit
set_option linter.unusedVariables false
set_option maxRecDepth 100000

theorem sb_app_left (x y : ByteArray) (i : Nat) (h : i < x.size) : sb (x ++ y) i = sb x i := by
  have h2 : i < (x ++ y).size := by rw [ByteArray.size_append]; omega
  rw [← sb_get _ i h2, ← sb_get _ i h, ByteArray.getElem_append_left h]
theorem sb_app_right (x y : ByteArray) (i : Nat) (h : i < y.size) : sb (x ++ y) (x.size + i) = sb y i := by
  have h2 : x.size + i < (x ++ y).size := by rw [ByteArray.size_append]; omega
  rw [← sb_get _ _ h2, ← sb_get _ i h, ByteArray.getElem_append_right (by omega)]
  simp only [Nat.add_sub_cancel_left]
theorem sb_nums (L : List Int) (hL : ∀ v ∈ L, 0 ≤ v ∧ v ≤ 255) (i : Nat) (h : i < L.length) : sb (strOfNums L) i = L.getD i 0 := by
  unfold sb strOfNums
  simp only [List.getD_eq_getElem?_getD, List.getElem?_map, List.getElem?_eq_getElem h, Option.map_some, Option.getD_some]
  have := hL L[i] (List.getElem_mem h)
  simp only [UInt8.toNat_ofNat']
  omega

/-- What the descriptor says. -/
def DescOk (d k : Int) (i u : Bool) : Prop := 0 ≤ d ∧ d ≤ 255 ∧ d / 64 = k ∧ d % 4 = 0 ∧ rsV d = false ∧ sgV d = i ∧ smV d = u
instance (d k : Int) (i u : Bool) : Decidable (DescOk d k i u) := by unfold DescOk; infer_instance
def topB (k : Int) (i u : Bool) : Int := topD k u + (if i = true then 32 else 0)
theorem top_fin : ∀ k : Fin 4, ∀ i u : Bool, DescOk (topB ((k.val : Nat) : Int) i u) ((k.val : Nat) : Int) i u ∧ DescOk (bits BinOp.xor IntKind.u8 (topB ((k.val : Nat) : Int) i u) 16) ((k.val : Nat) : Int) i u := by decide +kernel
theorem kind_bd (z : Int) (i : Bool) : 0 ≤ kindV z i ∧ kindV z i ≤ 3 := by unfold kindV; split <;> (try split) <;> (try split) <;> omega
theorem top_ok (z : Int) (i u : Bool) : DescOk (topB (kindV z i) i u) (kindV z i) i u ∧ DescOk (bits BinOp.xor IntKind.u8 (topB (kindV z i) i u) 16) (kindV z i) i u := by
  have hb := kind_bd z i
  obtain ⟨k, hk⟩ : ∃ k : Nat, kindV z i = k := ⟨(kindV z i).toNat, by omega⟩
  rw [hk]
  exact top_fin ⟨k, by omega⟩ i u

theorem dictN_zero {d : Int} (h : d % 4 = 0) : dictN d = 0 := by unfold dictN dictL; rw [if_pos h]; rfl
theorem sizeN_fld {d k : Int} {i u : Bool} (h : DescOk d k i u) : sizeN d = fldN k i := by
  obtain ⟨h0, h1, h2, h3, h4, h5, h6⟩ := h
  unfold sizeN sizeL sizeK fldN
  rw [h5, h2]
  have hk : k = 0 ∨ k = 1 ∨ k = 2 ∨ k = 3 := by omega
  rcases hk with h | h | h | h <;> subst h <;> cases i <;> rfl

/-- What a field says, and that it fits. -/
theorem fld_fits {w z : Int} {i : Bool} (h : chkV w z i = 0) : 0 ≤ fldV z (kindV z i) ∨ fldN (kindV z i) i = 0 := by
  have hc := chk_ok h
  unfold kindV
  by_cases h0 : z < 0 ∨ (i = true ∧ z < 256)
  · rw [if_pos h0]
    cases i
    · exact .inr rfl
    · left
      have := hc.2.2.2.2.1 rfl
      show 0 ≤ z
      omega
  · rw [if_neg h0]
    left
    by_cases h1 : 256 ≤ z ∧ z < 65792
    · rw [if_pos h1]; show 0 ≤ z - 256; omega
    · rw [if_neg h1]
      by_cases h2 : z < 4294967296
      · rw [if_pos h2]; show 0 ≤ z; omega
      · rw [if_neg h2]; show 0 ≤ z; omega
theorem fld_lt {w z : Int} {i : Bool} (h : chkV w z i = 0) (hp : 0 < fldN (kindV z i) i) : 0 ≤ fldV z (kindV z i) ∧ fldV z (kindV z i) < 256 ^ fldN (kindV z i) i ∧ 0 ≤ z ∧ z = fldV z (kindV z i) + (if kindV z i = 1 then 256 else 0) := by
  have hc := chk_ok h
  unfold kindV at *
  by_cases h0 : z < 0 ∨ (i = true ∧ z < 256)
  · rw [if_pos h0] at hp ⊢
    cases i
    · exact absurd hp (by decide)
    · have := hc.2.2.2.2.1 rfl
      show 0 ≤ z ∧ z < 256 ^ 1 ∧ 0 ≤ z ∧ z = z + 0
      omega
  · rw [if_neg h0] at hp ⊢
    by_cases h1 : 256 ≤ z ∧ z < 65792
    · rw [if_pos h1]
      show 0 ≤ z - 256 ∧ z - 256 < 256 ^ 2 ∧ 0 ≤ z ∧ z = z - 256 + 256
      omega
    · rw [if_neg h1]
      by_cases h2 : z < 4294967296
      · rw [if_pos h2]
        show 0 ≤ z ∧ z < 256 ^ 4 ∧ 0 ≤ z ∧ z = z + 0
        omega
      · rw [if_neg h2]
        show 0 ≤ z ∧ z < 256 ^ 8 ∧ 0 ≤ z ∧ z = z + 0
        omega
theorem fld_none {w z : Int} {i : Bool} (h : chkV w z i = 0) (hp : fldN (kindV z i) i = 0) : z = -1 ∧ i = false := by
  have hc := chk_ok h
  unfold kindV at hp
  by_cases h0 : z < 0 ∨ (i = true ∧ z < 256)
  · rw [if_pos h0] at hp
    cases i
    · have h1 : z < 0 := by simpa using h0
      exact ⟨by omega, rfl⟩
    · exact absurd hp (by decide)
  · rw [if_neg h0] at hp
    by_cases h1 : 256 ≤ z ∧ z < 65792
    · rw [if_pos h1] at hp; exact absurd hp (by unfold fldN; simp)
    · rw [if_neg h1] at hp
      by_cases h2 : z < 4294967296
      · rw [if_pos h2] at hp; exact absurd hp (by unfold fldN; simp)
      · rw [if_neg h2] at hp; exact absurd hp (by unfold fldN; simp)

theorem rd_field (t : ByteArray) (p : Nat) (n : Int) (hn : 0 ≤ n) (k : Nat) (h : ∀ j, j < k → sb t (p + j) = n / 256 ^ j % 256) : rd t p k = n % 256 ^ k := by
  induction k with
  | zero => simp only [rd]; rw [Int.pow_zero, Int.emod_one]
  | succ k ih =>
    simp only [rd]
    rw [ih (fun j hj => h j (by omega)), h k (by omega)]
    have hp : (0 : Int) < 256 ^ k := Int.pow_pos (by decide)
    have e1 := Int.mul_ediv_add_emod n (256 ^ k)
    have e2 := Int.mul_ediv_add_emod (n / 256 ^ k) 256
    have e3 : n / 256 ^ k / 256 = n / 256 ^ (k + 1) := by rw [Int.ediv_ediv_of_nonneg (by omega), ← Int.pow_succ]
    have e4 := Int.mul_ediv_add_emod n (256 ^ (k + 1))
    rw [e3] at e2
    generalize n / 256 ^ k % 256 = r at *
    generalize n / 256 ^ (k + 1) = q at *
    generalize n / 256 ^ k = q0 at *
    rw [Int.pow_succ] at e4 ⊢
    have e5 : 256 ^ k * 256 * q = 256 ^ k * (256 * q) := Int.mul_assoc _ _ _
    have e6 : 256 ^ k * q0 = 256 ^ k * (256 * q) + 256 ^ k * r := by rw [← e2, Int.mul_add]
    rw [Int.mul_comm r]
    omega

/-- A header is read where its bytes stand. -/
theorem read_made (t : ByteArray) (a : Nat) (w z : Int) (i u : Bool) (d : Int) (hc : chkV w z i = 0) (hd : DescOk d (kindV z i) i u) (hm : magOk t a) (h4 : sb t (a + 4) = d)
    (h5 : i = false → sb t (a + 5) = descV w) (hf : ∀ j, j < fldN (kindV z i) i → sb t (a + 5 + (if i then 0 else 1) + j) = fldV z (kindV z i) / 256 ^ j % 256)
    (hs : a + 5 + (if i then 0 else 1) + fldN (kindV z i) i ≤ t.size) :
    readD t a = ⟨w, z, i, u, ((a + 5 + (if i then 0 else 1) + fldN (kindV z i) i : Nat) : Int), 0, 0⟩ := by
  have hck := chk_ok hc
  have hd' := hd
  obtain ⟨d0, d1, d2, d3, d4, d5, d6⟩ := hd'
  have hD := dictN_zero d3
  have hK := sizeN_fld hd
  unfold readD
  rw [if_pos (by omega), Int.toNat_natCast, if_pos hm, if_neg (by omega), h4, d4, if_neg (by simp)]
  have hnx : nxV a d = a + 5 + (if i then 0 else 1) := by unfold nxV; rw [d5]
  unfold tailD
  rw [hnx, hD, hK, Nat.add_zero, if_neg (by omega), if_neg (by simp [rd])]
  rw [d5, d6]
  have hwin : i = false → windowV (sb t (a + 5)) = w := fun hi => by
    rw [h5 hi]
    rcases descV_spec w (by omega) with h | h
    · have := hck.2.2.2.2.2 hi; omega
    · exact h.2.2
  rw [if_neg (by rintro ⟨hi, hx⟩; rw [hwin hi] at hx; omega)]
  by_cases hp : 0 < fldN (kindV z i) i
  · rw [if_pos hp]
    obtain ⟨f1, f2, f3, f4⟩ := fld_lt hc hp
    have hnum : numV t a d = z := by
      unfold numV
      rw [hnx, hD, hK, Nat.add_zero, rd_field t _ _ f1 _ hf, Int.emod_eq_of_lt f1 f2, d2]
      exact f4.symm
    rw [hnum]
    rw [if_neg (by rintro ⟨hi, hx⟩; have := hck.2.2.2.2.1 hi; omega), if_neg (by omega)]
    cases i
    · rw [if_neg (by simp), hwin rfl]
    · rw [if_pos rfl, hck.2.2.2.2.1 rfl]
  · rw [if_neg hp]
    have hz := fld_none hc (by omega)
    obtain ⟨hz1, hz2⟩ := hz
    rw [hwin hz2, hz1]
    have h0 : fldN (kindV (-1) i) i = 0 := by rw [← hz1]; omega
    rw [h0]
    rfl

/-- What is cut off is short. -/
theorem read_cut (t : ByteArray) (z : Int) (i u : Bool) (d : Int) (hd : DescOk d (kindV z i) i u) (hm : magOk t 0) (h4 : 5 ≤ t.size → sb t 4 = d)
    (hs : t.size < 5 + (if i then 0 else 1) + fldN (kindV z i) i) : readD t 0 = badD 5 t.size := by
  have hd' := hd
  obtain ⟨d0, d1, d2, d3, d4, d5, d6⟩ := hd'
  have hD := dictN_zero d3
  have hK := sizeN_fld hd
  unfold readD
  rw [if_pos (by omega)]
  rw [show (0 : Int).toNat = 0 from rfl, if_pos hm]
  by_cases h5 : t.size < 0 + 5
  · rw [if_pos h5]
  · rw [if_neg h5]
    rw [show 0 + 4 = 4 from rfl, h4 (by omega), d4, if_neg (by simp)]
    have hnx : nxV 0 d = 0 + 5 + (if i then 0 else 1) := by unfold nxV; rw [d5]
    unfold tailD
    rw [hnx, hD, hK, if_pos (by omega)]

end Go.Proofs.Ytfdbkpbgkpkckaa
