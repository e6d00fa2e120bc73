/-
  The walk of header.Read.
-/
import Derived.Test.YtfdbkpbgkpkckaaHdrWindow
import Derived.Test.YtfdbkpbgkpkckaaKit
import Derived.Deep.DeepCutAuto
namespace Go.Proofs.Ytfdbkpbgkpkckaa
open Go.RowKit
set_option linter.unusedVariables false
set_option maxRecDepth 100000
attribute [local go_sem ↓] Go.wp_at_zero Go.wp_at_succ

def hdrVal (w z : Int) (i u : Bool) : Value := .agg #[.int .i64 w, .int .i64 z, .bool i, .bool u]
/-- A fault of Read. -/
def badR (e f : Int) : Value := .tuple #[.agg #[.int .i64 0, .int .i64 0, .bool false, .bool false], .int .i64 0, .agg #[.int .i64 e, .int .i64 f]]
def sgV (d : Int) : Bool := decide (d / 32 % 2 = 1)
def smV (d : Int) : Bool := decide (d / 4 % 2 = 1)
def rsV (d : Int) : Bool := decide (d / 8 % 2 = 1)
def dictL (d : Int) : Int := if d % 4 = 0 then 0 else if d % 4 = 1 then 1 else if d % 4 = 2 then 2 else 4
def sizeK (d : Int) : Int := if d / 64 = 0 then 0 else if d / 64 = 1 then 2 else if d / 64 = 2 then 4 else 8
def sizeL (d : Int) : Int := if sizeK d = 0 ∧ sgV d = true then 1 else sizeK d
theorem bit_fin : ∀ n : Fin 256, (bits BinOp.and IntKind.i64 ((n.val : Nat) : Int) 32 != 0) = sgV ((n.val : Nat) : Int) ∧ (bits BinOp.and IntKind.i64 ((n.val : Nat) : Int) 4 != 0) = smV ((n.val : Nat) : Int) ∧ (bits BinOp.and IntKind.i64 ((n.val : Nat) : Int) 8 != 0) = rsV ((n.val : Nat) : Int) ∧ bits BinOp.and IntKind.i64 ((n.val : Nat) : Int) 3 = ((n.val : Nat) : Int) % 4 := by decide +kernel
theorem bit_all {d : Int} (h : 0 ≤ d ∧ d ≤ 255) : (bits BinOp.and IntKind.i64 d 32 != 0) = sgV d ∧ (bits BinOp.and IntKind.i64 d 4 != 0) = smV d ∧ (bits BinOp.and IntKind.i64 d 8 != 0) = rsV d ∧ bits BinOp.and IntKind.i64 d 3 = d % 4 := by
  obtain ⟨n, rfl⟩ : ∃ n : Nat, d = n := ⟨d.toNat, by omega⟩
  exact bit_fin ⟨n, by omega⟩
theorem dict_run (d : Int) : ∀ V, (Instr.index 101 (.agg #[.int .i64 0, .int .i64 1, .int .i64 2, .int .i64 4]) (.int .i64 (d % 4))).run Try.prog V = .ok (.int .i64 (dictL d)) V := fun V => by
  obtain ⟨k, hk⟩ : ∃ k : Nat, d % 4 = k := ⟨(d % 4).toNat, by omega⟩
  have hk4 : k < 4 := by omega
  obtain ⟨i0, hi, hz0, hz1, hz2⟩ := info_parts Try.infoInt
  unfold dictL
  rw [hk]
  refine run_index_arr (P := Try.prog) V 101 3 4 i0 _ .i64 .i64 k _ Try.underlying101 Try.underlying3 hi hz1 hk4 ?_
  match k, hk4 with
  | 0, _ => rfl
  | 1, _ => rfl
  | 2, _ => rfl
  | 3, _ => rfl
theorem size_run (d : Int) (h : 0 ≤ d ∧ d ≤ 255) : ∀ V, (Instr.index 101 (.agg #[.int .i64 0, .int .i64 2, .int .i64 4, .int .i64 8]) (.int .i64 (d / 64))).run Try.prog V = .ok (.int .i64 (sizeK d)) V := fun V => by
  obtain ⟨k, hk⟩ : ∃ k : Nat, d / 64 = k := ⟨(d / 64).toNat, by omega⟩
  have hk4 : k < 4 := by omega
  obtain ⟨i0, hi, hz0, hz1, hz2⟩ := info_parts Try.infoInt
  unfold sizeK
  rw [hk]
  refine run_index_arr (P := Try.prog) V 101 3 4 i0 _ .i64 .i64 k _ Try.underlying101 Try.underlying3 hi hz1 hk4 ?_
  match k, hk4 with
  | 0, _ => rfl
  | 1, _ => rfl
  | 2, _ => rfl
  | 3, _ => rfl

def hC3 (d : Int) (c2 : Cur) : Cur := if sgV d then c2 else bytesC c2 1
def hWd (d : Int) (c2 : Cur) : Int := if sgV d then 0 else windowV (byteV c2)
def hC4 (d : Int) (c3 : Cur) : Cur := fieldC c3 (dictL d)
def hId (d : Int) (c3 : Cur) : Int := fieldV c3 (dictL d)
def hC5 (d : Int) (c4 : Cur) : Cur := fieldC c4 (sizeL d)
def hN (d : Int) (c4 : Cur) : Int := fieldV c4 (sizeL d) + (if d / 64 = 1 then 256 else 0)
/-- What is read behind the descriptor. -/
def tailR (d : Int) (c2 : Cur) : Value :=
  if (hC5 d (hC4 d (hC3 d c2))).e ≠ 0 then badR (hC5 d (hC4 d (hC3 d c2))).e (hC5 d (hC4 d (hC3 d c2))).f
  else if hId d (hC3 d c2) ≠ 0 then badR 16 (hC3 d c2).a
  else if sgV d = true ∧ 134217728 < hN d (hC4 d (hC3 d c2)) then badR 17 (hC4 d (hC3 d c2)).a
  else if sgV d = false ∧ 134217728 < hWd d c2 then badR 17 c2.a
  else if 1099511627776 < hN d (hC4 d (hC3 d c2)) then badR 2 (hC4 d (hC3 d c2)).a
  else .tuple #[.agg #[.int .i64 (if sgV d = true then (if 0 < sizeL d then hN d (hC4 d (hC3 d c2)) else -1) else hWd d c2), .int .i64 (if 0 < sizeL d then hN d (hC4 d (hC3 d c2)) else -1), .bool (sgV d), .bool (smV d)], .int .i64 (hC5 d (hC4 d (hC3 d c2))).a, .agg #[.int .i64 0, .int .i64 0]]
/-- What header.Read returns. -/
def readR (s : ByteArray) (x : Int) : Value :=
  if (newV s x).e ≠ 0 then badR (newV s x).e (newV s x).f
  else if begE (newV s x) ≠ 0 then badR (begE (newV s x)) (begF (newV s x))
  else if (bytesC (begC (newV s x)) 1).e = 0 ∧ rsV (byteV (begC (newV s x))) = true then badR 15 ((bytesC (begC (newV s x)) 1).a - 1)
  else tailR (byteV (begC (newV s x))) (bytesC (begC (newV s x)) 1)

theorem newV_ok (s : ByteArray) (x : Int) : CurOk (newV s x) := by
  unfold newV CurOk
  split
  · rename_i h; exact ⟨h, by simp only; omega, by simp only; omega, by simp⟩
  · exact ⟨by simp only; omega, by simp only; omega, by simp only; omega, by simp⟩
theorem begC_ok {c : Cur} (h : CurOk c) : CurOk (begC c) := by
  unfold begC; split
  · exact bytesC_ok 4 h
  · exact h
theorem begC_s (c : Cur) : (begC c).s = c.s := by
  unfold begC; split
  · exact bytesC_s c 4
  · rfl

/-- A header and a fault are stored. -/
def World.setHF (W : World) (B1 B2 : Nat) (v0 v1 v2 v3 u0 u1 : Value) : World :=
  (((((W.setCell ⟨B1, 0, none⟩ v0).setCell ⟨B1, 1, none⟩ v1).setCell ⟨B1, 2, none⟩ v2).setCell ⟨B1, 3, none⟩ v3).setCell ⟨B2, 0, none⟩ u0).setCell ⟨B2, 1, none⟩ u1
theorem setHF_blk {W : World} {B1 B2 : Nat} {T1 T2 : TypeId} {a b c d e f : Value} (hh : Blk T1 W B1 #[a, b, c, d]) (hf : Blk T2 W B2 #[e, f]) (hne : B1 ≠ B2) (v0 v1 v2 v3 u0 u1 : Value) :
    Blk T1 (World.setHF W B1 B2 v0 v1 v2 v3 u0 u1) B1 #[v0, v1, v2, v3] ∧ Blk T2 (World.setHF W B1 B2 v0 v1 v2 v3 u0 u1) B2 #[u0, u1] :=
  ⟨(((((hh.set 0 v0).set 1 v1).set 2 v2).set 3 v3).other ⟨B2, 0, none⟩ hne u0).other ⟨B2, 1, none⟩ hne u1,
   (((((hf.other ⟨B1, 0, none⟩ (Ne.symm hne) v0).other ⟨B1, 1, none⟩ (Ne.symm hne) v1).other ⟨B1, 2, none⟩ (Ne.symm hne) v2).other ⟨B1, 3, none⟩ (Ne.symm hne) v3).set 0 u0).set 1 u1⟩
theorem setHF_below {B : Nat} {a W : World} (h : Below B a W) {B1 B2 : Nat} (h1 : B ≤ B1) (h2 : B ≤ B2) (v0 v1 v2 v3 u0 u1 : Value) : Below B a (World.setHF W B1 B2 v0 v1 v2 v3 u0 u1) :=
  (((((h.setCell (p := ⟨B1, 0, none⟩) h1 v0).setCell (p := ⟨B1, 1, none⟩) h1 v1).setCell (p := ⟨B1, 2, none⟩) h1 v2).setCell (p := ⟨B1, 3, none⟩) h1 v3).setCell (p := ⟨B2, 0, none⟩) h2 u0).setCell (p := ⟨B2, 1, none⟩) h2 u1

theorem dictL_bd (d : Int) : 0 ≤ dictL d ∧ dictL d ≤ 8 := by unfold dictL; split <;> (try split) <;> (try split) <;> omega
theorem sizeK_bd (d : Int) : 0 ≤ sizeK d ∧ sizeK d ≤ 8 := by unfold sizeK; split <;> (try split) <;> (try split) <;> omega
theorem sizeL_bd (d : Int) : 0 ≤ sizeL d ∧ sizeL d ≤ 8 := by have := sizeK_bd d; unfold sizeL; split <;> omega
theorem fieldC_ok {c : Cur} (n : Int) (h : CurOk c) (hn : 0 ≤ n ∧ n ≤ 8) : CurOk (fieldC c n) := by
  unfold fieldC
  split
  · exact h
  · by_cases he : c.e = 0
    · rw [(little_D (n := n) he (by omega)).1]; exact bytesC_ok n h
    · rw [(little_A n he).1]; exact h
theorem fieldC_s (c : Cur) (n : Int) (hn : 0 ≤ n ∧ n ≤ 8) : (fieldC c n).s = c.s := by
  unfold fieldC
  split
  · rfl
  · by_cases he : c.e = 0
    · rw [(little_D (n := n) he (by omega)).1]; exact bytesC_s c n
    · rw [(little_A n he).1]
theorem fieldV_bd {c : Cur} (n : Int) (h : CurOk c) (hn : 0 ≤ n ∧ n ≤ 8) : 0 ≤ fieldV c n ∧ fieldV c n < 256 ^ n.toNat := by
  have hp : (0 : Int) < 256 ^ n.toNat := Int.pow_pos (by decide)
  unfold fieldV
  split
  · omega
  · by_cases he : c.e = 0
    · rw [(little_D (n := n) he (by omega)).2]
      have h1 := rd_lo (bytesO c n) 0 (bytesO c n).size
      have h2 := bytesO_size c n h
      have h3 : (256 : Int) ^ (bytesO c n).size ≤ 256 ^ n.toNat := pow256_le (by omega)
      omega
    · rw [(little_A n he).2]; omega
theorem size_val (d : Int) {c : Cur} (h : CurOk c) : 0 ≤ fieldV c (sizeL d) ∧ fieldV c (sizeL d) < 18446744073709551616 ∧ (d / 64 = 1 → fieldV c (sizeL d) < 65536) := by
  have h1 := fieldV_bd (sizeL d) h (sizeL_bd d)
  have h2 := sizeL_bd d
  refine ⟨h1.1, ?_, fun hd => ?_⟩
  · have h3 : (256 : Int) ^ (sizeL d).toNat ≤ 256 ^ 8 := pow256_le (by omega)
    omega
  · have h4 : sizeL d = 2 := by
      unfold sizeL sizeK
      rw [if_neg (by omega), if_pos hd, if_neg (by omega)]
    rw [h4] at h1 ⊢
    simpa using h1.2
theorem tail_cases (d : Int) (c2 : Cur) :
    ((hC5 d (hC4 d (hC3 d c2))).e ≠ 0 → tailR d c2 = badR (hC5 d (hC4 d (hC3 d c2))).e (hC5 d (hC4 d (hC3 d c2))).f) ∧
    ((hC5 d (hC4 d (hC3 d c2))).e = 0 → hId d (hC3 d c2) ≠ 0 → tailR d c2 = badR 16 (hC3 d c2).a) ∧
    ((hC5 d (hC4 d (hC3 d c2))).e = 0 → hId d (hC3 d c2) = 0 → (sgV d = true ∧ 134217728 < hN d (hC4 d (hC3 d c2))) → tailR d c2 = badR 17 (hC4 d (hC3 d c2)).a) ∧
    ((hC5 d (hC4 d (hC3 d c2))).e = 0 → hId d (hC3 d c2) = 0 → ¬ (sgV d = true ∧ 134217728 < hN d (hC4 d (hC3 d c2))) → (sgV d = false ∧ 134217728 < hWd d c2) → tailR d c2 = badR 17 c2.a) ∧
    ((hC5 d (hC4 d (hC3 d c2))).e = 0 → hId d (hC3 d c2) = 0 → ¬ (sgV d = true ∧ 134217728 < hN d (hC4 d (hC3 d c2))) → ¬ (sgV d = false ∧ 134217728 < hWd d c2) → 1099511627776 < hN d (hC4 d (hC3 d c2)) → tailR d c2 = badR 2 (hC4 d (hC3 d c2)).a) ∧
    ((hC5 d (hC4 d (hC3 d c2))).e = 0 → hId d (hC3 d c2) = 0 → ¬ (sgV d = true ∧ 134217728 < hN d (hC4 d (hC3 d c2))) → ¬ (sgV d = false ∧ 134217728 < hWd d c2) → ¬ 1099511627776 < hN d (hC4 d (hC3 d c2)) →
      tailR d c2 = .tuple #[.agg #[.int .i64 (if sgV d = true then (if 0 < sizeL d then hN d (hC4 d (hC3 d c2)) else -1) else hWd d c2), .int .i64 (if 0 < sizeL d then hN d (hC4 d (hC3 d c2)) else -1), .bool (sgV d), .bool (smV d)], .int .i64 (hC5 d (hC4 d (hC3 d c2))).a, .agg #[.int .i64 0, .int .i64 0]]) := by
  unfold tailR
  refine ⟨fun h => if_pos h, fun h1 h2 => ?_, fun h1 h2 h3 => ?_, fun h1 h2 h3 h4 => ?_, fun h1 h2 h3 h4 h5 => ?_, fun h1 h2 h3 h4 h5 => ?_⟩
  · rw [if_neg (by simp [h1]), if_pos h2]
  · rw [if_neg (by simp [h1]), if_neg (by simp [h2]), if_pos h3]
  · rw [if_neg (by simp [h1]), if_neg (by simp [h2]), if_neg h3, if_pos h4]
  · rw [if_neg (by simp [h1]), if_neg (by simp [h2]), if_neg h3, if_neg h4, if_pos h5]
  · rw [if_neg (by simp [h1]), if_neg (by simp [h2]), if_neg h3, if_neg h4, if_neg h5]

end Go.Proofs.Ytfdbkpbgkpkckaa
