/-
  Plain laws of headers, the bytes: what is written is read back, whatever stands before and behind; a changed bit. No program here.
-/
import Derived.Test.YtfdbkpbgkpkckaaHdrBackP
namespace Go.Proofs.Ytfdbkpbgkpkckaa
open Go.RowKit
set_option linter.unusedVariables false
set_option maxRecDepth 100000

/-- How many bytes a header has. -/
def lenB (z : Int) (i : Bool) : Nat := 5 + (if i then 0 else 1) + fldN (kindV z i) i
theorem fldN_bd (k : Int) (i : Bool) : fldN k i ≤ 8 := by unfold fldN; split <;> (try split) <;> (try split) <;> omega
theorem bytesL_len (w z : Int) (i u : Bool) : (bytesL w z i u).length = lenB z i := by
  unfold bytesL lenB
  cases i <;> simp [IL.leI_length] <;> omega
theorem bytB_ok {w z : Int} {i : Bool} (u : Bool) (h : chkV w z i = 0) : bytB w z i u = strOfNums (bytesL w z i u) := if_neg (by simp [h])
theorem bytB_size {w z : Int} {i : Bool} (u : Bool) (h : chkV w z i = 0) : (bytB w z i u).size = lenB z i := by
  rw [bytB_ok u h, strOfNums_size, bytesL_len]
theorem leI_bd (n : Int) (k : Nat) : ∀ v ∈ IL.leI n k, 0 ≤ v ∧ v ≤ 255 := by
  intro v hv
  unfold IL.leI at hv
  obtain ⟨j, _, rfl⟩ := List.mem_map.1 hv
  omega
theorem bytesL_bd {w z : Int} {i : Bool} (u : Bool) (h : chkV w z i = 0) : ∀ v ∈ bytesL w z i u, 0 ≤ v ∧ v ≤ 255 := by
  have ht := (top_ok z i u).1
  have hk := chk_ok h
  have hdv : i = false → 0 ≤ descV w ∧ descV w ≤ 143 := fun hi => by
    have := hk.2.2.2.2.2 hi
    rcases descV_spec w (by omega) with h | h <;> omega
  obtain ⟨t0, t1, _⟩ := ht
  intro v hv
  unfold bytesL at hv
  rw [List.mem_append, List.mem_append] at hv
  rcases hv with (hv | hv) | hv
  · simp at hv; omega
  · cases i
    · have := hdv rfl
      unfold topB at t0 t1
      simp at hv t0 t1; omega
    · unfold topB at t0 t1
      simp at hv t0 t1; omega
  · exact leI_bd _ _ v hv
theorem leI_get (n : Int) (k j : Nat) (h : j < k) : (IL.leI n k).getD j 0 = n / 256 ^ j % 256 := by
  unfold IL.leI
  simp [List.getD_eq_getElem?_getD, h]
theorem getD_right (a b : List Int) (j : Nat) : (a ++ b).getD (a.length + j) 0 = b.getD j 0 := by
  simp [List.getD_eq_getElem?_getD, List.getElem?_append_right]
theorem bytesL_get (w z : Int) (i u : Bool) : (bytesL w z i u).getD 4 0 = topB (kindV z i) i u ∧ (∀ j : Nat, j < 4 → (bytesL w z i u).getD j 0 = [40, 181, 47, 253].getD j 0) ∧ (i = false → (bytesL w z i u).getD 5 0 = descV w) ∧
    (∀ j, j < fldN (kindV z i) i → (bytesL w z i u).getD (5 + (if i then 0 else 1) + j) 0 = fldV z (kindV z i) / 256 ^ j % 256) := by
  unfold bytesL topB
  refine ⟨?_, ?_, ?_, ?_⟩
  · cases i <;> simp
  · intro j hj
    match j, hj with
    | 0, _ => rfl
    | 1, _ => rfl
    | 2, _ => rfl
    | 3, _ => rfl
  · intro hi; subst hi; simp
  · intro j hj
    have := leI_get (fldV z (kindV z i)) (fldN (kindV z i) i) j hj
    rw [← this]
    cases i
    · exact getD_right ([40, 181, 47, 253] ++ [topD (kindV z false) u, descV w]) _ j
    · exact getD_right ([40, 181, 47, 253] ++ [topD (kindV z true) u + 32]) _ j
theorem magic_sb (j : Nat) (h : j < 4) : sb magicB j = [40, 181, 47, 253].getD j 0 := by
  match j, h with
  | 0, _ => rfl
  | 1, _ => rfl
  | 2, _ => rfl
  | 3, _ => rfl

/-- A string whose bytes from a place on are a header's, but for a descriptor that says the same. -/
theorem read_where (t : ByteArray) (a : Nat) {w z : Int} {i : Bool} (u : Bool) (h : chkV w z i = 0) (d : Int) (hd : DescOk d (kindV z i) i u) (hs : a + lenB z i ≤ t.size)
    (hb : ∀ j, j < lenB z i → sb t (a + j) = if j = 4 then d else (bytesL w z i u).getD j 0) : readD t a = ⟨w, z, i, u, ((a + lenB z i : Nat) : Int), 0, 0⟩ := by
  obtain ⟨g4, g0, g5, gf⟩ := bytesL_get w z i u
  have hl : lenB z i = 5 + (if i then 0 else 1) + fldN (kindV z i) i := rfl
  have e : a + lenB z i = a + 5 + (if i then 0 else 1) + fldN (kindV z i) i := by omega
  rw [e]
  refine read_made t a w z i u d h hd (fun j hj hx => ?_) ?_ (fun hi => ?_) (fun j hj => ?_) (by omega)
  · rw [hb j (by omega), if_neg (by omega), g0 j hj, magic_sb j hj]
  · rw [hb 4 (by omega), if_pos rfl]
  · have h6 : 6 ≤ lenB z i := by rw [hl, hi]; simp
    rw [hb 5 (by omega), if_neg (by omega), g5 hi]
  · have := hb (5 + (if i then 0 else 1) + j) (by omega)
    rw [← Nat.add_assoc, ← Nat.add_assoc] at this
    rw [this, if_neg (by omega), gf j hj]

theorem read_back (b m : ByteArray) {w z : Int} {i : Bool} (u : Bool) (h : chkV w z i = 0) :
    readD (b ++ bytB w z i u ++ m) b.size = ⟨w, z, i, u, ((b.size + lenB z i : Nat) : Int), 0, 0⟩ := by
  have hsz := bytB_size u h
  refine read_where _ _ u h (topB (kindV z i) i u) (top_ok z i u).1 ?_ (fun j hj => ?_)
  · rw [ByteArray.size_append, ByteArray.size_append, hsz]; omega
  · rw [sb_app_left _ _ _ (by rw [ByteArray.size_append]; omega), sb_app_right _ _ _ (by omega), bytB_ok u h, sb_nums _ (bytesL_bd u h) _ (by rw [bytesL_len]; exact hj)]
    split
    · rename_i hj4; rw [hj4, (bytesL_get w z i u).1]
    · rfl

theorem read_prefix {w z : Int} {i : Bool} (u : Bool) (h : chkV w z i = 0) (m : Nat) (hm : m < lenB z i) : readD ((bytB w z i u).extract 0 m) 0 = badD 5 m := by
  have hsz := bytB_size u h
  have hes : ((bytB w z i u).extract 0 m).size = m := by rw [ByteArray.size_extract]; omega
  have hlook : ∀ j, j < m → sb ((bytB w z i u).extract 0 m) j = (bytesL w z i u).getD j 0 := fun j hj => by
    rw [hsb_extract _ 0 m j (by omega) (by omega), Nat.zero_add, bytB_ok u h, sb_nums _ (bytesL_bd u h) _ (by rw [bytesL_len]; omega)]
  obtain ⟨g4, g0, g5, gf⟩ := bytesL_get w z i u
  have := read_cut ((bytB w z i u).extract 0 m) z i u (topB (kindV z i) i u) (top_ok z i u).1 (fun j hj hx => ?_) (fun hx => ?_) (by rw [hes]; exact hm)
  · rw [this, hes]
  · rw [Nat.zero_add, hlook j (by omega), g0 j hj, magic_sb j hj]
  · rw [hlook 4 (by omega), g4]

/-! A byte of a string is changed. -/
def numsB (s : ByteArray) : List Int := (List.range s.size).map fun i => sb s i
theorem numsB_len (s : ByteArray) : (numsB s).length = s.size := by simp [numsB]
theorem numsB_get (s : ByteArray) (i : Nat) (h : i < s.size) : (numsB s).getD i 0 = sb s i := by simp [numsB, List.getD_eq_getElem?_getD, h]
theorem numsB_bd (s : ByteArray) : ∀ v ∈ numsB s, 0 ≤ v ∧ v ≤ 255 := by
  intro v hv
  obtain ⟨j, _, rfl⟩ := List.mem_map.1 hv
  exact sb_lo s j
theorem set_bd {L : List Int} {k : Nat} {v : Int} (hL : ∀ v ∈ L, 0 ≤ v ∧ v ≤ 255) (hv : 0 ≤ v ∧ v ≤ 255) : ∀ x ∈ L.set k v, 0 ≤ x ∧ x ≤ 255 := by
  intro x hx
  rcases List.mem_or_eq_of_mem_set hx with h | h
  · exact hL x h
  · rw [h]; exact hv
theorem set_sb (s : ByteArray) (k : Nat) (v : Int) (hv : 0 ≤ v ∧ v ≤ 255) (j : Nat) (hj : j < s.size) : sb (strOfNums ((numsB s).set k v)) j = if j = k then v else sb s j := by
  rw [sb_nums _ (set_bd (numsB_bd s) hv) j (by rw [List.length_set, numsB_len]; exact hj)]
  rw [List.getD_eq_getElem?_getD, List.getElem?_set]
  by_cases h : k = j
  · rw [if_pos h, if_pos h.symm, if_pos (by rw [numsB_len]; omega)]; rfl
  · rw [if_neg h, if_neg (Ne.symm h), ← List.getD_eq_getElem?_getD, numsB_get s j hj]

theorem bytB_sb {w z : Int} {i : Bool} (u : Bool) (h : chkV w z i = 0) (j : Nat) (hj : j < lenB z i) : sb (bytB w z i u) j = (bytesL w z i u).getD j 0 := by
  rw [bytB_ok u h, sb_nums _ (bytesL_bd u h) _ (by rw [bytesL_len]; exact hj)]
theorem lenB_bd (z : Int) (i : Bool) : 5 ≤ lenB z i ∧ lenB z i ≤ 14 := by
  have := fldN_bd (kindV z i) i
  unfold lenB; split <;> omega
theorem lenB_six {w z : Int} {i : Bool} (h : chkV w z i = 0) : 6 ≤ lenB z i := by
  unfold lenB
  cases i
  · simp
  · have := fld_none (w := w) (z := z) (i := true) h
    rcases Nat.eq_zero_or_pos (fldN (kindV z true) true) with h0 | h0
    · exact absurd (this h0).2 (by simp)
    · simp; omega

/-- Bit 4 of the descriptor says nothing. -/
theorem read_bit4 {w z : Int} {i : Bool} (u : Bool) (h : chkV w z i = 0) :
    readD (strOfNums ((numsB (bytB w z i u)).set 4 (bits BinOp.xor IntKind.u8 (sb (bytB w z i u) 4) 16))) 0 = ⟨w, z, i, u, lenB z i, 0, 0⟩ := by
  have hsz := bytB_size u h
  have hb := lenB_bd z i
  have h4 : sb (bytB w z i u) 4 = topB (kindV z i) i u := by rw [bytB_sb u h 4 (by omega), (bytesL_get w z i u).1]
  rw [h4]
  have hd := (top_ok z i u).2
  have := read_where (strOfNums ((numsB (bytB w z i u)).set 4 (bits BinOp.xor IntKind.u8 (topB (kindV z i) i u) 16))) 0 u h _ hd (by rw [strOfNums_size, List.length_set, numsB_len, hsz]; omega) (fun j hj => ?_)
  · rw [Nat.zero_add] at this; exact this
  · rw [Nat.zero_add, set_sb _ _ _ ⟨hd.1, hd.2.1⟩ j (by omega)]
    split
    · rfl
    · exact bytB_sb u h j hj

theorem flip_fin : ∀ k : Fin 32, bits BinOp.xor IntKind.u8 ([40, 181, 47, 253].getD (k.val / 8) 0) (2 ^ (k.val % 8)) ≠ [40, 181, 47, 253].getD (k.val / 8) 0 ∧ 0 ≤ bits BinOp.xor IntKind.u8 ([40, 181, 47, 253].getD (k.val / 8) 0) (2 ^ (k.val % 8)) ∧ bits BinOp.xor IntKind.u8 ([40, 181, 47, 253].getD (k.val / 8) 0) (2 ^ (k.val % 8)) ≤ 255 := by decide +kernel
/-- Each bit of the first four bytes matters. -/
theorem read_flip {w z : Int} {i : Bool} (u : Bool) (h : chkV w z i = 0) (k : Nat) (hk : k < 32) :
    readD (strOfNums ((numsB (bytB w z i u)).set (k / 8) (bits BinOp.xor IntKind.u8 (sb (bytB w z i u) (k / 8)) (2 ^ (k % 8))))) 0 = badD 14 0 := by
  have hsz := bytB_size u h
  have hb := lenB_bd z i
  have hk4 : k / 8 < 4 := by omega
  have hm : sb (bytB w z i u) (k / 8) = [40, 181, 47, 253].getD (k / 8) 0 := by rw [bytB_sb u h _ (by omega), (bytesL_get w z i u).2.1 _ hk4]
  rw [hm]
  obtain ⟨f1, f2, f3⟩ := flip_fin ⟨k, hk⟩
  simp only at f1 f2 f3
  generalize bits BinOp.xor IntKind.u8 ([40, 181, 47, 253].getD (k / 8) 0) (2 ^ (k % 8)) = v at *
  have hts : (strOfNums ((numsB (bytB w z i u)).set (k / 8) v)).size = lenB z i := by rw [strOfNums_size, List.length_set, numsB_len, hsz]
  unfold readD
  rw [if_pos (by omega), show (0 : Int).toNat = 0 from rfl, if_neg]
  intro hmag
  have := hmag (k / 8) hk4 (by omega)
  rw [Nat.zero_add, set_sb _ _ _ ⟨f2, f3⟩ _ (by omega), if_pos rfl, magic_sb _ hk4] at this
  exact f1 this

/-- The header of an encoder has six bytes. -/
theorem six_fin : ∀ n : Fin 18, chkV (2 ^ (10 + n.val)) (-1) false = 0 := by decide +kernel
theorem write_six (k : Int) (hk : 0 ≤ k) (u : Bool) : wrE (1 + k % 9) (10 + k % 18) 16 0 = 0 ∧ (wrB (1 + k % 9) (10 + k % 18) 16 0 u).size = 6 := by
  have hok : ¬ parBad (1 + k % 9) (10 + k % 18) 16 0 := by unfold parBad; omega
  obtain ⟨n, hn⟩ : ∃ n : Nat, k % 18 = n := ⟨(k % 18).toNat, by omega⟩
  have hw : winP (1 + k % 9) (10 + k % 18) 16 0 = 2 ^ (10 + n) := by
    unfold winP
    rw [if_neg hok, hn]
    congr 1
  have hc := six_fin ⟨n, by omega⟩
  simp only at hc
  have hpe := parE_ok hok
  unfold wrE wrB
  rw [hpe, if_neg (by simp), if_neg (by simp), hw]
  exact ⟨hc, by rw [bytB_size u hc]; rfl⟩

/-- What is read is valid, and has no longer bytes. -/
theorem win_small : ∀ b : Fin 256, windowV ((b.val : Nat) : Int) ≤ 134217728 → 0 ≤ descV (windowV ((b.val : Nat) : Int)) := by decide +kernel
theorem kind_le (N : Int) (K : Nat) (i : Bool) (hN : 0 ≤ N) (h1 : K = 1 → i = true ∧ N < 256) (h2 : K = 2 → 256 ≤ N ∧ N < 65792) (h4 : K = 4 → N < 4294967296) (hK : K = 1 ∨ K = 2 ∨ K = 4 ∨ K = 8) : fldN (kindV N i) i ≤ K := by
  unfold kindV
  by_cases h0 : N < 0 ∨ (i = true ∧ N < 256)
  · rw [if_pos h0]
    have hi : i = true := by
      rcases h0 with h | h
      · omega
      · exact h.1
    rw [hi]
    show 1 ≤ K
    omega
  · rw [if_neg h0]
    by_cases hb : 256 ≤ N ∧ N < 65792
    · rw [if_pos hb]
      have : K ≠ 1 := fun h => h0 (.inr (h1 h))
      show 2 ≤ K
      omega
    · rw [if_neg hb]
      have k1 : K ≠ 1 := fun h => h0 (.inr (h1 h))
      have k2 : K ≠ 2 := fun h => hb (h2 h)
      by_cases hd : N < 4294967296
      · rw [if_pos hd]; show 4 ≤ K; omega
      · rw [if_neg hd]
        have k4 : K ≠ 4 := fun h => hd (h4 h)
        show 8 ≤ K; omega
theorem sizeN_cases (d : Int) (hd : 0 ≤ d ∧ d ≤ 255) : (sizeN d = 0 ∧ sgV d = false) ∨ (sizeN d = 1 ∧ sgV d = true ∧ ¬ d / 64 = 1) ∨ (sizeN d = 2 ∧ d / 64 = 1) ∨ (sizeN d = 4 ∧ ¬ d / 64 = 1) ∨ (sizeN d = 8 ∧ ¬ d / 64 = 1) := by
  have hq : d / 64 = 0 ∨ d / 64 = 1 ∨ d / 64 = 2 ∨ d / 64 = 3 := by omega
  unfold sizeN sizeL sizeK
  rcases hq with h | h | h | h <;> rw [h]
  · cases hs : sgV d
    · exact .inl ⟨rfl, rfl⟩
    · exact .inr (.inl ⟨rfl, rfl, by decide⟩)
  · exact .inr (.inr (.inl ⟨rfl, rfl⟩))
  · exact .inr (.inr (.inr (.inl ⟨rfl, by decide⟩)))
  · exact .inr (.inr (.inr (.inr ⟨rfl, by decide⟩)))
theorem read_valid (t : ByteArray) {w z : Int} {i u : Bool} {n : Int} (h : readD t 0 = ⟨w, z, i, u, n, 0, 0⟩) : chkV w z i = 0 ∧ (lenB z i : Int) ≤ n ∧ n ≤ t.size := by
  unfold readD at h
  rw [if_pos (by omega), show (0 : Int).toNat = 0 from rfl] at h
  split at h
  · split at h
    · simp [badD] at h
    · split at h
      · simp [badD] at h
      · rw [show 0 + 4 = 4 from rfl] at h
        have hd := sb_lo t 4
        generalize sb t 4 = d at *
        have hb5 := sb_lo t (0 + 5)
        unfold tailD at h
        split at h
        · simp [badD] at h
        · rename_i hlen
          split at h
          · simp [badD] at h
          · split at h
            · simp [badD] at h
            · rename_i hwin
              have hwd : sgV d = false → chkV (windowV (sb t (0 + 5))) (-1) false = 0 ∧ windowV (sb t (0 + 5)) ≤ 134217728 ∧ 0 ≤ windowV (sb t (0 + 5)) ∧ 0 ≤ descV (windowV (sb t (0 + 5))) := fun hs => by
                have hx : ¬ 134217728 < windowV (sb t (0 + 5)) := fun hx => hwin ⟨hs, hx⟩
                obtain ⟨b, hb⟩ : ∃ b : Nat, sb t (0 + 5) = b := ⟨(sb t (0 + 5)).toNat, by omega⟩
                rw [hb] at hx hb5 ⊢
                have h1 := win_small ⟨b, by omega⟩ (by simp only; omega)
                have h2 := (win_all (b := (b : Int)) (by omega)).2.2.1
                simp only at h1
                refine ⟨?_, by omega, by omega, h1⟩
                unfold chkV
                rw [if_neg (by unfold chkBad; omega), if_neg (by simp), if_neg (by omega)]
              have hnx : nxV 0 d = 5 + (if sgV d then 0 else 1) := by unfold nxV; simp
              rw [hnx] at hlen h
              have hcs := sizeN_cases d hd
              split at h
              · rename_i hK
                split at h
                · simp [badD] at h
                · rename_i hw1
                  split at h
                  · simp [badD] at h
                  · rename_i hc1
                    injection h with e1 e2 e3 e4 e5 e6 e7
                    have hnum : numV t 0 d = rd t (5 + (if sgV d then 0 else 1) + dictN d) (sizeN d) + (if d / 64 = 1 then 256 else 0) := by unfold numV; rw [hnx]
                    have hr := rd_lo t (5 + (if sgV d then 0 else 1) + dictN d) (sizeN d)
                    rw [e2] at hnum e1 hw1 hc1
                    generalize rd t (5 + (if sgV d then 0 else 1) + dictN d) (sizeN d) = R at hnum hr
                    have hz0 : 0 ≤ z := by rw [hnum]; split <;> omega
                    have hfl : fldN (kindV z i) i ≤ sizeN d := by
                      refine kind_le z (sizeN d) i hz0 (fun hk => ?_) (fun hk => ?_) (fun hk => ?_) (by omega)
                      · rcases hcs with c | c | c | c | c
                        · omega
                        · rw [if_neg c.2.2] at hnum
                          rw [hk] at hr
                          have : (256 : Int) ^ 1 = 256 := rfl
                          exact ⟨by rw [← e3]; exact c.2.1, by omega⟩
                        · omega
                        · omega
                        · omega
                      · rcases hcs with c | c | c | c | c
                        · omega
                        · omega
                        · rw [if_pos c.2] at hnum
                          rw [hk] at hr
                          have : (256 : Int) ^ 2 = 65536 := rfl
                          omega
                        · omega
                        · omega
                      · rcases hcs with c | c | c | c | c
                        · omega
                        · omega
                        · omega
                        · rw [if_neg c.2] at hnum
                          rw [hk] at hr
                          have : (256 : Int) ^ 4 = 4294967296 := rfl
                          omega
                        · omega
                    have hlb : lenB z i = 5 + (if i then 0 else 1) + fldN (kindV z i) i := rfl
                    refine ⟨?_, ?_, by omega⟩
                    · cases hs : sgV d
                      · rw [hs] at e1 e3
                        obtain ⟨_, y1, y2, y3⟩ := hwd hs
                        rw [if_neg (by simp)] at e1
                        rw [e1] at y1 y2 y3
                        rw [← e3]
                        unfold chkV
                        rw [if_neg (by unfold chkBad; omega), if_neg (by simp), if_neg (by omega)]
                      · rw [hs] at e1 e3 hw1
                        rw [if_pos rfl] at e1
                        rw [← e3]
                        have : ¬ 134217728 < z := fun hx => hw1 ⟨rfl, hx⟩
                        unfold chkV
                        rw [if_neg (by unfold chkBad; omega), if_pos rfl, if_pos e1]
                    · rw [hlb, ← e5, ← e3] at *
                      rw [← e3] at hfl
                      omega
              · rename_i hK
                injection h with e1 e2 e3 e4 e5 e6 e7
                have hs : sgV d = false := by
                  rcases hcs with c | c | c | c | c
                  · exact c.2
                  · omega
                  · omega
                  · omega
                  · omega
                obtain ⟨y0, y1, y2, y3⟩ := hwd hs
                rw [hs] at e3
                rw [← e1, ← e2, ← e3]
                refine ⟨y0, ?_, ?_⟩
                · rw [← e5, hs]
                  show ((6 : Nat) : Int) ≤ _
                  simp; omega
                · rw [← e5]; omega
  · simp [badD] at h

end Go.Proofs.Ytfdbkpbgkpkckaa
