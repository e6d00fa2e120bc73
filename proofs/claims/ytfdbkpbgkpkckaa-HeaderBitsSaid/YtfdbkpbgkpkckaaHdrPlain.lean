/-
  What the reference's Read returns; it is what header.Read returns.
-/
import Derived.Test.YtfdbkpbgkpkckaaHdrRead
namespace Go.Proofs.Ytfdbkpbgkpkckaa
open Go.RowKit
set_option linter.unusedVariables false

theorem hsb_extract (s : ByteArray) (a b i : Nat) (hi : a + i < b) (hn : b ≤ s.size) : sb (s.extract a b) i = sb s (a + i) := by
  have h1 : i < (s.extract a b).size := by rw [ByteArray.size_extract]; omega
  have h2 : a + i < s.size := by omega
  rw [← sb_get _ i h1, ← sb_get _ (a + i) h2, ByteArray.getElem_extract]
theorem hsb_ext {a b : ByteArray} (hn : a.size = b.size) (h : ∀ i, i < a.size → sb a i = sb b i) : a = b := by
  apply ByteArray.ext_getElem hn
  intro i h1 h2
  have := h i h1
  rw [← sb_get a i h1, ← sb_get b i h2] at this
  exact UInt8.toNat_inj.1 (by exact_mod_cast this)
theorem hrd_extract (s : ByteArray) (N m k : Nat) (h : N + m ≤ s.size) (hk : k ≤ m) : rd (s.extract N (N + m)) 0 k = rd s N k := by
  induction k with
  | zero => rfl
  | succ k ih =>
    simp only [rd, Nat.zero_add]
    rw [ih (by omega), hsb_extract s N (N + m) k (by omega) h]

theorem toList_ext {a b : ByteArray} (h : a.toList = b.toList) : a = b := by
  rw [ByteArray.toList_eq, ByteArray.toList_eq] at h
  exact ByteArray.ext (Array.toList_inj.mp h)

/-- The first four bytes of a header, as far as there are any, are those of the magic. -/
def magOk (s : ByteArray) (a : Nat) : Prop := ∀ i, i < 4 → a + i < s.size → sb s (a + i) = sb magicB i
instance (s : ByteArray) (a : Nat) : Decidable (magOk s a) := by unfold magOk; infer_instance
theorem magic_size : magicB.size = 4 := rfl
theorem begOk_iff (s : ByteArray) (a : Nat) (e f : Int) (ha : a ≤ s.size) : begOk ⟨s, a, e, f⟩ = true ↔ magOk s a := by
  unfold magOk
  have hsz : (s.extract a (min s.size (a + 4))).size = min s.size (a + 4) - a := by rw [ByteArray.size_extract]; omega
  obtain ⟨x, hx⟩ : ∃ x, s.extract a (min s.size (a + 4)) = x := ⟨_, rfl⟩
  have hbx : begOk ⟨s, a, e, f⟩ = preB magicB x := by rw [← hx]; rfl
  rw [hbx]
  rw [hx] at hsz
  unfold preB
  have hm : x.size ≤ 4 := by omega
  rw [magic_size, decide_eq_true hm, Bool.true_and, beq_iff_eq]
  have hmx : (magicB.extract 0 x.size).size = x.size := by rw [ByteArray.size_extract, magic_size]; omega
  have e1 : ∀ i, i < x.size → sb (magicB.extract 0 x.size) i = sb magicB i := fun i hi => by
    rw [hsb_extract magicB 0 x.size i (by omega) (by rw [magic_size]; omega), Nat.zero_add]
  have e2 : ∀ i, i < x.size → sb x i = sb s (a + i) := fun i hi => by
    rw [← hx, hsb_extract s a _ i (by omega) (by omega)]
  constructor
  · intro h i h4 hi
    have := toList_ext h
    rw [← e2 i (by omega), ← e1 i (by omega), this]
  · intro h
    have : magicB.extract 0 x.size = x := hsb_ext hmx (fun i hi => by
      rw [hmx] at hi
      rw [e1 i hi, e2 i hi, h i (by omega) (by omega)])
    rw [this]

theorem byteV_in (s : ByteArray) (a : Nat) (h : a < s.size) : byteV ⟨s, a, 0, 0⟩ = sb s a := by
  unfold byteV
  have hb := bytes_D (c := ⟨s, a, 0, 0⟩) (n := 1) rfl (by omega) (by simp only; omega)
  rw [hb.2]
  simp only [Int.toNat_natCast]
  rw [hsb_extract s a _ 0 (by omega) (by omega), Nat.add_zero]
theorem byteV_out (c : Cur) (h : (c.s.size : Int) - c.a < 1) : byteV c = 0 := by
  unfold byteV bytesO
  rw [if_pos (.inr (.inr h)), sb_empty]
theorem bytesC_in (s : ByteArray) (a n : Nat) (h : a + n ≤ s.size) : bytesC ⟨s, a, 0, 0⟩ n = ⟨s, ((a + n : Nat) : Int), 0, 0⟩ := by
  rw [(bytes_D (c := ⟨s, a, 0, 0⟩) (n := n) rfl (by omega) (by simp only; omega)).1]
  simp
theorem bytesC_out (s : ByteArray) (a n : Nat) (h : s.size < a + n) : bytesC ⟨s, a, 0, 0⟩ n = ⟨s, a, 5, s.size⟩ :=
  (bytes_C (c := ⟨s, a, 0, 0⟩) (n := n) rfl (by omega) (by simp only; omega)).1
theorem bytesC_bad (c : Cur) (n : Int) (h : c.e ≠ 0) : bytesC c n = c := if_pos h
theorem field_in (s : ByteArray) (a n : Nat) (hn : n ≤ 8) (h : a + n ≤ s.size) : fieldC ⟨s, a, 0, 0⟩ n = ⟨s, ((a + n : Nat) : Int), 0, 0⟩ ∧ fieldV ⟨s, a, 0, 0⟩ n = rd s a n := by
  unfold fieldC fieldV
  rcases Nat.eq_zero_or_pos n with h0 | h0
  · subst h0; exact ⟨rfl, rfl⟩
  · rw [if_neg (by omega), if_neg (by omega)]
    have hl := little_D (c := ⟨s, a, 0, 0⟩) (n := n) rfl (by omega)
    have hb := bytes_D (c := ⟨s, a, 0, 0⟩) (n := n) rfl (by omega) (by simp only; omega)
    rw [hl.1, hl.2, hb.1, hb.2]
    simp only [Int.toNat_natCast]
    rw [show ((a : Int) + n).toNat = a + n by omega, show (s.extract a (a + n)).size = n by rw [ByteArray.size_extract]; omega, hrd_extract s a n n h (Nat.le_refl _)]
    exact ⟨by simp, rfl⟩
theorem field_out (s : ByteArray) (a n : Nat) (hn : n ≤ 8) (ha : a ≤ s.size) (h : s.size < a + n) : fieldC ⟨s, a, 0, 0⟩ n = ⟨s, a, 5, s.size⟩ ∧ fieldV ⟨s, a, 0, 0⟩ n = 0 := by
  unfold fieldC fieldV
  rw [if_neg (by omega), if_neg (by omega)]
  have hl := little_D (c := ⟨s, a, 0, 0⟩) (n := n) rfl (by omega)
  have hb := bytes_C (c := ⟨s, a, 0, 0⟩) (n := n) rfl (by omega) (by simp only; omega)
  rw [hl.1, hl.2, hb.1, hb.2]
  exact ⟨rfl, rfl⟩
theorem field_bad (c : Cur) (n : Int) (h : c.e ≠ 0) : fieldC c n = c ∧ fieldV c n = 0 := by
  unfold fieldC fieldV
  split
  · exact ⟨rfl, rfl⟩
  · exact little_A n h

def dictN (d : Int) : Nat := (dictL d).toNat
def sizeN (d : Int) : Nat := (sizeL d).toNat
theorem dictN_eq (d : Int) : dictL d = dictN d ∧ dictN d ≤ 4 := by unfold dictN dictL; split <;> (try split) <;> (try split) <;> simp
theorem sizeN_eq (d : Int) : sizeL d = sizeN d ∧ sizeN d ≤ 8 := by have := sizeL_bd d; unfold sizeN; omega
theorem size_single {d : Int} (h : sgV d = true) : 0 < sizeN d := by
  have := sizeN_eq d
  have hk := sizeK_bd d
  by_cases h0 : sizeK d = 0
  · have : sizeL d = 1 := if_pos ⟨h0, h⟩
    omega
  · have : sizeL d = sizeK d := if_neg (fun hh => h0 hh.1)
    omega
/-- Where the dictionary's field stands. -/
def nxV (a : Nat) (d : Int) : Nat := a + 5 + (if sgV d then 0 else 1)
/-- The size that is read. -/
def numV (s : ByteArray) (a : Nat) (d : Int) : Int := rd s (nxV a d + dictN d) (sizeN d) + (if d / 64 = 1 then 256 else 0)
def refTail (s : ByteArray) (a : Nat) (d : Int) : Value :=
  if s.size < nxV a d + dictN d + sizeN d then badR 5 s.size
  else if rd s (nxV a d) (dictN d) ≠ 0 then badR 16 (nxV a d)
  else if sgV d = false ∧ 134217728 < windowV (sb s (a + 5)) then badR 17 ((a + 5 : Nat) : Int)
  else if 0 < sizeN d then
    (if sgV d = true ∧ 134217728 < numV s a d then badR 17 ((nxV a d + dictN d : Nat) : Int)
     else if 1099511627776 < numV s a d then badR 2 ((nxV a d + dictN d : Nat) : Int)
     else .tuple #[.agg #[.int .i64 (if sgV d = true then numV s a d else windowV (sb s (a + 5))), .int .i64 (numV s a d), .bool (sgV d), .bool (smV d)], .int .i64 ((nxV a d + dictN d + sizeN d : Nat) : Int), .agg #[.int .i64 0, .int .i64 0]])
  else .tuple #[.agg #[.int .i64 (windowV (sb s (a + 5))), .int .i64 (-1), .bool (sgV d), .bool (smV d)], .int .i64 ((nxV a d + dictN d : Nat) : Int), .agg #[.int .i64 0, .int .i64 0]]
def refR (s : ByteArray) (x : Int) : Value :=
  if 0 ≤ x ∧ x ≤ (s.size : Int) then
    (if magOk s x.toNat then
      (if s.size < x.toNat + 5 then badR 5 s.size
       else if rsV (sb s (x.toNat + 4)) = true then badR 15 (x + 4)
       else refTail s x.toNat (sb s (x.toNat + 4)))
     else badR 14 x)
  else badR 2 0

theorem tail_short (d : Int) (c2 : Cur) (n : Int) (h : (hC3 d c2).e = 5) (hf : (hC3 d c2).f = n) : tailR d c2 = badR 5 n := by
  have h4 : hC4 d (hC3 d c2) = hC3 d c2 := (field_bad _ _ (by rw [h]; decide)).1
  have h5 : hC5 d (hC4 d (hC3 d c2)) = hC3 d c2 := by unfold hC5; rw [h4]; exact (field_bad _ _ (by rw [h]; decide)).1
  rw [(tail_cases d c2).1 (by rw [h5, h]; decide), h5, h, hf]

theorem tail_eq (s : ByteArray) (a : Nat) (d : Int) (ha : a + 5 ≤ s.size) : tailR d ⟨s, ((a + 5 : Nat) : Int), 0, 0⟩ = refTail s a d := by
  obtain ⟨hD, hD4⟩ := dictN_eq d
  obtain ⟨hK, hK8⟩ := sizeN_eq d
  have hss := size_single (d := d)
  have hlast : (d / 64 = 1) → 0 < sizeN d := fun h => by
    have : sizeK d = 2 := by unfold sizeK; rw [if_neg (by omega), if_pos h]
    have : sizeL d = 2 := by unfold sizeL; rw [if_neg (by omega), this]
    omega
  by_cases hw : sgV d = false ∧ s.size < a + 6
  · have h3 : hC3 d ⟨s, ((a + 5 : Nat) : Int), 0, 0⟩ = ⟨s, ((a + 5 : Nat) : Int), 5, s.size⟩ := by
      unfold hC3; rw [hw.1]
      exact bytesC_out s (a + 5) 1 (by omega)
    rw [tail_short d _ s.size (by rw [h3]) (by rw [h3])]
    unfold refTail nxV
    rw [if_pos (by rw [hw.1]; simp only [Bool.false_eq_true, if_false]; omega)]
  · have h3 : hC3 d ⟨s, ((a + 5 : Nat) : Int), 0, 0⟩ = ⟨s, (nxV a d : Int), 0, 0⟩ ∧ (sgV d = false → hWd d ⟨s, ((a + 5 : Nat) : Int), 0, 0⟩ = windowV (sb s (a + 5))) ∧ nxV a d ≤ s.size := by
      unfold hC3 hWd nxV
      cases hs : sgV d
      · have : ¬ s.size < a + 6 := fun h => hw ⟨hs, h⟩
        refine ⟨?_, fun _ => ?_, ?_⟩
        · exact bytesC_in s (a + 5) 1 (by omega)
        · simp only [Bool.false_eq_true, if_false]
          rw [byteV_in s (a + 5) (by omega)]
        · simp only [Bool.false_eq_true, if_false]; omega
      · exact ⟨rfl, (fun h => Bool.noConfusion h), by simp only [if_true]; omega⟩
    obtain ⟨h3, hW, hnx⟩ := h3
    obtain ⟨t1, t2, t3, t4, t5, t6⟩ := tail_cases d ⟨s, ((a + 5 : Nat) : Int), 0, 0⟩
    rw [h3] at t1 t2 t3 t4 t5 t6
    unfold refTail
    generalize hnv : nxV a d = nx at *
    by_cases hs1 : s.size < nx + dictN d
    · have h4 : hC4 d ⟨s, (nx : Int), 0, 0⟩ = ⟨s, (nx : Int), 5, s.size⟩ := by unfold hC4; rw [hD]; exact (field_out s nx _ (by omega) hnx hs1).1
      have h5 : hC5 d ⟨s, (nx : Int), 5, s.size⟩ = ⟨s, (nx : Int), 5, s.size⟩ := (field_bad _ _ (show (5 : Int) ≠ 0 by decide)).1
      rw [h4, h5] at t1
      rw [t1 (show (5 : Int) ≠ 0 by decide), if_pos (by omega)]
    · have h4 : hC4 d ⟨s, (nx : Int), 0, 0⟩ = ⟨s, ((nx + dictN d : Nat) : Int), 0, 0⟩ ∧ hId d ⟨s, (nx : Int), 0, 0⟩ = rd s nx (dictN d) := by
        unfold hC4 hId; rw [hD]; exact field_in s nx _ (by omega) (by omega)
      rw [h4.1] at t1
      rw [h4.1, h4.2] at t2 t3
      rw [h4.1, h4.2] at t4 t5 t6
      by_cases hs2 : s.size < nx + dictN d + sizeN d
      · have h5 : hC5 d ⟨s, ((nx + dictN d : Nat) : Int), 0, 0⟩ = ⟨s, ((nx + dictN d : Nat) : Int), 5, s.size⟩ := by unfold hC5; rw [hK]; exact (field_out s _ _ (by omega) (by omega) hs2).1
        rw [h5] at t1
        rw [t1 (show (5 : Int) ≠ 0 by decide), if_pos hs2]
      · have h5 : hC5 d ⟨s, ((nx + dictN d : Nat) : Int), 0, 0⟩ = ⟨s, ((nx + dictN d + sizeN d : Nat) : Int), 0, 0⟩ ∧ hN d ⟨s, ((nx + dictN d : Nat) : Int), 0, 0⟩ = numV s a d := by
          unfold hC5 hN numV; rw [hK, hnv]
          have := field_in s (nx + dictN d) (sizeN d) (by omega) (by omega)
          exact ⟨this.1, by rw [this.2]⟩
        rw [h5.1] at t2
        rw [h5.1, h5.2] at t3 t4 t5 t6
        clear t1
        rw [if_neg hs2]
        by_cases hi : rd s nx (dictN d) ≠ 0
        · rw [if_pos hi, t2 rfl hi]
        · have hi' : rd s nx (dictN d) = 0 := by omega
          rw [if_neg hi]
          by_cases hK0 : 0 < sizeN d
          · have hL0 : 0 < sizeL d := by omega
            rw [if_pos hL0] at t6
            simp only [hK0, if_true]
            by_cases c1 : sgV d = true ∧ 134217728 < numV s a d
            · rw [if_neg (by rw [c1.1]; simp), if_pos c1, t3 rfl hi' c1]
            · by_cases c2 : sgV d = false ∧ 134217728 < windowV (sb s (a + 5))
              · rw [if_pos c2, t4 rfl hi' c1 ⟨c2.1, by rw [hW c2.1]; exact c2.2⟩]
              · have c2' : ¬ (sgV d = false ∧ 134217728 < hWd d ⟨s, ((a + 5 : Nat) : Int), 0, 0⟩) := fun h => c2 ⟨h.1, by rw [← hW h.1]; exact h.2⟩
                rw [if_neg c2, if_neg c1]
                by_cases c3 : 1099511627776 < numV s a d
                · rw [if_pos c3, t5 rfl hi' c1 c2' c3]
                · rw [if_neg c3, t6 rfl hi' c1 c2' c3]
                  cases hs : sgV d
                  · simp only [Bool.false_eq_true, if_false]; rw [hW hs]
                  · simp only [if_true]
          · have hsg : sgV d = false := by
              cases hs : sgV d
              · rfl
              · exact absurd (hss hs) hK0
            have hz : sizeN d = 0 := by omega
            have hn0 : numV s a d = 0 := by
              unfold numV
              rw [hz, if_neg (fun h => hK0 (hlast h))]; rfl
            rw [hn0] at t3 t4 t5 t6
            have hL0 : ¬ 0 < sizeL d := by omega
            rw [if_neg hL0] at t6
            simp only [hK0, if_false]
            by_cases c2 : sgV d = false ∧ 134217728 < windowV (sb s (a + 5))
            · rw [if_pos c2, t4 rfl hi' (by omega) ⟨c2.1, by rw [hW c2.1]; exact c2.2⟩]
            · have c2' : ¬ (sgV d = false ∧ 134217728 < hWd d ⟨s, ((a + 5 : Nat) : Int), 0, 0⟩) := fun h => c2 ⟨h.1, by rw [← hW h.1]; exact h.2⟩
              rw [if_neg c2, t6 rfl hi' (by omega) c2' (by omega), hz, hsg, hW hsg]
              simp

theorem read_eq (s : ByteArray) (x : Int) : readR s x = refR s x := by
  unfold refR
  by_cases hx : 0 ≤ x ∧ x ≤ (s.size : Int)
  · have hn : newV s x = ⟨s, x, 0, 0⟩ := if_pos hx
    rw [if_pos hx]
    obtain ⟨a, rfl⟩ : ∃ a : Nat, x = a := ⟨x.toNat, by omega⟩
    have ha : a ≤ s.size := by omega
    rw [Int.toNat_natCast]
    unfold readR
    rw [hn, if_neg (by simp)]
    by_cases hm : magOk s a
    · have hb := (begOk_iff s a 0 0 ha).2 hm
      have hE : begE ⟨s, a, 0, 0⟩ = (bytesC ⟨s, a, 0, 0⟩ 4).e := if_pos hb
      have hF : begF ⟨s, a, 0, 0⟩ = (bytesC ⟨s, a, 0, 0⟩ 4).f := if_pos hb
      have hC : begC ⟨s, a, 0, 0⟩ = bytesC ⟨s, a, 0, 0⟩ 4 := if_pos hb
      rw [hE, hF, hC, if_pos hm]
      by_cases h4 : s.size < a + 4
      · rw [show bytesC ⟨s, a, 0, 0⟩ 4 = _ from bytesC_out s a 4 h4, if_pos (show (5 : Int) ≠ 0 by decide), if_pos (by omega)]
      · rw [show bytesC ⟨s, a, 0, 0⟩ 4 = _ from bytesC_in s a 4 (by omega), if_neg (by simp)]
        by_cases h5 : s.size < a + 5
        · rw [show bytesC ⟨s, ((a + 4 : Nat) : Int), 0, 0⟩ 1 = _ from bytesC_out s (a + 4) 1 (by omega), if_neg (fun h => by have := h.1; simp at this), if_pos h5]
          refine tail_short _ _ _ ?_ ?_
          · unfold hC3; split
            · rfl
            · rw [bytesC_bad _ _ (show (5 : Int) ≠ 0 by decide)]
          · unfold hC3; split
            · rfl
            · rw [bytesC_bad _ _ (show (5 : Int) ≠ 0 by decide)]
        · rw [show bytesC ⟨s, ((a + 4 : Nat) : Int), 0, 0⟩ 1 = _ from bytesC_in s (a + 4) 1 (by omega), byteV_in s (a + 4) (by omega), if_neg h5]
          by_cases hr : rsV (sb s (a + 4)) = true
          · rw [if_pos ⟨rfl, hr⟩, if_pos hr]
            simp only
            rw [show (((a + 4 + 1 : Nat) : Int)) - 1 = (a : Int) + 4 by omega]
          · rw [if_neg (fun h => hr h.2), if_neg hr]
            exact tail_eq s a _ (by omega)
    · have hb : ¬ begOk ⟨s, a, 0, 0⟩ = true := fun h => hm ((begOk_iff s a 0 0 ha).1 h)
      have hE : begE ⟨s, a, 0, 0⟩ = 14 := if_neg hb
      have hF : begF ⟨s, a, 0, 0⟩ = a := if_neg hb
      rw [hE, hF, if_neg hm, if_pos (by decide)]
  · have hn : newV s x = ⟨s, 0, 2, 0⟩ := if_neg hx
    rw [if_neg hx]
    unfold readR
    rw [hn, if_pos (show (2 : Int) ≠ 0 by decide)]

end Go.Proofs.Ytfdbkpbgkpkckaa
