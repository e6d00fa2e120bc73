/-
  Plain facts on states of XXH64: valid states stay valid, parts are the whole, the examples.
-/
import Derived.Test.YtboajmnckldmiaaXxhSum
namespace Go.Proofs.Ytboajmnckldmiaa
open Go.RowKit
set_option linter.unusedVariables false
set_option maxRecDepth 100000

theorem known_empty : seededV ⟨#[]⟩ 0 = 17241709254077376921 := by decide +kernel
theorem known_a : seededV ⟨#[97]⟩ 0 = 15154266338359012955 := by decide +kernel
theorem known_abc : seededV ⟨#[97, 98, 99]⟩ 0 = 0x44bc2cf5ad770999 := by decide +kernel

theorem lanEq_self (l : Lan) : lanEq l l = true := by unfold lanEq; simp
theorem badH_iff (h : Hsh) : badH h = false ↔ (0 ≤ h.t ∧ h.t ≤ 1099511627776 ∧ (h.s.size : Int) = h.t % 32 ∧ (h.t < 32 → h.l = startV h.e)) := by
  unfold badH
  simp only [Bool.or_eq_false_iff, decide_eq_false_iff_not, bne_eq_false_iff_eq, Bool.and_eq_false_iff, Bool.not_eq_false']
  constructor
  · rintro ⟨⟨⟨h1, h2⟩, h3⟩, h4⟩
    refine ⟨by omega, by omega, h3, fun hlt => ?_⟩
    rcases h4 with h4 | h4
    · exact absurd hlt h4
    · unfold lanEq at h4
      simp only [Bool.and_eq_true, beq_iff_eq] at h4
      obtain ⟨⟨⟨e1, e2⟩, e3⟩, e4⟩ := h4
      generalize h.l = l at *
      generalize startV h.e = m at *
      cases l; cases m
      simp only at e1 e2 e3 e4
      subst e1 e2 e3 e4
      rfl
  · rintro ⟨h1, h2, h3, h4⟩
    refine ⟨⟨⟨by omega, by omega⟩, h3⟩, ?_⟩
    by_cases hlt : h.t < 32
    · exact .inr (by rw [h4 hlt]; exact lanEq_self _)
    · exact .inl hlt

theorem new_good (sd : Int) : badH (newH sd) = false := (badH_iff _).2 ⟨by simp [newH], by simp [newH], by simp [newH], fun _ => rfl⟩
theorem addH_good {h : Hsh} (x : ByteArray) (hb : badH h = false) (hl : h.t + x.size ≤ 1099511627776) : badH (addH h x) = false := by
  obtain ⟨h1, h2, h3, h4⟩ := (badH_iff _).1 hb
  refine (badH_iff _).2 ⟨?_, hl, ?_, fun hlt => ?_⟩
  · show 0 ≤ h.t + x.size; omega
  · show ((stripV h.l (h.s ++ x)).2.size : Int) = (h.t + x.size) % 32
    rw [stripV_tail, ByteArray.size_append]; omega
  · have hlt' : h.t + x.size < 32 := hlt
    show (stripV h.l (h.s ++ x)).1 = startV h.e
    rw [stripV_lt _ _ (by rw [ByteArray.size_append]; omega)]
    exact h4 (by omega)
theorem addO_good {h : Hsh} (x : ByteArray) (hb : badH h = false) (hl : h.t + x.size ≤ 1099511627776) : addO h x = addH h x ∧ addE h x = 0 := by
  have : addE h x = 0 := by unfold addE; rw [hb, if_neg (by simp), if_neg (by omega)]
  exact ⟨by unfold addO; rw [this, if_pos rfl], this⟩
theorem app_assoc (a b c : ByteArray) : a ++ b ++ c = a ++ (b ++ c) := ByteArray.append_assoc
theorem addH_addH (h : Hsh) (x y : ByteArray) : addH (addH h x) y = addH h (x ++ y) := by
  have e := stripV_append h.l (h.s ++ x) y
  rw [app_assoc] at e
  have e1 : addH (addH h x) y = ⟨(stripV (stripV h.l (h.s ++ x)).1 ((stripV h.l (h.s ++ x)).2 ++ y)).1, h.t + x.size + y.size, (stripV (stripV h.l (h.s ++ x)).1 ((stripV h.l (h.s ++ x)).2 ++ y)).2, h.e⟩ := rfl
  rw [e1, e]
  show Hsh.mk _ _ _ _ = Hsh.mk _ (h.t + ((x ++ y).size : Int)) _ _
  rw [ByteArray.size_append, show h.t + x.size + y.size = h.t + ((x.size + y.size : Nat) : Int) by omega]
theorem emp_app' (s : ByteArray) : ByteArray.empty ++ s = s := by apply ByteArray.ext; simp
theorem addH_new (sd : Int) (s : ByteArray) : addH (newH sd) s = ⟨(stripV (startV sd) s).1, s.size, (stripV (startV sd) s).2, sd⟩ := by
  unfold addH newH
  simp only [emp_app']
  rw [Int.zero_add]
theorem sum_new (sd : Int) (s : ByteArray) (hs : s.size ≤ 1099511627776) : sumO (addH (newH sd) s) = seededV s sd := by
  have hg := addH_good s (new_good sd) (by show (0 : Int) + s.size ≤ _; omega)
  unfold sumO
  rw [hg, if_neg (by simp), addH_new]
  rfl
theorem check_new (sd : Int) (s : ByteArray) (hs : s.size ≤ 1099511627776) : checkH (addH (newH sd) s) = 0 := by
  have hg := addH_good s (new_good sd) (by show (0 : Int) + s.size ≤ _; omega)
  unfold checkH
  rw [hg, if_neg (by simp)]
/-- What is left behind the stripes is the string's end. -/
theorem strip_end (l : Lan) (s : ByteArray) : (stripV l s).2 = s.extract (s.size - s.size % 32) s.size := by
  refine strip_ind (P := fun l s => (stripV l s).2 = s.extract (s.size - s.size % 32) s.size) (fun l s h => ?_) (fun l s h ih => ?_) l s
  · rw [stripV_lt l s h, show s.size - s.size % 32 = 0 by omega]
    show s = _
    apply ByteArray.ext; simp
  · rw [stripV_32 l s h, ih]
    apply ByteArray.ext
    simp only [ByteArray.data_extract, ByteArray.size_extract]
    apply Array.ext'
    simp only [Array.toList_extract, List.extract]
    have hs : s.data.toList.length = s.size := by simp
    rw [List.take_of_length_le (l := List.drop 32 s.data.toList) (by rw [List.length_drop]; omega), List.drop_drop, List.take_of_length_le (by rw [List.length_drop]; omega), List.take_of_length_le (by rw [List.length_drop]; omega)]
    congr 1
    omega

end Go.Proofs.Ytboajmnckldmiaa
