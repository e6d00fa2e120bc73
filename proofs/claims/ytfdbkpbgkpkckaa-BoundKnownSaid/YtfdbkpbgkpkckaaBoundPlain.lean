/-
  Laws of jobs in plain terms, for chapter 43: greater jobs are not more; a first job alone is one. No walk here.
-/
import Derived.Test.YtfdbkpbgkpkckaaCutLaws
import Derived.Test.YtfdbkpbgkpkckaaBoundWhole2
namespace Go.Proofs.Ytfdbkpbgkpkckaa
open Go.RowKit
set_option linter.unusedVariables false
set_option maxRecDepth 100000

theorem nextE_plain {jb : Int} {s : ByteArray} {p : Nat} (hj : 16 ≤ jb ∧ jb ≤ 2097152) (hp : p ≤ s.size) : (nextE jb false s p : Int) = min (s.size : Int) ((p : Int) + jb) := by
  have h := plain_cut jb s p hj hp
  unfold nextE
  split at h
  · rw [if_neg (by omega)]; omega
  · rw [if_pos (by omega)]; omega
theorem atK_plain {jb : Int} {s : ByteArray} (hj : 16 ≤ jb ∧ jb ≤ 2097152) : ∀ k : Nat, (atK jb false s k : Int) = min (s.size : Int) ((k : Int) * jb) := by
  intro k
  induction k with
  | zero => simp [atK]; omega
  | succ k ih =>
    have h := nextE_plain (s := s) hj (atK_le jb false s k)
    rw [atK_next] at h
    have e : atK jb false s (k + 1) = posE jb false s k := rfl
    have e2 : ((k + 1 : Nat) : Int) * jb = (k : Int) * jb + jb := by rw [Int.natCast_add, Int.add_mul, Int.natCast_one, Int.one_mul]
    rw [e, h, ih, e2]
    omega
/-- With a greater job there are not more jobs. -/
theorem jobs_less {jb jb2 : Int} (s : ByteArray) (hj : 16 ≤ jb ∧ jb ≤ 2097152) (hj2 : 16 ≤ jb2 ∧ jb2 ≤ 2097152) (h : jb ≤ jb2) : jobsN jb2 false s ≤ jobsN jb false s := by
  obtain ⟨f1, f2, f3, f4⟩ := jobs_facts jb false s
  obtain ⟨g1, g2, g3, g4⟩ := jobs_facts jb2 false s
  rcases Nat.lt_or_ge (jobsN jb false s) (jobsN jb2 false s) with hlt | hle
  · obtain ⟨n, hn⟩ : ∃ n, jobsN jb false s = n + 1 := ⟨jobsN jb false s - 1, by omega⟩
    rw [hn] at f3 hlt
    rw [Nat.add_sub_cancel] at f3
    have h1 := g2 n hlt
    have a1 := atK_plain (s := s) hj (n + 1)
    have a2 := atK_plain (s := s) hj2 (n + 1)
    have e1 : atK jb false s (n + 1) = posE jb false s n := rfl
    have e2 : atK jb2 false s (n + 1) = posE jb2 false s n := rfl
    rw [e1] at a1
    rw [e2] at a2
    have hm : ((n + 1 : Nat) : Int) * jb ≤ ((n + 1 : Nat) : Int) * jb2 := Int.mul_le_mul_of_nonneg_left h (by omega)
    omega
  · exact hle
/-- A first job alone is one. -/
theorem first_alone (jb : Int) (sy : Bool) (s : ByteArray) : jobsN jb sy (s.extract 0 (atK jb sy s 1)) = 1 := by
  obtain ⟨f1, f2, f3, f4⟩ := jobs_facts jb sy s
  have e1 : atK jb sy s 1 = posE jb sy s 0 := rfl
  have e2 : posE jb sy s 0 = nextE jb sy s 0 := rfl
  have hle := (nextE_le jb sy s 0 (Nat.zero_le _)).1
  rw [e1, e2]
  have key : nextE jb sy (s.extract 0 (nextE jb sy s 0)) 0 = (s.extract 0 (nextE jb sy s 0)).size := by
    rcases Nat.lt_or_ge (nextE jb sy s 0) s.size with h | h
    · obtain ⟨h0, h1⟩ := nextE_cut h
      have hc : cutN jb sy (s.extract 0 (nextE jb sy s 0)) 0 = cutN jb sy s 0 := cutN_sub (a := 0) (p := 0) (by omega) h0 (by rw [Nat.add_zero]; omega)
      have e : nextE jb sy (s.extract 0 (nextE jb sy s 0)) 0 = 0 + cutN jb sy (s.extract 0 (nextE jb sy s 0)) 0 := if_neg (by rw [hc]; exact h0)
      rw [e, hc, ByteArray.size_extract]
      omega
    · have h2 : nextE jb sy s 0 = s.size := by omega
      rw [h2, ByteArray.extract_zero_size]
      exact h2
  unfold jobsN
  rw [endsL_step jb sy _ 0 (Nat.zero_le _), if_neg (by omega)]
  rfl
theorem lensE_succ (jb : Int) (sy : Bool) (s : ByteArray) (i : Nat) : lensE jb sy s (List.range (i + 1)) = lensE jb sy s (List.range i) ++ [(atK jb sy s (i + 1) : Int) - (atK jb sy s i : Int)] := by
  unfold lensE; rw [List.range_succ, List.map_append, List.map_cons, List.map_nil]; rfl
theorem lensE_len (jb : Int) (sy : Bool) (s : ByteArray) (i : Nat) : (lensE jb sy s (List.range i)).length = i := by unfold lensE; rw [List.length_map, List.length_range]

end Go.Proofs.Ytfdbkpbgkpkckaa
