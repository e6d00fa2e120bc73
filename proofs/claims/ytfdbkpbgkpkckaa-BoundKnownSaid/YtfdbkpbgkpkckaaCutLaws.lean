/-
  Laws of the ends of jobs, in plain terms: parts of a string, more bytes behind it. No walk here.
-/
import Derived.Test.YtfdbkpbgkpkckaaCutIter
import Derived.Test.YtfdbkpbgkpkckaaCutApi
import Derived.Test.YtfdbkpbgkpkckaaCutEndsO
namespace Go.Proofs.Ytfdbkpbgkpkckaa
open Go.RowKit
set_option linter.unusedVariables false
set_option maxRecDepth 100000

/-- Whether a job of a part of a string is cut. -/
theorem atV_sub (jb : Int) (sy : Bool) (s : ByteArray) (a b p n : Nat) (h : a + p + n ≤ b) (hb : b ≤ s.size) : atV jb sy (s.extract a b) p n = atV jb sy s (a + p) n := by
  unfold atV
  by_cases hl : leastC jb ≤ (n : Int)
  · have h16 : 16 ≤ n := by unfold leastC at hl; omega
    rw [winC_sub s a b (p + n - 16) (by omega) hb, show a + (p + n - 16) = a + p + n - 16 by omega]
  · simp [hl]
theorem cutN_le (jb : Int) (sy : Bool) (s : ByteArray) (p : Nat) : cutN jb sy s p ≤ s.size - p := by
  have := firstN_spec (atV jb sy s p) (s.size - p)
  unfold cutN; omega
theorem cutN_at {jb : Int} {sy : Bool} {s : ByteArray} {p : Nat} (h : cutN jb sy s p ≠ 0) : atV jb sy s p (cutN jb sy s p) = true := by
  rcases firstN_spec (atV jb sy s p) (s.size - p) with ⟨h1, _⟩ | ⟨_, _, h3, _⟩
  · exact absurd h1 h
  · exact h3
/-- A job of a part that ends within it. -/
theorem cutN_sub {jb : Int} {sy : Bool} {s : ByteArray} {a b p : Nat} (hb : b ≤ s.size) (h0 : cutN jb sy s (a + p) ≠ 0) (h : a + p + cutN jb sy s (a + p) ≤ b) : cutN jb sy (s.extract a b) p = cutN jb sy s (a + p) := by
  rcases firstN_spec (atV jb sy s (a + p)) (s.size - (a + p)) with ⟨h1, _⟩ | ⟨h1, h2, h3, h4⟩
  · exact absurd h1 h0
  · unfold cutN at *
    generalize firstN (atV jb sy s (a + p)) (s.size - (a + p)) = n at *
    rw [ByteArray.size_extract]
    refine firstN_found h1 (by omega) (by rw [atV_sub jb sy s a b p _ (by omega) hb]; exact h3) fun i h5 h6 => ?_
    rw [atV_sub jb sy s a b p i (by omega) hb]
    exact h4 i h5 h6
/-- A job of the rest of a string. -/
theorem cutN_rest (jb : Int) (sy : Bool) (s : ByteArray) (a p : Nat) (ha : a + p ≤ s.size) : cutN jb sy (s.extract a s.size) p = cutN jb sy s (a + p) := by
  unfold cutN
  rw [ByteArray.size_extract]
  exact firstN_congr (fun i h1 h2 => atV_sub jb sy s a s.size p i (by omega) (Nat.le_refl _)) (by omega)
/-- A job of a part is one of the whole. -/
theorem cutN_more {jb : Int} {sy : Bool} {s : ByteArray} {a b p : Nat} (hb : b ≤ s.size) (hp : a + p ≤ b) (h0 : cutN jb sy (s.extract a b) p ≠ 0) : cutN jb sy s (a + p) = cutN jb sy (s.extract a b) p := by
  rcases firstN_spec (atV jb sy (s.extract a b) p) ((s.extract a b).size - p) with ⟨h1, _⟩ | ⟨h1, h2, h3, h4⟩
  · exact absurd h1 h0
  · unfold cutN at *
    generalize firstN (atV jb sy (s.extract a b) p) ((s.extract a b).size - p) = n at *
    rw [ByteArray.size_extract] at h2
    rw [atV_sub jb sy s a b p _ (by omega) hb] at h3
    refine firstN_found h1 (by omega) h3 fun i h5 h6 => ?_
    have := h4 i h5 h6
    rw [atV_sub jb sy s a b p i (by omega) hb] at this
    exact this
theorem nextE_rest (jb : Int) (sy : Bool) (s : ByteArray) (a p : Nat) (ha : a + p ≤ s.size) : nextE jb sy s (a + p) = a + nextE jb sy (s.extract a s.size) p := by
  unfold nextE
  rw [cutN_rest jb sy s a p ha, ByteArray.size_extract]
  split <;> omega
/-- How long a job is at most. -/
theorem nextE_long (jb : Int) (sy : Bool) (s : ByteArray) (p : Nat) (hj : 16 ≤ jb) (hp : p ≤ s.size) : ((nextE jb sy s p : Int) - p) ≤ longV jb sy := by
  have hL : 16 ≤ longV jb sy := by unfold longV; split <;> omega
  have hat : ∀ n : Nat, (n : Int) = longV jb sy → atV jb sy s p n = true := fun n hn => by unfold atV; simp [hn]
  rcases firstN_spec (atV jb sy s p) (s.size - p) with ⟨h1, h2⟩ | ⟨h1, h2, h3, h4⟩
  · unfold nextE cutN
    rw [if_pos h1]
    rcases Int.lt_or_le (longV jb sy) ((s.size : Int) - p) with h | h
    · have := h2 (longV jb sy).toNat (by omega) (by omega)
      rw [hat _ (by omega)] at this; cases this
    · exact h
  · unfold nextE cutN
    rw [if_neg (by omega)]
    generalize firstN (atV jb sy s p) (s.size - p) = n at *
    rcases Int.lt_or_le (longV jb sy) (n : Int) with h | h
    · have := h4 (longV jb sy).toNat (by omega) (by omega)
      rw [hat _ (by omega)] at this; cases this
    · omega
/-- A job that ends before the end of the string is full. -/
theorem nextE_cut {jb : Int} {sy : Bool} {s : ByteArray} {p : Nat} (h : nextE jb sy s p < s.size) : cutN jb sy s p ≠ 0 ∧ nextE jb sy s p = p + cutN jb sy s p := by
  unfold nextE at *
  split at h
  · omega
  · rename_i h0
    exact ⟨h0, by rw [if_neg h0]⟩
/-- A full job alone is full. -/
theorem full_sub {l wd jb ov : Int} {sy : Bool} {s : ByteArray} {p : Nat} (hpb : ¬ parBad l wd jb ov) (hs : s.size ≤ 1048576) (hp : p ≤ s.size) (h : nextE jb sy s p < s.size) : fullV l wd jb ov sy (s.extract p (nextE jb sy s p)) = true := by
  obtain ⟨h0, h1⟩ := nextE_cut h
  have hle := cutN_le jb sy s p
  have hc : cutN jb sy (s.extract p (nextE jb sy s p)) 0 = cutN jb sy s p := cutN_sub (a := p) (p := 0) (by omega) h0 (by rw [Nat.add_zero]; omega)
  have hz : (s.extract p (nextE jb sy s p)).size = cutN jb sy s p := by rw [ByteArray.size_extract]; omega
  rw [full_ok (ask_ok hpb (by rw [hz]; omega))]
  unfold nextB
  rw [hc]
  unfold nextE at *
  rw [hc]
  simp [h0]
  rw [if_neg h0] at h1
  omega
theorem plain_len {jb : Int} {s : ByteArray} {p : Nat} (hj : 16 ≤ jb ∧ jb ≤ 2097152) (hp : p ≤ s.size) (h : nextE jb false s p < s.size) : (nextE jb false s p : Int) - p = jb := by
  obtain ⟨h0, h1⟩ := nextE_cut h
  have := plain_cut jb s p hj hp
  split at this <;> omega
theorem sync_len {jb : Int} {s : ByteArray} {p : Nat} (hj : 16 ≤ jb ∧ jb ≤ 2097152) (h : nextE jb true s p < s.size) : leastC jb ≤ (nextE jb true s p : Int) - p := by
  obtain ⟨h0, h1⟩ := nextE_cut h
  have := cutN_at h0
  generalize cutN jb true s p = n at *
  have hlm : leastC jb ≤ 4 * jb := by unfold leastC; omega
  unfold atV at this
  rw [show longV jb true = 4 * jb from rfl] at this
  simp at this
  rcases this with h | h <;> omega

/-- The ends of the rest, from its own beginning. -/
theorem endsL_rest (jb : Int) (sy : Bool) (s : ByteArray) (a : Nat) (ha : a ≤ s.size) : ∀ k p, a + p ≤ s.size → s.size - (a + p) < k → endsL jb sy s (a + p) = (endsL jb sy (s.extract a s.size) p).map (fun x => x + (a : Int)) := by
  intro k
  have hz : (s.extract a s.size).size = s.size - a := by rw [ByteArray.size_extract]; omega
  induction k with
  | zero => intro p _ h; omega
  | succ k ih =>
    intro p hp hk
    have hn := nextE_le jb sy s (a + p) hp
    have e := nextE_rest jb sy s a p hp
    rw [endsL_step jb sy s (a + p) hp, endsL_step jb sy (s.extract a s.size) p (by omega), List.map_cons, e, hz]
    congr 1
    · omega
    · by_cases hlt : a + nextE jb sy (s.extract a s.size) p < s.size
      · rw [if_pos hlt, if_pos (by omega)]
        rcases Nat.lt_or_ge (a + p) s.size with h | h
        · exact ih _ (by omega) (by have := hn.2 h; omega)
        · have h0 := cutN_le jb sy s (a + p)
          have := (nextE_cut (jb := jb) (sy := sy) (s := s) (p := a + p) (by omega))
          omega
      · rw [if_neg hlt, if_neg (by omega)]; rfl
theorem jobs_rest (jb : Int) (sy : Bool) (s : ByteArray) (a : Nat) (ha : a ≤ s.size) : endsL jb sy s a = (endsL jb sy (s.extract a s.size) 0).map (fun x => x + (a : Int)) :=
  endsL_rest jb sy s a ha _ 0 ha (Nat.lt_succ_self _)

/-- What is left of the ends behind one of them. -/
theorem endsL_drop (jb : Int) (sy : Bool) (s : ByteArray) : ∀ i p, p ≤ s.size → i + 1 < (endsL jb sy s p).length → (endsL jb sy s p).drop (i + 1) = endsL jb sy s (posF jb sy s p i) := by
  intro i
  induction i with
  | zero =>
    intro p hp hi
    rw [endsL_step jb sy s p hp] at hi ⊢
    split at hi
    · rename_i h
      rw [if_pos h]; rfl
    · simp at hi
  | succ i ih =>
    intro p hp hi
    rw [endsL_step jb sy s p hp] at hi ⊢
    have hn := nextE_le jb sy s p hp
    split at hi
    · rename_i h
      rw [if_pos h, List.drop_succ_cons]
      exact ih _ hn.1 (by simpa using hi)
    · simp at hi
theorem ends_get (jb : Int) (sy : Bool) (s : ByteArray) {i : Nat} (hi : i < jobsN jb sy s) : (endsL jb sy s 0)[i]? = some (posE jb sy s i : Int) := by
  rw [ends_range, List.getElem?_map, List.getElem?_range hi]; rfl
/-- The jobs behind the i-th end are those of what is left. -/
theorem ends_left {jb : Int} {sy : Bool} {s : ByteArray} {i : Nat} (hi : i + 1 < jobsN jb sy s) : jobsN jb sy (s.extract (posE jb sy s i) s.size) = jobsN jb sy s - (i + 1) ∧
    ∀ k, k < jobsN jb sy s - (i + 1) → (posE jb sy (s.extract (posE jb sy s i) s.size) k : Int) + (posE jb sy s i : Int) = (posE jb sy s (i + 1 + k) : Int) := by
  have hd := endsL_drop jb sy s i 0 (Nat.zero_le _) hi
  have hle : posE jb sy s i ≤ s.size := posF_le jb sy s i 0 (Nat.zero_le _)
  have hr := jobs_rest jb sy s (posE jb sy s i) hle
  have hd' : (endsL jb sy s 0).drop (i + 1) = (endsL jb sy (s.extract (posE jb sy s i) s.size) 0).map (fun x => x + (posE jb sy s i : Int)) := hd.trans hr
  have hlen : jobsN jb sy (s.extract (posE jb sy s i) s.size) = jobsN jb sy s - (i + 1) := by
    have := congrArg List.length hd'
    rw [List.length_drop, List.length_map] at this
    exact this.symm
  refine ⟨hlen, fun k hk => ?_⟩
  have h1 := congrArg (fun l => l[k]?) hd'
  simp only [List.getElem?_drop, List.getElem?_map] at h1
  rw [ends_get jb sy s (by omega), ends_get jb sy _ (by omega)] at h1
  simpa using h1.symm

/-- A number of ends that lie before the end of the string. -/
theorem jobs_more {jb : Int} {sy : Bool} {s : ByteArray} {n : Nat} (h : ∀ i, i < n → posE jb sy s i < s.size) : n + 1 ≤ jobsN jb sy s := by
  obtain ⟨h1, h2, h3, h4⟩ := jobs_facts jb sy s
  rcases Nat.lt_or_ge (jobsN jb sy s - 1) n with hh | hh
  · exact absurd (h _ hh) h3
  · omega
/-- An end stays when bytes follow, if its job is full. -/
theorem nextE_more {jb : Int} {sy : Bool} {s : ByteArray} (m : ByteArray) {p : Nat} (hp : p ≤ s.size) (h : cutN jb sy s p ≠ 0) : nextE jb sy (s ++ m) p = nextE jb sy s p := by
  have e : (s ++ m).extract 0 s.size = s := by
    rw [ByteArray.extract_append]
    simp
  have h1 : cutN jb sy ((s ++ m).extract 0 s.size) p ≠ 0 := by rw [e]; exact h
  have h2 := cutN_more (s := s ++ m) (a := 0) (b := s.size) (p := p) (by rw [ByteArray.size_append]; omega) (by omega) h1
  rw [e, Nat.zero_add] at h2
  unfold nextE
  rw [h2, if_neg h, if_neg h]
theorem posE_more {jb : Int} {sy : Bool} {s : ByteArray} (m : ByteArray) : ∀ i, i + 1 < jobsN jb sy s → posE jb sy (s ++ m) i = posE jb sy s i ∧ atK jb sy (s ++ m) i = atK jb sy s i ∧ atK jb sy (s ++ m) (i + 1) = atK jb sy s (i + 1) := by
  obtain ⟨h1, h2, h3, h4⟩ := jobs_facts jb sy s
  intro i
  induction i with
  | zero =>
    intro hi
    have hc := nextE_cut (jb := jb) (sy := sy) (s := s) (p := 0) (h2 0 hi)
    have := nextE_more m (Nat.zero_le _) hc.1
    exact ⟨this, rfl, this⟩
  | succ i ih =>
    intro hi
    obtain ⟨e1, e2, e3⟩ := ih (by omega)
    have hc := nextE_cut (jb := jb) (sy := sy) (s := s) (p := atK jb sy s (i + 1)) (by rw [atK_next]; exact h2 _ hi)
    have := nextE_more m (atK_le jb sy s (i + 1)) hc.1
    rw [← e3, atK_next, e3, atK_next] at this
    exact ⟨this, e3, this⟩
/-- With more bytes behind a string its ends stay, the last one too if its job is full. -/
theorem ends_more (l wd jb ov : Int) (sy : Bool) (s m : ByteArray) (hpb : ¬ parBad l wd jb ov) (hs : s.size ≤ 1048576) (n : Nat)
    (hn : n = if fullV l wd jb ov sy (s.extract (atK jb sy s (jobsN jb sy s - 1)) s.size) then jobsN jb sy s else jobsN jb sy s - 1) :
    jobsN jb sy s ≤ jobsN jb sy (s ++ m) ∧ n ≤ jobsN jb sy s ∧ (endsL jb sy s 0).take n = (endsL jb sy (s ++ m) 0).take n := by
  obtain ⟨h1, h2, h3, h4⟩ := jobs_facts jb sy s
  have hsz : (s ++ m).size = s.size + m.size := ByteArray.size_append
  have hN : jobsN jb sy s ≤ jobsN jb sy (s ++ m) := by
    have := jobs_more (jb := jb) (sy := sy) (s := s ++ m) (n := jobsN jb sy s - 1) fun i hi => by
      rw [(posE_more m i (by omega)).1]
      have := h2 i (by omega)
      omega
    omega
  have hle : n ≤ jobsN jb sy s := by rw [hn]; split <;> omega
  refine ⟨hN, hle, ?_⟩
  apply List.ext_getElem?
  intro i
  by_cases hi : i < n
  · rw [List.getElem?_take_of_lt hi, List.getElem?_take_of_lt hi, ends_get jb sy s (by omega), ends_get jb sy _ (by omega)]
    by_cases hlast : i + 1 < jobsN jb sy s
    · rw [(posE_more m i hlast).1]
    · have hin : n = jobsN jb sy s := by omega
      have hiN : i = jobsN jb sy s - 1 := by omega
      have hfull : fullV l wd jb ov sy (s.extract (atK jb sy s i) s.size) = true := by
        rw [hiN]
        cases hf : fullV l wd jb ov sy (s.extract (atK jb sy s (jobsN jb sy s - 1)) s.size)
        · rw [hf, if_neg (by simp)] at hn; omega
        · rfl
      have hal := atK_le jb sy s i
      have hz : (s.extract (atK jb sy s i) s.size).size = s.size - atK jb sy s i := by rw [ByteArray.size_extract]; omega
      rw [full_ok (ask_ok hpb (by rw [hz]; omega))] at hfull
      simp only [Bool.and_eq_true] at hfull
      have hc : cutN jb sy s (atK jb sy s i) ≠ 0 := by
        have := cutN_rest jb sy s (atK jb sy s i) 0 (by omega)
        rw [Nat.add_zero] at this
        rw [← this]
        have h5 := hfull.1
        unfold nextB at h5
        simpa using h5
      have e1 := nextE_more m hal hc
      have e2 : atK jb sy (s ++ m) i = atK jb sy s i := by
        cases i with
        | zero => rfl
        | succ j => exact (posE_more m j (by omega)).2.2
      have e3 := atK_next jb sy (s ++ m) i
      rw [e2, e1, atK_next] at e3
      rw [← e3]
  · rw [List.getElem?_eq_none (by rw [List.length_take]; omega), List.getElem?_eq_none (by rw [List.length_take]; omega)]

/-- A first job, and then another input: that is cut as if it were alone. -/
theorem ends_after (jb : Int) (sy : Bool) (s t : ByteArray) (h2 : 2 ≤ jobsN jb sy s) : endsL jb sy (s.extract 0 (posE jb sy s 0) ++ t) 0 = (posE jb sy s 0 : Int) :: (if t.size = 0 then [] else (endsL jb sy t 0).map (fun x => x + (posE jb sy s 0 : Int))) := by
  obtain ⟨f1, f2, f3, f4⟩ := jobs_facts jb sy s
  have hlt : nextE jb sy s 0 < s.size := f2 0 (by omega)
  obtain ⟨h0, h1⟩ := nextE_cut hlt
  have hp : posE jb sy s 0 = nextE jb sy s 0 := rfl
  rw [hp]
  have hz : (s.extract 0 (nextE jb sy s 0)).size = nextE jb sy s 0 := by rw [ByteArray.size_extract]; omega
  have hc : cutN jb sy (s.extract 0 (nextE jb sy s 0)) 0 = cutN jb sy s 0 := cutN_sub (a := 0) (p := 0) (by omega) h0 (by rw [Nat.add_zero]; omega)
  have hn : nextE jb sy (s.extract 0 (nextE jb sy s 0) ++ t) 0 = nextE jb sy s 0 := by
    rw [nextE_more t (Nat.zero_le _) (by rw [hc]; exact h0)]
    have e : nextE jb sy (s.extract 0 (nextE jb sy s 0)) 0 = 0 + cutN jb sy (s.extract 0 (nextE jb sy s 0)) 0 := if_neg (by rw [hc]; exact h0)
    rw [e, hc]; exact h1.symm
  generalize hu : s.extract 0 (nextE jb sy s 0) = u at *
  have hus : (u ++ t).size = nextE jb sy s 0 + t.size := by rw [ByteArray.size_append, hz]
  rw [endsL_step jb sy (u ++ t) 0 (Nat.zero_le _), hn]
  congr 1
  by_cases ht : t.size = 0
  · rw [if_pos ht, if_neg (by omega)]
  · rw [if_neg ht, if_pos (by omega), jobs_rest jb sy (u ++ t) (nextE jb sy s 0) (by omega)]
    have e : (u ++ t).extract (nextE jb sy s 0) (u ++ t).size = t := by
      rw [ByteArray.extract_append, hus, hz]
      have e1 : u.extract (nextE jb sy s 0) (nextE jb sy s 0 + t.size) = ByteArray.empty := by
        apply ByteArray.ext
        apply Array.eq_empty_of_size_eq_zero
        show (u.extract (nextE jb sy s 0) (nextE jb sy s 0 + t.size)).size = 0
        rw [ByteArray.size_extract]; omega
      rw [e1]
      simp
    rw [e]

/-- What the statements about jobs ask of the ends of an input: a i is where the i-th job begins. -/
structure JobsAll (jb : Int) (sy : Bool) (s : ByteArray) (xs : List Int) (a : Nat → Nat) : Prop where
  one : 1 ≤ xs.length
  few : xs.length ≤ s.size + 1
  zero : a 0 = 0
  get : ∀ i, i < xs.length → xs[i]? = some (a (i + 1) : Int)
  le : ∀ i, a i ≤ s.size
  last : a xs.length = s.size
  empty : s.size = 0 → xs.length = 1
  up : s.size ≠ 0 → ∀ i, i < xs.length → a i < a (i + 1)
  long : ∀ i, i < xs.length → (a (i + 1) : Int) - a i ≤ longV jb sy
  full : ∀ i, i + 1 < xs.length → fullV 1 10 jb 0 sy (s.extract (a i) (a (i + 1))) = true
  plain : sy = false → ∀ i, i + 1 < xs.length → (a (i + 1) : Int) - a i = jb
  sync : sy = true → ∀ i, i + 1 < xs.length → leastC jb ≤ (a (i + 1) : Int) - a i
  rest : ∀ i, i + 1 < xs.length → ∃ ys, endsO 1 10 jb 0 sy (s.extract (a (i + 1)) s.size) = ys ∧ endsOE 1 10 jb 0 sy (s.extract (a (i + 1)) s.size) = 0 ∧ ys.length = xs.length - (i + 1) ∧ ∀ k, k < ys.length → ∃ y, ys[k]? = some y ∧ y + a (i + 1) = (a (i + 1 + k + 1) : Int)
theorem jobp_ok {jb : Int} (hj : 16 ≤ jb ∧ jb ≤ 2097152) : ¬ parBad 1 10 jb 0 := by unfold parBad; omega
theorem ends_small {jb : Int} (sy : Bool) {s : ByteArray} (hj : 16 ≤ jb ∧ jb ≤ 2097152) (hs : s.size ≤ 4095) : endsO 1 10 jb 0 sy s = endsL jb sy s 0 ∧ endsOE 1 10 jb 0 sy s = 0 :=
  endsO_ok (ask_ok (jobp_ok hj) (by omega)) (by have := (jobs_facts jb sy s).2.2.2; omega)
theorem jobs_all {jb : Int} (sy : Bool) {s : ByteArray} (hj : 16 ≤ jb ∧ jb ≤ 2097152) (hs : s.size ≤ 4095) : JobsAll jb sy s (endsL jb sy s 0) (atK jb sy s) := by
  obtain ⟨f1, f2, f3, f4⟩ := jobs_facts jb sy s
  have hN : (endsL jb sy s 0).length = jobsN jb sy s := rfl
  have hle := atK_le jb sy s
  have hlt : s.size ≠ 0 → ∀ i, i < jobsN jb sy s → atK jb sy s i < s.size := fun h0 i hi => by
    cases i with
    | zero => show 0 < s.size; omega
    | succ j => exact f2 j (by omega)
  refine ⟨f1, f4, rfl, fun i hi => ends_get jb sy s hi, hle, ?_, ?_, ?_, ?_, ?_, ?_, ?_, ?_⟩
  · rw [hN]
    obtain ⟨m, hm⟩ : ∃ m, jobsN jb sy s = m + 1 := ⟨jobsN jb sy s - 1, by omega⟩
    rw [hm] at f3 ⊢
    have := hle (m + 1)
    have e : atK jb sy s (m + 1) = posE jb sy s m := rfl
    rw [Nat.add_sub_cancel] at f3
    omega
  · intro h0
    rw [hN]
    rcases Nat.lt_or_ge 1 (jobsN jb sy s) with h | h
    · have := f2 0 (by omega); omega
    · omega
  · intro h0 i hi
    have := (nextE_le jb sy s (atK jb sy s i) (hle i)).2 (hlt h0 i hi)
    rw [atK_next] at this
    exact this
  · intro i hi
    have := nextE_long jb sy s (atK jb sy s i) hj.1 (hle i)
    rw [atK_next] at this
    exact this
  · intro i hi
    have := full_sub (l := 1) (wd := 10) (ov := 0) (sy := sy) (jobp_ok hj) (s := s) (p := atK jb sy s i) (by omega) (hle i) (by rw [atK_next]; exact f2 i hi)
    rw [atK_next] at this
    exact this
  · intro hsy i hi
    subst hsy
    have := plain_len hj (hle i) (by rw [atK_next]; exact f2 i hi)
    rw [atK_next] at this
    exact this
  · intro hsy i hi
    subst hsy
    have := sync_len (s := s) (p := atK jb true s i) hj (by rw [atK_next]; exact f2 i hi)
    rw [atK_next] at this
    exact this
  · intro i hi
    obtain ⟨e1, e2⟩ := ends_left hi
    have e0 : atK jb sy s (i + 1) = posE jb sy s i := rfl
    have hz : (s.extract (posE jb sy s i) s.size).size ≤ 4095 := by rw [ByteArray.size_extract]; omega
    obtain ⟨e3, e4⟩ := ends_small sy (s := s.extract (posE jb sy s i) s.size) hj hz
    refine ⟨_, e3, e4, e1, fun k hk => ?_⟩
    have hk' : k < jobsN jb sy (s.extract (posE jb sy s i) s.size) := hk
    exact ⟨_, ends_get jb sy _ hk', e2 k (by omega)⟩

end Go.Proofs.Ytfdbkpbgkpkckaa
