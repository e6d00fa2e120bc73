/-
  The places of two strings, one behind the other. No program here.
-/
import Derived.Test.YtaofphifmgadjaaRollFirstRef
import Derived.Test.YtaofphifmgadjaaRollMore
namespace Go.Proofs.Ytaofphifmgadjaa
open Go.RowKit Go.Shelf
set_option linter.unusedVariables false
set_option maxRecDepth 100000

theorem sbApp_left (a b : ByteArray) (i : Nat) (h : i < a.size) : sb (a ++ b) i = sb a i := by
  have h2 : i < (a ++ b).size := by rw [ByteArray.size_append]; omega
  rw [← sb_get _ i h2, ← sb_get _ i h, ByteArray.getElem_append_left h]

theorem sbApp_right (a b : ByteArray) (i : Nat) (h : a.size ≤ i) (h' : i < a.size + b.size) : sb (a ++ b) i = sb b (i - a.size) := by
  have h2 : i < (a ++ b).size := by rw [ByteArray.size_append]; omega
  have h3 : i - a.size < b.size := by omega
  rw [← sb_get _ i h2, ← sb_get _ _ h3, ByteArray.getElem_append_right h]

theorem win_left (s t : ByteArray) (k : Nat) (h : k + 16 ≤ s.size) : winH (s ++ t) k = winH s k := by
  unfold winH
  exact hashF_congr fun i hi => sbApp_left s t (k + i) (by omega)

theorem win_right (s t : ByteArray) (k : Nat) (h : k + 16 ≤ t.size) : winH (s ++ t) (s.size + k) = winH t k := by
  unfold winH
  refine hashF_congr fun i hi => ?_
  rw [sbApp_right s t (s.size + k + i) (by omega) (by omega), show s.size + k + i - s.size = k + i by omega]

theorem hitAt_append (s : ByteArray) (n : Nat) (a b : List Nat) : hitAt s n (a ++ b) = hitAt s n a ++ hitAt s n b := by
  unfold hitAt; rw [List.filter_append, List.map_append]

theorem hitAt_mem {s : ByteArray} {n : Nat} {pre : List Nat} {x : Int} : x ∈ hitAt s n pre ↔ ∃ k, k ∈ pre ∧ hitB (winH s k) n = true ∧ x = 16 + (k : Int) := by
  unfold hitAt
  rw [List.mem_map]
  constructor
  · rintro ⟨k, hk, rfl⟩
    rw [List.mem_filter] at hk
    exact ⟨k, hk.1, hk.2, rfl⟩
  · rintro ⟨k, h1, h2, rfl⟩
    exact ⟨k, List.mem_filter.2 ⟨h1, h2⟩, rfl⟩

theorem hitAt_sorted (s : ByteArray) (n N : Nat) : (hitAt s n (List.range N)).Pairwise (· < ·) := by
  unfold hitAt
  rw [List.pairwise_map]
  exact (List.pairwise_lt_range.filter _).imp fun h => by omega

theorem hitAt_less (s : ByteArray) (n : Nat) (h1 : 1 ≤ n) (h2 : n ≤ 64) (pre : List Nat) (x : Int) (h : x ∈ hitAt s n pre) : x ∈ hitAt s (n - 1) pre := by
  rw [hitAt_mem] at h ⊢
  obtain ⟨k, hk, hh, e⟩ := h
  exact ⟨k, hk, hit_less _ _ h1 h2 hh, e⟩

theorem hitAt_congr {s u : ByteArray} {n : Nat} {a : List Nat} (h : ∀ k, k ∈ a → winH s k = winH u k) : hitAt s n a = hitAt u n a := by
  unfold hitAt
  rw [List.filter_congr fun k hk => by rw [h k hk]]

theorem filter_all {p : Int → Bool} {l : List Int} (h : ∀ x, x ∈ l → p x = true) : l.filter p = l := List.filter_eq_self.2 h
theorem filter_none {p : Int → Bool} {l : List Int} (h : ∀ x, x ∈ l → p x = false) : l.filter p = [] := List.filter_eq_nil_iff.2 fun x hx => by rw [h x hx]; simp

theorem part_left (s t : ByteArray) (n : Nat) : (hitAt (s ++ t) n (List.range ((s ++ t).size - 15))).filter (fun x => decide (x ≤ (s.size : Int))) = hitAt s n (List.range (s.size - 15)) := by
  obtain ⟨b, hb⟩ : ∃ b, (s ++ t).size - 15 = (s.size - 15) + b := ⟨(s ++ t).size - 15 - (s.size - 15), by rw [ByteArray.size_append]; omega⟩
  rw [hb, List.range_add, hitAt_append, List.filter_append, filter_all, filter_none, List.append_nil]
  · exact hitAt_congr fun k hk => win_left s t k (by have := List.mem_range.1 hk; omega)
  · intro x hx
    obtain ⟨k, hk, _, rfl⟩ := hitAt_mem.1 hx
    obtain ⟨j, _, rfl⟩ := List.mem_map.1 hk
    simp; rw [ByteArray.size_append] at hb
    have := List.mem_range.1 ‹j ∈ List.range b›
    omega
  · intro x hx
    obtain ⟨k, hk, _, rfl⟩ := hitAt_mem.1 hx
    have := List.mem_range.1 hk
    simp; omega

theorem part_right (s t : ByteArray) (n : Nat) : ((hitAt (s ++ t) n (List.range ((s ++ t).size - 15))).filter (fun x => decide ((s.size : Int) + 16 ≤ x))).map (fun x => x - (s.size : Int)) = hitAt t n (List.range (t.size - 15)) := by
  have hsz : (s ++ t).size = s.size + t.size := ByteArray.size_append
  by_cases ht : 15 ≤ t.size
  · have hb : (s ++ t).size - 15 = s.size + (t.size - 15) := by omega
    rw [hb, List.range_add, hitAt_append, List.filter_append, filter_none, filter_all, List.nil_append]
    · unfold hitAt
      rw [List.filter_map, List.map_map, List.map_map]
      rw [List.filter_congr (q := fun k => hitB (winH t k) n) (fun k hk => by
        have := List.mem_range.1 hk
        show hitB (winH (s ++ t) (s.size + k)) n = _
        rw [win_right s t k (by omega)])]
      apply List.map_congr_left
      intro k _
      simp only [Function.comp]
      omega
    · intro x hx
      obtain ⟨k, hk, _, rfl⟩ := hitAt_mem.1 hx
      obtain ⟨j, _, rfl⟩ := List.mem_map.1 hk
      simp; omega
    · intro x hx
      obtain ⟨k, hk, _, rfl⟩ := hitAt_mem.1 hx
      have := List.mem_range.1 hk
      simp; omega
  · have e : t.size - 15 = 0 := by omega
    rw [e, filter_none]
    · rfl
    · intro x hx
      obtain ⟨k, hk, _, rfl⟩ := hitAt_mem.1 hx
      have := List.mem_range.1 hk
      simp; omega

/-- No place of the wide list ahead of k is asked for any more. -/
def KInv (xs ys : List Int) (i k : Nat) : Prop := ∀ i' p x, i ≤ i' → xs[i']? = some x → ys[p]? = some x → k ≤ p

theorem sorted_lt {ys : List Int} (h : ys.Pairwise (· < ·)) {a b : Nat} {x y : Int} (hx : ys[a]? = some x) (hy : ys[b]? = some y) (hab : a < b) : x < y := by
  obtain ⟨ha, rfl⟩ := List.getElem?_eq_some_iff.1 hx
  obtain ⟨hb, rfl⟩ := List.getElem?_eq_some_iff.1 hy
  exact List.pairwise_iff_getElem.1 h a b ha hb hab

theorem sorted_idx {ys : List Int} (h : ys.Pairwise (· < ·)) {a b : Nat} {x y : Int} (hx : ys[a]? = some x) (hy : ys[b]? = some y) (hab : x < y) : a < b := by
  rcases Nat.lt_trichotomy a b with h1 | h1 | h1
  · exact h1
  · subst h1; rw [hx] at hy; injection hy with hy; omega
  · have := sorted_lt h hy hx h1; omega

theorem kinv_step {xs ys : List Int} (hx : xs.Pairwise (· < ·)) (hy : ys.Pairwise (· < ·)) {i p : Nat} {x : Int} (h1 : xs[i]? = some x) (h2 : ys[p]? = some x) : KInv xs ys (i + 1) p := by
  intro i' p' x' hi hx' hy'
  have := sorted_lt hx h1 hx' (by omega)
  exact Nat.le_of_lt (sorted_idx hy h2 hy' this)

theorem firstL_cons (x : Int) (r : List Int) (f : Int) : firstL (x :: r) f = if f ≤ x then some x else firstL r f := by
  unfold firstL
  rw [List.find?_cons]
  by_cases h : f ≤ x <;> simp [h]

theorem take_yes {xs : List Int} {i : Nat} {x : Int} {p : Int → Bool} (hx : xs[i]? = some x) (h : p x = true) : (xs.take (i + 1)).filter p = (xs.take i).filter p ++ [x] := by
  rw [List.take_add_one, hx, List.filter_append]; simp [h]
theorem take_no {xs : List Int} {i : Nat} {x : Int} {p : Int → Bool} (hx : xs[i]? = some x) (h : p x = false) : (xs.take (i + 1)).filter p = (xs.take i).filter p := by
  rw [List.take_add_one, hx, List.filter_append]; simp [h]

/-- Two rows of the call's own that lie apart. -/
def Apart (u v : Value) : Prop := u.ownBlock = none ∨ u.ownBlock ≠ v.ownBlock

theorem own_kept1 {W W' : World} {base n : Nat} {e : TypeId} {u v : Value} {us : List Value} (hr : W.ownsRow base e 1 v n us) (hg : W.grownBy W' u.ownBlock) (hd : Apart u v) : W'.ownsRow base e 1 v n us := by
  rcases hr.2 with ⟨h1, h2⟩ | ⟨g, cap, cur, h1, _⟩
  · exact hr.kept hg (.inl (by first | exact ⟨h1, h2⟩ | (rw [h1]; rfl) | exact h1))
  · refine hr.kept hg (.inr ?_)
    rcases hd with h | h
    · rw [h, h1]; simp [Value.ownBlock]
    · exact h.symm

theorem own_kept2 {W W' : World} {base n : Nat} {e : TypeId} {u v : Value} {us : List Value} (hr : W.ownsRow base e 1 u n us) (hg : W.grownBy W' v.ownBlock) (hd : Apart u v) : W'.ownsRow base e 1 u n us := by
  rcases hr.2 with ⟨h1, h2⟩ | ⟨g, cap, cur, h1, _⟩
  · exact hr.kept hg (.inl (by first | exact ⟨h1, h2⟩ | (rw [h1]; rfl) | exact h1))
  · refine hr.kept hg (.inr ?_)
    rcases hd with h | h
    · rw [h1] at h; simp [Value.ownBlock] at h
    · exact h

theorem apart1 {W : World} {base n : Nat} {e : TypeId} {u u' v : Value} {us : List Value} {m : Nat} (hr : W.ownsRow base e 1 v n us) (hm : W.heap.size ≤ m) (hd : Apart u v) (h : u'.ownBlock = u.ownBlock ∨ u'.ownBlock = some m) : Apart u' v := by
  rcases h with h | h
  · unfold Apart; rw [h]; exact hd
  · refine .inr fun e' => ?_
    have := (hr.lt m (e'.symm.trans h)).2
    omega

theorem apart2 {W : World} {base n : Nat} {e : TypeId} {u v v' : Value} {us : List Value} {m : Nat} (hr : W.ownsRow base e 1 u n us) (hm : W.heap.size ≤ m) (hd : Apart u v) (h : v'.ownBlock = v.ownBlock ∨ v'.ownBlock = some m) : Apart u v' := by
  rcases h with h | h
  · unfold Apart; rw [h]; exact hd
  · refine .inr fun e' => ?_
    have := (hr.lt m (e'.trans h)).2
    omega

theorem slice_one (W : World) (k : IntKind) (t : TypeId) (x : Int) : SliceAt k (W.alloc (.cells #[.int k x] t)) (W.heap.size + 1) (some ⟨W.heap.size, 0, none⟩) [x] := by
  refine .inr ⟨W.heap.size, 0, rfl, Nat.lt_succ_self _, fun i y hy => ?_⟩
  cases i with
  | zero => injection hy with hy; subst hy; exact (World.cell?_alloc_at _ _ _ _ rfl).trans rfl
  | succ i => simp at hy

end Go.Proofs.Ytaofphifmgadjaa
