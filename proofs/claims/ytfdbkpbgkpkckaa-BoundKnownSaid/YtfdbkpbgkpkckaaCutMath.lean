/-
  Where jobs end, in plain terms. No walk here.
-/
import Derived.Test.YtfdbkpbgkpkckaaRollHash
import Derived.Test.YtfdbkpbgkpkckaaCutHigh
import Derived.Test.YtfdbkpbgkpkckaaLongest
namespace Go.Proofs.Ytfdbkpbgkpkckaa
open Go.RowKit
set_option linter.unusedVariables false
set_option maxRecDepth 100000

/-- The first number from 1 to m that f holds of; 0 if there is none. -/
def scan (f : Nat → Bool) : Nat → Nat → Nat
  | 0, _ => 0
  | m + 1, k => if f (k + 1) then k + 1 else scan f m (k + 1)
def firstN (f : Nat → Bool) (m : Nat) : Nat := scan f m 0
theorem scan_spec (f : Nat → Bool) : ∀ m k, (scan f m k = 0 ∧ ∀ i, k < i → i ≤ k + m → f i = false) ∨ (k < scan f m k ∧ scan f m k ≤ k + m ∧ f (scan f m k) = true ∧ ∀ i, k < i → i < scan f m k → f i = false) := by
  intro m
  induction m with
  | zero => intro k; exact .inl ⟨rfl, fun i h1 h2 => by omega⟩
  | succ m ih =>
    intro k
    simp only [scan]
    cases hf : f (k + 1)
    · rw [if_neg (by simp)]
      rcases ih (k + 1) with ⟨h1, h2⟩ | ⟨h1, h2, h3, h4⟩
      · refine .inl ⟨h1, fun i a b => ?_⟩
        rcases Nat.lt_or_ge (k + 1) i with h | h
        · exact h2 i h (by omega)
        · obtain rfl : i = k + 1 := by omega
          exact hf
      · refine .inr ⟨by omega, by omega, h3, fun i a b => ?_⟩
        rcases Nat.lt_or_ge (k + 1) i with h | h
        · exact h4 i h b
        · obtain rfl : i = k + 1 := by omega
          exact hf
    · rw [if_pos rfl]
      exact .inr ⟨by omega, by omega, hf, fun i a b => by omega⟩
theorem firstN_spec (f : Nat → Bool) (m : Nat) : (firstN f m = 0 ∧ ∀ i, 1 ≤ i → i ≤ m → f i = false) ∨ (1 ≤ firstN f m ∧ firstN f m ≤ m ∧ f (firstN f m) = true ∧ ∀ i, 1 ≤ i → i < firstN f m → f i = false) := by
  rcases scan_spec f m 0 with ⟨h1, h2⟩ | ⟨h1, h2, h3, h4⟩
  · exact .inl ⟨h1, fun i a b => h2 i a (by omega)⟩
  · exact .inr ⟨h1, by unfold firstN; omega, h3, fun i a b => h4 i a b⟩
theorem firstN_found {f : Nat → Bool} {m n : Nat} (h1 : 1 ≤ n) (h2 : n ≤ m) (h3 : f n = true) (h4 : ∀ i, 1 ≤ i → i < n → f i = false) : firstN f m = n := by
  rcases firstN_spec f m with ⟨a, b⟩ | ⟨a, b, c, d⟩
  · rw [b n h1 h2] at h3; cases h3
  · rcases Nat.lt_trichotomy (firstN f m) n with h | h | h
    · rw [h4 _ a h] at c; cases c
    · exact h
    · rw [d n h1 h] at h3; cases h3
theorem firstN_none {f : Nat → Bool} {m : Nat} (h : ∀ i, 1 ≤ i → i ≤ m → f i = false) : firstN f m = 0 := by
  rcases firstN_spec f m with ⟨a, b⟩ | ⟨a, b, c, d⟩
  · exact a
  · rw [h _ a b] at c; cases c
theorem firstN_congr {f g : Nat → Bool} {m k : Nat} (h : ∀ i, 1 ≤ i → i ≤ m → f i = g i) (hk : k = m) : firstN f m = firstN g k := by
  subst hk
  rcases firstN_spec g k with ⟨a, b⟩ | ⟨a, b, c, d⟩
  · rw [a]; exact firstN_none fun i x y => by rw [h i x y, b i x y]
  · exact firstN_found a b (by rw [h _ a b, c]) fun i x y => by rw [h i x (by omega), d i x y]
/-- More room behind a hit changes nothing. -/
theorem firstN_more {f : Nat → Bool} {m k n : Nat} (hn : 1 ≤ n) (hf : f n = true) (h1 : n ≤ m) (h2 : n ≤ k) : firstN f m = firstN f k := by
  rcases firstN_spec f k with ⟨a, b⟩ | ⟨a, b, c, d⟩
  · rw [b n hn h2] at hf; cases hf
  · have hle : firstN f k ≤ n := by
      rcases Nat.lt_or_ge n (firstN f k) with h | h
      · rw [d n hn h] at hf; cases hf
      · exact h
    exact firstN_found a (by omega) c d

/-- The hash of the sixteen bytes from p on. -/
def winC (s : ByteArray) (p : Nat) : Int := hashF (fun i => sb s (p + i)) 16
theorem winC_lo (s : ByteArray) (p : Nat) : 0 ≤ winC s p ∧ winC s p ≤ 18446744073709551615 := hashF_lo _ _
theorem winC_succ (s : ByteArray) (p : Nat) : rollV (winC s p) (sb s p) (sb s (p + 16)) = winC s (p + 1) := by
  have := roll_rolls (fun i => sb s (p + i))
  unfold winC
  rw [Nat.add_zero] at this
  rw [this]
  exact hashF_congr fun i _ => by rw [show p + (i + 1) = p + 1 + i by omega]
theorem sb_sub (s : ByteArray) (p q i : Nat) (hi : p + i < q) (hq : q ≤ s.size) : sb (s.extract p q) i = sb s (p + i) := by
  have h1 : i < (s.extract p q).size := by rw [ByteArray.size_extract]; omega
  have h2 : p + i < s.size := by omega
  rw [← sb_get _ i h1, ← sb_get _ (p + i) h2, ByteArray.getElem_extract]
theorem winC_sub (s : ByteArray) (p q k : Nat) (hk : p + k + 16 ≤ q) (hq : q ≤ s.size) : winC (s.extract p q) k = winC s (p + k) :=
  hashF_congr fun i hi => by rw [sb_sub s p q (k + i) (by omega) hq, Nat.add_assoc]
theorem of_win (s : ByteArray) (p : Nat) (h : p + 16 ≤ s.size) : ofV (s.extract p (p + 16)) = winC s p := by
  rw [(of_ok (by rw [ByteArray.size_extract]; omega)).1]
  exact hashF_congr fun i hi => sb_sub s p (p + 16) i (by omega) h

/-- The least length of a job that is cut by its content. -/
def leastC (jb : Int) : Int := max 16 (jb / 4)
/-- Whether a job is cut behind n bytes, if it was not before. -/
def atV (jb : Int) (sy : Bool) (s : ByteArray) (p n : Nat) : Bool :=
  decide ((n : Int) = longV jb sy) || (sy && (decide (leastC jb ≤ (n : Int)) && hitsV (winC s (p + n - 16)) (Hi.bitsC jb)))
/-- How long the job is that begins at p, and 0 if it is not full. -/
def cutN (jb : Int) (sy : Bool) (s : ByteArray) (p : Nat) : Nat := firstN (atV jb sy s p) (s.size - p)
def nextE (jb : Int) (sy : Bool) (s : ByteArray) (p : Nat) : Nat := if cutN jb sy s p = 0 then s.size else p + cutN jb sy s p
def nextB (jb : Int) (sy : Bool) (s : ByteArray) (p : Nat) : Bool := decide (cutN jb sy s p ≠ 0)

/-- What a job by content looks at. -/
def fC (least most bits : Int) (u : ByteArray) (n : Nat) : Bool := decide (least ≤ (n : Int)) && (hitsV (winC u (n - 16)) bits || decide ((n : Int) = most))

theorem plain_cut (jb : Int) (s : ByteArray) (p : Nat) (hj : 16 ≤ jb ∧ jb ≤ 2097152) (hp : p ≤ s.size) : (cutN jb false s p : Int) = if jb ≤ (s.size : Int) - p then jb else 0 := by
  have e : ∀ n, atV jb false s p n = decide ((n : Int) = jb) := fun n => by unfold atV; simp [longV]
  unfold cutN
  split
  · rename_i h
    rw [firstN_found (n := jb.toNat) (by omega) (by omega) (by rw [e]; simp; omega) (fun i h1 h2 => by rw [e]; simp; omega)]
    omega
  · rename_i h
    rw [firstN_none fun i h1 h2 => by rw [e]; simp; omega]
    rfl
theorem content_cut (jb : Int) (s : ByteArray) (p e : Nat) (hj : 16 ≤ jb ∧ jb ≤ 2097152) (hp : p ≤ s.size) (he : (e : Int) = min (s.size : Int) (p + 4 * jb)) :
    cutN jb true s p = firstN (fC (leastC jb) (4 * jb) (Hi.bitsC jb) (s.extract p e)) (s.extract p e).size := by
  have hsz : (s.extract p e).size = e - p := by rw [ByteArray.size_extract]; omega
  have hlm : leastC jb ≤ 4 * jb := by unfold leastC; omega
  have hl16 : 16 ≤ leastC jb := by unfold leastC; omega
  have ag : ∀ i, 1 ≤ i → i ≤ e - p → atV jb true s p i = fC (leastC jb) (4 * jb) (Hi.bitsC jb) (s.extract p e) i := fun i h1 h2 => by
    unfold atV fC
    rw [show longV jb true = 4 * jb from rfl]
    by_cases hl : leastC jb ≤ (i : Int)
    · rw [winC_sub s p e (i - 16) (by omega) (by omega), show p + (i - 16) = p + i - 16 by omega]
      simp only [hl, decide_true, Bool.true_and]
      rw [Bool.or_comm]
    · have h4 : ¬ (i : Int) = 4 * jb := by omega
      simp [hl, h4]
  rw [hsz, ← firstN_congr (f := atV jb true s p) ag rfl]
  unfold cutN
  by_cases hc : 4 * jb ≤ (s.size : Int) - p
  · refine firstN_more (n := (4 * jb).toNat) (by omega) ?_ (by omega) (by omega)
    unfold atV
    rw [show longV jb true = 4 * jb from rfl, show (((4 * jb).toNat : Nat) : Int) = 4 * jb by omega]
    simp
  · rw [show e - p = s.size - p by omega]

theorem nextE_le (jb : Int) (sy : Bool) (s : ByteArray) (p : Nat) (hp : p ≤ s.size) : nextE jb sy s p ≤ s.size ∧ (p < s.size → p < nextE jb sy s p) := by
  unfold nextE
  have := firstN_spec (atV jb sy s p) (s.size - p)
  unfold cutN at *
  split
  · exact ⟨Nat.le_refl _, fun h => h⟩
  · omega

/-- The ends of the jobs from a place on. -/
def endsF (jb : Int) (sy : Bool) (s : ByteArray) : Nat → Nat → List Int
  | 0, _ => []
  | k + 1, p => (nextE jb sy s p : Int) :: (if nextE jb sy s p < s.size then endsF jb sy s k (nextE jb sy s p) else [])
def endsL (jb : Int) (sy : Bool) (s : ByteArray) (p : Nat) : List Int := endsF jb sy s (s.size - p + 1) p
theorem endsF_fuel (jb : Int) (sy : Bool) (s : ByteArray) : ∀ m k p, p ≤ s.size → s.size - p + 1 ≤ m → s.size - p + 1 ≤ k → endsF jb sy s m p = endsF jb sy s k p := by
  intro m
  induction m with
  | zero => intro k p _ h; omega
  | succ m ih =>
    intro k p hp h1 h2
    obtain ⟨k, rfl⟩ : ∃ j, k = j + 1 := ⟨k - 1, by omega⟩
    simp only [endsF]
    have hn := nextE_le jb sy s p hp
    by_cases hlt : nextE jb sy s p < s.size
    · rw [if_pos hlt, if_pos hlt]
      by_cases hps : p < s.size
      · have := hn.2 hps
        rw [ih k _ (by omega) (by omega) (by omega)]
      · obtain rfl : p = s.size := by omega
        have h0 : cutN jb sy s s.size = 0 := by
          have := firstN_spec (atV jb sy s s.size) (s.size - s.size)
          unfold cutN; omega
        unfold nextE at hlt
        rw [if_pos h0] at hlt
        omega
    · rw [if_neg hlt, if_neg hlt]
theorem endsL_step (jb : Int) (sy : Bool) (s : ByteArray) (p : Nat) (hp : p ≤ s.size) : endsL jb sy s p = (nextE jb sy s p : Int) :: (if nextE jb sy s p < s.size then endsL jb sy s (nextE jb sy s p) else []) := by
  have hn := nextE_le jb sy s p hp
  have e : endsL jb sy s p = endsF jb sy s (s.size - p + 2) p := endsF_fuel jb sy s _ _ p hp (Nat.le_refl _) (by omega)
  rw [e]
  simp only [endsF]
  by_cases hlt : nextE jb sy s p < s.size
  · rw [if_pos hlt, if_pos hlt]
    by_cases hps : p < s.size
    · have := hn.2 hps
      have e2 : (if nextE jb sy s (nextE jb sy s p) < s.size then endsF jb sy s (s.size - p) (nextE jb sy s (nextE jb sy s p)) else []) = (if nextE jb sy s (nextE jb sy s p) < s.size then endsF jb sy s (s.size - p) (nextE jb sy s (nextE jb sy s p)) else []) := rfl
      show _ :: endsF jb sy s (s.size - p + 1) (nextE jb sy s p) = _
      unfold endsL
      rw [endsF_fuel jb sy s (s.size - p + 1) (s.size - nextE jb sy s p + 1) (nextE jb sy s p) (by omega) (by omega) (Nat.le_refl _)]
    · obtain rfl : p = s.size := by omega
      have h0 : cutN jb sy s s.size = 0 := by
        have := firstN_spec (atV jb sy s s.size) (s.size - s.size)
        unfold cutN; omega
      unfold nextE at hlt
      rw [if_pos h0] at hlt
      omega
  · rw [if_neg hlt, if_neg hlt]

end Go.Proofs.Ytfdbkpbgkpkckaa
