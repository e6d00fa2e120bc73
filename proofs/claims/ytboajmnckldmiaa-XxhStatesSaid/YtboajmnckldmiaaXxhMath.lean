/-
  Plain facts on XXH64: what is left of a string, the stripes, and the checksum. No walk here.
-/
import Derived.Test.YtboajmnckldmiaaXxhTake
namespace Go.Proofs.Ytboajmnckldmiaa
open Go.RowKit
set_option linter.unusedVariables false
set_option maxRecDepth 100000

/-- Rounds over 8, 4 bytes and 1 byte. -/
def rest8 (h : Int) (s : ByteArray) : Int := addV (mulV (turnV (xorV h (roundV 0 (rd s 0 8))) 27) pA) pD
def rest4 (h : Int) (s : ByteArray) : Int := addV (mulV (turnV (xorV h (mulV (rd s 0 4) pA)) 23) pB) pC
def rest1 (h x : Int) : Int := mulV (turnV (xorV h (mulV x pE)) 11) pA
def restF : Nat → Int → ByteArray → Int
  | 0, h, _ => h
  | n + 1, h, s =>
    if 8 ≤ s.size then restF n (rest8 h s) (s.extract 8 s.size)
    else if 4 ≤ s.size then restF n (rest4 h s) (s.extract 4 s.size)
    else if 1 ≤ s.size then restF n (rest1 h (sb s 0)) (s.extract 1 s.size)
    else h
/-- What is left of a string, taken in. -/
def restV (h : Int) (s : ByteArray) : Int := restF s.size h s

theorem restF_fuel : ∀ (n m : Nat) (h : Int) (s : ByteArray), s.size ≤ n → s.size ≤ m → restF n h s = restF m h s := by
  intro n
  induction n with
  | zero =>
    intro m h s h1 _
    cases m with
    | zero => rfl
    | succ m => simp only [restF]; rw [if_neg (by omega), if_neg (by omega), if_neg (by omega)]
  | succ n ih =>
    intro m h s h1 h2
    cases m with
    | zero => simp only [restF]; rw [if_neg (by omega), if_neg (by omega), if_neg (by omega)]
    | succ m =>
      simp only [restF]
      split
      · exact ih _ _ _ (by rw [ByteArray.size_extract]; omega) (by rw [ByteArray.size_extract]; omega)
      · split
        · exact ih _ _ _ (by rw [ByteArray.size_extract]; omega) (by rw [ByteArray.size_extract]; omega)
        · split
          · exact ih _ _ _ (by rw [ByteArray.size_extract]; omega) (by rw [ByteArray.size_extract]; omega)
          · rfl
theorem restV_succ (h : Int) (s : ByteArray) (hs : 1 ≤ s.size) : restV h s = (if 8 ≤ s.size then restV (rest8 h s) (s.extract 8 s.size)
    else if 4 ≤ s.size then restV (rest4 h s) (s.extract 4 s.size) else restV (rest1 h (sb s 0)) (s.extract 1 s.size)) := by
  obtain ⟨n, hn⟩ : ∃ n, s.size = n + 1 := ⟨s.size - 1, by omega⟩
  have e : restV h s = restF (n + 1) h s := by unfold restV; rw [hn]
  rw [e]
  simp only [restF]
  split
  · exact restF_fuel _ _ _ _ (by rw [ByteArray.size_extract]; omega) (Nat.le_refl _)
  · split
    · exact restF_fuel _ _ _ _ (by rw [ByteArray.size_extract]; omega) (Nat.le_refl _)
    · exact restF_fuel _ _ _ _ (by rw [ByteArray.size_extract]; omega) (Nat.le_refl _)
theorem restV_8 (h : Int) (s : ByteArray) (hs : 8 ≤ s.size) : restV h s = restV (rest8 h s) (s.extract 8 s.size) := by
  rw [restV_succ h s (by omega), if_pos hs]
theorem restV_4 (h : Int) (s : ByteArray) (h8 : s.size < 8) (hs : 4 ≤ s.size) : restV h s = restV (rest4 h s) (s.extract 4 s.size) := by
  rw [restV_succ h s (by omega), if_neg (by omega), if_pos hs]
theorem restV_1 (h : Int) (s : ByteArray) (h4 : s.size < 4) (hs : 1 ≤ s.size) : restV h s = restV (rest1 h (sb s 0)) (s.extract 1 s.size) := by
  rw [restV_succ h s (by omega), if_neg (by omega), if_neg (by omega)]
theorem restV_0 (h : Int) (s : ByteArray) (hs : s.size = 0) : restV h s = h := by unfold restV; rw [hs]; rfl

theorem rest8_in (h : Int) (s : ByteArray) : 0 ≤ rest8 h s ∧ rest8 h s ≤ 18446744073709551615 := addV_in _ _
theorem rest4_in (h : Int) (s : ByteArray) : 0 ≤ rest4 h s ∧ rest4 h s ≤ 18446744073709551615 := addV_in _ _
theorem rest1_in (h x : Int) : 0 ≤ rest1 h x ∧ rest1 h x ≤ 18446744073709551615 := mulV_in _ _

/-- The last steps. -/
def finA (h : Int) : Int := mulV (xorV h (h / 8589934592)) pB
def finB (h : Int) : Int := mulV (xorV h (h / 536870912)) pC
def finC (h : Int) : Int := xorV h (h / 4294967296)
def finV (h : Int) : Int := finC (finB (finA h))
theorem finV_in (h : Int) : 0 ≤ finV h ∧ finV h ≤ 18446744073709551615 := xorV_in _ _
/-- The lanes as one number. -/
def joinV (l : Lan) : Int := addV (addV (addV (turnV l.a 1) (turnV l.b 7)) (turnV l.c 12)) (turnV l.d 18)
def mergedV (l : Lan) : Int := mergeV (mergeV (mergeV (mergeV (joinV l) l.a) l.b) l.c) l.d
theorem mergeV_in (h l : Int) : 0 ≤ mergeV h l ∧ mergeV h l ≤ 18446744073709551615 := addV_in _ _
theorem mergedV_in (l : Lan) : 0 ≤ mergedV l ∧ mergedV l ≤ 18446744073709551615 := mergeV_in _ _
def endV (h : Int) (s : ByteArray) : Int := finV (restV h s)
theorem endV_in (h : Int) (s : ByteArray) : 0 ≤ endV h s ∧ endV h s ≤ 18446744073709551615 := finV_in _

/-- All stripes of a string. -/
def stripF : Nat → Lan → ByteArray → Lan × ByteArray
  | 0, l, s => (l, s)
  | n + 1, l, s => if 32 ≤ s.size then stripF n (takeV l s 0) (s.extract 32 s.size) else (l, s)
def stripV (l : Lan) (s : ByteArray) : Lan × ByteArray := stripF s.size l s
theorem stripF_fuel : ∀ (n m : Nat) (l : Lan) (s : ByteArray), s.size ≤ n → s.size ≤ m → stripF n l s = stripF m l s := by
  intro n
  induction n with
  | zero =>
    intro m l s h1 _
    cases m with
    | zero => rfl
    | succ m => simp only [stripF]; rw [if_neg (by omega)]
  | succ n ih =>
    intro m l s h1 h2
    cases m with
    | zero => simp only [stripF]; rw [if_neg (by omega)]
    | succ m =>
      simp only [stripF]
      split
      · exact ih _ _ _ (by rw [ByteArray.size_extract]; omega) (by rw [ByteArray.size_extract]; omega)
      · rfl
theorem stripV_32 (l : Lan) (s : ByteArray) (hs : 32 ≤ s.size) : stripV l s = stripV (takeV l s 0) (s.extract 32 s.size) := by
  obtain ⟨n, hn⟩ : ∃ n, s.size = n + 1 := ⟨s.size - 1, by omega⟩
  have e : stripV l s = stripF (n + 1) l s := by unfold stripV; rw [hn]
  rw [e]
  simp only [stripF]
  rw [if_pos hs]
  exact stripF_fuel _ _ _ _ (by rw [ByteArray.size_extract]; omega) (Nat.le_refl _)
theorem stripV_lt (l : Lan) (s : ByteArray) (hs : s.size < 32) : stripV l s = (l, s) := by
  have e : stripV l s = stripF (s.size + 1) l s := stripF_fuel _ _ _ _ (Nat.le_refl _) (by omega)
  rw [e]; simp only [stripF]; rw [if_neg (by omega)]
theorem takeV_in (l : Lan) (s : ByteArray) (p : Nat) : LanIn (takeV l s p) := ⟨roundV_in _ _, roundV_in _ _, roundV_in _ _, roundV_in _ _⟩

theorem strip_ind {P : Lan → ByteArray → Prop} (h1 : ∀ l s, s.size < 32 → P l s) (h2 : ∀ l s, 32 ≤ s.size → P (takeV l s 0) (s.extract 32 s.size) → P l s) (l : Lan) (s : ByteArray) : P l s := by
  obtain ⟨n, hn⟩ : ∃ n, s.size ≤ n := ⟨_, Nat.le_refl _⟩
  induction n generalizing l s with
  | zero => exact h1 l s (by omega)
  | succ n ih =>
    by_cases h : 32 ≤ s.size
    · exact h2 l s h (ih _ _ (by rw [ByteArray.size_extract]; omega))
    · exact h1 l s (by omega)

theorem stripV_in (l : Lan) (s : ByteArray) (hl : LanIn l) : LanIn (stripV l s).1 := by
  revert hl
  refine strip_ind (P := fun l s => LanIn l → LanIn (stripV l s).1) (fun l s h hl => ?_) (fun l s h ih hl => ?_) l s
  · rw [stripV_lt l s h]; exact hl
  · rw [stripV_32 l s h]; exact ih (takeV_in _ _ _)
theorem stripV_tail (l : Lan) (s : ByteArray) : (stripV l s).2.size = s.size % 32 := by
  refine strip_ind (P := fun l s => (stripV l s).2.size = s.size % 32) (fun l s h => ?_) (fun l s h ih => ?_) l s
  · rw [stripV_lt l s h]; show s.size = _; omega
  · rw [stripV_32 l s h, ih, ByteArray.size_extract]; omega

theorem sb_append (s t : ByteArray) (i : Nat) (h : i < s.size) : sb (s ++ t) i = sb s i := by
  unfold sb
  have hl : i < s.data.toList.length := by simpa using h
  rw [ByteArray.data_append, Array.toList_append, List.getD_eq_getElem?_getD, List.getD_eq_getElem?_getD, List.getElem?_append_left hl]
theorem rd_append (s t : ByteArray) (p k : Nat) (h : p + k ≤ s.size) : rd (s ++ t) p k = rd s p k := by
  induction k with
  | zero => rfl
  | succ k ih => simp only [rd]; rw [ih (by omega), sb_append s t _ (by omega)]
theorem takeV_append (l : Lan) (s t : ByteArray) (h : 32 ≤ s.size) : takeV l (s ++ t) 0 = takeV l s 0 := by
  unfold takeV
  rw [rd_append s t 0 8 (by omega), rd_append s t (0 + 8) 8 (by omega), rd_append s t (0 + 16) 8 (by omega), rd_append s t (0 + 24) 8 (by omega)]
theorem extract_append32 (s t : ByteArray) (k : Nat) (h : k ≤ s.size) : (s ++ t).extract k (s ++ t).size = s.extract k s.size ++ t := by
  apply ByteArray.ext
  simp only [ByteArray.data_extract, ByteArray.data_append, ByteArray.size_append]
  apply Array.ext'
  simp only [Array.toList_extract, Array.toList_append, List.extract]
  have hs : s.data.toList.length = s.size := by simp
  have ht : t.data.toList.length = t.size := by simp
  rw [List.drop_append_of_le_length (by omega), List.take_of_length_le (by rw [List.length_append, List.length_drop]; omega), List.take_of_length_le (by rw [List.length_drop]; omega)]

/-- Stripes of a string in two parts. -/
theorem stripV_append (l : Lan) (s t : ByteArray) : stripV (stripV l s).1 ((stripV l s).2 ++ t) = stripV l (s ++ t) := by
  refine strip_ind (P := fun l s => stripV (stripV l s).1 ((stripV l s).2 ++ t) = stripV l (s ++ t)) (fun l s h => ?_) (fun l s h ih => ?_) l s
  · rw [stripV_lt l s h]
  · rw [stripV_32 l s h, ih, stripV_32 l (s ++ t) (by rw [ByteArray.size_append]; omega), takeV_append l s t h, extract_append32 s t 32 h]

/-- The checksum of a state. -/
def sumV (l : Lan) (t : Int) (s : ByteArray) (sd : Int) : Int := endV (addV (if 32 ≤ t then mergedV l else addV sd pE) t) s
def seededV (s : ByteArray) (sd : Int) : Int := sumV (stripV (startV sd) s).1 s.size (stripV (startV sd) s).2 sd
theorem sumV_in (l : Lan) (t : Int) (s : ByteArray) (sd : Int) : 0 ≤ sumV l t s sd ∧ sumV l t s sd ≤ 18446744073709551615 := endV_in _ _

/-- A state. -/
structure Hsh where
  l : Lan
  t : Int
  s : ByteArray
  e : Int
def Hsh.val (h : Hsh) : Value := .agg #[.int .u64 h.l.a, .int .u64 h.l.b, .int .u64 h.l.c, .int .u64 h.l.d, .int .i64 h.t, .string h.s, .int .u64 h.e]
def newH (sd : Int) : Hsh := ⟨startV sd, 0, ByteArray.empty, sd⟩
def zeroH : Hsh := ⟨⟨0, 0, 0, 0⟩, 0, ByteArray.empty, 0⟩
def HshOk (h : Hsh) : Prop := LanIn h.l ∧ (-9223372036854775808 ≤ h.t ∧ h.t ≤ 9223372036854775807) ∧ h.s.size ≤ 9223372036854775807 ∧ (0 ≤ h.e ∧ h.e ≤ 18446744073709551615)
def lanEq (l m : Lan) : Bool := l.a == m.a && l.b == m.b && l.c == m.c && l.d == m.d
/-- Whether a state is not valid. -/
def badH (h : Hsh) : Bool := decide (h.t < 0) || decide (1099511627776 < h.t) || ((h.s.size : Int) != h.t % 32) || (decide (h.t < 32) && !lanEq h.l (startV h.e))
def checkH (h : Hsh) : Int := if badH h then 10 else 0
/-- A state behind some bytes. -/
def addH (h : Hsh) (s : ByteArray) : Hsh := ⟨(stripV h.l (h.s ++ s)).1, h.t + s.size, (stripV h.l (h.s ++ s)).2, h.e⟩
def addE (h : Hsh) (s : ByteArray) : Int := if badH h then 10 else if 1099511627776 - h.t < (s.size : Int) then 2 else 0
def addO (h : Hsh) (s : ByteArray) : Hsh := if addE h s = 0 then addH h s else zeroH
def sumO (h : Hsh) : Int := if badH h then 0 else sumV h.l h.t h.s h.e

end Go.Proofs.Ytboajmnckldmiaa
