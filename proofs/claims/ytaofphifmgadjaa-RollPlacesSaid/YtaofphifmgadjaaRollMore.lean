/-
  All hashes with the slice's capacity; a part of a slice; the hashes of a part of a string.
-/
import Derived.Test.YtaofphifmgadjaaRollRef
namespace Go.Proofs.Ytaofphifmgadjaa
open Go.RowKit Go.Shelf
set_option linter.unusedVariables false
set_option maxRecDepth 100000

theorem owns_cap {w : World} {base n c : Nat} {e : TypeId} {A : Option Addr} {us : List Value} (h : w.ownsRow base e 1 (.slice A n c) n us) : n ≤ c := by
  rcases h.2 with ⟨h1, h2⟩ | ⟨g, cap, cur, h1, _, _, hc, _⟩
  · omega
  · injection h1 with _ _ h3; omega

theorem All_any2 (s : ByteArray) (w : World) (hs : s.size ≤ 1048576) :
    Calls Try.prog 23 #[.string s] w fun e w' => ∃ A c, e = .returned (.tuple #[.slice A (winsAll s).length c, .int .i64 0]) ∧ SliceAt .u64 w' w'.heap.size A (winsAll s) ∧ Below w.heap.size w w' ∧ (winsAll s).length ≤ c := by
  refine (callsIn_wide.1 (All_in 6 (Nat.le_refl _) s hs w)).mono ?_
  rintro e w' ⟨v, rfl, hown, hB⟩
  obtain ⟨A, c, rfl⟩ := owns_slice hown
  have hl := winsAll_len s
  change w'.ownsRow _ _ 1 _ _ ((winsAll s).map (Value.int .u64)) at hown
  rw [← hl] at hown ⊢
  exact ⟨A, c, rfl, SliceAt.of_own hown, hB, owns_cap hown⟩

/-- A part of a slice, by its run. -/
theorem slice_part {P : Program} {k : IntKind} {w : World} {B : Nat} {A : Option Addr} {xs : List Int} {t : TypeId} (ht : P.underlying t = some (.slice (P.elem t))) (hso : ∀ W, (sizeOf (P.elem t)).run P W = .ok 1 W)
    (h : SliceAt k w B A xs) (l m c : Nat) (hm : l + m ≤ xs.length) (hc : xs.length ≤ c) :
    ∃ A' c', (∀ W, (Instr.slice t (.slice A xs.length c) (some (.int .i64 l)) (some (.int .i64 ((l : Int) + m))) none).run P W = .ok (.slice A' m c') W) ∧ SliceAt k w B A' ((xs.drop l).take m) := by
  refine ⟨if c = l then A else A.map (·.add (l * 1)), c - l, fun W => ?_, ?_⟩
  · rw [run_slice_lh (P := P) W t A xs.length c ht .i64 .i64 (l : Int) ((l : Int) + m) (by omega) (by omega) (by omega)]
    rw [hso, Result.andThen_ok]
    have e1 : ((l : Int)).toNat = l := rfl
    have e2 : ((l : Int) + (m : Int)).toNat = l + m := rfl
    rw [e1, e2]
    unfold sliced
    rw [show l + m - l = m by omega]
  · rcases h with rfl | ⟨b, off, hA, hb, hg⟩
    · exact .inl (by simp)
    · by_cases hcl : c = l
      · refine .inl ?_
        have : m = 0 := by omega
        rw [this]; rfl
      · rw [if_neg hcl, hA]
        refine .inr ⟨b, off + l, ?_, hb, fun i x hx => ?_⟩
        · simp only [Option.map_some, Nat.mul_one]
          unfold Addr.add; split <;> simp_all
        · rw [List.getElem?_take] at hx
          split at hx
          · rw [List.getElem?_drop] at hx
            rw [Nat.add_assoc]
            exact hg _ _ hx
          · cases hx

theorem win_part (s : ByteArray) (f m i : Nat) (h : f + m ≤ s.size) (hi : i < m - 15) : winH s (f + i) = winH (s.extract f (f + m)) i := by
  unfold winH
  refine hashF_congr fun j hj => ?_
  rw [sb_extract s f (f + m) (i + j) (by omega) h]
  rw [show f + i + j = f + (i + j) by omega]

theorem wins_part (s : ByteArray) (f m : Nat) (h : f + m ≤ s.size) : ((winsAll s).drop f).take (m - 15) = winsAll (s.extract f (f + m)) := by
  have hsz : (s.extract f (f + m)).size = m := by rw [ByteArray.size_extract]; omega
  have hw := win_part s f m
  apply List.ext_getElem?
  intro i
  by_cases hi : i < m - 15
  · have e1 := winsAll_get s (f + i) (by omega)
    have e2 := winsAll_get (s.extract f (f + m)) i (by omega)
    rw [List.getElem?_take, if_pos hi, List.getElem?_drop, e1, e2, hw i h hi]
  · have e2 := winsAll_len (s.extract f (f + m))
    rw [List.getElem?_take, if_neg hi, List.getElem?_eq_none (by omega)]

end Go.Proofs.Ytaofphifmgadjaa
