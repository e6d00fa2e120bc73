/-
  The contract of cutter.Ends with the room of its slice; the head of a slice.
-/
import Derived.Test.YtfdbkpbgkpkckaaCutLaws
namespace Go.Proofs.Ytfdbkpbgkpkckaa
open Go.RowKit Go.Shelf
set_option linter.unusedVariables false
set_option maxRecDepth 100000

/-- The head of a slice, by its run. -/
theorem slice_head {P : Program} {k : IntKind} {w : World} {B : Nat} {A : Option Addr} {xs : List Int} {t : TypeId} (ht : P.underlying t = some (.slice (P.elem t))) (hso : ∀ W, (sizeOf (P.elem t)).run P W = .ok 1 W)
    (h : SliceAt k w B A xs) (m c : Nat) (hm : m ≤ xs.length) (hc : xs.length ≤ c) :
    ∃ A' c', m ≤ c' ∧ (∀ W, (Instr.slice t (.slice A xs.length c) none (some (.int .i64 (m : Int))) none).run P W = .ok (.slice A' m c') W) ∧ SliceAt k w B A' (xs.take m) := by
  refine ⟨if c = 0 then A else A.map (·.add (0 * 1)), c - 0, by omega, fun W => ?_, ?_⟩
  · rw [run_slice_h (P := P) W t A xs.length c ht .i64 (m : Int) (by omega) (by omega), hso, Result.andThen_ok]
    unfold sliced
    rw [Int.toNat_natCast, Nat.sub_zero]
  · rcases h with rfl | ⟨b, off, hA, hb, hg⟩
    · exact .inl (by simp)
    · by_cases hcl : c = 0
      · refine .inl ?_
        have : m = 0 := by omega
        rw [this]; rfl
      · rw [if_neg hcl, hA]
        refine .inr ⟨b, off, ?_, hb, fun i x hx => ?_⟩
        · simp only [Option.map_some, Nat.mul_one]
          unfold Addr.add; split <;> simp_all
        · rw [List.getElem?_take] at hx
          split at hx
          · exact hg _ _ hx
          · cases hx

def EndsCap (xs : List Int) (w : World) (e : Ending) (w' : World) : Prop := ∃ A c, e = .returned (.tuple #[.slice A xs.length c, .int .i64 0]) ∧ xs.length ≤ c ∧ SliceAt .i64 w' w'.heap.size A xs ∧ Below w.heap.size w w'
theorem Ends35_cap (jb : Int) (sy : Bool) (s : ByteArray) (w : World) (hj : 16 ≤ jb ∧ jb ≤ 2097152) (hs : s.size ≤ 4095) :
    Calls Try.prog 33 #[.agg #[.int .i64 1, .int .i64 10, .int .i64 jb, .int .i64 0, .bool sy, .bool false], .string s] w (EndsCap (endsL jb sy s 0) w) := by
  have hf := (jobs_facts jb sy s).2.2.2
  refine (callsIn_wide.1 (Ends_in 6 (Nat.le_refl _) 1 10 jb 0 sy false s (jobp_ok hj) (by omega) w)).mono ?_
  rintro e w' ⟨⟨base, hb, hP⟩, hB⟩
  rcases hP with ⟨h2, v, rfl, hown⟩ | ⟨h2, rfl⟩
  · obtain ⟨A, c, rfl⟩ := owns_slice hown
    have hl : (endsL jb sy s 0).length = jobsN jb sy s := rfl
    rw [← hl] at hown ⊢
    exact ⟨A, c, rfl, own_cap hown, SliceAt.of_own hown, hB⟩
  · omega

end Go.Proofs.Ytfdbkpbgkpkckaa
