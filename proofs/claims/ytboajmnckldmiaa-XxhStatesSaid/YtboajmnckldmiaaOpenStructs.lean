/-
  Structs among the arguments, opened to their cells: parameters, a cursor, a hash, a header.
-/
import Derived.Test.YtboajmnckldmiaaShell
import Derived.Lib.SmallJoins
namespace Go.Proofs.Ytboajmnckldmiaa
open Go.ChangeShapes Go.WideShapes Go.ChangeAt Go.RowKit
set_option linter.unusedVariables false
set_option maxRecDepth 100000

section
variable {H : Type} {enc : TypeId × Value → H} {P : Program} {w : World} {base : Nat} {spare : Nat → Bool} {held : Bool} {fuel : Nat} {cs : List Value} {x : DataW H × List MemPlace}
/-- A field of a struct that reads, reads itself. -/
theorem part_reads {t : TypeId} {fs : Array Field} (ht : P.underlying t = some (.struct fs)) (h : DataW.trod enc P w base spare held fuel t cs = some x) (i : Nat) (f : Field) (hi : fs[i]? = some f) :
    ∃ n y, DataW.trod enc P w base spare held n f.type ((cs.drop f.offset).take (P.cellsOf f.type)) = some y := by
  obtain ⟨xs, n, _, _, _, hlen, hg⟩ := DataW.trod_struct ht h
  have hl : i < xs.length := by rw [hlen]; exact (Array.getElem?_eq_some_iff.1 hi).1
  exact ⟨n, xs[i], (hg i f hi).trans (List.getElem?_eq_getElem hl)⟩
theorem part_int {t : TypeId} {k : IntKind} (ht : P.underlying t = some (.int k)) (h : ∃ n y, DataW.trod enc P w base spare held n t cs = some y) : ∃ v, cs = [.int k v] ∧ (Lit.int k v).wf = true := by
  obtain ⟨n, y, h⟩ := h
  obtain ⟨v, h1, _, h2⟩ := DataW.trod_int ht h
  exact ⟨v, h1, h2⟩
theorem part_bool {t : TypeId} (ht : P.underlying t = some .bool) (h : ∃ n y, DataW.trod enc P w base spare held n t cs = some y) : ∃ v, cs = [.bool v] := by
  obtain ⟨n, y, h⟩ := h
  obtain ⟨v, h1, _⟩ := DataW.trod_bool ht h
  exact ⟨v, h1⟩
theorem part_string {t : TypeId} (ht : P.underlying t = some .string) (h : ∃ n y, DataW.trod enc P w base spare held n t cs = some y) : ∃ v : ByteArray, cs = [.string v] ∧ v.size ≤ maxLen := by
  obtain ⟨n, y, h⟩ := h
  obtain ⟨v, h1, _, h2⟩ := DataW.trod_string ht h
  exact ⟨v, h1, h2⟩
theorem part_elem {t e : TypeId} {m : Nat} (ht : P.underlying t = some (.array m e)) (h : ∃ n y, DataW.trod enc P w base spare held n t cs = some y) (i : Nat) (hi : i < m) :
    ∃ n y, DataW.trod enc P w base spare held n e ((cs.drop (i * P.cellsOf e)).take (P.cellsOf e)) = some y := by
  obtain ⟨n, y, h⟩ := h
  obtain ⟨xs, n', _, _, _, hlen, hg⟩ := DataW.trod_array ht h
  have hl : i < xs.length := by omega
  exact ⟨n', xs[i], (hg i hi).trans (List.getElem?_eq_getElem hl)⟩
theorem arr_of {α : Type} {cs : Array α} {l : List α} (h : cs.toList = l) : cs = l.toArray := by subst h; simp
end


theorem open_cursor {H : Type} {enc : TypeId × Value → H} {w : World} {spare : Nat → Bool} {held : Bool} {r : Reach} {b0 : Nat} {v : Value} {d : DataW H} {p : List MemPlace}
    (hv : Value.okWide Try.prog w r b0 28 v) (h : DataW.Trod enc Try.prog w 0 spare held 28 v d p) :
    ∃ (s : ByteArray) (at_ er fa : Int), v = .agg #[.string s, .int .i64 at_, .int .i64 er, .int .i64 fa] ∧ s.size ≤ maxLen ∧ (Lit.int .i64 at_).wf = true ∧ (Lit.int .i64 er).wf = true ∧ (Lit.int .i64 fa).wf = true := by
  obtain ⟨cs, rfl, hsz⟩ := okWide_struct Try.underlying28 hv
  have hsz6 : cs.toList.length = 4 := hsz.trans (by kernel_rfl)
  obtain ⟨fuel, hf⟩ := h
  obtain ⟨l, hl⟩ : ∃ l, cs.toList = l := ⟨_, rfl⟩
  change DataW.trod _ _ _ _ _ _ _ _ cs.toList = _ at hf
  have hcs := arr_of hl
  rw [hl] at hf hsz6
  clear hsz hl hv
  match l, hsz6 with
  | [c0, c1, c2, c3], _ =>
    obtain ⟨x0, e0, b0⟩ := part_string Try.underlying9 (part_reads Try.underlying28 hf 0 _ rfl)
    have k0 : Try.prog.cellsOf 9 = 1 := by kernel_rfl
    simp [k0] at e0
    obtain ⟨x1, e1, b1⟩ := part_int Try.underlying3 (part_reads Try.underlying28 hf 1 _ rfl)
    have k1 : Try.prog.cellsOf 3 = 1 := by kernel_rfl
    simp [k1] at e1
    obtain ⟨m2, y2, q2⟩ := part_reads Try.underlying28 hf 2 _ rfl
    obtain ⟨x2, e2, b2⟩ := part_int Try.underlying24 (part_reads Try.underlying26 q2 0 _ rfl)
    have k2 : Try.prog.cellsOf 24 = 1 := by kernel_rfl
    have s2 : Try.prog.cellsOf 26 = 2 := by kernel_rfl
    simp [k2, s2] at e2
    obtain ⟨m3, y3, q3⟩ := part_reads Try.underlying28 hf 2 _ rfl
    obtain ⟨x3, e3, b3⟩ := part_int Try.underlying3 (part_reads Try.underlying26 q3 1 _ rfl)
    have k3 : Try.prog.cellsOf 3 = 1 := by kernel_rfl
    have s3 : Try.prog.cellsOf 26 = 2 := by kernel_rfl
    simp [k3, s3] at e3
    subst e0
    subst e1
    subst e2
    subst e3
    subst hcs
    exact ⟨x0, x1, x2, x3, rfl, b0, b1, b2, b3⟩


theorem open_hash {H : Type} {enc : TypeId × Value → H} {w : World} {spare : Nat → Bool} {held : Bool} {r : Reach} {b0 : Nat} {v : Value} {d : DataW H} {p : List MemPlace}
    (hv : Value.okWide Try.prog w r b0 49 v) (h : DataW.Trod enc Try.prog w 0 spare held 49 v d p) :
    ∃ (a0 a1 a2 a3 tot : Int) (tl : ByteArray) (sd : Int), v = .agg #[.int .u64 a0, .int .u64 a1, .int .u64 a2, .int .u64 a3, .int .i64 tot, .string tl, .int .u64 sd] ∧ (Lit.int .u64 a0).wf = true ∧ (Lit.int .u64 a1).wf = true ∧ (Lit.int .u64 a2).wf = true ∧ (Lit.int .u64 a3).wf = true ∧ (Lit.int .i64 tot).wf = true ∧ tl.size ≤ maxLen ∧ (Lit.int .u64 sd).wf = true := by
  obtain ⟨cs, rfl, hsz⟩ := okWide_struct Try.underlying49 hv
  have hsz6 : cs.toList.length = 7 := hsz.trans (by kernel_rfl)
  obtain ⟨fuel, hf⟩ := h
  obtain ⟨l, hl⟩ : ∃ l, cs.toList = l := ⟨_, rfl⟩
  change DataW.trod _ _ _ _ _ _ _ _ cs.toList = _ at hf
  have hcs := arr_of hl
  rw [hl] at hf hsz6
  clear hsz hl hv
  match l, hsz6 with
  | [c0, c1, c2, c3, c4, c5, c6], _ =>
    obtain ⟨x0, e0, b0⟩ := part_int Try.underlying32 (part_elem Try.underlying47 (part_reads Try.underlying49 hf 0 _ rfl) 0 (by decide))
    have k0 : Try.prog.cellsOf 32 = 1 := by kernel_rfl
    have s0 : Try.prog.cellsOf 47 = 4 := by kernel_rfl
    simp [k0, s0] at e0
    obtain ⟨x1, e1, b1⟩ := part_int Try.underlying32 (part_elem Try.underlying47 (part_reads Try.underlying49 hf 0 _ rfl) 1 (by decide))
    have k1 : Try.prog.cellsOf 32 = 1 := by kernel_rfl
    have s1 : Try.prog.cellsOf 47 = 4 := by kernel_rfl
    simp [k1, s1] at e1
    obtain ⟨x2, e2, b2⟩ := part_int Try.underlying32 (part_elem Try.underlying47 (part_reads Try.underlying49 hf 0 _ rfl) 2 (by decide))
    have k2 : Try.prog.cellsOf 32 = 1 := by kernel_rfl
    have s2 : Try.prog.cellsOf 47 = 4 := by kernel_rfl
    simp [k2, s2] at e2
    obtain ⟨x3, e3, b3⟩ := part_int Try.underlying32 (part_elem Try.underlying47 (part_reads Try.underlying49 hf 0 _ rfl) 3 (by decide))
    have k3 : Try.prog.cellsOf 32 = 1 := by kernel_rfl
    have s3 : Try.prog.cellsOf 47 = 4 := by kernel_rfl
    simp [k3, s3] at e3
    obtain ⟨x4, e4, b4⟩ := part_int Try.underlying3 (part_reads Try.underlying49 hf 1 _ rfl)
    have k4 : Try.prog.cellsOf 3 = 1 := by kernel_rfl
    simp [k4] at e4
    obtain ⟨x5, e5, b5⟩ := part_string Try.underlying9 (part_reads Try.underlying49 hf 2 _ rfl)
    have k5 : Try.prog.cellsOf 9 = 1 := by kernel_rfl
    simp [k5] at e5
    obtain ⟨x6, e6, b6⟩ := part_int Try.underlying32 (part_reads Try.underlying49 hf 3 _ rfl)
    have k6 : Try.prog.cellsOf 32 = 1 := by kernel_rfl
    simp [k6] at e6
    subst e0
    subst e1
    subst e2
    subst e3
    subst e4
    subst e5
    subst e6
    subst hcs
    exact ⟨x0, x1, x2, x3, x4, x5, x6, rfl, b0, b1, b2, b3, b4, b5, b6⟩

end Go.Proofs.Ytboajmnckldmiaa
