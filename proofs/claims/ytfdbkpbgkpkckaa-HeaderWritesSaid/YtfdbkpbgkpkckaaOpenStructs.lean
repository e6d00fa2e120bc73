/-
  Structs among the arguments, opened to their cells: parameters, a cursor, a hash, a header.
-/
import Derived.Test.YtfdbkpbgkpkckaaShell
import Derived.Lib.SmallJoins
namespace Go.Proofs.Ytfdbkpbgkpkckaa
open Go.ChangeShapes Go.WideShapes Go.ChangeAt Go.RowKit
set_option linter.unusedVariables false
set_option maxRecDepth 100000

section
variable {H : Type} {enc : TypeId × Value → H} {P : Program} {w : World} {base : Nat} {spare : Nat → Bool} {held : Bool} {fuel : Nat} {cs : List Value} {x : DataW H × List MemPlace}
/-- A field of a struct that reads, reads itself. -/
theorem part_reads {t : TypeId} {fs : Array Field} (ht : P.underlying t = some (.struct fs)) (h : DataW.trod enc P w base spare held fuel t cs = some x) (i : Nat) (f : Field) (hi : fs[i]? = some f) :
    ∃ n y, DataW.trod enc P w base spare held n f.type ((cs.drop f.offset).take (P.cellsOf f.type)) = some y := by
  obtain ⟨xs, n, _, _, _, hlen, hg⟩ := DataW.trod_struct ht h
  have hl : i < xs.length := by rw [hlen]; exact (Array.getElem?_eq_some_iff.1 hi).1
  exact ⟨n, xs[i], (hg i f hi).trans (List.getElem?_eq_getElem hl)⟩
theorem part_int {t : TypeId} {k : IntKind} (ht : P.underlying t = some (.int k)) (h : ∃ n y, DataW.trod enc P w base spare held n t cs = some y) : ∃ v, cs = [.int k v] ∧ (Lit.int k v).wf = true := by
  obtain ⟨n, y, h⟩ := h
  obtain ⟨v, h1, _, h2⟩ := DataW.trod_int ht h
  exact ⟨v, h1, h2⟩
theorem part_bool {t : TypeId} (ht : P.underlying t = some .bool) (h : ∃ n y, DataW.trod enc P w base spare held n t cs = some y) : ∃ v, cs = [.bool v] := by
  obtain ⟨n, y, h⟩ := h
  obtain ⟨v, h1, _⟩ := DataW.trod_bool ht h
  exact ⟨v, h1⟩
theorem part_string {t : TypeId} (ht : P.underlying t = some .string) (h : ∃ n y, DataW.trod enc P w base spare held n t cs = some y) : ∃ v : ByteArray, cs = [.string v] ∧ v.size ≤ maxLen := by
  obtain ⟨n, y, h⟩ := h
  obtain ⟨v, h1, _, h2⟩ := DataW.trod_string ht h
  exact ⟨v, h1, h2⟩
theorem part_elem {t e : TypeId} {m : Nat} (ht : P.underlying t = some (.array m e)) (h : ∃ n y, DataW.trod enc P w base spare held n t cs = some y) (i : Nat) (hi : i < m) :
    ∃ n y, DataW.trod enc P w base spare held n e ((cs.drop (i * P.cellsOf e)).take (P.cellsOf e)) = some y := by
  obtain ⟨n, y, h⟩ := h
  obtain ⟨xs, n', _, _, _, hlen, hg⟩ := DataW.trod_array ht h
  have hl : i < xs.length := by omega
  exact ⟨n', xs[i], (hg i hi).trans (List.getElem?_eq_getElem hl)⟩
theorem arr_of {α : Type} {cs : Array α} {l : List α} (h : cs.toList = l) : cs = l.toArray := by subst h; simp
end

theorem open_params {H : Type} {enc : TypeId × Value → H} {w : World} {spare : Nat → Bool} {held : Bool} {r : Reach} {b0 : Nat} {v : Value} {d : DataW H} {p : List MemPlace}
    (hv : Value.okWide Try.prog w r b0 24 v) (h : DataW.Trod enc Try.prog w 0 spare held 24 v d p) :
    ∃ (l wd jb ov : Int) (sy ck : Bool), v = .agg #[.int .i64 l, .int .i64 wd, .int .i64 jb, .int .i64 ov, .bool sy, .bool ck] ∧ (Lit.int .i64 l).wf = true ∧ (Lit.int .i64 wd).wf = true ∧ (Lit.int .i64 jb).wf = true ∧ (Lit.int .i64 ov).wf = true := by
  obtain ⟨cs, rfl, hsz⟩ := okWide_struct Try.underlying24 hv
  have hsz6 : cs.toList.length = 6 := hsz.trans (by kernel_rfl)
  obtain ⟨fuel, hf⟩ := h
  obtain ⟨l, hl⟩ : ∃ l, cs.toList = l := ⟨_, rfl⟩
  change DataW.trod _ _ _ _ _ _ _ _ cs.toList = _ at hf
  have hcs := arr_of hl
  rw [hl] at hf hsz6
  clear hsz hl hv
  match l, hsz6 with
  | [c0, c1, c2, c3, c4, c5], _ =>
    obtain ⟨x0, e0, b0⟩ := part_int Try.underlying3 (part_reads Try.underlying24 hf 0 _ rfl)
    have k0 : Try.prog.cellsOf 3 = 1 := by kernel_rfl
    simp [k0] at e0
    obtain ⟨x1, e1, b1⟩ := part_int Try.underlying3 (part_reads Try.underlying24 hf 1 _ rfl)
    have k1 : Try.prog.cellsOf 3 = 1 := by kernel_rfl
    simp [k1] at e1
    obtain ⟨x2, e2, b2⟩ := part_int Try.underlying3 (part_reads Try.underlying24 hf 2 _ rfl)
    have k2 : Try.prog.cellsOf 3 = 1 := by kernel_rfl
    simp [k2] at e2
    obtain ⟨x3, e3, b3⟩ := part_int Try.underlying3 (part_reads Try.underlying24 hf 3 _ rfl)
    have k3 : Try.prog.cellsOf 3 = 1 := by kernel_rfl
    simp [k3] at e3
    obtain ⟨x4, e4⟩ := part_bool Try.underlying4 (part_reads Try.underlying24 hf 4 _ rfl)
    have k4 : Try.prog.cellsOf 4 = 1 := by kernel_rfl
    simp [k4] at e4
    obtain ⟨x5, e5⟩ := part_bool Try.underlying4 (part_reads Try.underlying24 hf 5 _ rfl)
    have k5 : Try.prog.cellsOf 4 = 1 := by kernel_rfl
    simp [k5] at e5
    subst e0
    subst e1
    subst e2
    subst e3
    subst e4
    subst e5
    subst hcs
    exact ⟨x0, x1, x2, x3, x4, x5, rfl, b0, b1, b2, b3⟩

theorem open_cursor {H : Type} {enc : TypeId × Value → H} {w : World} {spare : Nat → Bool} {held : Bool} {r : Reach} {b0 : Nat} {v : Value} {d : DataW H} {p : List MemPlace}
    (hv : Value.okWide Try.prog w r b0 93 v) (h : DataW.Trod enc Try.prog w 0 spare held 93 v d p) :
    ∃ (s : ByteArray) (at_ er fa : Int), v = .agg #[.string s, .int .i64 at_, .int .i64 er, .int .i64 fa] ∧ s.size ≤ maxLen ∧ (Lit.int .i64 at_).wf = true ∧ (Lit.int .i64 er).wf = true ∧ (Lit.int .i64 fa).wf = true := by
  obtain ⟨cs, rfl, hsz⟩ := okWide_struct Try.underlying93 hv
  have hsz6 : cs.toList.length = 4 := hsz.trans (by kernel_rfl)
  obtain ⟨fuel, hf⟩ := h
  obtain ⟨l, hl⟩ : ∃ l, cs.toList = l := ⟨_, rfl⟩
  change DataW.trod _ _ _ _ _ _ _ _ cs.toList = _ at hf
  have hcs := arr_of hl
  rw [hl] at hf hsz6
  clear hsz hl hv
  match l, hsz6 with
  | [c0, c1, c2, c3], _ =>
    obtain ⟨x0, e0, b0⟩ := part_string Try.underlying9 (part_reads Try.underlying93 hf 0 _ rfl)
    have k0 : Try.prog.cellsOf 9 = 1 := by kernel_rfl
    simp [k0] at e0
    obtain ⟨x1, e1, b1⟩ := part_int Try.underlying3 (part_reads Try.underlying93 hf 1 _ rfl)
    have k1 : Try.prog.cellsOf 3 = 1 := by kernel_rfl
    simp [k1] at e1
    obtain ⟨m2, y2, q2⟩ := part_reads Try.underlying93 hf 2 _ rfl
    obtain ⟨x2, e2, b2⟩ := part_int Try.underlying28 (part_reads Try.underlying54 q2 0 _ rfl)
    have k2 : Try.prog.cellsOf 28 = 1 := by kernel_rfl
    have s2 : Try.prog.cellsOf 54 = 2 := by kernel_rfl
    simp [k2, s2] at e2
    obtain ⟨m3, y3, q3⟩ := part_reads Try.underlying93 hf 2 _ rfl
    obtain ⟨x3, e3, b3⟩ := part_int Try.underlying3 (part_reads Try.underlying54 q3 1 _ rfl)
    have k3 : Try.prog.cellsOf 3 = 1 := by kernel_rfl
    have s3 : Try.prog.cellsOf 54 = 2 := by kernel_rfl
    simp [k3, s3] at e3
    subst e0
    subst e1
    subst e2
    subst e3
    subst hcs
    exact ⟨x0, x1, x2, x3, rfl, b0, b1, b2, b3⟩

theorem open_header {H : Type} {enc : TypeId × Value → H} {w : World} {spare : Nat → Bool} {held : Bool} {r : Reach} {b0 : Nat} {v : Value} {d : DataW H} {p : List MemPlace}
    (hv : Value.okWide Try.prog w r b0 52 v) (h : DataW.Trod enc Try.prog w 0 spare held 52 v d p) :
    ∃ (wn sz : Int) (si su : Bool), v = .agg #[.int .i64 wn, .int .i64 sz, .bool si, .bool su] ∧ (Lit.int .i64 wn).wf = true ∧ (Lit.int .i64 sz).wf = true := by
  obtain ⟨cs, rfl, hsz⟩ := okWide_struct Try.underlying52 hv
  have hsz6 : cs.toList.length = 4 := hsz.trans (by kernel_rfl)
  obtain ⟨fuel, hf⟩ := h
  obtain ⟨l, hl⟩ : ∃ l, cs.toList = l := ⟨_, rfl⟩
  change DataW.trod _ _ _ _ _ _ _ _ cs.toList = _ at hf
  have hcs := arr_of hl
  rw [hl] at hf hsz6
  clear hsz hl hv
  match l, hsz6 with
  | [c0, c1, c2, c3], _ =>
    obtain ⟨x0, e0, b0⟩ := part_int Try.underlying3 (part_reads Try.underlying52 hf 0 _ rfl)
    have k0 : Try.prog.cellsOf 3 = 1 := by kernel_rfl
    simp [k0] at e0
    obtain ⟨x1, e1, b1⟩ := part_int Try.underlying3 (part_reads Try.underlying52 hf 1 _ rfl)
    have k1 : Try.prog.cellsOf 3 = 1 := by kernel_rfl
    simp [k1] at e1
    obtain ⟨x2, e2⟩ := part_bool Try.underlying4 (part_reads Try.underlying52 hf 2 _ rfl)
    have k2 : Try.prog.cellsOf 4 = 1 := by kernel_rfl
    simp [k2] at e2
    obtain ⟨x3, e3⟩ := part_bool Try.underlying4 (part_reads Try.underlying52 hf 3 _ rfl)
    have k3 : Try.prog.cellsOf 4 = 1 := by kernel_rfl
    simp [k3] at e3
    subst e0
    subst e1
    subst e2
    subst e3
    subst hcs
    exact ⟨x0, x1, x2, x3, rfl, b0, b1⟩


end Go.Proofs.Ytfdbkpbgkpkckaa
