/-
  Bytes in a block, appended to where there is no room; as a string. No program here.
-/
import Derived.Test.YtfdbkpbgkpkckaaBlk
import Derived.Laws.BytesArg
import Derived.Maps.AppendAt
namespace Go.Proofs.Ytfdbkpbgkpkckaa
open Go.RowKit
set_option linter.unusedVariables false

/-- A block's first cells read as these bytes. -/
def ReadsB (W : World) (g : Nat) (xs : List Int) : Prop := ∀ i, i < xs.length → W.cell? ⟨g, i, none⟩ = some (.int .u8 (xs.getD i 0))
section
variable {W W' : World} {g B : Nat} {xs : List Int}
theorem ReadsB.keep (h : ReadsB W g xs) (hb : Below B W W') (hg : g < B) : ReadsB W' g xs := fun i hi => (hb.cell (p := ⟨g, i, none⟩) hg).trans (h i hi)
theorem ReadsB.conv {P : Program} {src e dst : TypeId} (h : ReadsB W g xs) (hs : P.underlying src = some (.slice e)) (he : P.underlying e = some (.int .u8)) (hd : P.underlying dst = some .string) (n c : Nat) (hn : xs.length = n) :
    (convert src dst (.slice (some ⟨g, 0, none⟩) n c)).run P W = .ok (.string (strOfNums xs)) W :=
  run_convert_bytes_arg W src e hs he g 0 n c xs hn (fun i hi => by rw [Nat.zero_add]; exact h i (by omega)) dst hd
theorem ReadsB.get (h : ReadsB W g xs) : ∀ j v, (xs.map (Value.int .u8))[j]? = some v → W.cell? ((⟨g, 0, none⟩ : Addr).add j) = some v := by
  intro j v hj
  have hjl : j < xs.length := by
    rcases Nat.lt_or_ge j xs.length with h' | h'
    · exact h'
    · rw [List.getElem?_eq_none (by simpa using h')] at hj; cases hj
  have hp : (⟨g, 0, none⟩ : Addr).add j = ⟨g, j, none⟩ := by unfold Addr.add; split <;> simp_all
  rw [hp, h j hjl]
  simp [List.getElem?_eq_getElem hjl] at hj
  simp [List.getD, List.getElem?_eq_getElem hjl, hj]
theorem readsB_new (w : World) (cs : Array Value) (t : TypeId) (fr : Nat × Nat) (xs : List Int) (h : cs = (xs.map (Value.int .u8)).toArray) : ReadsB (w.alloc (.cells cs t fr)) w.heap.size xs := fun i hi => by
  rw [World.cell?_alloc_mark, h]
  simp [List.getElem?_eq_getElem hi, List.getD]
end

/-- append onto a slice without room: a new block. -/
theorem run_append_full {P : Program} (w : World) (t ty e : TypeId) (i : TypeInfo) (ht : P.underlying t = some (.slice e)) (hi : P.info? e = some i) (hz : i.zero = some (.int .u8 0)) (hsize : i.size = 1) (hby : i.bytes = 1)
    (g g2 n m c : Nat) (xs ys : List Int) (hn : xs.length = n) (hm : ys.length = m) (h1 : ReadsB w g xs) (h2 : ReadsB w g2 ys) (hy : 0 < m) (hl : n + m ≤ 1000) :
    ∃ cap w', (Builtin.append_ #[t, t] ty #[.slice (some ⟨g, 0, none⟩) n n, .slice (some ⟨g2, 0, none⟩) m c]).run P w = .ok (.slice (some ⟨w.heap.size, 0, none⟩) (n + m) cap) w' ∧
      ReadsB w' w.heap.size (xs ++ ys) ∧ Below w.heap.size w w' ∧ w'.heap.size = w.heap.size + 1 := by
  have hr := run_append_grow (P := P) w t ty e i (.int .u8 0) ht hi hz ⟨g, 0, none⟩ n n (xs.map (Value.int .u8)) (by rw [List.length_map, hn, hsize, Nat.mul_one]) h1.get ⟨g2, 0, none⟩ m c (ys.map (Value.int .u8)) (by rw [List.length_map, hm, hsize, Nat.mul_one]) h2.get
    (by omega) (by omega) (growslice_fits (by omega) (by rw [hby]; omega))
  refine ⟨_, _, hr, fun j hj => ?_, (below_drew (Below.refl _ _)).alloc (Nat.le_refl _) _, by simp⟩
  have := World.cell?_alloc_mark w.drew ((xs.map (Value.int .u8)).toArray ++ (ys.map (Value.int .u8)).toArray ++ Builtin.zeroCells (Value.int IntKind.u8 0).cells (grownCap w (n + m) n e - (n + m))) e (0, 0) j
  refine Eq.trans this ?_
  rw [Array.getElem?_append_left (by simp at hj ⊢; omega)]
  simp at hj
  have hcat : (xs.map (Value.int .u8)).toArray ++ (ys.map (Value.int .u8)).toArray = ((xs ++ ys).map (Value.int .u8)).toArray := by simp
  rw [hcat]
  have hj2 : j < (xs ++ ys).length := by simp; omega
  rw [List.getElem?_toArray, List.getElem?_map, List.getElem?_eq_getElem hj2, List.getD_eq_getElem?_getD, List.getElem?_eq_getElem hj2]
  rfl

/-- The same, at the operation. -/
theorem wpList_append_full {P : Program} (w : World) {ops : Array Oper} {rest : List Oper} {o : Oper} {a : Act} {Q : Exit → Act → World → Prop} (hgd : o.guard = none) (s x : Operand) (t : TypeId)
    (ho : o.op = .call { callee := .builtin .append, args := #[s, x], argTypes := #[t, t] })
    (e : TypeId) (i : TypeInfo) (ht : P.underlying t = some (.slice e)) (hi : P.info? e = some i) (hz : i.zero = some (.int .u8 0)) (hsize : i.size = 1) (hby : i.bytes = 1)
    (g g2 n m c : Nat) (xs ys : List Int) (hs : a.eval s = .slice (some ⟨g, 0, none⟩) n n) (hx : a.eval x = .slice (some ⟨g2, 0, none⟩) m c) (hn : xs.length = n) (hm : ys.length = m) (h1 : ReadsB w g xs) (h2 : ReadsB w g2 ys) (hy : 0 < m) (hl : n + m ≤ 1000)
    (h : ∀ cap w', ReadsB w' w.heap.size (xs ++ ys) → Below w.heap.size w w' → w'.heap.size = w.heap.size + 1 → wpList P ops Q rest (a.put o.dst (.slice (some ⟨w.heap.size, 0, none⟩) (n + m) cap)) w') :
    wpList P ops Q (o :: rest) a w := by
  refine wpList_plain hgd fun K hK => ?_
  obtain ⟨cap, w', hrun, r1, r2, r3⟩ := run_append_full (P := P) w t o.type e i ht hi hz hsize hby g g2 n m c xs ys hn hm h1 h2 hy hl
  unfold Oper.wp execOp
  simp only [ho, resolve, invoke, builtin, Sem.run_bind, Sem.run_pure, Result.andThen_ok, List.map_toArray, List.map_cons, List.map_nil, hs, hx, hrun]
  exact hK _ _ (h cap w' r1 r2 r3)

end Go.Proofs.Ytfdbkpbgkpkckaa
