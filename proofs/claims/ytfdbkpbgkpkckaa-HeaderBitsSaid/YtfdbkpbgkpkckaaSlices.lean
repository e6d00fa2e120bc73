/-
  A slice of integers that reads as a list; nil and empty ones too. No program here.
-/
import Derived.WalkKit
import Derived.Below
import Derived.Laws.OwnMore
import Derived.Maps.AppendAt
namespace Go.Proofs.Ytfdbkpbgkpkckaa
open Go.RowKit

/-- The slice value '.slice A xs.length c' reads as the integers xs, in a block below B. -/
def SliceAt (k : IntKind) (w : World) (B : Nat) (A : Option Addr) (xs : List Int) : Prop :=
  xs = [] ∨ ∃ b off, A = some ⟨b, off, none⟩ ∧ b < B ∧ ∀ (i : Nat) (x : Int), xs[i]? = some x → w.cell? ⟨b, off + i, none⟩ = some (.int k x)

section
variable {k : IntKind} {w w' : World} {B : Nat} {A : Option Addr} {xs : List Int}

theorem SliceAt.nil_ : SliceAt k w B A [] := .inl rfl

theorem SliceAt.get (h : SliceAt k w B A xs) {i : Nat} (hi : i < xs.length) :
    ∃ b off x, A = some ⟨b, off, none⟩ ∧ xs[i]? = some x ∧ w.cell? ⟨b, off + i, none⟩ = some (.int k x) := by
  rcases h with rfl | ⟨b, off, hA, _, hc⟩
  · simp at hi
  · exact ⟨b, off, xs[i], hA, List.getElem?_eq_getElem hi, hc i _ (List.getElem?_eq_getElem hi)⟩

theorem SliceAt.keep (h : SliceAt k w B A xs) (hk : ∀ p : Addr, p.block < B → w'.cell? p = w.cell? p) : SliceAt k w' B A xs := by
  rcases h with rfl | ⟨b, off, hA, hb, hc⟩
  · exact .inl rfl
  · exact .inr ⟨b, off, hA, hb, fun i x hx => (hk _ hb).trans (hc i x hx)⟩

theorem SliceAt.below (h : SliceAt k w B A xs) (hb : Below B w w') : SliceAt k w' B A xs := h.keep fun _ hp => hb.cell hp

theorem SliceAt.more {B' : Nat} (h : SliceAt k w B A xs) (hB : B ≤ B') : SliceAt k w B' A xs := by
  rcases h with rfl | ⟨b, off, hA, hb, hc⟩
  · exact .inl rfl
  · exact .inr ⟨b, off, hA, by omega, hc⟩

theorem SliceAt.of_own {base c : Nat} {e : TypeId} (h : w.ownsRow base e 1 (.slice A xs.length c) xs.length (xs.map (Value.int k))) : SliceAt k w w.heap.size A xs := by
  rcases h.2 with ⟨h1, h2⟩ | ⟨g, cap, cur, h1, hg⟩
  · exact .inl (by simpa using h2)
  · injection h1 with hA hn hc
    subst hA
    refine .inr ⟨g, 0, rfl, (h.lt g rfl).2, fun i x hx => ?_⟩
    have hi : i < xs.length := by
      rcases Nat.lt_or_ge i xs.length with h | h
      · exact h
      · rw [List.getElem?_eq_none h] at hx; cases hx
    have := h.cellAt i (by omega)
    rw [Nat.zero_add, this, List.getElem?_map, hx]
    rfl

/-- An owned row is a slice value, and says which. -/
theorem owns_slice {base n : Nat} {e : TypeId} {v : Value} {us : List Value} (h : w.ownsRow base e 1 v n us) : ∃ A c, v = .slice A n c := by
  rcases h.2 with ⟨h1, rfl⟩ | ⟨g, cap, cur, h1, _⟩
  · exact ⟨_, _, h1⟩
  · exact ⟨_, _, h1⟩
end

section
variable {P : Program} (w : World)
/-- append of a slice that reads as a list, onto a row of the call's own. -/
theorem run_append_sl (base : Nat) (t ty e : TypeId) (i : TypeInfo) (z : Value) (bytes : Nat) (ht : P.underlying t = some (.slice e)) (hi : P.info? e = some i) (hz : i.zero = some z)
    (hsize : i.size = 1) (hby : i.bytes = bytes) (hzs : z.cells.size = 1) (v : Value) (n : Nat) (us : List Value) (hown : w.ownsRow base e 1 v n us)
    {k : IntKind} {B : Nat} {A : Option Addr} {xs : List Int} (c : Nat) (hr : SliceAt k w B A xs) (h63 : n + xs.length ≤ maxLen) (hbytes : (n + xs.length) * bytes ≤ 140737488355328) (hbase : base ≤ w.heap.size) :
    ∃ v' w', (Builtin.append_ #[t, t] ty #[v, .slice A xs.length c]).run P w = .ok v' w' ∧ w'.ownsRow base e 1 v' (n + xs.length) (us ++ xs.map (Value.int k)) ∧ w.grownBy w' v.ownBlock ∧
      (v'.ownBlock = v.ownBlock ∨ v'.ownBlock = some w.heap.size) := by
  cases A with
  | none =>
    have hx : xs = [] := by
      rcases hr with h | ⟨b, off, h, _⟩
      · exact h
      · cases h
    subst hx
    refine ⟨v, w, ?_, by simpa using hown, World.grownBy.refl w _, .inl rfl⟩
    rcases hown.2 with ⟨rfl, rfl⟩ | ⟨g, cap, cur, rfl, _, _, hnc, _⟩
    · simp [Builtin.append_, run_underlying ht, sizeOf, typeInfo, hi, Builtin.lenOf, Builtin.firstCells]
    · simp [Builtin.append_, run_underlying ht, sizeOf, typeInfo, hi, Builtin.lenOf, Builtin.firstCells, hnc, storeCells]
  | some ad =>
    have hcells : ∀ j u, (xs.map (Value.int k))[j]? = some u → w.cell? (ad.add j) = some u := by
      intro j u hu
      rcases hr with rfl | ⟨b, off, h, _, hc⟩
      · simp at hu
      · injection h with h
        subst h
        have hp : (⟨b, off, none⟩ : Addr).add j = ⟨b, off + j, none⟩ := by unfold Addr.add; split <;> simp_all
        rw [List.getElem?_map] at hu
        cases hx : xs[j]? with
        | none => rw [hx] at hu; cases hu
        | some x => rw [hx] at hu; injection hu with hu; subst hu; rw [hp]; exact hc j x hx
    obtain ⟨v', w', h1, h2, h3, _, h5⟩ := run_append_own_at (P := P) w base t ty e i z 1 bytes ht hi hz hsize hby hzs (by decide) v n us hown ad xs.length c (xs.map (Value.int k)) (by simp) hcells (by intro u hu; simp at hu; obtain ⟨x, _, rfl⟩ := hu; rfl) h63 hbytes hbase
    exact ⟨v', w', h1, h2, h3, h5⟩

/-- The same, at the operation. -/
theorem wpList_append_sl {ops : Array Oper} {rest : List Oper} {o : Oper} {a : Act} {Q : Exit → Act → World → Prop} (hgd : o.guard = none) (s x : Operand) (t : TypeId)
    (ho : o.op = .call { callee := .builtin .append, args := #[s, x], argTypes := #[t, t] })
    (base : Nat) (e : TypeId) (i : TypeInfo) (z : Value) (bytes : Nat) (ht : P.underlying t = some (.slice e)) (hi : P.info? e = some i) (hz : i.zero = some z)
    (hsize : i.size = 1) (hby : i.bytes = bytes) (hzs : z.cells.size = 1) (v : Value) (n : Nat) (us : List Value) (hs : a.eval s = v) (hown : w.ownsRow base e 1 v n us)
    {k : IntKind} {B : Nat} {A : Option Addr} {xs : List Int} (c : Nat) (hx : a.eval x = .slice A xs.length c) (hr : SliceAt k w B A xs) (h63 : n + xs.length ≤ maxLen) (hbytes : (n + xs.length) * bytes ≤ 140737488355328) (hbase : base ≤ w.heap.size)
    (h : ∀ v' w', w'.ownsRow base e 1 v' (n + xs.length) (us ++ xs.map (Value.int k)) → w.grownBy w' v.ownBlock → (v'.ownBlock = v.ownBlock ∨ v'.ownBlock = some w.heap.size) → wpList P ops Q rest (a.put o.dst v') w') :
    wpList P ops Q (o :: rest) a w := by
  refine wpList_plain hgd fun K hK => ?_
  obtain ⟨v', w', hrun, h2, h3, h4⟩ := run_append_sl (P := P) w base t o.type e i z bytes ht hi hz hsize hby hzs v n us hown c hr h63 hbytes hbase
  unfold Oper.wp execOp
  simp only [ho, resolve, invoke, builtin, Sem.run_bind, Sem.run_pure, Result.andThen_ok, List.map_toArray, List.map_cons, List.map_nil, hs, hx, hrun]
  exact hK _ _ (h v' w' h2 h3 h4)
end

end Go.Proofs.Ytfdbkpbgkpkckaa
