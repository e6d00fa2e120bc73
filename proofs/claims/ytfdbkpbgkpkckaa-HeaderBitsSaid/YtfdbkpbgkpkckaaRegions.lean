/-
  Small helpers for regions that draw their order beside calls that make memory. No program here.
-/
import Derived.Test.YtfdbkpbgkpkckaaCommon
import Derived.Test.YtfdbkpbgkpkckaaSlices
import Derived.Deep.RegionHeld3
import Derived.Deep.DrawnRows
import Derived.RegionTactic
namespace Go.Proofs.Ytfdbkpbgkpkckaa
open Go.RowKit

theorem below_drew {B : Nat} {a b : World} (h : Below B a b) : Below B a b.drew := ⟨h.os, h.tape, h.output, h.size, h.block⟩
theorem below_new {w : World} (o : Obj) : Below w.heap.size w (w.alloc o) := (Below.refl _ _).alloc (Nat.le_refl _) _

/-- A cell of a slice, in every later world. -/
theorem SliceAt.cell_all {k : IntKind} {w : World} {B : Nat} {b off : Nat} {xs : List Int} (h : SliceAt k w B (some ⟨b, off, none⟩) xs) {j : Nat} {x : Int} (hx : xs[j]? = some x) :
    ∀ V : World, Below B w V → V.cell? ⟨b, off + j, none⟩ = some (.int k x) := fun V hV => by
  have hj : j < xs.length := by
    rcases Nat.lt_or_ge j xs.length with h | h
    · exact h
    · rw [List.getElem?_eq_none h] at hx; cases hx
  obtain ⟨b4, off4, x4, he4, hx4, hc4⟩ := (h.below hV).get hj
  injection he4 with he4
  injection he4 with h1 h2 _
  subst h1 h2
  rw [hx] at hx4
  injection hx4 with hx4
  subst hx4
  exact hc4

/-- append of a slice that reads as a list, at a step of a region that draws its order. -/
theorem step_append_sl {P : Program} (w : World) {ops : Array Oper} {o : Oper} {a : Act} {K : Act → World → Prop} {Q : Exit → Act → World → Prop} {E : Prop} (hgd : o.guard = none) (s x : Operand) (t : TypeId)
    (ho : o.op = .call { callee := .builtin .append, args := #[s, x], argTypes := #[t, t] })
    (base : Nat) (e : TypeId) (i : TypeInfo) (z : Value) (bytes : Nat) (ht : P.underlying t = some (.slice e)) (hi : P.info? e = some i) (hz : i.zero = some z)
    (hsize : i.size = 1) (hby : i.bytes = bytes) (hzs : z.cells.size = 1) (v : Value) (n : Nat) (us : List Value) (hs : a.eval s = v) (hown : w.ownsRow base e 1 v n us)
    {k : IntKind} {B : Nat} {A : Option Addr} {xs : List Int} (c : Nat) (hx : a.eval x = .slice A xs.length c) (hr : SliceAt k w B A xs) (h63 : n + xs.length ≤ maxLen) (hbytes : (n + xs.length) * bytes ≤ 140737488355328) (hbase : base ≤ w.heap.size)
    (h : ∀ v' w', w'.ownsRow base e 1 v' (n + xs.length) (us ++ xs.map (Value.int k)) → w.grownBy w' v.ownBlock → (v'.ownBlock = v.ownBlock ∨ v'.ownBlock = some w.heap.size) → K (a.put o.dst v') w') :
    if Region.wanted o (yielded ops a.tmps) = true then Oper.wp P o a w K Q else E := by
  have hw : Region.wanted o (yielded ops a.tmps) = true := by simp [Region.wanted, hgd]
  rw [if_pos hw]
  obtain ⟨v', w', hrun, h2, h3, h4⟩ := run_append_sl (P := P) w base t o.type e i z bytes ht hi hz hsize hby hzs v n us hown c hr h63 hbytes hbase
  unfold Oper.wp execOp
  simp only [ho, resolve, invoke, builtin, Sem.run_bind, Sem.run_pure, Result.andThen_ok, List.map_toArray, List.map_cons, List.map_nil, hs, hx, hrun]
  exact h v' w' h2 h3 h4

/-- What a slice value of the call's own has room for. -/
theorem own_cap {w : World} {base n c : Nat} {e : TypeId} {A : Option Addr} {us : List Value} (h : w.ownsRow base e 1 (.slice A n c) n us) : n ≤ c := by
  rcases h.2 with ⟨h1, h2⟩ | ⟨g, cap, cur, h1, _, _, hc, _⟩
  · omega
  · injection h1 with _ _ h3; omega

/-- One integer laid in a block of its own. -/
theorem slice_new1 (W : World) (k : IntKind) (t : TypeId) (x : Int) : SliceAt k (W.alloc (.cells #[.int k x] t)) (W.heap.size + 1) (some ⟨W.heap.size, 0, none⟩) [x] := by
  refine .inr ⟨W.heap.size, 0, rfl, Nat.lt_succ_self _, fun i y hy => ?_⟩
  cases i with
  | zero => injection hy with hy; subst hy; exact (World.cell?_alloc_at _ _ _ _ rfl).trans rfl
  | succ i => simp at hy

/-- A part of a slice, by its run. -/
theorem slice_cut {P : Program} {k : IntKind} {w : World} {B : Nat} {A : Option Addr} {xs : List Int} {t : TypeId} (ht : P.underlying t = some (.slice (P.elem t))) (hso : ∀ W, (sizeOf (P.elem t)).run P W = .ok 1 W)
    (h : SliceAt k w B A xs) (l m c : Nat) (hm : l + m ≤ xs.length) (hc : xs.length ≤ c) :
    ∃ A' c', m ≤ c' ∧ (∀ W, (Instr.slice t (.slice A xs.length c) (some (.int .i64 l)) (some (.int .i64 ((l : Int) + m))) none).run P W = .ok (.slice A' m c') W) ∧ SliceAt k w B A' ((xs.drop l).take m) := by
  refine ⟨if c = l then A else A.map (·.add (l * 1)), c - l, by omega, fun W => ?_, ?_⟩
  · rw [run_slice_lh (P := P) W t A xs.length c ht .i64 .i64 (l : Int) ((l : Int) + m) (by omega) (by omega) (by omega)]
    rw [hso, Result.andThen_ok]
    have e1 : ((l : Int)).toNat = l := rfl
    have e2 : ((l : Int) + (m : Int)).toNat = l + m := rfl
    rw [e1, e2]
    unfold sliced
    rw [show l + m - l = m by omega]
  · rcases h with rfl | ⟨b, off, hA, hb, hg⟩
    · exact .inl (by simp)
    · by_cases hcl : c = l
      · refine .inl ?_
        have : m = 0 := by omega
        rw [this]; rfl
      · rw [if_neg hcl, hA]
        refine .inr ⟨b, off + l, ?_, hb, fun i x hx => ?_⟩
        · simp only [Option.map_some, Nat.mul_one]
          unfold Addr.add; split <;> simp_all
        · rw [List.getElem?_take] at hx
          split at hx
          · rw [List.getElem?_drop] at hx
            rw [Nat.add_assoc]
            exact hg _ _ hx
          · cases hx

end Go.Proofs.Ytfdbkpbgkpkckaa
