/-
  Arrays of one-cell elements: an element at a computed index; a whole array loaded out of the head of a block. No program here.
-/
import Derived.WalkKit
import Derived.Laws.Cover3
namespace Go.Proofs.Ytfdbkpbgkpkckaa
open Go.RowKit

section
variable {P : Program} (w : World)

theorem run_index_arr (t e : TypeId) (n : Nat) (i0 : TypeInfo) (cs : Array Value) (k ek : IntKind) (i : Nat) (v : Value) (ht : P.underlying t = some (.array n e)) (he : P.underlying e = some (.int ek))
    (hi0 : P.info? e = some i0) (hs : i0.size = 1) (hi : i < n) (hv : cs[i]? = some v) :
    (Instr.index t (.agg cs) (.int k (i : Int))).run P w = .ok v w := by
  have hagg : (isAgg e).run P w = .ok false w := by
    unfold isAgg
    rw [Sem.run_bind, run_underlying he w]
    rfl
  have hh : (0 : Int) ≤ (i : Int) ∧ (i : Int) < (n : Int) := by omega
  simp [Instr.index, asIntOf, run_underlying ht, hh, sizeOf, typeInfo, hi0, hs, part, hagg, hv]
  intro h; omega

/-- A whole array, loaded from wherever its cells lie. -/
theorem run_loadVar_arr (ty e : TypeId) (n : Nat) (a : Addr) (cs : Array Value) (hu : P.underlying ty = some (.array n e)) (hi : (P.info? ty).map (·.size) = some cs.size)
    (hc : ∀ (j : Nat) (v : Value), cs[j]? = some v → w.cell? (a.add j) = some v) : (loadVar ty a).run P w = .ok (.agg cs) w := by
  have hl : (loadCells a cs.toList.length).run P w = .ok cs.toList.toArray w :=
    run_loadCells_list (P := P) w a cs.toList (fun j v hv => hc j v (by simpa using hv))
  have hagg : (isAgg ty).run P w = .ok true w := by
    unfold isAgg
    rw [Sem.run_bind, run_underlying hu w]
    rfl
  cases hq : P.info? ty with
  | none => simp [hq] at hi
  | some i =>
    have hs : i.size = cs.size := by simpa [hq] using hi
    simp only [Array.length_toList, Array.toArray_toList] at hl
    simp [loadVar, Sem.run_bind, hagg, sizeOf, typeInfo, hq, hs, hl]

theorem wpList_load_arr {ops : Array Oper} {rest : List Oper} {o : Oper} {a : Act} {w : World} {Q : Exit → Act → World → Prop} (hgd : o.guard = none) (ty : TypeId) (x : Operand) (ho : o.op = .load ty x)
    (e : TypeId) (n : Nat) (ad : Addr) (hx : a.eval x = .pointer (some ad)) (cs : Array Value) (hu : P.underlying ty = some (.array n e)) (hi : (P.info? ty).map (·.size) = some cs.size)
    (hc : ∀ (j : Nat) (v : Value), cs[j]? = some v → w.cell? (ad.add j) = some v)
    (h : wpList P ops Q rest (a.put o.dst (.agg cs)) w) : wpList P ops Q (o :: rest) a w := by
  refine wpList_plain hgd fun K hK => ?_
  unfold Oper.wp execOp
  simp only [ho, hx, Instr.loadAt, Instr.sureAddr, Sem.run_bind, Sem.run_pure, Result.andThen_ok, run_loadVar_arr w ty e n ad cs hu hi hc]
  exact hK _ _ h
end
end Go.Proofs.Ytfdbkpbgkpkckaa
