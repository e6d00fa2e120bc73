/-
  The walks of xxh.Check and of its reference.
-/
import Derived.Test.YtboajmnckldmiaaXxhEnd2
import Derived.Test.YtboajmnckldmiaaXxhMerged
import Derived.Test.YtboajmnckldmiaaXxhState
import Derived.Deep.RegionHeld3
import Derived.Deep.QuietTactic
import Derived.BigQuiet
import Derived.ChangeKeysEq
import Derived.Deep.DrawnRows
namespace Go.Proofs.Ytboajmnckldmiaa
open Go.RowKit
set_option linter.unusedVariables false
set_option maxRecDepth 100000


def chkL (l m : Lan) : Int := if lanEq l m then 0 else 10
theorem eqItems_cons {P : Program} {V : World} {d c i : Nat} {e : TypeId} {xs ys : Array Value} {is : List Nat} {a b : Value} {r : Bool} (h1 : (part e xs (i * c)).run P V = .ok a V) (h2 : (part e ys (i * c)).run P V = .ok b V) (h3 : (Op.equalIn d e a b).run P V = .ok r V) :
    (Op.eqItems d e c xs ys (i :: is)).run P V = if r then (Op.eqItems d e c xs ys is).run P V else .ok false V := by
  simp only [Op.eqItems, Sem.run_bind, h1, h2, h3, Result.andThen_ok]
  cases r <;> simp
theorem eqFields_cons {P : Program} {V : World} {d o : Nat} {t : TypeId} {xs ys : Array Value} {f : Field} {fs : List Field} {a b : Value} (hn : f.name ≠ "_") (ht : f.type = t) (ho : f.offset = o) (h1 : (part t xs o).run P V = .ok a V) (h2 : (part t ys o).run P V = .ok b V) (h3 : (Op.equalIn d t a b).run P V = .ok true V) :
    (Op.eqFields d xs ys (f :: fs)).run P V = (Op.eqFields d xs ys fs).run P V := by
  subst ht ho
  simp only [Op.eqFields, ne_eq, hn, not_false_eq_true, if_true, Sem.run_bind, h1, h2, h3, Result.andThen_ok]
  simp

/-- Two lists of four lanes, compared. -/
theorem run_eq4 (V : World) (d : Nat) (a b c e x y z u : Int) :
    (Op.equalIn (d + 2) 47 (.agg #[.int .u64 a, .int .u64 b, .int .u64 c, .int .u64 e]) (.agg #[.int .u64 x, .int .u64 y, .int .u64 z, .int .u64 u])).run Try.prog V = .ok (a == x && (b == y && (c == z && e == u))) V := by
  obtain ⟨i0, hi⟩ : ∃ i, Try.prog.info? 32 = some i := Option.isSome_iff_exists.1 (by kernel_rfl)
  rw [run_equalIn_array V (d + 1) _ _ Try.underlying47 hi]
  have hc : Try.prog.cellsOf 32 = 1 := by kernel_rfl
  rw [hc]
  have hr : List.range 4 = [0, 1, 2, 3] := rfl
  have he : ∀ (a b : Int) (W : World), (Op.equalIn (d + 1) 32 (.int .u64 a) (.int .u64 b)).run Try.prog W = .ok (a == b) W := fun a b W => run_equalIn_int W d 32 .u64 .u64 a b Try.underlying32
  rw [hr, eqItems_cons (by kernel_rfl) (by kernel_rfl) (he a x V), eqItems_cons (by kernel_rfl) (by kernel_rfl) (he b y V), eqItems_cons (by kernel_rfl) (by kernel_rfl) (he c z V), eqItems_cons (by kernel_rfl) (by kernel_rfl) (he e u V)]
  have h0 : (Op.eqItems (d + 1) 32 1 #[.int .u64 a, .int .u64 b, .int .u64 c, .int .u64 e] #[.int .u64 x, .int .u64 y, .int .u64 z, .int .u64 u] []).run Try.prog V = .ok true V := rfl
  rw [h0]
  cases (a == x)
  · rfl
  · cases (b == y)
    · rfl
    · cases (c == z)
      · rfl
      · cases (e == u) <;> rfl

/-- A state, compared with itself. -/
theorem run_eqH (V : World) (a b c e t : Int) (s : ByteArray) (sd : Int) :
    (Op.equalIn 10000 49 (.agg #[.int .u64 a, .int .u64 b, .int .u64 c, .int .u64 e, .int .i64 t, .string s, .int .u64 sd]) (.agg #[.int .u64 a, .int .u64 b, .int .u64 c, .int .u64 e, .int .i64 t, .string s, .int .u64 sd])).run Try.prog V = .ok true V := by
  rw [run_equalIn_struct V 9999 _ _ _ (by kernel_rfl) (by kernel_rfl)]
  have p : ∀ (W : World), (part 47 #[.int .u64 a, .int .u64 b, .int .u64 c, .int .u64 e, .int .i64 t, .string s, .int .u64 sd] 0).run Try.prog W = .ok (.agg #[.int .u64 a, .int .u64 b, .int .u64 c, .int .u64 e]) W ∧ (part 3 #[.int .u64 a, .int .u64 b, .int .u64 c, .int .u64 e, .int .i64 t, .string s, .int .u64 sd] 4).run Try.prog W = .ok (.int .i64 t) W ∧ (part 9 #[.int .u64 a, .int .u64 b, .int .u64 c, .int .u64 e, .int .i64 t, .string s, .int .u64 sd] 5).run Try.prog W = .ok (.string s) W ∧ (part 32 #[.int .u64 a, .int .u64 b, .int .u64 c, .int .u64 e, .int .i64 t, .string s, .int .u64 sd] 6).run Try.prog W = .ok (.int .u64 sd) W :=
    fun W => ⟨by kernel_rfl, by kernel_rfl, by kernel_rfl, by kernel_rfl⟩
  have hf : (Try.prog.fieldsOf 49).toList.map (fun f => (f.name != "_", f.type, f.offset)) = [(true, 47, 0), (true, 3, 4), (true, 9, 5), (true, 32, 6)] := by kernel_rfl
  generalize (Try.prog.fieldsOf 49).toList = L at hf ⊢
  have hlen : L.length = 4 := by have := congrArg List.length hf; rwa [List.length_map] at this
  match L, hlen, hf with
  | [f0, f1, f2, f3], _, hf =>
    simp only [List.map_cons, List.map_nil, List.cons.injEq, Prod.mk.injEq, and_true, bne_iff_ne] at hf
    obtain ⟨⟨n0, t0, o0⟩, ⟨n1, t1, o1⟩, ⟨n2, t2, o2⟩, ⟨n3, t3, o3⟩⟩ := hf
    have e0 : ∀ W : World, (Op.equalIn 9999 47 (.agg #[.int .u64 a, .int .u64 b, .int .u64 c, .int .u64 e]) (.agg #[.int .u64 a, .int .u64 b, .int .u64 c, .int .u64 e])).run Try.prog W = .ok true W := fun W => by rw [run_eq4 W 9997]; simp
    have e1 : ∀ W : World, (Op.equalIn 9999 3 (.int .i64 t) (.int .i64 t)).run Try.prog W = .ok true W := fun W => by rw [run_equalIn_int W 9998 3 .i64 .i64 t t Try.underlying3]; simp
    have e2 : ∀ W : World, (Op.equalIn 9999 9 (.string s) (.string s)).run Try.prog W = .ok true W := fun W => by rw [run_equalIn_string W 9998 9 s s Try.underlying9]; simp
    have e3 : ∀ W : World, (Op.equalIn 9999 32 (.int .u64 sd) (.int .u64 sd)).run Try.prog W = .ok true W := fun W => by rw [run_equalIn_int W 9998 32 .u64 .u64 sd sd Try.underlying32]; simp
    rw [eqFields_cons n0 t0 o0 (p V).1 (p V).1 (e0 V), eqFields_cons n1 t1 o1 (p V).2.1 (p V).2.1 (e1 V), eqFields_cons n2 t2 o2 (p V).2.2.1 (p V).2.2.1 (e2 V), eqFields_cons n3 t3 o3 (p V).2.2.2 (p V).2.2.2 (e3 V)]
    rfl

attribute [local go_sem ↓] Go.wp_at_zero Go.wp_at_succ
set_option maxHeartbeats 1600000 in
theorem check_A (la lb lc ld t : Int) (s : ByteArray) (sd : Int) (w : World) (hs : s.size ≤ 9223372036854775807) (h1 : t < 0) :
    Calls Try.prog 41 #[.agg #[.int .u64 la, .int .u64 lb, .int .u64 lc, .int .u64 ld, .int .i64 t, .string s, .int .u64 sd]] w fun e w' => e = .returned (.int .i64 10) ∧ Below w.heap.size w w' := by
  have d1 : decide (t < 0) = true := by simpa using h1
  go_enter Try.func41, Try.ntmps41
  go_wp2
  go_quiet (fail)
  go_wp2
  go_ret
  exact ⟨rfl, below_drewN (below_new _) nq⟩

set_option maxHeartbeats 1600000 in
theorem check_B (la lb lc ld t : Int) (s : ByteArray) (sd : Int) (w : World) (hs : s.size ≤ 9223372036854775807) (h1 : ¬ t < 0) (h2 : 1099511627776 < t) :
    Calls Try.prog 41 #[.agg #[.int .u64 la, .int .u64 lb, .int .u64 lc, .int .u64 ld, .int .i64 t, .string s, .int .u64 sd]] w fun e w' => e = .returned (.int .i64 10) ∧ Below w.heap.size w w' := by
  have d1 : decide (t < 0) = false := by simpa using h1
  have d2 : decide (1099511627776 < t) = true := by simpa using h2
  go_enter Try.func41, Try.ntmps41
  go_wp2
  go_quiet (fail)
  go_wp2
  go_ret
  exact ⟨rfl, below_drewN (below_new _) nq⟩

set_option maxHeartbeats 1600000 in
theorem check_C (la lb lc ld t : Int) (s : ByteArray) (sd : Int) (w : World) (hs : s.size ≤ 9223372036854775807) (h1 : ¬ t < 0) (h2 : ¬ 1099511627776 < t) (h3 : (s.size : Int) ≠ t % 32) :
    Calls Try.prog 41 #[.agg #[.int .u64 la, .int .u64 lb, .int .u64 lc, .int .u64 ld, .int .i64 t, .string s, .int .u64 sd]] w fun e w' => e = .returned (.int .i64 10) ∧ Below w.heap.size w w' := by
  have g3 : ((s.size : Int) != t % 32) = true := by simpa using h3
  clear h3
  have d1 : decide (t < 0) = false := by simpa using h1
  have d2 : decide (1099511627776 < t) = false := by simpa using h2
  go_enter Try.func41, Try.ntmps41
  go_wp2
  go_quiet (fail)
  go_wp2
  go_ret
  exact ⟨rfl, below_drewN (below_new _) nq⟩

set_option maxHeartbeats 1600000 in
theorem check_D (la lb lc ld t : Int) (s : ByteArray) (sd : Int) (w : World) (hs : s.size ≤ 9223372036854775807) (h1 : ¬ t < 0) (h2 : ¬ 1099511627776 < t) (h3 : (s.size : Int) = t % 32) (h4 : ¬ t < 32) :
    Calls Try.prog 41 #[.agg #[.int .u64 la, .int .u64 lb, .int .u64 lc, .int .u64 ld, .int .i64 t, .string s, .int .u64 sd]] w fun e w' => e = .returned (.int .i64 0) ∧ Below w.heap.size w w' := by
  have g3 : ((s.size : Int) != t % 32) = false := by simpa using h3
  clear h3
  have d1 : decide (t < 0) = false := by simpa using h1
  have d2 : decide (1099511627776 < t) = false := by simpa using h2
  have d4 : decide (t < 32) = false := by simpa using h4
  go_enter Try.func41, Try.ntmps41
  go_wp2
  go_quiet (fail)
  go_wp2
  go_ret
  exact ⟨rfl, below_drewN (below_new _) nq⟩

set_option maxHeartbeats 3200000 in
theorem check_E (la lb lc ld t : Int) (s : ByteArray) (sd : Int) (w : World) (hs : s.size ≤ 9223372036854775807) (hsd : 0 ≤ sd ∧ sd ≤ 18446744073709551615) (h1 : ¬ t < 0) (h2 : ¬ 1099511627776 < t) (h3 : (s.size : Int) = t % 32) (h4 : t < 32) :
    Calls Try.prog 41 #[.agg #[.int .u64 la, .int .u64 lb, .int .u64 lc, .int .u64 ld, .int .i64 t, .string s, .int .u64 sd]] w fun e w' => e = .returned (.int .i64 (chkL ⟨la, lb, lc, ld⟩ (startV sd))) ∧ Below w.heap.size w w' := by
  have g3 : ((s.size : Int) != t % 32) = false := by simpa using h3
  have gt3 : ((s.size : Int) != t.tmod 32) = false := by rw [Int.tmod_eq_emod_of_nonneg (by omega)]; exact g3
  clear h3
  have d0 : 0 ≤ t := by omega
  have d1 : decide (t < 0) = false := by simpa using h1
  have d2 : decide (1099511627776 < t) = false := by simpa using h2
  have d4 : decide (t < 32) = true := by simpa using h4
  have HS := Lib.hid (fun W => start_any sd W hsd)
  unfold Lan.val at HS
  have HE := Lib.hid (show chkL ⟨la, lb, lc, ld⟩ (startV sd) = (if (la == (startV sd).a && lb == (startV sd).b && lc == (startV sd).c && ld == (startV sd).d) = true then 0 else 10) from rfl)
  generalize startV sd = l at *
  obtain ⟨xa, xb, xc, xd⟩ := l
  simp only at HS HE
  have hq := fun V => run_eq4 V 9998 la lb lc ld xa xb xc xd
  have HE2 : Hid (chkL ⟨la, lb, lc, ld⟩ ⟨xa, xb, xc, xd⟩ = if (la == xa && (lb == xb && (lc == xc && ld == xd))) = true then 0 else 10) := by show _ = _; rw [HE.out, Bool.and_assoc, Bool.and_assoc]
  clear HE
  generalize (la == xa && (lb == xb && (lc == xc && ld == xd))) = q at *
  have hb := Hs.new w ⟨⟨la, lb, lc, ld⟩, t, s, sd⟩ 49
  have HB := Lib.hid (fun V (hV : Below (w.alloc (.cells #[.int .u64 la, .int .u64 lb, .int .u64 lc, .int .u64 ld, .int .i64 t, .string s, .int .u64 sd] 49)).heap.size (w.alloc (.cells #[.int .u64 la, .int .u64 lb, .int .u64 lc, .int .u64 ld, .int .i64 t, .string s, .int .u64 sd] 49)) V) => hb.keep' hV)
  go_enter Try.func41, Try.ntmps41
  go_wp2
  go_region_held3 (fun w' => Below (w.alloc (.cells #[.int .u64 la, .int .u64 lb, .int .u64 lc, .int .u64 ld, .int .i64 t, .string s, .int .u64 sd] 49)).heap.size (w.alloc (.cells #[.int .u64 la, .int .u64 lb, .int .u64 lc, .int .u64 ld, .int .i64 t, .string s, .int .u64 sd] 49)) w' ∧ w'.cell? ⟨w.heap.size, 0, none⟩ = some (.int .u64 la) ∧ w'.cell? ⟨w.heap.size, 1, none⟩ = some (.int .u64 lb) ∧ w'.cell? ⟨w.heap.size, 2, none⟩ = some (.int .u64 lc) ∧ w'.cell? ⟨w.heap.size, 3, none⟩ = some (.int .u64 ld) ∧ w'.cell? ⟨w.heap.size, 4, none⟩ = some (.int .i64 t) ∧ w'.cell? ⟨w.heap.size, 5, none⟩ = some (.string s) ∧ w'.cell? ⟨w.heap.size, 6, none⟩ = some (.int .u64 sd))
    ((refine ⟨?_, ?_, ?_, ?_, ?_, ?_, ?_, ?_⟩ <;> first | assumption | exact below_drew (by assumption) | exact below_drew (Below.refl _ _) | exact Below.refl _ _ | go_keep))
    (first
      | (go_at_call 65; refine (HS.out _).mono ?_; rintro r w5 ⟨rfl, hB5⟩; have hBn := below_then (by first | assumption | exact And.left (by assumption)) hB5; have hn := HB.out _ hBn; have q0 := hn.c0; have q1 := hn.c1; have q2 := hn.c2; have q3 := hn.c3; have q4 := hn.c4; have q5 := hn.c5; have q6 := hn.c6; simp only at q0 q1 q2 q3 q4 q5 q6))
  all_goals (
    rename_i hHeld
    clear hHeld
    have hBw := below_then (below_new (w := w) _) hBn
    clear hq
    cases q
    · go_wp2
      go_ret
      exact ⟨ret_int (by rw [HE2.out]; rfl), hBw⟩
    · go_wp2
      go_ret
      exact ⟨ret_int (by rw [HE2.out]; rfl), hBw⟩)

theorem Check05_any (la lb lc ld t : Int) (s : ByteArray) (sd : Int) (w : World) (hs : s.size ≤ 9223372036854775807) (hsd : 0 ≤ sd ∧ sd ≤ 18446744073709551615) :
    Calls Try.prog 41 #[.agg #[.int .u64 la, .int .u64 lb, .int .u64 lc, .int .u64 ld, .int .i64 t, .string s, .int .u64 sd]] w fun e w' => e = .returned (.int .i64 (checkH ⟨⟨la, lb, lc, ld⟩, t, s, sd⟩)) ∧ Below w.heap.size w w' := by
  have K : ∀ b : Bool, badH ⟨⟨la, lb, lc, ld⟩, t, s, sd⟩ = b → checkH ⟨⟨la, lb, lc, ld⟩, t, s, sd⟩ = if b then 10 else 0 := fun b h => by unfold checkH; rw [h]
  by_cases h1 : t < 0
  · rw [K true (by simp [badH, h1])]; exact check_A la lb lc ld t s sd w hs h1
  · by_cases h2 : 1099511627776 < t
    · rw [K true (by simp [badH, h2])]; exact check_B la lb lc ld t s sd w hs h1 h2
    · by_cases h3 : (s.size : Int) = t % 32
      · have g3 : ((s.size : Int) != t % 32) = false := by simpa using h3
        by_cases h4 : t < 32
        · have e : chkL ⟨la, lb, lc, ld⟩ (startV sd) = checkH ⟨⟨la, lb, lc, ld⟩, t, s, sd⟩ := by
            unfold chkL checkH badH
            simp only [h1, h2, h4, g3, decide_true, decide_false, Bool.false_or, Bool.true_and]
            cases lanEq ⟨la, lb, lc, ld⟩ (startV sd) <;> rfl
          rw [← e]; exact check_E la lb lc ld t s sd w hs hsd h1 h2 h3 h4
        · rw [K false (by unfold badH; simp only [h1, h2, h4, g3, decide_false, Bool.false_or, Bool.false_and])]; exact check_D la lb lc ld t s sd w hs h1 h2 h3 h4
      · have g3 : ((s.size : Int) != t % 32) = true := by simpa using h3
        rw [K true (by unfold badH; simp only [h1, h2, g3, decide_false, Bool.false_or, Bool.true_or])]; exact check_C la lb lc ld t s sd w hs h1 h2 h3

set_option maxHeartbeats 1600000 in
theorem rcheck_A (la lb lc ld t : Int) (s : ByteArray) (sd : Int) (w : World) (hs : s.size ≤ 9223372036854775807) (h1 : t < 0) :
    Calls Try.prog 42 #[.agg #[.int .u64 la, .int .u64 lb, .int .u64 lc, .int .u64 ld, .int .i64 t, .string s, .int .u64 sd]] w fun e w' => e = .returned (.int .i64 10) ∧ Below w.heap.size w w' := by
  have d1 : decide (t < 0) = true := by simpa using h1
  go_enter Try.func42, Try.ntmps42
  go_wp2
  go_quiet (fail)
  go_wp2
  go_ret
  exact ⟨rfl, below_drewN (below_new _) nq⟩

set_option maxHeartbeats 1600000 in
theorem rcheck_B (la lb lc ld t : Int) (s : ByteArray) (sd : Int) (w : World) (hs : s.size ≤ 9223372036854775807) (h1 : ¬ t < 0) (h2 : 1099511627776 < t) :
    Calls Try.prog 42 #[.agg #[.int .u64 la, .int .u64 lb, .int .u64 lc, .int .u64 ld, .int .i64 t, .string s, .int .u64 sd]] w fun e w' => e = .returned (.int .i64 10) ∧ Below w.heap.size w w' := by
  have d1 : decide (t < 0) = false := by simpa using h1
  have d2 : decide (1099511627776 < t) = true := by simpa using h2
  go_enter Try.func42, Try.ntmps42
  go_wp2
  go_quiet (fail)
  go_wp2
  go_ret
  exact ⟨rfl, below_drewN (below_new _) nq⟩

set_option maxHeartbeats 1600000 in
theorem rcheck_C (la lb lc ld t : Int) (s : ByteArray) (sd : Int) (w : World) (hs : s.size ≤ 9223372036854775807) (h1 : ¬ t < 0) (h2 : ¬ 1099511627776 < t) (h3 : (s.size : Int) ≠ t % 32) :
    Calls Try.prog 42 #[.agg #[.int .u64 la, .int .u64 lb, .int .u64 lc, .int .u64 ld, .int .i64 t, .string s, .int .u64 sd]] w fun e w' => e = .returned (.int .i64 10) ∧ Below w.heap.size w w' := by
  have g3 : ((s.size : Int) != t % 32) = true := by simpa using h3
  clear h3
  have d1 : decide (t < 0) = false := by simpa using h1
  have d2 : decide (1099511627776 < t) = false := by simpa using h2
  go_enter Try.func42, Try.ntmps42
  go_wp2
  go_quiet (fail)
  go_wp2
  go_ret
  exact ⟨rfl, below_drewN (below_new _) nq⟩

set_option maxHeartbeats 1600000 in
theorem rcheck_D (la lb lc ld t : Int) (s : ByteArray) (sd : Int) (w : World) (hs : s.size ≤ 9223372036854775807) (h1 : ¬ t < 0) (h2 : ¬ 1099511627776 < t) (h3 : (s.size : Int) = t % 32) (h4 : ¬ t < 32) :
    Calls Try.prog 42 #[.agg #[.int .u64 la, .int .u64 lb, .int .u64 lc, .int .u64 ld, .int .i64 t, .string s, .int .u64 sd]] w fun e w' => e = .returned (.int .i64 0) ∧ Below w.heap.size w w' := by
  have g3 : ((s.size : Int) != t % 32) = false := by simpa using h3
  clear h3
  have d1 : decide (t < 0) = false := by simpa using h1
  have d2 : decide (1099511627776 < t) = false := by simpa using h2
  have d4 : decide (t < 32) = false := by simpa using h4
  go_enter Try.func42, Try.ntmps42
  go_wp2
  go_quiet (fail)
  go_wp2
  go_ret
  exact ⟨rfl, below_drewN (below_new _) nq⟩

set_option maxHeartbeats 3200000 in
theorem rcheck_E (la lb lc ld t : Int) (s : ByteArray) (sd : Int) (w : World) (hs : s.size ≤ 9223372036854775807) (hsd : 0 ≤ sd ∧ sd ≤ 18446744073709551615) (h1 : ¬ t < 0) (h2 : ¬ 1099511627776 < t) (h3 : (s.size : Int) = t % 32) (h4 : t < 32) :
    Calls Try.prog 42 #[.agg #[.int .u64 la, .int .u64 lb, .int .u64 lc, .int .u64 ld, .int .i64 t, .string s, .int .u64 sd]] w fun e w' => e = .returned (.int .i64 (chkL ⟨la, lb, lc, ld⟩ (startV sd))) ∧ Below w.heap.size w w' := by
  have g3 : ((s.size : Int) != t % 32) = false := by simpa using h3
  have gt3 : ((s.size : Int) != t.tmod 32) = false := by rw [Int.tmod_eq_emod_of_nonneg (by omega)]; exact g3
  clear h3
  have d0 : 0 ≤ t := by omega
  have d1 : decide (t < 0) = false := by simpa using h1
  have d2 : decide (1099511627776 < t) = false := by simpa using h2
  have d4 : decide (t < 32) = true := by simpa using h4
  have HS := Lib.hid (fun W => rlanes_any sd W hsd)
  unfold Lan.val at HS
  have HE := Lib.hid (show chkL ⟨la, lb, lc, ld⟩ (startV sd) = (if (la == (startV sd).a && lb == (startV sd).b && lc == (startV sd).c && ld == (startV sd).d) = true then 0 else 10) from rfl)
  generalize startV sd = l at *
  obtain ⟨xa, xb, xc, xd⟩ := l
  simp only at HS HE
  have hq := fun V => run_eq4 V 9998 la lb lc ld xa xb xc xd
  have HE2 : Hid (chkL ⟨la, lb, lc, ld⟩ ⟨xa, xb, xc, xd⟩ = if (la == xa && (lb == xb && (lc == xc && ld == xd))) = true then 0 else 10) := by show _ = _; rw [HE.out, Bool.and_assoc, Bool.and_assoc]
  clear HE
  generalize (la == xa && (lb == xb && (lc == xc && ld == xd))) = q at *
  have hb := Hs.new w ⟨⟨la, lb, lc, ld⟩, t, s, sd⟩ 49
  have HB := Lib.hid (fun V (hV : Below (w.alloc (.cells #[.int .u64 la, .int .u64 lb, .int .u64 lc, .int .u64 ld, .int .i64 t, .string s, .int .u64 sd] 49)).heap.size (w.alloc (.cells #[.int .u64 la, .int .u64 lb, .int .u64 lc, .int .u64 ld, .int .i64 t, .string s, .int .u64 sd] 49)) V) => hb.keep' hV)
  go_enter Try.func42, Try.ntmps42
  go_wp2
  go_region_held3 (fun w' => Below (w.alloc (.cells #[.int .u64 la, .int .u64 lb, .int .u64 lc, .int .u64 ld, .int .i64 t, .string s, .int .u64 sd] 49)).heap.size (w.alloc (.cells #[.int .u64 la, .int .u64 lb, .int .u64 lc, .int .u64 ld, .int .i64 t, .string s, .int .u64 sd] 49)) w' ∧ w'.cell? ⟨w.heap.size, 0, none⟩ = some (.int .u64 la) ∧ w'.cell? ⟨w.heap.size, 1, none⟩ = some (.int .u64 lb) ∧ w'.cell? ⟨w.heap.size, 2, none⟩ = some (.int .u64 lc) ∧ w'.cell? ⟨w.heap.size, 3, none⟩ = some (.int .u64 ld) ∧ w'.cell? ⟨w.heap.size, 4, none⟩ = some (.int .i64 t) ∧ w'.cell? ⟨w.heap.size, 5, none⟩ = some (.string s) ∧ w'.cell? ⟨w.heap.size, 6, none⟩ = some (.int .u64 sd))
    ((refine ⟨?_, ?_, ?_, ?_, ?_, ?_, ?_, ?_⟩ <;> first | assumption | exact below_drew (by assumption) | exact below_drew (Below.refl _ _) | exact Below.refl _ _ | go_keep))
    (first
      | (go_at_call 66; refine (HS.out _).mono ?_; rintro r w5 ⟨rfl, hB5⟩; have hBn := below_then (by first | assumption | exact And.left (by assumption)) hB5; have hn := HB.out _ hBn; have q0 := hn.c0; have q1 := hn.c1; have q2 := hn.c2; have q3 := hn.c3; have q4 := hn.c4; have q5 := hn.c5; have q6 := hn.c6; simp only at q0 q1 q2 q3 q4 q5 q6))
  all_goals (
    rename_i hHeld
    clear hHeld
    have hBw := below_then (below_new (w := w) _) hBn
    clear hq
    cases q
    · go_wp2
      go_ret
      exact ⟨ret_int (by rw [HE2.out]; rfl), hBw⟩
    · go_wp2
      go_ret
      exact ⟨ret_int (by rw [HE2.out]; rfl), hBw⟩)

theorem rCheck05_any (la lb lc ld t : Int) (s : ByteArray) (sd : Int) (w : World) (hs : s.size ≤ 9223372036854775807) (hsd : 0 ≤ sd ∧ sd ≤ 18446744073709551615) :
    Calls Try.prog 42 #[.agg #[.int .u64 la, .int .u64 lb, .int .u64 lc, .int .u64 ld, .int .i64 t, .string s, .int .u64 sd]] w fun e w' => e = .returned (.int .i64 (checkH ⟨⟨la, lb, lc, ld⟩, t, s, sd⟩)) ∧ Below w.heap.size w w' := by
  have K : ∀ b : Bool, badH ⟨⟨la, lb, lc, ld⟩, t, s, sd⟩ = b → checkH ⟨⟨la, lb, lc, ld⟩, t, s, sd⟩ = if b then 10 else 0 := fun b h => by unfold checkH; rw [h]
  by_cases h1 : t < 0
  · rw [K true (by simp [badH, h1])]; exact rcheck_A la lb lc ld t s sd w hs h1
  · by_cases h2 : 1099511627776 < t
    · rw [K true (by simp [badH, h2])]; exact rcheck_B la lb lc ld t s sd w hs h1 h2
    · by_cases h3 : (s.size : Int) = t % 32
      · have g3 : ((s.size : Int) != t % 32) = false := by simpa using h3
        by_cases h4 : t < 32
        · have e : chkL ⟨la, lb, lc, ld⟩ (startV sd) = checkH ⟨⟨la, lb, lc, ld⟩, t, s, sd⟩ := by
            unfold chkL checkH badH
            simp only [h1, h2, h4, g3, decide_true, decide_false, Bool.false_or, Bool.true_and]
            cases lanEq ⟨la, lb, lc, ld⟩ (startV sd) <;> rfl
          rw [← e]; exact rcheck_E la lb lc ld t s sd w hs hsd h1 h2 h3 h4
        · rw [K false (by unfold badH; simp only [h1, h2, h4, g3, decide_false, Bool.false_or, Bool.false_and])]; exact rcheck_D la lb lc ld t s sd w hs h1 h2 h3 h4
      · have g3 : ((s.size : Int) != t % 32) = true := by simpa using h3
        rw [K true (by unfold badH; simp only [h1, h2, g3, decide_false, Bool.false_or, Bool.true_or])]; exact rcheck_C la lb lc ld t s sd w hs h1 h2 h3

end Go.Proofs.Ytboajmnckldmiaa
