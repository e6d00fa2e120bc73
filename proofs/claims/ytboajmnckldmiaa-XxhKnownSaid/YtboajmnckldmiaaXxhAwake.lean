/-
  The walks of cheesepresslaw05's long and awake.
-/
import Derived.Test.YtboajmnckldmiaaXxhRef
import Derived.Test.YtboajmnckldmiaaXxhPlain
namespace Go.Proofs.Ytboajmnckldmiaa
open Go.RowKit
set_option linter.unusedVariables false
set_option maxRecDepth 100000

def longV (s : ByteArray) (b : Bool) : ByteArray := if b then s ++ s else s
theorem longV_size (s : ByteArray) (b : Bool) : (longV s b).size ≤ 2 * s.size := by unfold longV; split <;> (try rw [ByteArray.size_append]) <;> omega
theorem long_any (s : ByteArray) (b : Bool) (w : World) (hs : s.size ≤ 200) :
    Calls Try.prog 45 #[.string s, .bool b] w fun e w' => e = .returned (.string (longV s b)) ∧ w = w' := by
  have H1 : Hid (longV s true = s ++ s) := rfl
  have H2 : Hid (longV s false = s) := rfl
  cases b
  · go_enter Try.func45, Try.ntmps45
    go_wp2
    go_ret
    exact ⟨by rw [H2.out]; rfl, rfl⟩
  · go_enter Try.func45, Try.ntmps45
    go_wp2
    go_ret
    exact ⟨by rw [H1.out]; rfl, rfl⟩

def sabc : ByteArray := ⟨#[97, 98, 99]⟩
theorem Add05_H (h : Hsh) (x : ByteArray) (w : World) (hok : HshOk h) (hx : x.size ≤ 9223372036854775807) :
    Calls Try.prog 37 #[h.val, .string x] w fun e w' => e = .returned (.tuple #[(addO h x).val, .int .i64 (addE h x)]) ∧ Below w.heap.size w w' :=
  Add05_any h.l.a h.l.b h.l.c h.l.d h.t h.s h.e x w hok hx
theorem Sum05_H (h : Hsh) (w : World) (hok : HshOk h) :
    Calls Try.prog 39 #[h.val] w fun e w' => e = .returned (.tuple #[.int .u64 (sumO h), .int .i64 (checkH h)]) ∧ Below w.heap.size w w' :=
  Sum05_any h.l.a h.l.b h.l.c h.l.d h.t h.s h.e w hok
theorem Check05_H (h : Hsh) (w : World) (hok : HshOk h) :
    Calls Try.prog 41 #[h.val] w fun e w' => e = .returned (.int .i64 (checkH h)) ∧ Below w.heap.size w w' :=
  Check05_any h.l.a h.l.b h.l.c h.l.d h.t h.s h.e w hok.2.2.1 hok.2.2.2
theorem addNew_ok (sd : Int) (s : ByteArray) (hs : s.size ≤ 1099511627776) (h : 0 ≤ sd ∧ sd ≤ 18446744073709551615) : HshOk (addH (newH sd) s) :=
  addH_ok s (newH_ok sd h) (by simp [newH]) (by simp [newH]; omega)
theorem addO_new (sd : Int) (s : ByteArray) (hs : s.size ≤ 1099511627776) : addO (newH sd) s = addH (newH sd) s ∧ addE (newH sd) s = 0 :=
  addO_good s (new_good sd) (by show (0 : Int) + s.size ≤ _; omega)

set_option maxHeartbeats 1600000 in
theorem awake05_any (w : World) :
    Calls Try.prog 36 #[] w fun e w' => e = .returned (.bool true) ∧ Below w.heap.size w w' := by
  have hsz : sabc.size ≤ 1099511627776 := by decide
  have HN := Lib.hid (fun W => New05_any 0 W (by omega))
  have HA := Lib.hid (fun W => Add05_H (newH 0) sabc W (newH_ok 0 (by omega)) (by decide))
  rw [(addO_new 0 sabc hsz).1, (addO_new 0 sabc hsz).2] at HA
  have HS := Lib.hid (fun W => Sum05_H (addH (newH 0) sabc) W (addNew_ok 0 sabc hsz (by omega)))
  rw [sum_new 0 sabc hsz, check_new 0 sabc hsz] at HS
  have HO1 := Lib.hid (fun W => Of05_any ⟨#[]⟩ W (by decide))
  rw [known_empty] at HO1
  have HO2 := Lib.hid (fun W => Of05_any ⟨#[97]⟩ W (by decide))
  rw [known_a] at HO2
  have HO3 := Lib.hid (fun W => Of05_any sabc W (by decide))
  generalize seededV sabc 0 = x at *
  generalize addH (newH 0) sabc = k at *
  obtain ⟨⟨k0, k1, k2, k3⟩, k4, k5, k6⟩ := k
  generalize newH 0 = n at *
  obtain ⟨⟨n0, n1, n2, n3⟩, n4, n5, n6⟩ := n
  unfold Hsh.val at HN HA HS
  simp only at HN HA HS
  unfold sabc at HA HO3
  clear hsz
  go_enter Try.func36, Try.ntmps36
  go_wp2_with fail
  refine (HN.out _).mono ?_
  rintro e w1 ⟨rfl, hB1⟩
  go_wp2_with fail
  refine (HA.out _).mono ?_
  rintro e w2 ⟨rfl, hB2⟩
  go_wp2_with fail
  refine (HS.out _).mono ?_
  rintro e w3 ⟨rfl, hB3⟩
  have hBa := below_then (below_alloc (below_then hB1 hB2) _) hB3
  clear hB1 hB2 hB3
  go_wp2_with fail
  refine (HO1.out _).mono ?_
  rintro e w4 ⟨rfl, hB4⟩
  go_wp2_with fail
  refine (HO2.out _).mono ?_
  rintro e w5 ⟨rfl, hB5⟩
  go_wp2_with fail
  refine (HO3.out _).mono ?_
  rintro e w6 ⟨rfl, hB6⟩
  go_wp2
  go_ret
  exact ⟨rfl, below_then (below_then (below_then hBa hB4) hB5) hB6⟩

end Go.Proofs.Ytboajmnckldmiaa
