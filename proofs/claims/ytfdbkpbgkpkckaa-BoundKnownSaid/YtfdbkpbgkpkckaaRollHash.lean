/-
  The walks of roll's power, hash, hits, Of, Roll, Hits and of their references.
-/
import Derived.Test.YtfdbkpbgkpkckaaRows
import Derived.Test.YtfdbkpbgkpkckaaCommon
import Derived.Test.YtfdbkpbgkpkckaaArrays
import Derived.Test.YtfdbkpbgkpkckaaRollMath
import Derived.WalkLawsBesides
import Derived.Laws.BytesArg
import Derived.Lib.ConvBytes
namespace Go.Proofs.Ytfdbkpbgkpkckaa
open Go.RowKit
set_option linter.unusedVariables false
set_option maxRecDepth 100000

theorem power_any (w : World) :
    Calls Try.prog 127 #[] w fun e w' => e = .returned (.int .u64 (mulp 15)) ∧ w = w' := by
  go_enter Try.func127, Try.ntmps127
  go_wp2
  go_loop [1, 2] (fun p i => ∃ k : Nat, k ≤ 15 ∧ i = .int .i64 k ∧ p = .int .u64 (mulp k)) (fun _ i => 15 - (intOf i).toNat)
  case atStart => exact ⟨0, Nat.zero_le _, rfl, rfl⟩
  case round =>
    obtain ⟨k, hk, rfl, rfl⟩ := hrel
    by_cases hlt : k < 15
    · go_wp2
      go_round
      case rel => exact ⟨k + 1, by omega, by go_num, rfl⟩
      case measure => simp [intOf]; omega
    · obtain rfl : k = 15 := by omega
      go_wp2
      go_ret
      exact ⟨rfl, rfl⟩

/-- An array of sixteen bytes. -/
def arr16 (f : Nat → Int) : Array Value := ((List.range 16).map fun i => Value.int .u8 (f i)).toArray
theorem arr16_size (f : Nat → Int) : (arr16 f).size = 16 := by simp [arr16]
theorem arr16_get (f : Nat → Int) (i : Nat) (h : i < 16) : (arr16 f)[i]? = some (.int .u8 (f i)) := by simp [arr16, h]

theorem Try.infoU8 : (Try.prog.info? 5).map (fun i => (i.zero, i.size, i.bytes)) = some (some (.int .u8 0), 1, 1) := by kernel_rfl
theorem Try.sizeLast : (Try.prog.info? 149).map (·.size) = some 16 := by kernel_rfl

set_option maxHeartbeats 800000 in
theorem hash_any (f : Nat → Int) (w : World) (hf : ∀ i, i < 16 → 0 ≤ f i ∧ f i ≤ 255) :
    Calls Try.prog 126 #[.agg (arr16 f)] w fun e w' => e = .returned (.int .u64 (hashF f 16)) ∧ Below w.heap.size w w' := by
  obtain ⟨i0, hi, hz0, hz1, hz2⟩ := info_parts Try.infoU8
  have HF := Lib.hid hf
  have hsz : (Try.prog.info? 149).map (·.size) = some (arr16 f).size := by rw [arr16_size]; exact Try.sizeLast
  have HSZ := Lib.hid hsz
  have HC : Hid (∀ (j : Nat) (v : Value), (arr16 f)[j]? = some v → (w.alloc (.cells (arr16 f) 149)).cell? ((⟨w.heap.size, 0, none⟩ : Addr).add j) = some v) := by
    intro j v hv
    have hp : (⟨w.heap.size, 0, none⟩ : Addr).add j = ⟨w.heap.size, j, none⟩ := by unfold Addr.add; split <;> simp_all
    rw [hp, World.cell?_alloc_at _ _ _ _ rfl]
    exact hv
  have HI : Hid (∀ (j : Nat), j < 16 → ∀ W, (Instr.index 149 (.agg (arr16 f)) (.int .i64 (j : Int))).run Try.prog W = .ok (.int .u8 (f j)) W) :=
    fun j hj W => run_index_arr W 149 5 16 i0 (arr16 f) .i64 .u8 j _ Try.underlying149 Try.underlying5 hi hz1 hj (arr16_get f j hj)
  clear hsz hf
  go_enter Try.func126, Try.ntmps126
  go_wp2_with (refine wpList_load_arr rfl 149 _ rfl 5 16 ⟨w.heap.size, 0, none⟩ rfl (arr16 f) Try.underlying149 HSZ.out HC.out ?_)
  go_loop [2, 6] (fun p i => ∃ k : Nat, k ≤ 16 ∧ i = .int .i64 k ∧ p = .int .u64 (hashF f k)) (fun _ i => 16 - (intOf i).toNat)
  case atStart => exact ⟨0, Nat.zero_le _, rfl, rfl⟩
  case round =>
    obtain ⟨k, hk, rfl, rfl⟩ := hrel
    by_cases hlt : k < 16
    · have hix := HI.out k hlt
      have hfk := HF.out k hlt
      go_wp2
      go_round
      case rel => exact ⟨k + 1, by omega, by go_num, rfl⟩
      case measure => simp [intOf]; omega
    · obtain rfl : k = 16 := by omega
      go_wp2
      go_ret
      exact ⟨rfl, (Below.refl _ _).alloc (Nat.le_refl _) _⟩

/-- The reference's hash of a string. -/
theorem rhash_any (s : ByteArray) (w : World) (hs : s.size ≤ 9223372036854775807) :
    Calls Try.prog 120 #[.string s] w fun e w' => e = .returned (.int .u64 (hashF (sb s) s.size)) ∧ w = w' := by
  go_enter Try.func120, Try.ntmps120
  go_wp2
  go_loop [3, 4] (fun p i => ∃ k : Nat, k ≤ s.size ∧ i = .int .i64 k ∧ p = .int .u64 (hashF (sb s) k)) (fun _ i => s.size - (intOf i).toNat)
  case atStart => exact ⟨0, Nat.zero_le _, rfl, rfl⟩
  case round =>
    obtain ⟨k, hk, rfl, rfl⟩ := hrel
    by_cases hlt : k < s.size
    · have hb := sb_lo s k
      have HG := Lib.hid (sb_get s k hlt)
      go_wp2
      go_round
      case rel => exact ⟨k + 1, by omega, by go_num, val_int (by rw [HG.out, IntWalk.u64_in (sb s k) (by omega)]; rfl)⟩
      case measure => simp [intOf]; omega
    · obtain rfl : k = s.size := by omega
      go_wp2
      go_ret
      exact ⟨rfl, rfl⟩

theorem below_bytesWorld (w : World) (e : TypeId) (s : ByteArray) : Below w.heap.size w (Lib.bytesWorld w e s) :=
  ⟨rfl, rfl, rfl, by rw [Lib.bytesWorld_size]; omega, fun k hk => Lib.bytesWorld_at_old w e s k hk⟩

/-- The hash of a string of sixteen bytes, and its error. -/
def ofV (s : ByteArray) : Int := if s.size = 16 then hashF (sb s) 16 else 0
def ofE (s : ByteArray) : Int := if s.size < 16 then 5 else if 16 < s.size then 4 else 0

theorem of_short {s : ByteArray} (h : s.size < 16) : ofV s = 0 ∧ ofE s = 5 := by
  unfold ofV ofE; rw [if_neg (by omega), if_pos h]; exact ⟨rfl, rfl⟩
theorem of_long {s : ByteArray} (h : 16 < s.size) : ofV s = 0 ∧ ofE s = 4 := by
  unfold ofV ofE; rw [if_neg (by omega), if_neg (by omega), if_pos h]; exact ⟨rfl, rfl⟩
theorem of_ok {s : ByteArray} (h : s.size = 16) : ofV s = hashF (sb s) 16 ∧ ofE s = 0 := by
  unfold ofV ofE; rw [if_pos h, if_neg (by omega), if_neg (by omega)]; exact ⟨rfl, rfl⟩

set_option maxHeartbeats 800000 in
theorem Of_ok (s : ByteArray) (w : World) (hs : s.size = 16) :
    Calls Try.prog 122 #[.string s] w fun e w' => e = .returned (.tuple #[.int .u64 (hashF (sb s) 16), .int .i64 0]) ∧ Below w.heap.size w w' := by
  have h16 : (s.size : Int) = 16 := by omega
  have hcv := Lib.run_convert_string_bytes (P := Try.prog) w 9 50 5 s Try.underlying9 Try.underlying50 Try.underlying5
  have hcell : ∀ j, j < 16 → (Lib.bytesWorld w 5 s).cell? ⟨w.heap.size, j, none⟩ = some (.int .u8 (sb s j)) := fun j hj => Lib.bytesWorld_cell w 5 s j (by omega)
  have hB := below_bytesWorld w 5 s
  have l1 : ¬ (s.size : Int) < 16 := by omega
  have l2 : ¬ 16 < (s.size : Int) := by omega
  rw [hs] at hcv
  generalize grownCap w 16 0 5 = C at *
  generalize Lib.bytesWorld w 5 s = W1 at *
  have har := run_arrayAt (P := Try.prog) W1 149 5 16 (some ⟨w.heap.size, 0, none⟩) 16 C Try.underlying149 (Nat.le_refl _)
  have HSZ : Hid ((Try.prog.info? 149).map (·.size) = some (arr16 (sb s)).size) := by rw [arr16_size]; exact Try.sizeLast
  have HC : Hid (∀ (j : Nat) (v : Value), (arr16 (sb s))[j]? = some v → W1.cell? ((⟨w.heap.size, 0, none⟩ : Addr).add j) = some v) := by
    intro j v hv
    have hp : (⟨w.heap.size, 0, none⟩ : Addr).add j = ⟨w.heap.size, j, none⟩ := by unfold Addr.add; split <;> simp_all
    have hj : j < 16 := by
      rcases Nat.lt_or_ge j 16 with h | h
      · exact h
      · rw [Array.getElem?_eq_none (by rw [arr16_size]; exact h)] at hv; cases hv
    rw [arr16_get _ _ hj] at hv
    rw [hp, hcell j hj]
    exact hv
  clear hcell hs h16
  go_enter Try.func122, Try.ntmps122
  go_wp2_with (first
    | (refine wpList_load_arr rfl 149 _ rfl 5 16 ⟨w.heap.size, 0, none⟩ rfl (arr16 (sb s)) Try.underlying149 HSZ.out HC.out ?_)
    | (go_at_call 126; refine (hash_any (sb s) _ (fun i _ => sb_lo s i)).mono ?_; rintro e w2 ⟨rfl, hB2⟩))
  go_ret2
  exact ⟨rfl, below_then hB hB2⟩

theorem Of_any (s : ByteArray) (w : World) (hs : s.size ≤ 9223372036854775807) :
    Calls Try.prog 122 #[.string s] w fun e w' => e = .returned (.tuple #[.int .u64 (ofV s), .int .i64 (ofE s)]) ∧ Below w.heap.size w w' := by
  by_cases h1 : s.size < 16
  · rw [(of_short h1).1, (of_short h1).2]
    go_enter Try.func122, Try.ntmps122
    go_wp2
    go_ret2
    exact ⟨rfl, Below.refl _ _⟩
  · by_cases h2 : 16 < s.size
    · rw [(of_long h2).1, (of_long h2).2]
      go_enter Try.func122, Try.ntmps122
      go_wp2
      go_ret2
      exact ⟨rfl, Below.refl _ _⟩
    · have h3 : s.size = 16 := by omega
      rw [(of_ok h3).1, (of_ok h3).2]
      exact Of_ok s w h3

theorem rOf_any (s : ByteArray) (w : World) (hs : s.size ≤ 9223372036854775807) :
    Calls Try.prog 112 #[.string s] w fun e w' => e = .returned (.tuple #[.int .u64 (ofV s), .int .i64 (ofE s)]) ∧ w = w' := by
  by_cases h1 : s.size < 16
  · rw [(of_short h1).1, (of_short h1).2]
    go_enter Try.func112, Try.ntmps112
    go_wp2
    go_ret2
    exact ⟨rfl, rfl⟩
  · by_cases h2 : 16 < s.size
    · rw [(of_long h2).1, (of_long h2).2]
      go_enter Try.func112, Try.ntmps112
      go_wp2
      go_ret2
      exact ⟨rfl, rfl⟩
    · have h3 : s.size = 16 := by omega
      have H3 := Lib.hid h3
      rw [(of_ok h3).1, (of_ok h3).2]
      clear h3
      go_enter Try.func112, Try.ntmps112
      go_wp2_with (go_at_call 120; refine (rhash_any s _ hs).mono ?_; rintro e w2 ⟨rfl, rfl⟩)
      go_ret2
      exact ⟨by rw [H3.out]; rfl, rfl⟩

/-! ### Roll -/
theorem Roll_any (h o i : Int) (w : World) (hh : 0 ≤ h ∧ h ≤ 18446744073709551615) (ho : 0 ≤ o ∧ o ≤ 255) (hi : 0 ≤ i ∧ i ≤ 255) :
    Calls Try.prog 123 #[.int .u64 h, .int .u8 o, .int .u8 i] w fun e w' => e = .returned (.int .u64 (rollV h o i)) ∧ w = w' := by
  have hr := roll_prog h o i
  unfold rollW at hr
  rw [IntWalk.u64_in (o + 1) (by omega)] at hr
  have HR := Lib.hid hr
  clear hr
  obtain ⟨ho1, ho2⟩ := ho
  obtain ⟨hi1, hi2⟩ := hi
  obtain ⟨hh1, hh2⟩ := hh
  go_enter Try.func123, Try.ntmps123
  go_wp2_with (go_at_call 127; refine (power_any _).mono ?_; rintro e w2 ⟨rfl, rfl⟩)
  go_ret
  exact ⟨ret_int HR.out, rfl⟩


/-! ### hits -/
theorem hits_any (h : Int) (n : Nat) (w : World) (hh : 0 ≤ h ∧ h ≤ 18446744073709551615) (hn : n ≤ 32) :
    Calls Try.prog 128 #[.int .u64 h, .int .i64 n] w fun e w' => e = .returned (.bool (hitB h n)) ∧ w = w' := by
  have hr := hit_prog h n hh
  rw [← xor_max h hh] at hr
  have HR := Lib.hid hr
  clear hr
  obtain ⟨hh1, hh2⟩ := hh
  have hm : min (64 - n) 64 = 64 - n := by omega
  have hsg : IntKind.u64.signed = false := rfl
  go_enter Try.func128, Try.ntmps128
  go_wp2
  go_ret
  exact ⟨ret_bool HR.out, rfl⟩

/-- Whether a hash hits, and the error. -/
def hitsV (h n : Int) : Bool := if n < 1 ∨ 32 < n then false else hitB h n.toNat
def hitsE (n : Int) : Int := if n < 1 ∨ 32 < n then 2 else 0

theorem hits_bad {h n : Int} (hn : n < 1 ∨ 32 < n) : hitsV h n = false ∧ hitsE n = 2 := by
  unfold hitsV hitsE; rw [if_pos hn, if_pos hn]; exact ⟨rfl, rfl⟩
theorem hits_ok {h n : Int} (hn : ¬ (n < 1 ∨ 32 < n)) : hitsV h n = hitB h n.toNat ∧ hitsE n = 0 := by
  unfold hitsV hitsE; rw [if_neg hn, if_neg hn]; exact ⟨rfl, rfl⟩

theorem Hits_any (h n : Int) (w : World) (hh : 0 ≤ h ∧ h ≤ 18446744073709551615) :
    Calls Try.prog 124 #[.int .u64 h, .int .i64 n] w fun e w' => e = .returned (.tuple #[.bool (hitsV h n), .int .i64 (hitsE n)]) ∧ w = w' := by
  by_cases h1 : n < 1
  · rw [(hits_bad (h := h) (.inl h1)).1, (hits_bad (h := h) (.inl h1)).2]
    go_enter Try.func124, Try.ntmps124
    go_wp2
    go_ret2
    exact ⟨rfl, rfl⟩
  · by_cases h2 : 32 < n
    · rw [(hits_bad (h := h) (.inr h2)).1, (hits_bad (h := h) (.inr h2)).2]
      go_enter Try.func124, Try.ntmps124
      go_wp2
      go_ret2
      exact ⟨rfl, rfl⟩
    · rw [(hits_ok (h := h) (n := n) (by omega)).1, (hits_ok (h := h) (n := n) (by omega)).2]
      obtain ⟨m, rfl⟩ := Int.eq_ofNat_of_zero_le (show 0 ≤ n by omega)
      rw [Int.toNat_natCast]
      go_enter Try.func124, Try.ntmps124
      go_wp2_with (go_at_call 128; refine (hits_any h m _ hh (by omega)).mono ?_; rintro e w2 ⟨rfl, rfl⟩)
      go_ret2
      exact ⟨rfl, rfl⟩

theorem rHits_any (h n : Int) (w : World) (hh : 0 ≤ h ∧ h ≤ 18446744073709551615) :
    Calls Try.prog 113 #[.int .u64 h, .int .i64 n] w fun e w' => e = .returned (.tuple #[.bool (hitsV h n), .int .i64 (hitsE n)]) ∧ w = w' := by
  by_cases h1 : n < 1
  · rw [(hits_bad (h := h) (.inl h1)).1, (hits_bad (h := h) (.inl h1)).2]
    go_enter Try.func113, Try.ntmps113
    go_wp2
    go_ret2
    exact ⟨rfl, rfl⟩
  · by_cases h2 : 32 < n
    · rw [(hits_bad (h := h) (.inr h2)).1, (hits_bad (h := h) (.inr h2)).2]
      go_enter Try.func113, Try.ntmps113
      go_wp2
      go_ret2
      exact ⟨rfl, rfl⟩
    · rw [(hits_ok (h := h) (n := n) (by omega)).1, (hits_ok (h := h) (n := n) (by omega)).2]
      obtain ⟨m, rfl⟩ := Int.eq_ofNat_of_zero_le (show 0 ≤ n by omega)
      rw [Int.toNat_natCast]
      have HR := Lib.hid (hit_ref h m (by omega) hh)
      obtain ⟨hh1, hh2⟩ := hh
      have hm : min (64 - m) 64 = 64 - m := by omega
      have hm2 : min m 64 = m := by omega
      have hp : (0 : Int) < 2 ^ m := Int.pow_pos (by decide)
      have hp2 : (2 : Int) ^ m ≤ 4294967296 := pow_le_pow2 (j := 32) (by omega)
      go_enter Try.func113, Try.ntmps113
      go_wp2
      go_ret2
      exact ⟨ret_two (val_bool HR.out) rfl, rfl⟩

end Go.Proofs.Ytfdbkpbgkpkckaa
