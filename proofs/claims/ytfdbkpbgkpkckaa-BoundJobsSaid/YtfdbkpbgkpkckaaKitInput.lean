/-
  The walk of cheesepresskit's Input: a string made of numbers, of at most so many bytes.
-/
import Derived.Test.YtfdbkpbgkpkckaaKitNoise
import Derived.Test.YtfdbkpbgkpkckaaShell
import Derived.Deep.QuietTactic
import Derived.BigQuiet
namespace Go.Proofs.Ytfdbkpbgkpkckaa
open Go.RowKit Go.ChangeShapes
set_option linter.unusedVariables false
set_option maxRecDepth 100000

/-- The words of an input, in the block that holds them. -/
theorem words_at (w : World) (T : TypeId) (s0 s1 s2 s3 s4 s5 s6 s7 : ByteArray) (z : Int) (h0 : 0 ≤ z) (h1 : z < 8) (hs : ∀ x ∈ [s0, s1, s2, s3, s4, s5, s6, s7], x.size ≤ 7) :
    ∃ x : ByteArray, x.size ≤ 7 ∧ ∀ V, Below (w.alloc (.cells #[.string s0, .string s1, .string s2, .string s3, .string s4, .string s5, .string s6, .string s7] T)).heap.size (w.alloc (.cells #[.string s0, .string s1, .string s2, .string s3, .string s4, .string s5, .string s6, .string s7] T)) V →
      V.cell? ⟨w.heap.size, z.toNat, none⟩ = some (.string x) := by
  obtain ⟨i, rfl⟩ : ∃ i : Nat, z = i := ⟨z.toNat, by omega⟩
  have hc : ∀ V, Below (w.alloc (.cells #[.string s0, .string s1, .string s2, .string s3, .string s4, .string s5, .string s6, .string s7] T)).heap.size (w.alloc (.cells #[.string s0, .string s1, .string s2, .string s3, .string s4, .string s5, .string s6, .string s7] T)) V →
      V.cell? ⟨w.heap.size, i, none⟩ = #[Value.string s0, .string s1, .string s2, .string s3, .string s4, .string s5, .string s6, .string s7][i]? := fun V hV =>
    (hV.cell (p := ⟨w.heap.size, i, none⟩) (by simp)).trans (World.cell?_alloc_at _ _ _ _ rfl)
  simp only [Int.toNat_natCast]
  have hi : i < 8 := by omega
  match i, hi with
  | 0, _ => exact ⟨s0, hs _ (by simp), fun V hV => hc V hV⟩
  | 1, _ => exact ⟨s1, hs _ (by simp), fun V hV => hc V hV⟩
  | 2, _ => exact ⟨s2, hs _ (by simp), fun V hV => hc V hV⟩
  | 3, _ => exact ⟨s3, hs _ (by simp), fun V hV => hc V hV⟩
  | 4, _ => exact ⟨s4, hs _ (by simp), fun V hV => hc V hV⟩
  | 5, _ => exact ⟨s5, hs _ (by simp), fun V hV => hc V hV⟩
  | 6, _ => exact ⟨s6, hs _ (by simp), fun V hV => hc V hV⟩
  | 7, _ => exact ⟨s7, hs _ (by simp), fun V hV => hc V hV⟩

set_option maxHeartbeats 16000000 in
theorem Input_any (A : Option Addr) (xs : List Int) (c B most : Nat) (w : World) (h : SliceAt .i64 w B A xs) (hB : B ≤ w.heap.size) (hwf : ∀ x ∈ xs, (Lit.int .i64 x).wf = true) (hl : xs.length ≤ 9223372036854775807) (hm : most ≤ 400) :
    Calls Try.prog 32 #[.slice A xs.length c, .int .i64 (most : Int)] w (StrOut most w) := by
  have HWF := Lib.hid hwf
  have HADD : Hid (∀ x y : ByteArray, x.size ≤ 1000 → y.size ≤ 1000 → ∀ V, (Op.stringOp .add x y).run Try.prog V = .ok (.string (x ++ y)) V) := fun x y hx hy V => run_string_add_sum V x y (by omega)
  have HXW : Hid (∀ x ∈ xs, -9223372036854775808 ≤ x ∧ x ≤ 9223372036854775807) := fun x hx => bounds_i64 (hwf x hx)
  clear hwf HWF
  have HW := Lib.hid (fun z h0 h1 => words_at w 9 ⟨#[116, 104, 101, 32]⟩ ⟨#[113, 117, 105, 99, 107, 32]⟩ ⟨#[98, 114, 111, 119, 110, 32]⟩ ⟨#[99, 104, 101, 101, 115, 101, 32]⟩ ⟨#[112, 114, 101, 115, 115, 32]⟩ ⟨#[97, 98]⟩ ⟨#[97, 98, 99]⟩ ⟨#[10]⟩ z h0 h1 (by decide))
  have hSl : SliceAt .i64 (w.alloc (.cells #[.string ⟨#[116, 104, 101, 32]⟩, .string ⟨#[113, 117, 105, 99, 107, 32]⟩, .string ⟨#[98, 114, 111, 119, 110, 32]⟩, .string ⟨#[99, 104, 101, 101, 115, 101, 32]⟩, .string ⟨#[112, 114, 101, 115, 115, 32]⟩, .string ⟨#[97, 98]⟩, .string ⟨#[97, 98, 99]⟩, .string ⟨#[10]⟩] 9)) B A xs := h.keep fun p hp => World.cell?_alloc_lt _ _ _ (by omega)
  have hB0 := below_new (w := w) (.cells #[.string ⟨#[116, 104, 101, 32]⟩, .string ⟨#[113, 117, 105, 99, 107, 32]⟩, .string ⟨#[98, 114, 111, 119, 110, 32]⟩, .string ⟨#[99, 104, 101, 101, 115, 101, 32]⟩, .string ⟨#[112, 114, 101, 115, 115, 32]⟩, .string ⟨#[97, 98]⟩, .string ⟨#[97, 98, 99]⟩, .string ⟨#[10]⟩] 9)
  have hZ : w.heap.size + 1 = (w.alloc (.cells #[.string ⟨#[116, 104, 101, 32]⟩, .string ⟨#[113, 117, 105, 99, 107, 32]⟩, .string ⟨#[98, 114, 111, 119, 110, 32]⟩, .string ⟨#[99, 104, 101, 101, 115, 101, 32]⟩, .string ⟨#[112, 114, 101, 115, 115, 32]⟩, .string ⟨#[97, 98]⟩, .string ⟨#[97, 98, 99]⟩, .string ⟨#[10]⟩] 9)).heap.size := (World.size_alloc _ _).symm
  go_enter Try.func32, Try.ntmps32
  go_wp2_with fail
  generalize hW0 : w.alloc (.cells #[.string ⟨#[116, 104, 101, 32]⟩, .string ⟨#[113, 117, 105, 99, 107, 32]⟩, .string ⟨#[98, 114, 111, 119, 110, 32]⟩, .string ⟨#[99, 104, 101, 101, 115, 101, 32]⟩, .string ⟨#[112, 114, 101, 115, 115, 32]⟩, .string ⟨#[97, 98]⟩, .string ⟨#[97, 98, 99]⟩, .string ⟨#[10]⟩] 9) = W0 at *
  clear hW0
  go_loopw [5, 7] (fun ov iv wr => ∃ (i : Nat) (o : ByteArray), i ≤ xs.length ∧ iv = .int .i64 i ∧ ov = .string o ∧ o.size ≤ 500 ∧ Below W0.heap.size W0 wr) (fun _ iv _ => xs.length - (intOf iv).toNat)
  case atStart => exact ⟨0, _, Nat.zero_le _, rfl, rfl, by decide, Below.refl _ _⟩
  case round =>
    obtain ⟨i, o, hi, rfl, rfl, ho, hBr⟩ := hrel
    by_cases hlt : i < xs.length
    · by_cases hom : o.size < most
      · obtain ⟨b, off, x, rfl, hx, hcx⟩ := (hSl.below (hBr.mono (by omega))).get hlt
        have hxb := HXW.out x (List.mem_of_getElem? hx)
        clear hx
        have g1 : (i : Int) < (xs.length : Int) := by omega
        have g2 : (o.size : Int) < (most : Int) := by omega
        have g3 : (0 : Int) ≤ (i : Int) := by omega
        go_wp2_with fail
        refine (Mod_in x 1073741824 _ hxb.1 hxb.2 (by omega)).mono ?_
        rintro e w2 ⟨k, hk0, hk1, rfl, rfl⟩
        clear hxb hcx
        obtain ⟨n, hn⟩ : ∃ n : Nat, 1 + k / 8 % 60 = n := ⟨(1 + k / 8 % 60).toNat, by omega⟩
        have n1 : 1 ≤ n := by omega
        have n2 : n ≤ 60 := by omega
        have HN := Lib.hid hn
        clear hn
        have hm8 : k % 8 = 0 ∨ k % 8 = 1 ∨ k % 8 = 2 ∨ k % 8 = 3 ∨ k % 8 = 4 ∨ k % 8 = 5 ∨ k % 8 = 6 ∨ k % 8 = 7 := by omega
        obtain ⟨n3, hn3⟩ : ∃ n3 : Nat, (1 + k / 8 % 60) / 3 = n3 := ⟨((1 + k / 8 % 60) / 3).toNat, by omega⟩
        have n31 : n3 ≤ 20 := by omega
        have HN3 := Lib.hid hn3
        obtain ⟨n6, hn6⟩ : ∃ n6 : Nat, (n : Int) / 6 = n6 := ⟨((n : Int) / 6).toNat, by omega⟩
        have n61 : n6 ≤ 10 := by omega
        have HN6 := Lib.hid hn6
        obtain ⟨F, hF0⟩ : ∃ F, (o.size : Int) - 1 - k / 512 % 200 = F := ⟨_, rfl⟩
        have hF1 : F ≤ (o.size : Int) - 1 := by omega
        have HF := Lib.hid hF0
        clear hn3 hn6 hF0
        rcases hm8 with e8 | e8 | e8 | e8 | e8 | e8 | e8 | e8
        · go_wp2_with fail
          rw [HN.out]
          refine (Noise_any k n 1 _ ⟨hk0, by omega⟩ (by omega) (by omega)).mono ?_
          rintro e w3 ⟨o2, rfl, ho2, hB3⟩
          have hadd := HADD.out o o2 (by omega) (by omega)
          have hsz : (o ++ o2).size = o.size + o2.size := ByteArray.size_append
          have hz2 : (o ++ o2).size ≤ 500 := by omega
          clear hsz
          generalize o ++ o2 = o3 at *
          have hB4 := hBr.trans (hB3.mono hBr.size)
          go_wp2_with fail
          go_roundw
          case rel => exact ⟨i + 1, o3, by omega, by go_num, rfl, hz2, hB4⟩
          case measure => simp [intOf]; omega
        · go_wp2_with fail
          rw [HN.out]
          refine (Noise_any k n 1 _ ⟨hk0, by omega⟩ (by omega) (by omega)).mono ?_
          rintro e w3 ⟨o2, rfl, ho2, hB3⟩
          have hadd := HADD.out o o2 (by omega) (by omega)
          have hsz : (o ++ o2).size = o.size + o2.size := ByteArray.size_append
          have hz2 : (o ++ o2).size ≤ 500 := by omega
          clear hsz
          generalize o ++ o2 = o3 at *
          have hB4 := hBr.trans (hB3.mono hBr.size)
          go_wp2_with fail
          go_roundw
          case rel => exact ⟨i + 1, o3, by omega, by go_num, rfl, hz2, hB4⟩
          case measure => simp [intOf]; omega
        · go_wp2_with fail
          rw [HN.out, HF.out]
          clear e8
          go_hide hQ
          go_loopw [5, 11] (fun ov jv wq => ∃ (j : Nat) (o2 : ByteArray), j ≤ n ∧ jv = .int .i64 j ∧ ov = .string o2 ∧ o2.size ≤ o.size + j ∧ o.size + j ≤ o2.size ∧ Below W0.heap.size W0 wq) (fun _ jv _ => n - (intOf jv).toNat)
          case atStart => exact ⟨0, o, Nat.zero_le _, rfl, rfl, by omega, by omega, hBr⟩
          case round =>
            obtain ⟨j, o2, hj, rfl, rfl, hs1, hs2, hBq⟩ := hrel
            by_cases hjn : j < n
            · by_cases hF : 0 ≤ F
              · have q1 : (j : Int) < (n : Int) := by omega
                have q2 : (0 : Int) ≤ F + j := by omega
                have q3 : F + j ≤ F + j + 1 := by omega
                have q4 : F + j + 1 ≤ (o2.size : Int) := by omega
                have q5 : (0 : Int) ≤ F + j + 1 := by omega
                have hex : (o2.extract (F + j).toNat (F + j + 1).toNat).size = 1 := by rw [ByteArray.size_extract]; omega
                have hadd := HADD.out o2 (o2.extract (F + j).toNat (F + j + 1).toNat) (by omega) (by omega)
                have hz3 : (o2 ++ o2.extract (F + j).toNat (F + j + 1).toNat).size = o2.size + 1 := by rw [ByteArray.size_append, hex]
                go_wp2_with fail
                go_roundw
                case rel => exact ⟨j + 1, _, by omega, by go_num, rfl, by omega, by omega, hBq⟩
                case measure => simp [intOf]; omega
              · have q1 : (j : Int) < (n : Int) := by omega
                go_wp2_with fail
                subst hQ
                go_wp2_with fail
                go_roundw
                case rel => exact ⟨i + 1, o2, by omega, by go_num, rfl, by omega, hBq⟩
                case measure => simp [intOf]; omega
            · have q1 : ¬ (j : Int) < (n : Int) := by omega
              go_wp2_with fail
              subst hQ
              go_wp2_with fail
              go_roundw
              case rel => exact ⟨i + 1, o2, by omega, by go_num, rfl, by omega, hBq⟩
              case measure => simp [intOf]; omega
        · go_wp2_with fail
          rw [HN.out, HF.out]
          clear e8
          go_hide hQ
          go_loopw [5, 11] (fun ov jv wq => ∃ (j : Nat) (o2 : ByteArray), j ≤ n ∧ jv = .int .i64 j ∧ ov = .string o2 ∧ o2.size ≤ o.size + j ∧ o.size + j ≤ o2.size ∧ Below W0.heap.size W0 wq) (fun _ jv _ => n - (intOf jv).toNat)
          case atStart => exact ⟨0, o, Nat.zero_le _, rfl, rfl, by omega, by omega, hBr⟩
          case round =>
            obtain ⟨j, o2, hj, rfl, rfl, hs1, hs2, hBq⟩ := hrel
            by_cases hjn : j < n
            · by_cases hF : 0 ≤ F
              · have q1 : (j : Int) < (n : Int) := by omega
                have q2 : (0 : Int) ≤ F + j := by omega
                have q3 : F + j ≤ F + j + 1 := by omega
                have q4 : F + j + 1 ≤ (o2.size : Int) := by omega
                have q5 : (0 : Int) ≤ F + j + 1 := by omega
                have hex : (o2.extract (F + j).toNat (F + j + 1).toNat).size = 1 := by rw [ByteArray.size_extract]; omega
                have hadd := HADD.out o2 (o2.extract (F + j).toNat (F + j + 1).toNat) (by omega) (by omega)
                have hz3 : (o2 ++ o2.extract (F + j).toNat (F + j + 1).toNat).size = o2.size + 1 := by rw [ByteArray.size_append, hex]
                go_wp2_with fail
                go_roundw
                case rel => exact ⟨j + 1, _, by omega, by go_num, rfl, by omega, by omega, hBq⟩
                case measure => simp [intOf]; omega
              · have q1 : (j : Int) < (n : Int) := by omega
                go_wp2_with fail
                subst hQ
                go_wp2_with fail
                go_roundw
                case rel => exact ⟨i + 1, o2, by omega, by go_num, rfl, by omega, hBq⟩
                case measure => simp [intOf]; omega
            · have q1 : ¬ (j : Int) < (n : Int) := by omega
              go_wp2_with fail
              subst hQ
              go_wp2_with fail
              go_roundw
              case rel => exact ⟨i + 1, o2, by omega, by go_num, rfl, by omega, hBq⟩
              case measure => simp [intOf]; omega
        · go_wp2_with fail
          rw [HN.out, HF.out]
          clear e8
          go_hide hQ
          go_loopw [5, 11] (fun ov jv wq => ∃ (j : Nat) (o2 : ByteArray), j ≤ n ∧ jv = .int .i64 j ∧ ov = .string o2 ∧ o2.size ≤ o.size + j ∧ o.size + j ≤ o2.size ∧ Below W0.heap.size W0 wq) (fun _ jv _ => n - (intOf jv).toNat)
          case atStart => exact ⟨0, o, Nat.zero_le _, rfl, rfl, by omega, by omega, hBr⟩
          case round =>
            obtain ⟨j, o2, hj, rfl, rfl, hs1, hs2, hBq⟩ := hrel
            by_cases hjn : j < n
            · by_cases hF : 0 ≤ F
              · have q1 : (j : Int) < (n : Int) := by omega
                have q2 : (0 : Int) ≤ F + j := by omega
                have q3 : F + j ≤ F + j + 1 := by omega
                have q4 : F + j + 1 ≤ (o2.size : Int) := by omega
                have q5 : (0 : Int) ≤ F + j + 1 := by omega
                have hex : (o2.extract (F + j).toNat (F + j + 1).toNat).size = 1 := by rw [ByteArray.size_extract]; omega
                have hadd := HADD.out o2 (o2.extract (F + j).toNat (F + j + 1).toNat) (by omega) (by omega)
                have hz3 : (o2 ++ o2.extract (F + j).toNat (F + j + 1).toNat).size = o2.size + 1 := by rw [ByteArray.size_append, hex]
                go_wp2_with fail
                go_roundw
                case rel => exact ⟨j + 1, _, by omega, by go_num, rfl, by omega, by omega, hBq⟩
                case measure => simp [intOf]; omega
              · have q1 : (j : Int) < (n : Int) := by omega
                go_wp2_with fail
                subst hQ
                go_wp2_with fail
                go_roundw
                case rel => exact ⟨i + 1, o2, by omega, by go_num, rfl, by omega, hBq⟩
                case measure => simp [intOf]; omega
            · have q1 : ¬ (j : Int) < (n : Int) := by omega
              go_wp2_with fail
              subst hQ
              go_wp2_with fail
              go_roundw
              case rel => exact ⟨i + 1, o2, by omega, by go_num, rfl, by omega, hBq⟩
              case measure => simp [intOf]; omega
        · go_wp2_with fail
          rw [HN.out]
          refine (Noise_any k n 4 _ ⟨hk0, by omega⟩ (by omega) (by omega)).mono ?_
          rintro e w3 ⟨o2, rfl, ho2, hB3⟩
          have hadd := HADD.out o o2 (by omega) (by omega)
          have hsz : (o ++ o2).size = o.size + o2.size := ByteArray.size_append
          have hz2 : (o ++ o2).size ≤ 500 := by omega
          clear hsz
          generalize o ++ o2 = o3 at *
          have hB4 := hBr.trans (hB3.mono hBr.size)
          go_wp2_with fail
          go_roundw
          case rel => exact ⟨i + 1, o3, by omega, by go_num, rfl, hz2, hB4⟩
          case measure => simp [intOf]; omega
        · go_wp2_with fail
          rw [HN3.out]
          refine (Noise_any k n3 256 _ ⟨hk0, by omega⟩ (by omega) (by omega)).mono ?_
          rintro e w3 ⟨o2, rfl, ho2, hB3⟩
          have hadd := HADD.out o o2 (by omega) (by omega)
          have hsz : (o ++ o2).size = o.size + o2.size := ByteArray.size_append
          have hz2 : (o ++ o2).size ≤ 500 := by omega
          clear hsz
          generalize o ++ o2 = o3 at *
          have hB4 := hBr.trans (hB3.mono hBr.size)
          go_wp2_with fail
          go_roundw
          case rel => exact ⟨i + 1, o3, by omega, by go_num, rfl, hz2, hB4⟩
          case measure => simp [intOf]; omega
        · go_wp2_with fail
          rw [HN.out]
          clear e8
          go_hide hQ
          go_loopw [5, 12] (fun ov jv wq => ∃ (j : Nat) (o2 : ByteArray), j ≤ n6 ∧ jv = .int .i64 j ∧ ov = .string o2 ∧ o2.size ≤ o.size + 7 * j ∧ Below W0.heap.size W0 wq) (fun _ jv _ => n6 - (intOf jv).toNat)
          case atStart => exact ⟨0, o, Nat.zero_le _, rfl, rfl, by omega, hBr⟩
          case round =>
            obtain ⟨j, o2, hj, rfl, rfl, hs1, hBq⟩ := hrel
            by_cases hjn : j < n6
            · have q1 : (j : Int) < (n : Int) / 6 := by rw [HN6.out]; omega
              have q2 : (j : Int) * (j : Int) ≤ 100 := by
                have h1 : j * j ≤ 10 * 10 := Nat.mul_le_mul (by omega) (by omega)
                have h2 : ((j * j : Nat) : Int) = (j : Int) * (j : Int) := Int.natCast_mul j j
                omega
              have q3 : 0 ≤ (j : Int) * (j : Int) := by
                have h2 : ((j * j : Nat) : Int) = (j : Int) * (j : Int) := Int.natCast_mul j j
                omega
              go_wp2_with fail
              refine (Mod_in (k / 8 + (j : Int) * (j : Int)) 8 _ (by omega) (by omega) (by omega)).mono ?_
              rintro e w3 ⟨z, hz0, hz1, rfl, rfl⟩
              obtain ⟨x2, hx2, hcx2⟩ := HW.out z hz0 hz1
              have hcx := hcx2 _ hBq
              have hadd := HADD.out o2 x2 (by omega) (by omega)
              have hz3 : (o2 ++ x2).size ≤ o.size + 7 * (j + 1) := by rw [ByteArray.size_append]; omega
              clear hcx2
              go_wp2_with fail
              go_roundw
              case rel => exact ⟨j + 1, _, by omega, by go_num, rfl, hz3, hBq⟩
              case measure => simp [intOf]; omega
            · have q1 : ¬ (j : Int) < (n : Int) / 6 := by rw [HN6.out]; omega
              go_wp2_with fail
              subst hQ
              go_wp2_with fail
              go_roundw
              case rel => exact ⟨i + 1, o2, by omega, by go_num, rfl, by omega, hBq⟩
              case measure => simp [intOf]; omega
      · have g1 : (i : Int) < (xs.length : Int) := by omega
        have g2 : ¬ (o.size : Int) < (most : Int) := by omega
        go_wp2_with fail
        all_goals (
          go_ret
          refine ⟨_, rfl, ?_, below_then hB0 hBr⟩
          first | omega | (rw [ByteArray.size_extract]; omega))
    · have g1 : ¬ (i : Int) < (xs.length : Int) := by omega
      go_wp2_with fail
      all_goals (
        go_ret
        refine ⟨_, rfl, ?_, below_then hB0 hBr⟩
        first | omega | (rw [ByteArray.size_extract]; omega))

end Go.Proofs.Ytfdbkpbgkpkckaa
