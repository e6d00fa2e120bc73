/-
  The contracts of cutter.Ends and Count for all arguments; the walks of their references.
-/
import Derived.Test.YtaofphifmgadjaaCutEnds
import Derived.Test.YtaofphifmgadjaaKit
namespace Go.Proofs.Ytaofphifmgadjaa
open Go.RowKit Go.Shelf
set_option linter.unusedVariables false
set_option maxRecDepth 100000

def endsO (l wd jb ov : Int) (sy : Bool) (s : ByteArray) : List Int := if askE l wd jb ov s ≠ 0 then [] else if jobsN jb sy s ≤ 4096 then endsL jb sy s 0 else []
def endsOE (l wd jb ov : Int) (sy : Bool) (s : ByteArray) : Int := if askE l wd jb ov s ≠ 0 then askE l wd jb ov s else if jobsN jb sy s ≤ 4096 then 0 else 6
theorem endsO_bad {l wd jb ov : Int} {sy : Bool} {s : ByteArray} (h : askE l wd jb ov s ≠ 0) : endsO l wd jb ov sy s = [] ∧ endsOE l wd jb ov sy s = askE l wd jb ov s := ⟨if_pos h, if_pos h⟩
theorem endsO_ok {l wd jb ov : Int} {sy : Bool} {s : ByteArray} (h : askE l wd jb ov s = 0) (h2 : jobsN jb sy s ≤ 4096) : endsO l wd jb ov sy s = endsL jb sy s 0 ∧ endsOE l wd jb ov sy s = 0 := by
  unfold endsO endsOE; rw [if_neg (by omega), if_pos h2, if_neg (by omega), if_pos h2]; exact ⟨rfl, rfl⟩
theorem endsO_full {l wd jb ov : Int} {sy : Bool} {s : ByteArray} (h : askE l wd jb ov s = 0) (h2 : 4096 < jobsN jb sy s) : endsO l wd jb ov sy s = [] ∧ endsOE l wd jb ov sy s = 6 := by
  unfold endsO endsOE; rw [if_neg (by omega), if_neg (by omega), if_neg (by omega), if_neg (by omega)]; exact ⟨rfl, rfl⟩
def EndsOut (xs : List Int) (E : Int) (w : World) (e : Ending) (w' : World) : Prop := ∃ A c, e = .returned (.tuple #[.slice A xs.length c, .int .i64 E]) ∧ SliceAt .i64 w' w'.heap.size A xs ∧ Below w.heap.size w w'

set_option maxHeartbeats 1600000 in
theorem Ends35_bad (l wd jb ov : Int) (sy ck : Bool) (s : ByteArray) (w : World) (hs : s.size ≤ 9223372036854775807) (h : askE l wd jb ov s ≠ 0) :
    Calls Try.prog 35 #[.agg #[.int .i64 l, .int .i64 wd, .int .i64 jb, .int .i64 ov, .bool sy, .bool ck], .string s] w (EndsOut [] (askE l wd jb ov s) w) := by
  have HA := Lib.hid (fun W => checked_any l wd jb ov sy ck s W hs)
  generalize askE l wd jb ov s = a at *
  have g1 : (a != 0) = true := by simpa using h
  have g2 : (a == 0) = false := by simpa using h
  clear h
  go_enter Try.func35, Try.ntmps35
  go_wp2_with fail
  refine (HA.out _).mono ?_
  rintro e w1 ⟨rfl, hB1⟩
  have b4 : Boxed w1 (w.heap.size + 1) 41 (.slice none 0 0) := (hB1.block (w.heap.size + 1) (by simp)).trans (((boxed_at2 (W := w.alloc (.cells #[.int .i64 l, .int .i64 wd, .int .i64 jb, .int .i64 ov, .bool sy, .bool ck] 49)) (by simp) 41 (.slice none 0 0)).alloc (.cells #[.int .i64 0] 24)))
  have b5 : Boxed w1 (w.heap.size + 1 + 1) 24 (.int .i64 0) := (hB1.block (w.heap.size + 1 + 1) (by simp)).trans (boxed_at2 (W := (w.alloc (.cells #[.int .i64 l, .int .i64 wd, .int .i64 jb, .int .i64 ov, .bool sy, .bool ck] 49)).alloc (.cells #[.slice none 0 0] 41)) (by simp) 24 (.int .i64 0))
  have k4 := b4.cell
  have k5 := b5.cell
  have z4 := b4.frozen
  have z5 := b5.frozen
  have f4 := ((b4.set (.slice none 0 0)).other (B' := w.heap.size + 1 + 1) (by omega) (.int .i64 a)).cell
  have f5 := ((b5.other (B' := w.heap.size + 1) (by omega) (.slice none 0 0)).set (.int .i64 a)).cell
  have hBw := below_then (below_alloc (below_alloc (below_fresh (w := w) (.cells #[.int .i64 l, .int .i64 wd, .int .i64 jb, .int .i64 ov, .bool sy, .bool ck] 49)) (.cells #[.slice none 0 0] 41)) (.cells #[.int .i64 0] 24)) hB1
  go_wp2
  refine bodyPost_ret (v := .tuple #[.slice none 0 0, .int .i64 a]) (by simp [results, Try.results35, go_sem, f4, f5]) rfl ⟨none, 0, rfl, .inl rfl, ?_⟩
  exact (hBw.setCell (p := ⟨w.heap.size + 1, 0, none⟩) (by simp only; omega) _).setCell (p := ⟨w.heap.size + 1 + 1, 0, none⟩) (by simp only; omega) _

theorem Ends35_any (l wd jb ov : Int) (sy ck : Bool) (s : ByteArray) (w : World) (hs : s.size ≤ 9223372036854775807) :
    Calls Try.prog 35 #[.agg #[.int .i64 l, .int .i64 wd, .int .i64 jb, .int .i64 ov, .bool sy, .bool ck], .string s] w (EndsOut (endsO l wd jb ov sy s) (endsOE l wd jb ov sy s) w) := by
  by_cases h : askE l wd jb ov s = 0
  · obtain ⟨hpb, hz⟩ := ask_zero h
    refine (callsIn_wide.1 (Ends_in 6 (Nat.le_refl _) l wd jb ov sy ck s hpb hz w)).mono ?_
    rintro e w' ⟨⟨base, hb, hP⟩, hB⟩
    rcases hP with ⟨h2, v, rfl, hown⟩ | ⟨h2, rfl⟩
    · obtain ⟨e1, e2⟩ := endsO_ok (sy := sy) h h2
      rw [e1, e2]
      obtain ⟨A, c, rfl⟩ := owns_slice hown
      have hl : (endsL jb sy s 0).length = jobsN jb sy s := rfl
      rw [← hl] at hown ⊢
      exact ⟨A, c, rfl, SliceAt.of_own hown, hB⟩
    · obtain ⟨e1, e2⟩ := endsO_full (sy := sy) h h2
      rw [e1, e2]
      exact ⟨none, 0, rfl, .inl rfl, hB⟩
  · obtain ⟨e1, e2⟩ := endsO_bad (sy := sy) h
    rw [e1, e2]
    exact Ends35_bad l wd jb ov sy ck s w hs h

def SlOut (xs : List Int) (w : World) (e : Ending) (w' : World) : Prop := ∃ A c, e = .returned (.slice A xs.length c) ∧ SliceAt .i64 w' w'.heap.size A xs ∧ Below w.heap.size w w'
set_option maxHeartbeats 1600000 in
theorem rends_any (l wd jb ov : Int) (sy ck : Bool) (s : ByteArray) (w : World) (hpb : ¬ parBad l wd jb ov) (hs : s.size ≤ 1048576) :
    Calls Try.prog 69 #[.agg #[.int .i64 l, .int .i64 wd, .int .i64 jb, .int .i64 ov, .bool sy, .bool ck], .string s] w (SlOut (endsL jb sy s 0) w) := by
  obtain ⟨i0, hi, hz0, hz1, hz2⟩ := info_parts Try.infoInt
  obtain ⟨jf1, jf2, jf3, jf4⟩ := jobs_facts jb sy s
  by_cases h0 : s.size = 0
  · have hE : endsL jb sy s 0 = [0] := by
      have hst := endsL_step jb sy s 0 (Nat.zero_le _)
      have hn := (nextE_le jb sy s 0 (Nat.zero_le _)).1
      rw [hst, if_neg (by omega), show nextE jb sy s 0 = 0 by omega]
      rfl
    have HE := Lib.hid hE
    have e1 : s.toList = [] := by rw [ByteArray.toList_eq]; exact List.eq_nil_of_length_eq_zero (by simpa using h0)
    have e2 : s.toList.isEmpty = true := by rw [e1]; rfl
    clear hE jf1 jf2 jf3 jf4 hpb
    go_enter Try.func69, Try.ntmps69
    go_wp2
    go_ret
    rw [HE.out]
    refine ⟨some ⟨w.heap.size + 1, 0, none⟩, 1, rfl, ?_, below_alloc (below_fresh _) _⟩
    have := slice_new1 (w.alloc (.cells #[.int .i64 l, .int .i64 wd, .int .i64 jb, .int .i64 ov, .bool sy, .bool ck] 49)) .i64 3 0
    rw [World.size_alloc] at this
    exact this.more (by simp)
  · have e2 : s.toList.isEmpty = false := by
      rw [ByteArray.toList_eq]
      cases hh : s.data.toList with
      | nil => exfalso; apply h0; have := congrArg List.length hh; simpa using this
      | cons a b => rfl
    have e1 : (s.toList == []) = false := by
      cases hh : s.toList with
      | nil => rw [hh] at e2; cases e2
      | cons a b => rfl
    have e3 : s.toList ≠ [] := by intro hh; rw [hh] at e2; cases e2
    have E3 := Lib.hid e3
    clear e3
    have HN : Hid (∀ k V, Calls Try.prog 63 #[.agg #[.int .i64 l, .int .i64 wd, .int .i64 jb, .int .i64 ov, .bool sy, .bool ck], .string s, .int .i64 (atK jb sy s k : Int)] V fun e w' => e = .returned (.tuple #[.int .i64 (posE jb sy s k : Int), .bool (nextB jb sy s (atK jb sy s k))]) ∧ Below V.heap.size V w') := fun k V => by
      have := rnext_any l wd jb ov sy ck s (atK jb sy s k) V hpb hs (atK_le jb sy s k)
      rw [atK_next] at this
      exact this
    have HT : Hid (∀ k, (k < jobsN jb sy s → atK jb sy s k < s.size) ∧ (k = jobsN jb sy s → ¬ atK jb sy s k < s.size)) := fun k => by
      cases k with
      | zero => exact ⟨fun _ => by show 0 < s.size; omega, fun h => by omega⟩
      | succ i =>
        refine ⟨fun h => jf2 i h, fun h => ?_⟩
        have : jobsN jb sy s - 1 = i := by omega
        rw [this] at jf3
        exact jf3
    have HAK : Hid (∀ k, atK jb sy s (k + 1) = posE jb sy s k) := fun _ => rfl
    have HA0 : Hid ((0 : Int) = (atK jb sy s 0 : Int)) := rfl
    have HAL : Hid (∀ k, atK jb sy s k ≤ s.size) := fun k => atK_le jb sy s k
    have HR : Hid (endsL jb sy s 0 = winsE jb sy s (List.range (jobsN jb sy s))) := ends_range jb sy s
    have HS : Hid (∀ k, winsE jb sy s (List.range (k + 1)) = winsE jb sy s (List.range k) ++ [(posE jb sy s k : Int)]) := fun k => by simp [winsE, List.range_succ]
    have HLn : Hid (∀ k, (winsE jb sy s (List.range k)).length = k) := fun k => by simp [winsE]
    have HP : Hid (∀ V, Below (w.alloc (.cells #[.int .i64 l, .int .i64 wd, .int .i64 jb, .int .i64 ov, .bool sy, .bool ck] 49)).heap.size (w.alloc (.cells #[.int .i64 l, .int .i64 wd, .int .i64 jb, .int .i64 ov, .bool sy, .bool ck] 49)) V → ParBox V w.heap.size l wd jb ov sy ck) := fun V hV => (ParBox.new w l wd jb ov sy ck 49).keep hV (by simp)
    have HB0 := Lib.hid (below_fresh (w := w) (.cells #[.int .i64 l, .int .i64 wd, .int .i64 jb, .int .i64 ov, .bool sy, .bool ck] 49))
    clear jf2 jf3 hpb h0
    generalize endsL jb sy s 0 = EL at *
    generalize jobsN jb sy s = L at *
    go_enter Try.func69, Try.ntmps69
    go_wp2
    generalize hW0 : w.alloc (.cells #[.int .i64 l, .int .i64 wd, .int .i64 jb, .int .i64 ov, .bool sy, .bool ck] 49) = W0 at *
    clear hW0
    go_loopw [5, 6] (fun v av wr => ∃ k : Nat, k ≤ L ∧ av = .int .i64 (atK jb sy s k : Int) ∧ wr.ownsRow W0.heap.size 3 1 v k ((winsE jb sy s (List.range k)).map (Value.int .i64)) ∧ Below W0.heap.size W0 wr) (fun _ av _ => s.size - (intOf av).toNat)
    case atStart => exact ⟨0, Nat.zero_le _, val_int HA0.out, World.ownsRow_nil _ _ _ _, Below.refl _ _⟩
    case round =>
      obtain ⟨k, hk, rfl, hown, hB⟩ := hrel
      have hal := HAL.out k
      by_cases hlt : k < L
      · have hT := (HT.out k).1 hlt
        have g1 : (atK jb sy s k : Int) < (s.size : Int) := by omega
        have HNk := Lib.hid (fun V => HN.out k V)
        obtain ⟨q0, q1, q2, q3, q4, q5⟩ := HP.out _ hB
        have hAKk := HAK.out k
        have hpl : posE jb sy s k ≤ s.size := by rw [← hAKk]; exact HAL.out (k + 1)
        have hgt : atK jb sy s k < posE jb sy s k := by rw [← atK_next]; exact (nextE_le jb sy s _ hal).2 hT
        have HAKk := Lib.hid hAKk
        clear hAKk
        have hk20 : k ≤ 1048576 := by omega
        go_wp2_with fail
        refine (HNk.out _).mono ?_
        rintro e w2 ⟨rfl, hB2⟩
        have hown2 := hown.kept (grown_below hB2) (by
          rcases hown.2 with ⟨rfl, _⟩ | ⟨g, cap, cur, rfl, _⟩
          · exact .inl rfl
          · exact .inr (by simp [Value.ownBlock]))
        have hBz := hB2.size
        have hBz2 := hB.size
        go_wp2_with (at_builtin; refine wpList_append_own _ rfl _ _ 41 rfl W0.heap.size 3 i0 (.int .i64 0) 1 8 Try.underlying41 hi hz0 hz1 hz2 rfl (by decide) _ _ _ rfl (hown2.alloc _) ⟨w2.heap.size, 0, none⟩ 1 1 [.int .i64 (posE jb sy s k : Int)] rfl rfl (cell_one_new _ _ _) (by simp [Value.oneCell']) (by simp only [maxLen]; omega) (by omega) (by simp; omega) ?_; intro v' w5 hown' hgrow _)
        have hB5 : Below W0.heap.size W0 w5 := ((hB.trans (hB2.mono hB.size)).alloc (by omega) _).grown hgrow (by simp; omega) (fun x hx => (hown2.lt x hx).1)
        clear hown hown2 hgrow hB hB2
        go_wp2
        go_roundw
        case rel => exact ⟨k + 1, by omega, by rw [HAKk.out], by rw [HS.out]; simpa using hown', hB5⟩
        case measure => simp [intOf]; omega
      · have hkL : k = L := by omega
        have hT := (HT.out k).2 hkL
        have g1 : ¬ (atK jb sy s k : Int) < (s.size : Int) := by omega
        have HKL := Lib.hid hkL
        obtain ⟨A, c, rfl⟩ := owns_slice hown
        clear hkL
        go_wp2
        go_ret
        have hl := HLn.out k
        have hR := HR.out
        rw [← HKL.out] at hR
        rw [hR]
        refine ⟨A, c, by rw [hl]; rfl, ?_, below_then HB0.out hB⟩
        refine SliceAt.of_own (base := W0.heap.size) (c := c) (e := 3) ?_
        rw [hl]
        exact hown

end Go.Proofs.Ytaofphifmgadjaa
