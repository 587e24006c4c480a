/- THE WALKS over bits, VIII: works. -/
import Derived.Test.YtcnpldeehbleeaaBitsE
namespace Go.Proofs.Ytcnpldeehbleeaa
open Go.RowKit Go.Shelf
theorem from_yes (n wd : Nat) (s : ByteArray) (w : World) (hw : wd ≤ 67108864) (hn : n ≤ 9223372036854775807) (hm : n * ((wd + 7) / 8) ≤ 268435456) (h1 : s.size = n * ((wd + 7) / 8)) (h2 : Pad n wd s.data.toList) :
    Calls Try.prog 21 #[.int .i64 n, .int .i64 wd, .string s] w fun e w' => ∃ p g, e = .returned (.pointer (some ⟨p, 0, none⟩)) ∧ Bt w' p g n wd s.data.toList ∧ w.heap.size ≤ p ∧ w.heap.size ≤ g ∧ Below w.heap.size w w' := by
  refine (from_any n wd s w hw hn hm).mono ?_
  rintro e w' ⟨hb, h | h⟩
  · obtain ⟨_, _, p, g, he, hbt, hp, hg⟩ := h
    exact ⟨p, g, he, hbt, hp, hg, hb⟩
  · exact absurd ⟨h1, h2⟩ h.1
theorem from_no (n wd : Nat) (s : ByteArray) (w : World) (hw : wd ≤ 67108864) (hn : n ≤ 9223372036854775807) (hm : n * ((wd + 7) / 8) ≤ 268435456) (h : ¬ (s.size = n * ((wd + 7) / 8) ∧ Pad n wd s.data.toList)) :
    Calls Try.prog 21 #[.int .i64 n, .int .i64 wd, .string s] w fun e w' => e = .returned (.pointer none) ∧ Below w.heap.size w w' := by
  refine (from_any n wd s w hw hn hm).mono ?_
  rintro e w' ⟨hb, hh | hh⟩
  · exact absurd ⟨hh.1, hh.2.1⟩ h
  · exact ⟨hh.2, hb⟩
theorem works_bytes {l1 l2 l3 : List UInt8} (h1 : Sets 2 2 (List.replicate 4 0) 0 0 true l1) (h2 : Sets 2 2 l1 0 9 true l2) (h3 : Sets 2 2 l2 1 3 true l3) : l3 = [1, 2, 8, 0] := by
  refine bytes_ext (n := 2) (lg := 2) (by rw [h3.1, h2.1, h1.1]; rfl) rfl fun r hr i hi => ?_
  rw [h3.2 r hr i hi, h2.2 r hr i hi, h1.2 r hr i hi, bitAt_zero]
  have : ∀ r, r < 2 → ∀ i, i < 8 * 2 → (if r = 1 ∧ i = 3 then true else if r = 0 ∧ i = 9 then true else if r = 0 ∧ i = 0 then true else false) = bitAt 2 [1, 2, 8, 0] r i := by decide
  exact this r hr i hi
theorem pad5 : Pad 1 3 [5] := by
  have : ∀ r, r < 1 → ∀ i, i < 8 → 3 ≤ i → bitAt 1 [5] r i = false := by decide
  exact fun r hr i h1 h2 => this r hr i h2 h1
theorem pad15 : ¬ Pad 1 3 [15] := fun h => by have := h 0 (by omega) 3 (by omega) (by omega); revert this; decide
set_option maxHeartbeats 2000000 in
theorem works_any (w : World) : Calls Try.prog 19 #[] w fun e w' => e = .returned (.bool true) ∧ Below w.heap.size w w' := by
  go_enter Try.func19, Try.ntmps19
  go_wp2_with fail
  refine (new_any 2 10 w (by omega) (by omega) (by omega)).mono ?_
  rintro e w1 ⟨p, g, rfl, hbt, hp, hg, hb⟩
  have Hbt := Lib.hid hbt; have Hb := Lib.hid hb; clear hbt hb
  go_wp2_with fail
  refine (set_any p g 2 10 _ 0 0 true _ Hbt.out).mono ?_
  rintro e w2 ⟨l1, rfl, hbt, hk, hs, _⟩
  have Hs1 := Lib.hid (hs (by omega)); have Hb2 := Lib.hid (Hb.out.trans (hk.below (B := w.heap.size) Hb.out.size (fun k hk => by omega)))
  clear Hbt hs hk Hb
  have Hbt := Lib.hid hbt; clear hbt
  go_wp2_with fail
  refine (set_any p g 2 10 _ 0 9 true _ Hbt.out).mono ?_
  rintro e w3 ⟨l2, rfl, hbt, hk, hs, _⟩
  have Hs2 := Lib.hid (hs (by omega)); have Hb3 := Lib.hid (Hb2.out.trans (hk.below (B := w.heap.size) Hb2.out.size (fun k hk => by omega)))
  clear Hbt hs hk Hb2
  have Hbt := Lib.hid hbt; clear hbt
  go_wp2_with fail
  refine (set_any p g 2 10 _ 1 3 true _ Hbt.out).mono ?_
  rintro e w4 ⟨l3, rfl, hbt, hk, hs, _⟩
  have Hs3 := Lib.hid (hs (by omega)); have Hb4 := Lib.hid (Hb3.out.trans (hk.below (B := w.heap.size) Hb3.out.size (fun k hk => by omega)))
  have hl3 := works_bytes Hs1.out Hs2.out Hs3.out
  clear Hbt hs hk Hb3 Hs1 Hs2 Hs3
  subst hl3
  have Hbt := Lib.hid hbt; clear hbt
  go_wp2_with fail
  refine (from_yes 1 3 ⟨#[5]⟩ _ (by omega) (by omega) (by omega) rfl pad5).mono ?_
  rintro e w5 ⟨p2, g2, rfl, hbt2, hp2, hg2, hb2⟩
  have Hbt2 := Lib.hid hbt2; have Hbt1 := Lib.hid (Hbt.out.later hb2); have Hb5 := Lib.hid (Hb4.out.next' hb2)
  clear hbt2 hb2 Hb4 Hbt
  go_wp2_with fail
  refine (bytes_any p g 2 10 _ _ Hbt1.out).mono ?_
  rintro e w' ⟨rfl, rfl⟩
  go_wp2_with fail
  refine (from_no 1 3 ⟨#[15]⟩ _ (by omega) (by omega) (by omega) (fun h => pad15 h.2)).mono ?_
  rintro e w6 ⟨rfl, hb⟩
  have Hbt3 := Lib.hid (Hbt2.out.later hb); have Hb6 := Lib.hid (Hb5.out.next' hb)
  clear hb Hb5 Hbt2
  go_wp2_with fail
  refine (row_any p2 g2 1 3 [5] 0 _ Hbt3.out).mono ?_
  rintro e w7 ⟨v, rfl, hsl, hb⟩
  have Hb7 := Lib.hid (Hb6.out.next' hb)
  have hrow : rowOf 1 3 [5] 0 = [0, 2] := by decide
  rw [hrow] at hsl
  have Hsl := Lib.hid hsl
  clear hb Hb6 Hbt3 hsl hrow
  go_wp2_with fail
  refine (ints_any _ _ [0, 2] [0, 2] _ (Hsl.out.alloc _) (OwnI.new _ 3 .i64 [0, 2] (by unfold maxLen; decide)).sl).mono ?_
  rintro e w8 ⟨rfl, hb⟩
  have Hb8 := Lib.hid ((Hb7.out.alloc (Hb7.out.size) _).next' hb)
  clear hb Hb7 Hsl
  have e1 : decide (([0, 2] : List Int) = [0, 2]) = true := by decide
  go_wp2_with fail
  refine (from_no 2 8 ⟨#[1]⟩ _ (by omega) (by omega) (by omega) (fun h => absurd h.1 (by decide))).mono ?_
  rintro e w9 ⟨rfl, hb⟩
  have Hb9 := Lib.hid (Hb8.out.next' hb)
  clear hb Hb8
  go_wp2_with fail
  refine (new_none 1 (-1) _ (by omega)).mono ?_
  rintro e w' ⟨rfl, rfl⟩
  go_wp2_with fail
  go_ret
  exact ⟨rfl, Hb9.out⟩
end Go.Proofs.Ytcnpldeehbleeaa
