/- the graph laws' works. -/
import Derived.Test.YtnkcmlngoeofgaaDoorGrFails
namespace Go.Proofs.YtnkcmlngoeofgaaDoor
open Go.RowKit
theorem slX_new {w : World} {g n : Nat} {cs : Array Value} {t : TypeId} {fr : Nat × Nat} {L : List Int} (hb : Blk w g cs t fr) (hcs : cs = (L.flatMap inC).toArray) (hn : L.length = n) (hl : L.length ≤ 1000) : SlX w (.slice (some ⟨g, 0, none⟩) n n) L := by
  subst hn
  refine ⟨_, _, rfl, Nat.le_refl _, by unfold maxLen; omega, fun i hi => ⟨g, 0, cs, t, fr, rfl, hb, ?_⟩⟩
  have e := flatN_get 1 inC inC_len L i 0 (by omega)
  rw [Nat.mul_one, Nat.add_zero, List.getElem?_eq_getElem hi] at e
  rw [hcs, Nat.zero_add, List.getElem?_toArray, e]; rfl
theorem slA_new {w : World} {g n : Nat} {cs : Array Value} {t : TypeId} {fr : Nat × Nat} {L : List Ar} (hb : Blk w g cs t fr) (hcs : cs = (L.flatMap arC).toArray) (hn : L.length = n) (hl : L.length ≤ 1000) : SlA w (.slice (some ⟨g, 0, none⟩) n n) L := by
  subst hn
  have hc : ∀ i (hi : i < L.length) d, d < 3 → cs[0 + i * 3 + d]? = (arC L[i])[d]? := fun i hi d hd => by
    rw [hcs, Nat.zero_add, List.getElem?_toArray, flatN_get 3 arC arC_len L i d hd, List.getElem?_eq_getElem hi]; rfl
  exact ⟨_, _, rfl, Nat.le_refl _, by unfold maxLen; omega, fun i hi => ⟨g, 0, cs, t, fr, rfl, hb, hc i hi 0 (by omega), hc i hi 1 (by omega), hc i hi 2 (by omega)⟩⟩
theorem slX_nil (w : World) : SlX w (.slice none 0 0) [] := ⟨none, 0, rfl, Nat.le_refl _, Nat.zero_le _, fun i hi => by cases hi⟩
theorem slA_nil (w : World) : SlA w (.slice none 0 0) [] := ⟨none, 0, rfl, Nat.le_refl _, Nat.zero_le _, fun i hi => by cases hi⟩
set_option maxHeartbeats 4000000 in
theorem works_any (w : World) (hg : HG w) : Calls Tryd.prog 12 #[] w fun e w' => e = .returned (.bool true) ∧ Below w.heap.size w w' := by
  obtain ⟨w3, hw3⟩ : ∃ w3, w3 = ((w.alloc (.cells #[.int .i64 0, .int .i64 0] 2)).alloc (.cells #[.int .i64 0] 2)).alloc (.cells #[.int .i64 0, .int .i64 1, .int .i64 5] 54) := ⟨_, rfl⟩
  have B1 : Blk w3 w.heap.size #[.int .i64 0, .int .i64 0] 2 (0, 0) := by rw [hw3]; exact ((Blk.new _ _ _ _).alloc _).alloc _
  have B2 : Blk w3 (w.heap.size + 1) #[.int .i64 0] 2 (0, 0) := by
    rw [hw3]
    have h := Blk.new (w.alloc (.cells #[.int .i64 0, .int .i64 0] 2)) #[.int .i64 0] 2 (0, 0)
    rw [World.size_alloc] at h
    exact h.alloc _
  have B3 : Blk w3 (w.heap.size + 1 + 1) #[.int .i64 0, .int .i64 1, .int .i64 5] 54 (0, 0) := by
    rw [hw3]
    have h := Blk.new ((w.alloc (.cells #[.int .i64 0, .int .i64 0] 2)).alloc (.cells #[.int .i64 0] 2)) #[.int .i64 0, .int .i64 1, .int .i64 5] 54 (0, 0)
    rw [World.size_alloc, World.size_alloc] at h
    exact h
  have hb3 : Below w.heap.size w w3 := by rw [hw3]; exact (((Below.refl _ _).alloc (Nat.le_refl _) _).alloc (by simp) _).alloc (by simp; omega) _
  have S2 : SlX w3 (.slice (some ⟨w.heap.size, 0, none⟩) 2 2) [0, 0] := slX_new B1 rfl rfl (by decide)
  have S1 : SlX w3 (.slice (some ⟨w.heap.size + 1, 0, none⟩) 1 1) [0] := slX_new B2 rfl rfl (by decide)
  have S3 : SlA w3 (.slice (some ⟨w.heap.size + 1 + 1, 0, none⟩) 1 1) [(0, 1, 5)] := slA_new B3 rfl rfl (by decide)
  have C1 := Lib.hid (check_raw _ ⟨2, [0, 0], [0, 0], [(0, 1, 5)]⟩ w3 ⟨_, _, _, rfl, S2, S2, S3⟩)
  have H2 := Lib.hid S2; have H1 := Lib.hid S1; have HW3 := Lib.hid hw3; have HB3 := Lib.hid hb3; have HG0 := Lib.hid hg
  clear S1 S2 S3 B1 B2 B3 hw3 hb3 hg
  go_enter Tryd.func12, Tryd.ntmps12
  go_wp2_with fail
  rw [← HW3.out]
  refine C1.out.mono ?_
  rintro e w4 ⟨u, rfl, hi, hb4⟩
  rcases hi.form with ⟨rfl, _⟩ | ⟨_, h⟩
  case inr => exact (h (by decide)).elim
  have HB4 := Lib.hid (HB3.out.next' hb4)
  have HS2 := Lib.hid (H2.out.keep (KpC.of_below hb4)); have HS1 := Lib.hid (H1.out.keep (KpC.of_below hb4))
  have C2 := Lib.hid (fails_any _ ⟨0, [], [], []⟩ w4 5 0 0 0 (HG0.out.later HB4.out) ⟨_, _, _, rfl, slX_nil _, slX_nil _, slA_nil _⟩ (by decide))
  clear hi hb4 H1 H2
  go_wp2_with fail
  refine C2.out.mono ?_
  rintro e w5 ⟨rfl, hb5⟩
  have HB5 := Lib.hid (HB4.out.next' hb5)
  have HT2 := Lib.hid (HS2.out.keep (KpC.of_below hb5)); have HT1 := Lib.hid (HS1.out.keep (KpC.of_below hb5))
  have C3 := Lib.hid (fails_any _ ⟨2, [0], [0, 0], []⟩ w5 6 1 0 0 (HG0.out.later HB5.out) ⟨_, _, _, rfl, HT1.out, HT2.out, slA_nil _⟩ (by decide))
  clear hb5 HS1 HS2 C1 C2
  go_wp2_with fail
  refine C3.out.mono ?_
  rintro e w6 ⟨rfl, hb6⟩
  obtain ⟨w7, hw7⟩ : ∃ w7, w7 = w6.alloc (.cells #[.int .i64 2147483648] 2) := ⟨_, rfl⟩
  have hb7 : Below w6.heap.size w6 w7 := by rw [hw7]; exact (Below.refl _ _).alloc (Nat.le_refl _) _
  have B7 : Blk w7 w6.heap.size #[.int .i64 2147483648] 2 (0, 0) := by rw [hw7]; exact Blk.new _ _ _ _
  have HB7 := Lib.hid ((HB5.out.next' hb6).next' hb7)
  have HU1 := Lib.hid ((HT1.out.keep (KpC.of_below hb6)).keep (KpC.of_below hb7))
  have C4 := Lib.hid (fails_any _ ⟨1, [0], [2147483648], []⟩ w7 7 2 0 1 (HG0.out.later HB7.out) ⟨_, _, _, rfl, HU1.out, slX_new (L := [2147483648]) B7 rfl rfl (by decide), slA_nil _⟩ (by decide))
  have HW7 := Lib.hid hw7
  clear hb6 hb7 hw7 B7 HT1 HT2 C3
  go_wp2_with fail
  rw [← HW7.out]
  refine C4.out.mono ?_
  rintro e w8 ⟨rfl, hb8⟩
  obtain ⟨w9, hw9⟩ : ∃ w9, w9 = w8.alloc (.cells #[.int .i64 0, .int .i64 0, .int .i64 1, .int .i64 0, .int .i64 1, .int .i64 (-1)] 54) := ⟨_, rfl⟩
  have hb9 : Below w8.heap.size w8 w9 := by rw [hw9]; exact (Below.refl _ _).alloc (Nat.le_refl _) _
  have B9 : Blk w9 w8.heap.size #[.int .i64 0, .int .i64 0, .int .i64 1, .int .i64 0, .int .i64 1, .int .i64 (-1)] 54 (0, 0) := by rw [hw9]; exact Blk.new _ _ _ _
  have HB9 := Lib.hid ((HB7.out.next' hb8).next' hb9)
  have HV1 := Lib.hid ((HU1.out.keep (KpC.of_below hb8)).keep (KpC.of_below hb9))
  have C5 := Lib.hid (fails_any _ ⟨1, [0], [0], [(0, 0, 1), (0, 1, -1)]⟩ w9 9 4 1 1 (HG0.out.later HB9.out) ⟨_, _, _, rfl, HV1.out, HV1.out, slA_new (L := [(0, 0, 1), (0, 1, -1)]) B9 rfl rfl (by decide)⟩ (by decide))
  have HW9 := Lib.hid hw9
  clear hb8 hb9 hw9 B9 HU1 C4
  go_wp2_with fail
  rw [← HW9.out]
  refine C5.out.mono ?_
  rintro e w10 ⟨rfl, hb10⟩
  have HB10 := Lib.hid (HB9.out.next' hb10)
  clear hb10 C5
  go_wp2_with fail
  go_ret
  exact ⟨rfl, HB10.out⟩
end Go.Proofs.YtnkcmlngoeofgaaDoor
