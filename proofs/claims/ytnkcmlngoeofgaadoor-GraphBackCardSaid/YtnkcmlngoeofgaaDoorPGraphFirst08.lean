/- Texts of the law GraphFirst, merged: GrWorks, NetSmall, NetWorks, NetKnown, NetRise, NetRefOut, GrSame, NetRefSame, NetOnceP. -/
import Derived.Test.YtnkcmlngoeofgaaDoorPGraphFirst05
import Derived.Test.YtnkcmlngoeofgaaDoorPGraphFirst07
import Derived.Test.YtnkcmlngoeofgaaDoorPGraphFirst02
/- the graph laws' works. -/
namespace Go.Proofs.YtnkcmlngoeofgaaDoor
open Go.RowKit
theorem slX_new {w : World} {g n : Nat} {cs : Array Value} {t : TypeId} {fr : Nat × Nat} {L : List Int} (hb : Blk w g cs t fr) (hcs : cs = (L.flatMap inC).toArray) (hn : L.length = n) (hl : L.length ≤ 1000) : SlX w (.slice (some ⟨g, 0, none⟩) n n) L := by
  subst hn
  refine ⟨_, _, rfl, Nat.le_refl _, by unfold maxLen; omega, fun i hi => ⟨g, 0, cs, t, fr, rfl, hb, ?_⟩⟩
  have e := flatN_get 1 inC inC_len L i 0 (by omega)
  rw [Nat.mul_one, Nat.add_zero, List.getElem?_eq_getElem hi] at e
  rw [hcs, Nat.zero_add, List.getElem?_toArray, e]; rfl
theorem slA_new {w : World} {g n : Nat} {cs : Array Value} {t : TypeId} {fr : Nat × Nat} {L : List Ar} (hb : Blk w g cs t fr) (hcs : cs = (L.flatMap arC).toArray) (hn : L.length = n) (hl : L.length ≤ 1000) : SlA w (.slice (some ⟨g, 0, none⟩) n n) L := by
  subst hn
  have hc : ∀ i (hi : i < L.length) d, d < 3 → cs[0 + i * 3 + d]? = (arC L[i])[d]? := fun i hi d hd => by
    rw [hcs, Nat.zero_add, List.getElem?_toArray, flatN_get 3 arC arC_len L i d hd, List.getElem?_eq_getElem hi]; rfl
  exact ⟨_, _, rfl, Nat.le_refl _, by unfold maxLen; omega, fun i hi => ⟨g, 0, cs, t, fr, rfl, hb, hc i hi 0 (by omega), hc i hi 1 (by omega), hc i hi 2 (by omega)⟩⟩
theorem slX_nil (w : World) : SlX w (.slice none 0 0) [] := ⟨none, 0, rfl, Nat.le_refl _, Nat.zero_le _, fun i hi => by cases hi⟩
theorem slA_nil (w : World) : SlA w (.slice none 0 0) [] := ⟨none, 0, rfl, Nat.le_refl _, Nat.zero_le _, fun i hi => by cases hi⟩
set_option maxHeartbeats 4000000 in
theorem works_any (w : World) (hg : HG w) : Calls Tryd.prog 12 #[] w fun e w' => e = .returned (.bool true) ∧ Below w.heap.size w w' := by
  obtain ⟨w3, hw3⟩ : ∃ w3, w3 = ((w.alloc (.cells #[.int .i64 0, .int .i64 0] 2)).alloc (.cells #[.int .i64 0] 2)).alloc (.cells #[.int .i64 0, .int .i64 1, .int .i64 5] 54) := ⟨_, rfl⟩
  have B1 : Blk w3 w.heap.size #[.int .i64 0, .int .i64 0] 2 (0, 0) := by rw [hw3]; exact ((Blk.new _ _ _ _).alloc _).alloc _
  have B2 : Blk w3 (w.heap.size + 1) #[.int .i64 0] 2 (0, 0) := by
    rw [hw3]
    have h := Blk.new (w.alloc (.cells #[.int .i64 0, .int .i64 0] 2)) #[.int .i64 0] 2 (0, 0)
    rw [World.size_alloc] at h
    exact h.alloc _
  have B3 : Blk w3 (w.heap.size + 1 + 1) #[.int .i64 0, .int .i64 1, .int .i64 5] 54 (0, 0) := by
    rw [hw3]
    have h := Blk.new ((w.alloc (.cells #[.int .i64 0, .int .i64 0] 2)).alloc (.cells #[.int .i64 0] 2)) #[.int .i64 0, .int .i64 1, .int .i64 5] 54 (0, 0)
    rw [World.size_alloc, World.size_alloc] at h
    exact h
  have hb3 : Below w.heap.size w w3 := by rw [hw3]; exact (((Below.refl _ _).alloc (Nat.le_refl _) _).alloc (by simp) _).alloc (by simp; omega) _
  have S2 : SlX w3 (.slice (some ⟨w.heap.size, 0, none⟩) 2 2) [0, 0] := slX_new B1 rfl rfl (by decide)
  have S1 : SlX w3 (.slice (some ⟨w.heap.size + 1, 0, none⟩) 1 1) [0] := slX_new B2 rfl rfl (by decide)
  have S3 : SlA w3 (.slice (some ⟨w.heap.size + 1 + 1, 0, none⟩) 1 1) [(0, 1, 5)] := slA_new B3 rfl rfl (by decide)
  have C1 := Lib.hid (check_raw _ ⟨2, [0, 0], [0, 0], [(0, 1, 5)]⟩ w3 ⟨_, _, _, rfl, S2, S2, S3⟩)
  have H2 := Lib.hid S2; have H1 := Lib.hid S1; have HW3 := Lib.hid hw3; have HB3 := Lib.hid hb3; have HG0 := Lib.hid hg
  clear S1 S2 S3 B1 B2 B3 hw3 hb3 hg
  go_enter Tryd.func12, Tryd.ntmps12
  go_wp2_with fail
  rw [← HW3.out]
  refine C1.out.mono ?_
  rintro e w4 ⟨u, rfl, hi, hb4⟩
  rcases hi.form with ⟨rfl, _⟩ | ⟨_, h⟩
  case inr => exact (h (by decide)).elim
  have HB4 := Lib.hid (HB3.out.next' hb4)
  have HS2 := Lib.hid (H2.out.keep (KpC.of_below hb4)); have HS1 := Lib.hid (H1.out.keep (KpC.of_below hb4))
  have C2 := Lib.hid (fails_any _ ⟨0, [], [], []⟩ w4 5 0 0 0 (HG0.out.later HB4.out) ⟨_, _, _, rfl, slX_nil _, slX_nil _, slA_nil _⟩ (by decide))
  clear hi hb4 H1 H2
  go_wp2_with fail
  refine C2.out.mono ?_
  rintro e w5 ⟨rfl, hb5⟩
  have HB5 := Lib.hid (HB4.out.next' hb5)
  have HT2 := Lib.hid (HS2.out.keep (KpC.of_below hb5)); have HT1 := Lib.hid (HS1.out.keep (KpC.of_below hb5))
  have C3 := Lib.hid (fails_any _ ⟨2, [0], [0, 0], []⟩ w5 6 1 0 0 (HG0.out.later HB5.out) ⟨_, _, _, rfl, HT1.out, HT2.out, slA_nil _⟩ (by decide))
  clear hb5 HS1 HS2 C1 C2
  go_wp2_with fail
  refine C3.out.mono ?_
  rintro e w6 ⟨rfl, hb6⟩
  obtain ⟨w7, hw7⟩ : ∃ w7, w7 = w6.alloc (.cells #[.int .i64 2147483648] 2) := ⟨_, rfl⟩
  have hb7 : Below w6.heap.size w6 w7 := by rw [hw7]; exact (Below.refl _ _).alloc (Nat.le_refl _) _
  have B7 : Blk w7 w6.heap.size #[.int .i64 2147483648] 2 (0, 0) := by rw [hw7]; exact Blk.new _ _ _ _
  have HB7 := Lib.hid ((HB5.out.next' hb6).next' hb7)
  have HU1 := Lib.hid ((HT1.out.keep (KpC.of_below hb6)).keep (KpC.of_below hb7))
  have C4 := Lib.hid (fails_any _ ⟨1, [0], [2147483648], []⟩ w7 7 2 0 1 (HG0.out.later HB7.out) ⟨_, _, _, rfl, HU1.out, slX_new (L := [2147483648]) B7 rfl rfl (by decide), slA_nil _⟩ (by decide))
  have HW7 := Lib.hid hw7
  clear hb6 hb7 hw7 B7 HT1 HT2 C3
  go_wp2_with fail
  rw [← HW7.out]
  refine C4.out.mono ?_
  rintro e w8 ⟨rfl, hb8⟩
  obtain ⟨w9, hw9⟩ : ∃ w9, w9 = w8.alloc (.cells #[.int .i64 0, .int .i64 0, .int .i64 1, .int .i64 0, .int .i64 1, .int .i64 (-1)] 54) := ⟨_, rfl⟩
  have hb9 : Below w8.heap.size w8 w9 := by rw [hw9]; exact (Below.refl _ _).alloc (Nat.le_refl _) _
  have B9 : Blk w9 w8.heap.size #[.int .i64 0, .int .i64 0, .int .i64 1, .int .i64 0, .int .i64 1, .int .i64 (-1)] 54 (0, 0) := by rw [hw9]; exact Blk.new _ _ _ _
  have HB9 := Lib.hid ((HB7.out.next' hb8).next' hb9)
  have HV1 := Lib.hid ((HU1.out.keep (KpC.of_below hb8)).keep (KpC.of_below hb9))
  have C5 := Lib.hid (fails_any _ ⟨1, [0], [0], [(0, 0, 1), (0, 1, -1)]⟩ w9 9 4 1 1 (HG0.out.later HB9.out) ⟨_, _, _, rfl, HV1.out, HV1.out, slA_new (L := [(0, 0, 1), (0, 1, -1)]) B9 rfl rfl (by decide)⟩ (by decide))
  have HW9 := Lib.hid hw9
  clear hb8 hb9 hw9 B9 HU1 C4
  go_wp2_with fail
  rw [← HW9.out]
  refine C5.out.mono ?_
  rintro e w10 ⟨rfl, hb10⟩
  have HB10 := Lib.hid (HB9.out.next' hb10)
  clear hb10 C5
  go_wp2_with fail
  go_ret
  exact ⟨rfl, HB10.out⟩
end Go.Proofs.YtnkcmlngoeofgaaDoor
/- the net laws' small graph. -/
namespace Go.Proofs.YtnkcmlngoeofgaaDoor
open Go.RowKit
def smallR : Raw := ⟨3, [1, 2, 3], [0, 0, 5], [(0, 1, 5), (1, 2, 0), (0, 1, 7), (2, 2, 1)]⟩
set_option maxHeartbeats 4000000 in
theorem small_any (w : World) : Calls Tryd.prog 52 #[] w fun e w' => ∃ v', e = .returned v' ∧ RawV w' v' smallR ∧ Below w.heap.size w w' := by
  obtain ⟨wf, hwf⟩ : ∃ wf, wf = (((w.alloc (.cells #[.int .i64 3, .slice (some ⟨w.heap.size + 1, 0, none⟩) 3 3, .slice (some ⟨w.heap.size + 1 + 1, 0, none⟩) 3 3, .slice (some ⟨w.heap.size + 1 + 1 + 1, 0, none⟩) 4 4] 25)).alloc (.cells #[.int .i64 1, .int .i64 2, .int .i64 3] 2)).alloc (.cells #[.int .i64 0, .int .i64 0, .int .i64 5] 2)).alloc (.cells #[.int .i64 0, .int .i64 1, .int .i64 5, .int .i64 1, .int .i64 2, .int .i64 0, .int .i64 0, .int .i64 1, .int .i64 7, .int .i64 2, .int .i64 2, .int .i64 1] 54) := ⟨_, rfl⟩
  have hb : Below w.heap.size w wf := by rw [hwf]; exact ((((Below.refl _ _).alloc (Nat.le_refl _) _).alloc (by simp) _).alloc (by simp; omega) _).alloc (by simp; omega) _
  have k0 : Blk wf w.heap.size #[.int .i64 3, .slice (some ⟨w.heap.size + 1, 0, none⟩) 3 3, .slice (some ⟨w.heap.size + 1 + 1, 0, none⟩) 3 3, .slice (some ⟨w.heap.size + 1 + 1 + 1, 0, none⟩) 4 4] 25 (0, 0) := by rw [hwf]; exact (((Blk.new _ _ _ _).alloc _).alloc _).alloc _
  have k1 : Blk wf (w.heap.size + 1) #[.int .i64 1, .int .i64 2, .int .i64 3] 2 (0, 0) := by
    rw [hwf]
    have h := Blk.new (w.alloc (.cells #[.int .i64 3, .slice (some ⟨w.heap.size + 1, 0, none⟩) 3 3, .slice (some ⟨w.heap.size + 1 + 1, 0, none⟩) 3 3, .slice (some ⟨w.heap.size + 1 + 1 + 1, 0, none⟩) 4 4] 25)) #[.int .i64 1, .int .i64 2, .int .i64 3] 2 (0, 0)
    rw [World.size_alloc] at h
    exact (h.alloc _).alloc _
  have k2 : Blk wf (w.heap.size + 1 + 1) #[.int .i64 0, .int .i64 0, .int .i64 5] 2 (0, 0) := by
    rw [hwf]
    have h := Blk.new ((w.alloc (.cells #[.int .i64 3, .slice (some ⟨w.heap.size + 1, 0, none⟩) 3 3, .slice (some ⟨w.heap.size + 1 + 1, 0, none⟩) 3 3, .slice (some ⟨w.heap.size + 1 + 1 + 1, 0, none⟩) 4 4] 25)).alloc (.cells #[.int .i64 1, .int .i64 2, .int .i64 3] 2)) #[.int .i64 0, .int .i64 0, .int .i64 5] 2 (0, 0)
    rw [World.size_alloc, World.size_alloc] at h
    exact h.alloc _
  have k3 : Blk wf (w.heap.size + 1 + 1 + 1) #[.int .i64 0, .int .i64 1, .int .i64 5, .int .i64 1, .int .i64 2, .int .i64 0, .int .i64 0, .int .i64 1, .int .i64 7, .int .i64 2, .int .i64 2, .int .i64 1] 54 (0, 0) := by
    rw [hwf]
    have h := Blk.new (((w.alloc (.cells #[.int .i64 3, .slice (some ⟨w.heap.size + 1, 0, none⟩) 3 3, .slice (some ⟨w.heap.size + 1 + 1, 0, none⟩) 3 3, .slice (some ⟨w.heap.size + 1 + 1 + 1, 0, none⟩) 4 4] 25)).alloc (.cells #[.int .i64 1, .int .i64 2, .int .i64 3] 2)).alloc (.cells #[.int .i64 0, .int .i64 0, .int .i64 5] 2)) #[.int .i64 0, .int .i64 1, .int .i64 5, .int .i64 1, .int .i64 2, .int .i64 0, .int .i64 0, .int .i64 1, .int .i64 7, .int .i64 2, .int .i64 2, .int .i64 1] 54 (0, 0)
    rw [World.size_alloc, World.size_alloc, World.size_alloc] at h
    exact h
  have HK := Lib.hid (And.intro k0 (And.intro k1 (And.intro k2 (And.intro k3 hb)))); have HW := Lib.hid hwf
  clear k0 k1 k2 k3 hb hwf
  go_enter Tryd.func52, Tryd.ntmps52
  go_wp2_with fail
  rw [← HW.out]
  obtain ⟨k0, k1, k2, k3, hb⟩ := HK.out
  have z0 := k0.cell 0; have z1 := k0.cell 1; have z2 := k0.cell 2; have z3 := k0.cell 3
  simp only [List.getElem?_toArray, List.getElem?_cons_succ, List.getElem?_cons_zero] at z0 z1 z2 z3
  exact bodyPost_ret (v := .agg #[.int .i64 3, .slice (some ⟨w.heap.size + 1, 0, none⟩) 3 3, .slice (some ⟨w.heap.size + 1 + 1, 0, none⟩) 3 3, .slice (some ⟨w.heap.size + 1 + 1 + 1, 0, none⟩) 4 4]) (by simp [results, Tryd.results52, go_sem, z0, z1, z2, z3]) rfl ⟨_, rfl, ⟨_, _, _, rfl, slX_new (L := [1, 2, 3]) k1 rfl rfl (by decide), slX_new (L := [0, 0, 5]) k2 rfl rfl (by decide), slA_new (L := [(0, 1, 5), (1, 2, 0), (0, 1, 7), (2, 2, 1)]) k3 rfl rfl (by decide)⟩, hb⟩
end Go.Proofs.YtnkcmlngoeofgaaDoor
/- the net laws' works. -/
namespace Go.Proofs.YtnkcmlngoeofgaaDoor
open Go.RowKit
theorem NetB.all {lo : Nat} {w : World} {p : Nat} {g : Raw} (h : NetB lo w p g) : ∀ u, Below w.heap.size w u → NetAt u p g := fun _ hu => h.at.keep (KpC.of_below hu)
/-- a row is as given -/
theorem row_out (p : Nat) (g : Raw) (i : Int) (L : List Int) (w : World) (h : NetAt w p g) (hl : ∀ r ∈ rowsOf endF g.arcs g.nodes.toNat, r.length ≤ 1000000000000) (hL : rowV endF g i = L) : Calls Tryd.prog 34 #[.pointer (some ⟨p, 0, none⟩), .int .i64 i] w fun e w' => ∃ a c, e = .returned (.slice a L.length c) ∧ SlX w' (.slice a L.length c) L ∧ Below w.heap.size w w' := by
  subst hL
  refine (out_any p g i w h hl).mono ?_
  rintro e w' ⟨v, rfl, ho, hb⟩
  have hs := slX_own rfl ho
  obtain ⟨a, c, rfl, _⟩ := id hs
  exact ⟨a, c, rfl, hs, hb⟩
theorem row_in (p : Nat) (g : Raw) (i : Int) (L : List Int) (w : World) (h : NetAt w p g) (hl : ∀ r ∈ rowsOf endT g.arcs g.nodes.toNat, r.length ≤ 1000000000000) (hL : rowV endT g i = L) : Calls Tryd.prog 35 #[.pointer (some ⟨p, 0, none⟩), .int .i64 i] w fun e w' => ∃ a c, e = .returned (.slice a L.length c) ∧ SlX w' (.slice a L.length c) L ∧ Below w.heap.size w w' := by
  subst hL
  refine (inn_any p g i w h hl).mono ?_
  rintro e w' ⟨v, rfl, ho, hb⟩
  have hs := slX_own rfl ho
  obtain ⟨a, c, rfl, _⟩ := id hs
  exact ⟨a, c, rfl, hs, hb⟩
theorem arc_is (p : Nat) (g : Raw) (i : Int) (x0 x1 x2 : Int) (q : Bool) (w : World) (h : NetAt w p g) (hx : (if 0 ≤ i ∧ i < g.arcs.length then g.arcs[i.toNat]?.getD (0, 0, 0) else (0, 0, 0)) = (x0, x1, x2)) (hq : decide (0 ≤ i ∧ i < (g.arcs.length : Int)) = q) : Calls Tryd.prog 36 #[.pointer (some ⟨p, 0, none⟩), .int .i64 i] w fun e w' => e = .returned (.tuple #[.agg #[.int .i64 x0, .int .i64 x1, .int .i64 x2], .bool q]) ∧ Below w.heap.size w w' := by
  have C := arc_any p g i w h
  rw [hx, hq] at C
  exact C
set_option maxRecDepth 100000 in
set_option maxHeartbeats 16000000 in
theorem works7_any (w : World) (hg : HG w) : Calls Tryd.prog 28 #[] w fun e w' => e = .returned (.bool true) ∧ Below w.heap.size w w' := by
  have hfd : ∀ w : World, (Instr.field 47 (.agg #[.int .i64 5, .int .i64 0, .int .i64 0, .int .i64 0]) 0).run Tryd.prog w = .ok (.int .i64 5) w := fun _ => by kernel_rfl
  have HG0 := Lib.hid hg
  clear hg
  go_enter Tryd.func28, Tryd.ntmps28
  go_wp2_with fail
  refine (small_any w).mono ?_
  rintro e w1 ⟨v1, rfl, hV, hb1⟩
  have H1 := Lib.hid hb1
  have C := Lib.hid (new_any v1 smallR w1 (HG0.out.later hb1) hV (by unfold Raw.few; decide))
  obtain ⟨_, _, _, rfl, _⟩ := id hV
  clear hb1 hV
  go_wp2_with fail
  refine C.out.mono ?_
  rintro e w2 ⟨h | h, hb2⟩
  · exact absurd (show smallR.ok by unfold Raw.ok; decide) h.1
  obtain ⟨_, p, rfl, hn⟩ := h
  have H2 := Lib.hid (H1.out.next' hb2); have HN := Lib.hid hn.all
  clear hn hb2 C
  go_wp2_with fail
  refine (new_any (.agg #[.int .i64 0, .slice none 0 0, .slice none 0 0, .slice none 0 0]) ⟨0, [], [], []⟩ w2 (HG0.out.later H2.out) ⟨_, _, _, rfl, slX_nil _, slX_nil _, slA_nil _⟩ (by unfold Raw.few; decide)).mono ?_
  rintro e w3 ⟨h | h, hb3⟩
  case inr => exact absurd h.1 (by unfold Raw.ok; decide)
  obtain ⟨_, u, rfl, hu⟩ := h
  have hcode : (⟨0, [], [], []⟩ : Raw).wrong = (5, 0, 0, 0) := by decide
  rw [hcode] at hu
  have H3 := Lib.hid (H2.out.next' hb3); have Hn3 := Lib.hid hb3
  have hu' : ErrIs w3 u 5 0 0 0 := hu
  have CT := Lib.hid (told_is w3 u 5 0 0 0 (HG0.out.later H3.out) hu')
  clear hu'
  rcases hu.form with ⟨_, h⟩ | ⟨⟨ty, xv, rfl⟩, _⟩
  · exact absurd h (by decide)
  clear hu hcode hb3
  go_wp2_with fail
  refine CT.out.mono ?_
  rintro e w4 ⟨rfl, hb4⟩
  have H4 := Lib.hid (H3.out.next' hb4); have Hn4 := Lib.hid (Hn3.out.next' hb4)
  clear hb4 CT Hn3
  go_wp2_with fail
  refine (arc_is p smallR 2 0 1 7 true w4 (HN.out _ Hn4.out) (by decide) (by decide)).mono ?_
  rintro e w5 ⟨rfl, hb5⟩
  obtain ⟨w6, hw6⟩ : ∃ w6, w6 = w5.alloc (.cells #[.int .i64 0, .int .i64 1, .int .i64 7] 54) := ⟨_, rfl⟩
  obtain ⟨Ba, hBa⟩ : ∃ b, b = w5.heap.size := ⟨_, rfl⟩
  have hb6 : Below w5.heap.size w5 w6 := by rw [hw6]; exact (Below.refl _ _).alloc (Nat.le_refl _) _
  have KA := Lib.hid (show Blk w6 Ba #[.int .i64 0, .int .i64 1, .int .i64 7] 54 (0, 0) by rw [hw6, hBa]; exact Blk.new _ _ _ _)
  have H6 := Lib.hid ((H4.out.next' hb5).next' hb6); have Hn6 := Lib.hid ((Hn4.out.next' hb5).next' hb6); have HW6 := Lib.hid hw6; have HBa := Lib.hid hBa
  clear hb5 hb6 hw6 hBa Hn4
  go_wp2_with fail
  rw [← HW6.out, ← HBa.out]
  refine (turnedN_any p smallR w6 (HN.out _ Hn6.out) (by unfold Raw.few; decide) ((Raw.ok_iff smallR).1 (by unfold Raw.ok; decide))).mono ?_
  rintro e w7 ⟨q, rfl, hq, hb7⟩
  have H7 := Lib.hid (H6.out.next' hb7); have Hn7 := Lib.hid (Hn6.out.next' hb7); have HQ := Lib.hid hq.all
  have KA7 := Lib.hid (KA.out.below hb7 KA.out.lt)
  clear hq hb7 Hn6 KA HW6 HBa
  go_wp2_with fail
  refine (arc_is q smallR.turned 0 1 0 5 true w7 (HQ.out _ (Below.refl _ _)) (by decide) (by decide)).mono ?_
  rintro e w8 ⟨rfl, hb8⟩
  obtain ⟨w9, hw9⟩ : ∃ w9, w9 = w8.alloc (.cells #[.int .i64 1, .int .i64 0, .int .i64 5] 54) := ⟨_, rfl⟩
  obtain ⟨Bb, hBb⟩ : ∃ b, b = w8.heap.size := ⟨_, rfl⟩
  have hb9 : Below w8.heap.size w8 w9 := by rw [hw9]; exact (Below.refl _ _).alloc (Nat.le_refl _) _
  have KB := Lib.hid (show Blk w9 Bb #[.int .i64 1, .int .i64 0, .int .i64 5] 54 (0, 0) by rw [hw9, hBb]; exact Blk.new _ _ _ _)
  have hb79 := hb8.next' hb9
  have H9 := Lib.hid (H7.out.next' hb79); have Hn9 := Lib.hid (Hn7.out.next' hb79); have Hq9 := Lib.hid hb79; have HW9 := Lib.hid hw9; have HBb := Lib.hid hBb
  have KA9 := Lib.hid (KA7.out.below hb79 KA7.out.lt)
  clear hb8 hb9 hw9 hBb hb79 Hn7 KA7
  go_wp2_with fail
  rw [← HW9.out, ← HBb.out]
  clear HW9 HBb
  refine (row_out p smallR 0 [0, 2] w9 (HN.out _ Hn9.out) (by decide) (by decide)).mono ?_
  rintro e w10 ⟨a10, c10, rfl, hs, hb10⟩
  obtain ⟨w11, hw11⟩ : ∃ w11, w11 = w10.alloc (.cells #[.int .i64 0, .int .i64 2] 3) := ⟨_, rfl⟩
  obtain ⟨B11, hB11⟩ : ∃ b, b = w10.heap.size := ⟨_, rfl⟩
  have hb11 : Below w10.heap.size w10 w11 := by rw [hw11]; exact (Below.refl _ _).alloc (Nat.le_refl _) _
  have K11 : Blk w11 B11 #[.int .i64 0, .int .i64 2] 3 (0, 0) := by rw [hw11, hB11]; exact Blk.new _ _ _ _
  have CI := Lib.hid (ints_any _ _ [0, 2] [0, 2] w11 (hs.keep (KpC.of_below hb11)) (slX_new (n := 2) K11 rfl rfl (by decide)))
  rw [show decide (([0, 2] : List Int) = [0, 2]) = true from rfl] at CI
  have hbc11 := hb10.next' hb11
  have HW11 := Lib.hid hw11; have HBe11 := Lib.hid hB11; have Hbc := Lib.hid hbc11
  clear hs hb10 hb11 hw11 hB11 K11 hbc11
  go_wp2_with fail
  rw [← HW11.out, ← HBe11.out]
  refine CI.out.mono ?_
  rintro e w12 ⟨rfl, hb12⟩
  have hx12 := Hbc.out.next' hb12
  have H12 := Lib.hid (H9.out.next' hx12); have Hn12 := Lib.hid (Hn9.out.next' hx12); have Hq12 := Lib.hid (Hq9.out.next' hx12)
  have KA12 := Lib.hid (KA9.out.below hx12 KA9.out.lt); have KB12 := Lib.hid (KB.out.below hx12 KB.out.lt)
  clear hb12 hx12 CI Hbc HW11 HBe11 Hn9 Hq9 KA9 KB
  go_wp2_with fail
  refine (row_in p smallR 1 [0, 2] w12 (HN.out _ Hn12.out) (by decide) (by decide)).mono ?_
  rintro e w13 ⟨a13, c13, rfl, hs, hb13⟩
  obtain ⟨w14, hw14⟩ : ∃ w14, w14 = w13.alloc (.cells #[.int .i64 0, .int .i64 2] 3) := ⟨_, rfl⟩
  obtain ⟨B14, hB14⟩ : ∃ b, b = w13.heap.size := ⟨_, rfl⟩
  have hb14 : Below w13.heap.size w13 w14 := by rw [hw14]; exact (Below.refl _ _).alloc (Nat.le_refl _) _
  have K14 : Blk w14 B14 #[.int .i64 0, .int .i64 2] 3 (0, 0) := by rw [hw14, hB14]; exact Blk.new _ _ _ _
  have CI := Lib.hid (ints_any _ _ [0, 2] [0, 2] w14 (hs.keep (KpC.of_below hb14)) (slX_new (n := 2) K14 rfl rfl (by decide)))
  rw [show decide (([0, 2] : List Int) = [0, 2]) = true from rfl] at CI
  have hbc14 := hb13.next' hb14
  have HW14 := Lib.hid hw14; have HBe14 := Lib.hid hB14; have Hbc := Lib.hid hbc14
  clear hs hb13 hb14 hw14 hB14 K14 hbc14
  go_wp2_with fail
  rw [← HW14.out, ← HBe14.out]
  refine CI.out.mono ?_
  rintro e w15 ⟨rfl, hb15⟩
  have hx15 := Hbc.out.next' hb15
  have H15 := Lib.hid (H12.out.next' hx15); have Hn15 := Lib.hid (Hn12.out.next' hx15); have Hq15 := Lib.hid (Hq12.out.next' hx15)
  have KA15 := Lib.hid (KA12.out.below hx15 KA12.out.lt); have KB15 := Lib.hid (KB12.out.below hx15 KB12.out.lt)
  clear hb15 hx15 CI Hbc HW14 HBe14 Hn12 Hq12 KA12 KB12
  go_wp2_with fail
  refine (row_out p smallR 2 [3] w15 (HN.out _ Hn15.out) (by decide) (by decide)).mono ?_
  rintro e w16 ⟨a16, c16, rfl, hs, hb16⟩
  obtain ⟨w17, hw17⟩ : ∃ w17, w17 = w16.alloc (.cells #[.int .i64 3] 3) := ⟨_, rfl⟩
  obtain ⟨B17, hB17⟩ : ∃ b, b = w16.heap.size := ⟨_, rfl⟩
  have hb17 : Below w16.heap.size w16 w17 := by rw [hw17]; exact (Below.refl _ _).alloc (Nat.le_refl _) _
  have K17 : Blk w17 B17 #[.int .i64 3] 3 (0, 0) := by rw [hw17, hB17]; exact Blk.new _ _ _ _
  have CI := Lib.hid (ints_any _ _ [3] [3] w17 (hs.keep (KpC.of_below hb17)) (slX_new (n := 1) K17 rfl rfl (by decide)))
  rw [show decide (([3] : List Int) = [3]) = true from rfl] at CI
  have hbc17 := hb16.next' hb17
  have HW17 := Lib.hid hw17; have HBe17 := Lib.hid hB17; have Hbc := Lib.hid hbc17
  clear hs hb16 hb17 hw17 hB17 K17 hbc17
  go_wp2_with fail
  rw [← HW17.out, ← HBe17.out]
  refine CI.out.mono ?_
  rintro e w18 ⟨rfl, hb18⟩
  have hx18 := Hbc.out.next' hb18
  have H18 := Lib.hid (H15.out.next' hx18); have Hn18 := Lib.hid (Hn15.out.next' hx18); have Hq18 := Lib.hid (Hq15.out.next' hx18)
  have KA18 := Lib.hid (KA15.out.below hx18 KA15.out.lt); have KB18 := Lib.hid (KB15.out.below hx18 KB15.out.lt)
  clear hb18 hx18 CI Hbc HW17 HBe17 Hn15 Hq15 KA15 KB15
  go_wp2_with fail
  refine (row_in p smallR 2 [1, 3] w18 (HN.out _ Hn18.out) (by decide) (by decide)).mono ?_
  rintro e w19 ⟨a19, c19, rfl, hs, hb19⟩
  obtain ⟨w20, hw20⟩ : ∃ w20, w20 = w19.alloc (.cells #[.int .i64 1, .int .i64 3] 3) := ⟨_, rfl⟩
  obtain ⟨B20, hB20⟩ : ∃ b, b = w19.heap.size := ⟨_, rfl⟩
  have hb20 : Below w19.heap.size w19 w20 := by rw [hw20]; exact (Below.refl _ _).alloc (Nat.le_refl _) _
  have K20 : Blk w20 B20 #[.int .i64 1, .int .i64 3] 3 (0, 0) := by rw [hw20, hB20]; exact Blk.new _ _ _ _
  have CI := Lib.hid (ints_any _ _ [1, 3] [1, 3] w20 (hs.keep (KpC.of_below hb20)) (slX_new (n := 2) K20 rfl rfl (by decide)))
  rw [show decide (([1, 3] : List Int) = [1, 3]) = true from rfl] at CI
  have hbc20 := hb19.next' hb20
  have HW20 := Lib.hid hw20; have HBe20 := Lib.hid hB20; have Hbc := Lib.hid hbc20
  clear hs hb19 hb20 hw20 hB20 K20 hbc20
  go_wp2_with fail
  rw [← HW20.out, ← HBe20.out]
  refine CI.out.mono ?_
  rintro e w21 ⟨rfl, hb21⟩
  have hx21 := Hbc.out.next' hb21
  have H21 := Lib.hid (H18.out.next' hx21); have Hn21 := Lib.hid (Hn18.out.next' hx21); have Hq21 := Lib.hid (Hq18.out.next' hx21)
  have KA21 := Lib.hid (KA18.out.below hx21 KA18.out.lt); have KB21 := Lib.hid (KB18.out.below hx21 KB18.out.lt)
  clear hb21 hx21 CI Hbc HW20 HBe20 Hn18 Hq18 KA18 KB18
  have ka := KA21.out.cell 0; have kb := KA21.out.cell 1; have kc := KA21.out.cell 2
  simp only [List.getElem?_toArray, List.getElem?_cons_succ, List.getElem?_cons_zero] at ka kb kc
  go_wp2_with fail
  clear ka kb kc
  refine (row_out q smallR.turned 1 [0, 2] w21 (HQ.out _ Hq21.out) (by decide) (by decide)).mono ?_
  rintro e w22 ⟨a22, c22, rfl, hs, hb22⟩
  obtain ⟨w23, hw23⟩ : ∃ w23, w23 = w22.alloc (.cells #[.int .i64 0, .int .i64 2] 3) := ⟨_, rfl⟩
  obtain ⟨B23, hB23⟩ : ∃ b, b = w22.heap.size := ⟨_, rfl⟩
  have hb23 : Below w22.heap.size w22 w23 := by rw [hw23]; exact (Below.refl _ _).alloc (Nat.le_refl _) _
  have K23 : Blk w23 B23 #[.int .i64 0, .int .i64 2] 3 (0, 0) := by rw [hw23, hB23]; exact Blk.new _ _ _ _
  have CI := Lib.hid (ints_any _ _ [0, 2] [0, 2] w23 (hs.keep (KpC.of_below hb23)) (slX_new (n := 2) K23 rfl rfl (by decide)))
  rw [show decide (([0, 2] : List Int) = [0, 2]) = true from rfl] at CI
  have hbc23 := hb22.next' hb23
  have HW23 := Lib.hid hw23; have HBe23 := Lib.hid hB23; have Hbc := Lib.hid hbc23
  clear hs hb22 hb23 hw23 hB23 K23 hbc23
  go_wp2_with fail
  rw [← HW23.out, ← HBe23.out]
  refine CI.out.mono ?_
  rintro e w24 ⟨rfl, hb24⟩
  have hx24 := Hbc.out.next' hb24
  have H24 := Lib.hid (H21.out.next' hx24); have Hn24 := Lib.hid (Hn21.out.next' hx24); have Hq24 := Lib.hid (Hq21.out.next' hx24)
  have KA24 := Lib.hid (KA21.out.below hx24 KA21.out.lt); have KB24 := Lib.hid (KB21.out.below hx24 KB21.out.lt)
  clear hb24 hx24 CI Hbc HW23 HBe23 Hn21 Hq21 KA21 KB21
  have ka := KB24.out.cell 0; have kb := KB24.out.cell 1; have kc := KB24.out.cell 2
  simp only [List.getElem?_toArray, List.getElem?_cons_succ, List.getElem?_cons_zero] at ka kb kc
  go_wp2_with fail
  go_ret
  exact ⟨rfl, H24.out⟩
end Go.Proofs.YtnkcmlngoeofgaaDoor
/- NetKnown: the chapter's examples; one node; no arcs; none. -/
namespace Go.Proofs.YtnkcmlngoeofgaaDoor
open Go.RowKit
def one7 : Raw := ⟨1, [-2147483648], [2147483647], []⟩
theorem arc_none (i : Int) (w : World) : Calls Tryd.prog 36 #[.pointer none, .int .i64 i] w fun e w' => e = .returned (.tuple #[.agg #[.int .i64 0, .int .i64 0, .int .i64 0], .bool false]) ∧ Below w.heap.size w w' := arc_nil i w
theorem place_one (p : Nat) (w : World) (h : NetAt w p one7) : Calls Tryd.prog 44 #[.pointer (some ⟨p, 0, none⟩), .int .i64 0] w fun e w' => e = .returned (.tuple #[.int .i64 (-2147483648), .int .i64 2147483647, .bool true]) ∧ w' = w := place_any p one7 0 w h
theorem arcs_one (p : Nat) (w : World) (h : NetAt w p one7) : Calls Tryd.prog 32 #[.pointer (some ⟨p, 0, none⟩)] w fun e w' => e = .returned (.int .i64 0) ∧ w' = w := arcs_any p one7 w h
theorem nodes_one (p : Nat) (w : World) (h : NetAt w p one7.turned) : Calls Tryd.prog 33 #[.pointer (some ⟨p, 0, none⟩)] w fun e w' => e = .returned (.int .i64 1) ∧ w' = w := nodes_any p one7.turned w h
set_option maxRecDepth 100000 in
set_option maxHeartbeats 16000000 in
theorem netKnown_all (w : World) (hg : HG w) : Calls Tryd.prog 11 #[] w fun e w' => e = .returned (.bool true) ∧ Below w.heap.size w w' := by
  have hfd : ∀ w : World, (Instr.field 25 (.agg #[.int .i64 0, .slice none 0 0, .slice none 0 0, .slice none 0 0]) 0).run Tryd.prog w = .ok (.int .i64 0) w := fun _ => by kernel_rfl
  obtain ⟨wa, hwa⟩ : ∃ wa, wa = (w.alloc (.cells #[.int .i64 (-2147483648)] 2)).alloc (.cells #[.int .i64 2147483647] 2) := ⟨_, rfl⟩
  have B1 : Blk wa w.heap.size #[.int .i64 (-2147483648)] 2 (0, 0) := by rw [hwa]; exact (Blk.new _ _ _ _).alloc _
  have B2 : Blk wa (w.heap.size + 1) #[.int .i64 2147483647] 2 (0, 0) := by
    rw [hwa]
    have h := Blk.new (w.alloc (.cells #[.int .i64 (-2147483648)] 2)) #[.int .i64 2147483647] 2 (0, 0)
    rw [World.size_alloc] at h
    exact h
  have hba : Below w.heap.size w wa := by rw [hwa]; exact ((Below.refl _ _).alloc (Nat.le_refl _) _).alloc (by simp) _
  have HC := Lib.hid (new_any (.agg #[.int .i64 1, .slice (some ⟨w.heap.size, 0, none⟩) 1 1, .slice (some ⟨w.heap.size + 1, 0, none⟩) 1 1, .slice none 0 0]) one7 wa (hg.later hba) ⟨_, _, _, rfl, slX_new (L := [-2147483648]) B1 rfl rfl (by decide), slX_new (L := [2147483647]) B2 rfl rfl (by decide), slA_nil _⟩ (by unfold Raw.few; decide))
  have HW := Lib.hid hwa; have HG0 := Lib.hid hg; have H0 := Lib.hid hba
  clear hwa B1 B2 hba hg
  go_enter Tryd.func11, Tryd.ntmps11
  go_wp2_with fail
  rw [← HW.out]
  refine HC.out.mono ?_
  rintro e w1 ⟨h | h, hb1⟩
  · exact absurd (show one7.ok by unfold Raw.ok; decide) h.1
  obtain ⟨_, p, rfl, hn⟩ := h
  have H1 := Lib.hid (H0.out.next' hb1); have HN := Lib.hid hn.all
  clear hn hb1 HC HW
  go_wp2_with fail
  refine (place_one p w1 (HN.out _ (Below.refl _ _))).mono ?_
  rintro e w2 ⟨rfl, rfl⟩
  go_wp2_with fail
  refine (place_nil 0 w2).mono ?_
  rintro e w3 ⟨rfl, rfl⟩
  go_wp2_with fail
  refine (arc_none 0 w3).mono ?_
  rintro e w4 ⟨rfl, hb4⟩
  obtain ⟨w5, hw5⟩ : ∃ w5, w5 = w4.alloc (.cells #[.int .i64 0, .int .i64 0, .int .i64 0] 54) := ⟨_, rfl⟩
  have hb5 : Below w4.heap.size w4 w5 := by rw [hw5]; exact (Below.refl _ _).alloc (Nat.le_refl _) _
  have H5 := Lib.hid (H1.out.next' (hb4.next' hb5)); have Hn5 := Lib.hid (hb4.next' hb5); have HW5 := Lib.hid hw5
  clear hb4 hb5 hw5
  go_wp2_with fail
  rw [← HW5.out]
  refine (works7_any w5 (HG0.out.later H5.out)).mono ?_
  rintro e w6 ⟨rfl, hb6⟩
  have H6 := Lib.hid (H5.out.next' hb6); have Hn6 := Lib.hid (Hn5.out.next' hb6)
  clear hb6 Hn5 HW5
  go_wp2_with fail
  refine (arcs_one p w6 (HN.out _ Hn6.out)).mono ?_
  rintro e w7 ⟨rfl, rfl⟩
  go_wp2_with fail
  refine (row_out p one7 0 [] w7 (HN.out _ Hn6.out) (by decide) (by decide)).mono ?_
  rintro e w8 ⟨a8, c8, rfl, _, hb8⟩
  have H8 := Lib.hid (H6.out.next' hb8); have Hn8 := Lib.hid (Hn6.out.next' hb8)
  clear hb8 Hn6
  go_wp2_with fail
  refine (row_in p one7 (-1) [] w8 (HN.out _ Hn8.out) (by decide) (by decide)).mono ?_
  rintro e w9 ⟨a9, c9, rfl, _, hb9⟩
  have H9 := Lib.hid (H8.out.next' hb9); have Hn9 := Lib.hid (Hn8.out.next' hb9)
  clear hb9 Hn8
  go_wp2_with fail
  refine (turnedN_any p one7 w9 (HN.out _ Hn9.out) (by unfold Raw.few; decide) ((Raw.ok_iff one7).1 (by unfold Raw.ok; decide))).mono ?_
  rintro e w10 ⟨q, rfl, hq, hb10⟩
  have H10 := Lib.hid (H9.out.next' hb10)
  have HQ := Lib.hid hq.at
  clear hb10 Hn9 hq
  go_wp2_with fail
  refine (nodes_one q w10 HQ.out).mono ?_
  rintro e w11 ⟨rfl, rfl⟩
  go_wp2_with fail
  refine (nodes_nil w11).mono ?_
  rintro e w12 ⟨rfl, rfl⟩
  go_wp2_with fail
  refine (arcs_nil w12).mono ?_
  rintro e w13 ⟨rfl, rfl⟩
  go_wp2_with fail
  refine (out_nil 0 w13).mono ?_
  rintro e w14 ⟨rfl, rfl⟩
  go_wp2_with fail
  refine (inn_nil 0 w14).mono ?_
  rintro e w15 ⟨rfl, rfl⟩
  go_wp2_with fail
  refine (raw_nil w15).mono ?_
  rintro e w16 ⟨rfl, hb16⟩
  have H16 := Lib.hid (H10.out.next' hb16)
  clear hb16
  go_wp2_with fail
  refine (turnedN_nil w16).mono ?_
  rintro e w17 ⟨rfl, rfl⟩
  go_wp2_with fail
  go_ret
  exact ⟨rfl, H16.out⟩
end Go.Proofs.YtnkcmlngoeofgaaDoor
/- net, in plain words: a row rises, and holds just the arcs of its end. -/
namespace Go.Proofs.YtnkcmlngoeofgaaDoor
theorem mem_rowK (E : Ar → Int) (L : List Ar) (v : Nat) (x : Int) : ∀ k, x ∈ rowK E L v k ↔ ∃ a : Nat, a < k ∧ x = (a : Int) ∧ E (L[a]?.getD (0, 0, 0)) = (v : Int)
  | 0 => by
    show x ∈ [] ↔ _
    constructor
    · intro h; cases h
    · rintro ⟨a, h, _⟩; omega
  | k + 1 => by
    have ih := mem_rowK E L v x k
    by_cases h : E (L[k]?.getD (0, 0, 0)) = (v : Int)
    · rw [rowK_hit h, List.mem_append, ih, List.mem_singleton]
      constructor
      · rintro (⟨a, h1, h2, h3⟩ | h1)
        · exact ⟨a, by omega, h2, h3⟩
        · exact ⟨k, by omega, h1, h⟩
      · rintro ⟨a, h1, h2, h3⟩
        by_cases e : a = k
        · exact .inr (by rw [h2, e])
        · exact .inl ⟨a, by omega, h2, h3⟩
    · rw [rowK_miss h, ih]
      constructor
      · rintro ⟨a, h1, h2, h3⟩; exact ⟨a, by omega, h2, h3⟩
      · rintro ⟨a, h1, h2, h3⟩
        by_cases e : a = k
        · exact absurd (e ▸ h3) h
        · exact ⟨a, by omega, h2, h3⟩
theorem rowK_rises (E : Ar → Int) (L : List Ar) (v : Nat) : ∀ k, (rowK E L v k).Pairwise (· < ·)
  | 0 => List.Pairwise.nil
  | k + 1 => by
    have ih := rowK_rises E L v k
    by_cases h : E (L[k]?.getD (0, 0, 0)) = (v : Int)
    · rw [rowK_hit h, List.pairwise_append]
      refine ⟨ih, List.pairwise_singleton _ _, fun x hx y hy => ?_⟩
      obtain ⟨a, h1, h2, _⟩ := (mem_rowK E L v x k).1 hx
      rw [List.mem_singleton] at hy
      omega
    · rw [rowK_miss h]; exact ih
/-- the reference's row is the same one -/
theorem rowK_turned (L : List Ar) (v : Nat) (E F : Ar → Int) (f : Ar → Ar) (hf : ∀ a, E (f a) = F a) : ∀ k, k ≤ L.length → rowK E (L.map f) v k = rowK F L v k
  | 0, _ => rfl
  | k + 1, hk => by
    have ih := rowK_turned L v E F f hf k (by omega)
    have e : E ((L.map f)[k]?.getD (0, 0, 0)) = F (L[k]?.getD (0, 0, 0)) := by
      rw [List.getElem?_map, List.getElem?_eq_getElem (by omega)]
      exact hf _
    by_cases h : F (L[k]?.getD (0, 0, 0)) = (v : Int)
    · rw [rowK_hit (e.trans h), rowK_hit h, ih]
    · rw [rowK_miss (fun q => h (e.symm.trans q)), rowK_miss h, ih]
end Go.Proofs.YtnkcmlngoeofgaaDoor
/- the reference's Out and In. -/
namespace Go.Proofs.YtnkcmlngoeofgaaDoor
open Go.RowKit
/-- the first k arcs whose end is i -/
def rowI (E : Ar → Int) (L : List Ar) (i : Int) : Nat → List Int
  | 0 => []
  | k + 1 => if E (L[k]?.getD (0, 0, 0)) = i then rowI E L i k ++ [(k : Int)] else rowI E L i k
theorem rowI_hit {E : Ar → Int} {L : List Ar} {i : Int} {k : Nat} (h : E (L[k]?.getD (0, 0, 0)) = i) : rowI E L i (k + 1) = rowI E L i k ++ [(k : Int)] := by
  show (if _ then _ else _) = _; rw [if_pos h]
theorem rowI_miss {E : Ar → Int} {L : List Ar} {i : Int} {k : Nat} (h : ¬ E (L[k]?.getD (0, 0, 0)) = i) : rowI E L i (k + 1) = rowI E L i k := by
  show (if _ then _ else _) = _; rw [if_neg h]
theorem rowI_le (E : Ar → Int) (L : List Ar) (i : Int) (k : Nat) : (rowI E L i k).length ≤ k := by
  induction k with
  | zero => exact Nat.le_refl _
  | succ k ih =>
    by_cases h : E (L[k]?.getD (0, 0, 0)) = i
    · rw [rowI_hit h, List.length_append, List.length_singleton]; omega
    · rw [rowI_miss h]; omega
theorem rowI_nat (E : Ar → Int) (L : List Ar) (v : Nat) : ∀ k, rowI E L (v : Int) k = rowK E L v k
  | 0 => rfl
  | k + 1 => by show (if _ then _ else _) = (if _ then _ else _); rw [rowI_nat E L v k]
/-- one number more on a row of ours -/
theorem push_int (base : Nat) (v : Value) (L : List Int) (x : Int) (u : World) (B : Nat) (hown : u.ownsRow base 3 1 v L.length (L.flatMap inC)) (hB : Blk u B #[.int .i64 x] 3 (0, 0)) (hl : L.length ≤ 1000000) (hbase : base ≤ u.heap.size) :
    ∃ v' w', (Builtin.append_ #[62, 62] 62 #[v, .slice (some ⟨B, 0, none⟩) 1 1]).run Tryd.prog u = .ok v' w' ∧ w'.ownsRow base 3 1 v' (L ++ [x]).length ((L ++ [x]).flatMap inC) ∧ Below base u w' := by
  obtain ⟨i0, hi, hz0, hz1, hz2⟩ := info_parts infoInt
  have hs := (slX_new (L := [x]) (n := 1) hB rfl rfl (by simp)).row
  obtain ⟨v', w', hr, ho, hg, _⟩ := run_append_row (P := Tryd.prog) base 62 62 3 i0 _ 1 8 Tryd.underlying62 hi hz0 hz1 hz2 rfl (by omega) v L.length _ hown _ 1 _ hs (by unfold maxLen; omega) (by omega) hbase
  refine ⟨v', w', hr, by rw [List.length_append, List.flatMap_append]; exact ho, ⟨hg.os, hg.tape, hg.output, hg.size, fun k hk => hg.block k (by omega) (fun e => ?_)⟩⟩
  have := (ownsRow_blk' hown e.symm).1
  omega
set_option maxHeartbeats 4000000 in
theorem refOut_any (v : Value) (r : Raw) (i : Int) (w : World) (h : RawV w v r) (hl : r.arcs.length ≤ 1000000) : Calls Tryd.prog 59 #[v, .int .i64 i] w fun e w' => ∃ v', e = .returned v' ∧ SlX w' v' (rowI endF r.arcs i r.arcs.length) ∧ Below w.heap.size w w' := by
  obtain ⟨vx, vy, va, rfl, hx, hy, ha⟩ := h
  have fx := hx.form; have fy := hy.form
  obtain ⟨aa, ac, rfl, hac, hmc, _⟩ := id ha
  unfold maxLen at hmc
  obtain ⟨xa, xn, xc, rfl⟩ := fx
  obtain ⟨ya, yn, yc, rfl⟩ := fy
  obtain ⟨w1, hw1⟩ : ∃ w1, w1 = w.alloc (.cells #[.int .i64 r.nodes, .slice xa xn xc, .slice ya yn yc, .slice aa r.arcs.length ac] 25) := ⟨_, rfl⟩
  obtain ⟨B, hB⟩ : ∃ b, b = w.heap.size := ⟨_, rfl⟩
  have hb1 : Below w.heap.size w w1 := by rw [hw1]; exact (Below.refl _ _).alloc (Nat.le_refl _) _
  have hlt : B < w1.heap.size := by rw [hw1, hB]; simp
  have hc3 : w1.cell? ⟨B, 3, none⟩ = some (.slice aa r.arcs.length ac) := by rw [hw1, hB]; exact (Blk.new _ _ _ _).cell 3
  have HA := Lib.hid (ha.keep (KpC.of_below hb1)); have HB1 := Lib.hid hb1; have HW1 := Lib.hid hw1; have HB := Lib.hid hB; have HC3 := Lib.hid hc3; have HLt := Lib.hid hlt
  clear hx hy ha hb1 hw1 hc3 hlt
  go_enter Tryd.func59, Tryd.ntmps59
  go_wp2_with fail
  rw [← HW1.out, ← hB]
  clear hB HW1
  go_loopw [5, 6] (fun vv c wr => ∃ (k : Nat), k ≤ r.arcs.length ∧ c = .int .i64 k ∧ Hid (wr.ownsRow w1.heap.size 3 1 vv (rowI endF r.arcs i k).length ((rowI endF r.arcs i k).flatMap inC)) ∧ Hid (Below w1.heap.size w1 wr)) (fun _ c _ => r.arcs.length - (intOf c).toNat)
  case atStart => exact ⟨0, Nat.zero_le _, rfl, Lib.hid (World.ownsRow_nil _ _ _ _), Lib.hid (Below.refl _ _)⟩
  case round =>
    obtain ⟨k, hk, rfl, hown, hbel⟩ := hrel
    have c3 := (World.cell?_of_block (hbel.out.block B HLt.out)).trans HC3.out
    obtain ⟨va, vn, vc, hvf⟩ := hown.out.one'
    subst hvf
    by_cases hlt : k < r.arcs.length
    · have hkl := rowI_le endF r.arcs i k
      obtain ⟨b, o, rfl, d0, _, _⟩ := (HA.out.keep (KpC.of_below hbel.out)).at k hlt
      have hltI : (k : Int) < (r.arcs.length : Int) := by omega
      have i1 : (0 : Int) ≤ (k : Int) := by omega
      have hg : r.arcs[k]?.getD (0, 0, 0) = r.arcs[k] := by rw [List.getElem?_eq_getElem hlt]; rfl
      by_cases he : r.arcs[k].1 = i
      · have hit := Lib.hid (rowI_hit (E := endF) (L := r.arcs) (i := i) (k := k) (by rw [hg]; exact he))
        obtain ⟨wc, hwc⟩ : ∃ wc, wc = wr.alloc (.cells #[.int .i64 (k : Nat)] 3) := ⟨_, rfl⟩
        have hbc : Below wr.heap.size wr wc := by rw [hwc]; exact (Below.refl _ _).alloc (Nat.le_refl _) _
        obtain ⟨v', w', hr, ho, hb⟩ := push_int w1.heap.size _ (rowI endF r.arcs i k) (k : Nat) wc wr.heap.size (ownsRow_below hown.out hbc) (by rw [hwc]; exact Blk.new _ _ _ _) (by omega) (Nat.le_trans hbel.out.size hbc.size)
        rw [hwc] at hr
        have HR := Lib.hid hr; have HO := Lib.hid ho; have HBn := Lib.hid ((hbel.out.next' hbc).trans hb)
        obtain ⟨x, hx⟩ : ∃ x, x = r.arcs[k].1 := ⟨_, rfl⟩
        rw [← hx] at d0 he
        subst he
        clear hg hx hkl hwc hbc hr ho hb hown hbel
        go_wp2_with (at_builtin; refine wpList_append_run rfl _ _ _ _ rfl HR.out ?_)
        go_roundw
        case rel => exact ⟨k + 1, by omega, by go_num, Lib.hid (by rw [hit.out]; exact HO.out), HBn⟩
        case measure => simp [intOf]; omega
      · have miss := Lib.hid (rowI_miss (E := endF) (L := r.arcs) (i := i) (k := k) (by rw [hg]; exact he))
        obtain ⟨x, hx⟩ : ∃ x, x = r.arcs[k].1 := ⟨_, rfl⟩
        rw [← hx] at d0 he
        clear hg hx hkl
        go_wp2_with fail
        go_roundw
        case rel => exact ⟨k + 1, by omega, by go_num, Lib.hid (by rw [miss.out]; exact hown.out), hbel⟩
        case measure => simp [intOf]; omega
    · obtain rfl : k = r.arcs.length := by omega
      go_wp2_with fail
      go_ret
      exact ⟨_, rfl, slX_own rfl hown.out, HB1.out.next' hbel.out⟩
set_option maxHeartbeats 4000000 in
theorem refIn_any (v : Value) (r : Raw) (i : Int) (w : World) (h : RawV w v r) (hl : r.arcs.length ≤ 1000000) : Calls Tryd.prog 60 #[v, .int .i64 i] w fun e w' => ∃ v', e = .returned v' ∧ SlX w' v' (rowI endT r.arcs i r.arcs.length) ∧ Below w.heap.size w w' := by
  obtain ⟨vx, vy, va, rfl, hx, hy, ha⟩ := h
  have fx := hx.form; have fy := hy.form
  obtain ⟨aa, ac, rfl, hac, hmc, _⟩ := id ha
  unfold maxLen at hmc
  obtain ⟨xa, xn, xc, rfl⟩ := fx
  obtain ⟨ya, yn, yc, rfl⟩ := fy
  obtain ⟨w1, hw1⟩ : ∃ w1, w1 = w.alloc (.cells #[.int .i64 r.nodes, .slice xa xn xc, .slice ya yn yc, .slice aa r.arcs.length ac] 25) := ⟨_, rfl⟩
  obtain ⟨B, hB⟩ : ∃ b, b = w.heap.size := ⟨_, rfl⟩
  have hb1 : Below w.heap.size w w1 := by rw [hw1]; exact (Below.refl _ _).alloc (Nat.le_refl _) _
  have hlt : B < w1.heap.size := by rw [hw1, hB]; simp
  have hc3 : w1.cell? ⟨B, 3, none⟩ = some (.slice aa r.arcs.length ac) := by rw [hw1, hB]; exact (Blk.new _ _ _ _).cell 3
  have HA := Lib.hid (ha.keep (KpC.of_below hb1)); have HB1 := Lib.hid hb1; have HW1 := Lib.hid hw1; have HB := Lib.hid hB; have HC3 := Lib.hid hc3; have HLt := Lib.hid hlt
  clear hx hy ha hb1 hw1 hc3 hlt
  go_enter Tryd.func60, Tryd.ntmps60
  go_wp2_with fail
  rw [← HW1.out, ← hB]
  clear hB HW1
  go_loopw [5, 6] (fun vv c wr => ∃ (k : Nat), k ≤ r.arcs.length ∧ c = .int .i64 k ∧ Hid (wr.ownsRow w1.heap.size 3 1 vv (rowI endT r.arcs i k).length ((rowI endT r.arcs i k).flatMap inC)) ∧ Hid (Below w1.heap.size w1 wr)) (fun _ c _ => r.arcs.length - (intOf c).toNat)
  case atStart => exact ⟨0, Nat.zero_le _, rfl, Lib.hid (World.ownsRow_nil _ _ _ _), Lib.hid (Below.refl _ _)⟩
  case round =>
    obtain ⟨k, hk, rfl, hown, hbel⟩ := hrel
    have c3 := (World.cell?_of_block (hbel.out.block B HLt.out)).trans HC3.out
    obtain ⟨va, vn, vc, hvf⟩ := hown.out.one'
    subst hvf
    by_cases hlt : k < r.arcs.length
    · have hkl := rowI_le endT r.arcs i k
      obtain ⟨b, o, rfl, _, d0, _⟩ := (HA.out.keep (KpC.of_below hbel.out)).at k hlt
      have hltI : (k : Int) < (r.arcs.length : Int) := by omega
      have i1 : (0 : Int) ≤ (k : Int) := by omega
      have hg : r.arcs[k]?.getD (0, 0, 0) = r.arcs[k] := by rw [List.getElem?_eq_getElem hlt]; rfl
      by_cases he : r.arcs[k].2.1 = i
      · have hit := Lib.hid (rowI_hit (E := endT) (L := r.arcs) (i := i) (k := k) (by rw [hg]; exact he))
        obtain ⟨wc, hwc⟩ : ∃ wc, wc = wr.alloc (.cells #[.int .i64 (k : Nat)] 3) := ⟨_, rfl⟩
        have hbc : Below wr.heap.size wr wc := by rw [hwc]; exact (Below.refl _ _).alloc (Nat.le_refl _) _
        obtain ⟨v', w', hr, ho, hb⟩ := push_int w1.heap.size _ (rowI endT r.arcs i k) (k : Nat) wc wr.heap.size (ownsRow_below hown.out hbc) (by rw [hwc]; exact Blk.new _ _ _ _) (by omega) (Nat.le_trans hbel.out.size hbc.size)
        rw [hwc] at hr
        have HR := Lib.hid hr; have HO := Lib.hid ho; have HBn := Lib.hid ((hbel.out.next' hbc).trans hb)
        obtain ⟨x, hx⟩ : ∃ x, x = r.arcs[k].2.1 := ⟨_, rfl⟩
        rw [← hx] at d0 he
        subst he
        clear hg hx hkl hwc hbc hr ho hb hown hbel
        go_wp2_with (at_builtin; refine wpList_append_run rfl _ _ _ _ rfl HR.out ?_)
        go_roundw
        case rel => exact ⟨k + 1, by omega, by go_num, Lib.hid (by rw [hit.out]; exact HO.out), HBn⟩
        case measure => simp [intOf]; omega
      · have miss := Lib.hid (rowI_miss (E := endT) (L := r.arcs) (i := i) (k := k) (by rw [hg]; exact he))
        obtain ⟨x, hx⟩ : ∃ x, x = r.arcs[k].2.1 := ⟨_, rfl⟩
        rw [← hx] at d0 he
        clear hg hx hkl
        go_wp2_with fail
        go_roundw
        case rel => exact ⟨k + 1, by omega, by go_num, Lib.hid (by rw [miss.out]; exact hown.out), hbel⟩
        case measure => simp [intOf]; omega
    · obtain rfl : k = r.arcs.length := by omega
      go_wp2_with fail
      go_ret
      exact ⟨_, rfl, slX_own rfl hown.out, HB1.out.next' hbel.out⟩
end Go.Proofs.YtnkcmlngoeofgaaDoor
/- graph.Same; the reference's Same. -/
namespace Go.Proofs.YtnkcmlngoeofgaaDoor
open Go.RowKit
/-- are both alike? -/
def sameB (a b : Raw) : Bool := decide (a.nodes = b.nodes ∧ a.X = b.X ∧ a.Y = b.Y ∧ a.arcs = b.arcs)
theorem sameB_iff (a b : Raw) : sameB a b = true ↔ a = b := by
  unfold sameB
  rw [decide_eq_true_iff]
  obtain ⟨n, x, y, l⟩ := a
  obtain ⟨n', x', y', l'⟩ := b
  simp
set_option maxHeartbeats 2000000 in
theorem same_any (va vb : Value) (a b : Raw) (w : World) (ha : RawV w va a) (hb : RawV w vb b) : Calls Tryd.prog 22 #[va, vb] w fun e w' => e = .returned (.bool (sameB a b)) ∧ Below w.heap.size w w' := by
  obtain ⟨ax, ay, aa, rfl, hax, hay, haa⟩ := ha
  obtain ⟨bx, by_, ba, rfl, hbx, hby, hba⟩ := hb
  have fx := hax.form; have fy := hay.form; have fa := haa.form
  have gx := hbx.form; have gy := hby.form; have ga := hba.form
  have hb0 := ((Below.refl w.heap.size w).alloc (Nat.le_refl _) (.cells #[.int .i64 a.nodes, ax, ay, aa] 25)).alloc (by simp) (.cells #[.int .i64 b.nodes, bx, by_, ba] 25)
  have k1 := (Blk.new w #[.int .i64 a.nodes, ax, ay, aa] 25 (0, 0)).alloc (.cells #[.int .i64 b.nodes, bx, by_, ba] 25)
  have k2 : Blk ((w.alloc (.cells #[.int .i64 a.nodes, ax, ay, aa] 25)).alloc (.cells #[.int .i64 b.nodes, bx, by_, ba] 25)) (w.heap.size + 1) #[.int .i64 b.nodes, bx, by_, ba] 25 (0, 0) := by
    have h := Blk.new (w.alloc (.cells #[.int .i64 a.nodes, ax, ay, aa] 25)) #[.int .i64 b.nodes, bx, by_, ba] 25 (0, 0)
    rwa [World.size_alloc] at h
  have CX := fun u hu => equalX _ _ _ _ u (hax.keep (KpC.of_below (W' := u) hu)) (hbx.keep (KpC.of_below hu))
  have CY := fun u hu => equalX _ _ _ _ u (hay.keep (KpC.of_below (W' := u) hu)) (hby.keep (KpC.of_below hu))
  have CA := fun u hu => equalA _ _ _ _ u (haa.keep (KpC.of_below (W' := u) hu)) (hba.keep (KpC.of_below hu))
  have HCX := Lib.hid CX; have HCY := Lib.hid CY; have HCA := Lib.hid CA
  have HB := Lib.hid hb0; have HK1 := Lib.hid k1; have HK2 := Lib.hid k2
  clear hax hay haa hbx hby hba hb0 k1 k2 CX CY CA
  obtain ⟨_, _, _, rfl⟩ := fx
  obtain ⟨_, _, _, rfl⟩ := fy
  obtain ⟨_, _, _, rfl⟩ := fa
  obtain ⟨_, _, _, rfl⟩ := gx
  obtain ⟨_, _, _, rfl⟩ := gy
  obtain ⟨_, _, _, rfl⟩ := ga
  by_cases h0 : a.nodes = b.nodes
  · have q0 : (a.nodes == b.nodes) = true := by simpa using h0
    have H0 := Lib.hid h0
    clear h0
    go_enter Tryd.func22, Tryd.ntmps22
    go_wp2_with fail
    refine (HCX.out _ HB.out).mono ?_
    rintro e w1 ⟨rfl, hb1⟩
    have e1 := HK1.out.below hb1 HK1.out.lt
    have e2 := HK2.out.below hb1 HK2.out.lt
    have a2 := e1.cell 2; have a3 := e1.cell 3; have b2 := e2.cell 2; have b3 := e2.cell 3
    simp only [List.getElem?_toArray, List.getElem?_cons_succ, List.getElem?_cons_zero] at a2 a3 b2 b3
    have HE1 := Lib.hid e1; have HE2 := Lib.hid e2; have HB1 := Lib.hid (HB.out.next' hb1)
    clear e1 e2 hb1
    by_cases h1 : a.X = b.X
    · rw [decide_eq_true h1]
      have H1 := Lib.hid h1
      clear h1
      go_wp2_with fail
      refine (HCY.out _ HB1.out).mono ?_
      rintro e w2 ⟨rfl, hb2⟩
      have e1 := HE1.out.below hb2 HE1.out.lt
      have e2 := HE2.out.below hb2 HE2.out.lt
      have a3 := e1.cell 3; have b3 := e2.cell 3
      simp only [List.getElem?_toArray, List.getElem?_cons_succ, List.getElem?_cons_zero] at a3 b3
      have HB2 := Lib.hid (HB1.out.next' hb2)
      clear e1 e2 hb2
      by_cases h2 : a.Y = b.Y
      · rw [decide_eq_true h2]
        have H2 := Lib.hid h2
        clear h2
        go_wp2_with fail
        refine (HCA.out _ HB2.out).mono ?_
        rintro e w3 ⟨rfl, hb3⟩
        have HB3 := Lib.hid (HB2.out.next' hb3)
        have hs : sameB a b = decide (a.arcs = b.arcs) := by unfold sameB; simp [H0.out, H1.out, H2.out]
        have HS := Lib.hid hs
        clear hb3 hs
        obtain ⟨q, hq⟩ : ∃ q, q = decide (a.arcs = b.arcs) := ⟨_, rfl⟩
        rw [← hq] at HS ⊢
        clear hq
        go_wp2_with fail
        go_ret
        exact ⟨by rw [HS.out]; first | done | rfl, HB3.out⟩
      · rw [decide_eq_false h2]
        have hs : sameB a b = false := by unfold sameB; simp [h2]
        have HS := Lib.hid hs
        clear h2 hs
        go_wp2_with fail
        go_ret
        exact ⟨by rw [HS.out]; first | done | rfl, HB2.out⟩
    · rw [decide_eq_false h1]
      have hs : sameB a b = false := by unfold sameB; simp [h1]
      have HS := Lib.hid hs
      clear h1 hs
      go_wp2_with fail
      go_ret
      exact ⟨by rw [HS.out]; first | done | rfl, HB1.out⟩
  · have q0 : (a.nodes == b.nodes) = false := by simpa using h0
    have hs : sameB a b = false := by unfold sameB; simp [h0]
    have HS := Lib.hid hs
    clear h0 hs
    go_enter Tryd.func22, Tryd.ntmps22
    go_wp2_with fail
    go_ret
    exact ⟨by rw [HS.out]; first | done | rfl, HB.out⟩
end Go.Proofs.YtnkcmlngoeofgaaDoor
/- milestoneref07.Same. -/
namespace Go.Proofs.YtnkcmlngoeofgaaDoor
open Go.RowKit
set_option maxHeartbeats 8000000 in
theorem refSame7_any (va vb : Value) (a b : Raw) (w : World) (ha : RawV w va a) (hb : RawV w vb b) : Calls Tryd.prog 38 #[va, vb] w fun e w' => e = .returned (.bool (sameB a b)) ∧ Below w.heap.size w w' := by
  obtain ⟨ax, ay, aa, rfl, hax, hay, haa⟩ := ha
  obtain ⟨bx, by_, ba, rfl, hbx, hby, hba⟩ := hb
  have fx := id hax; have fy := id hay; have fa := id haa
  have gx := id hbx; have gy := id hby; have ga := id hba
  obtain ⟨B1, hB1⟩ : ∃ b, b = w.heap.size := ⟨_, rfl⟩
  obtain ⟨B2, hB2⟩ : ∃ b, b = w.heap.size + 1 := ⟨_, rfl⟩
  obtain ⟨w0, hw0⟩ : ∃ w0, w0 = ((w.alloc (.cells #[.int .i64 a.nodes, ax, ay, aa] 25)).alloc (.cells #[.int .i64 b.nodes, bx, by_, ba] 25)) := ⟨_, rfl⟩
  have hb0 : Below w.heap.size w w0 := by rw [hw0]; exact ((Below.refl w.heap.size w).alloc (Nat.le_refl _) _).alloc (by simp) _
  have k1 : Blk w0 B1 #[.int .i64 a.nodes, ax, ay, aa] 25 (0, 0) := by rw [hw0, hB1]; exact (Blk.new w _ _ (0, 0)).alloc _
  have k2 : Blk w0 B2 #[.int .i64 b.nodes, bx, by_, ba] 25 (0, 0) := by
    rw [hw0, hB2]
    have h := Blk.new (w.alloc (.cells #[.int .i64 a.nodes, ax, ay, aa] 25)) #[.int .i64 b.nodes, bx, by_, ba] 25 (0, 0)
    rwa [World.size_alloc] at h
  have CX := Lib.hid (fun u hu => And.intro (hax.keep (KpC.of_below (W' := u) hu)) (hbx.keep (KpC.of_below (W' := u) hu)))
  have CY := Lib.hid (fun u hu => And.intro (hay.keep (KpC.of_below (W' := u) hu)) (hby.keep (KpC.of_below (W' := u) hu)))
  have CA := Lib.hid (fun u hu => And.intro (haa.keep (KpC.of_below (W' := u) hu)) (hba.keep (KpC.of_below (W' := u) hu)))
  have HB := Lib.hid hb0; have HK1 := Lib.hid k1; have HK2 := Lib.hid k2; have HW0 := Lib.hid hw0
  have HB1 := Lib.hid hB1; have HB2 := Lib.hid hB2
  have a0 := k1.cell 0; have a1 := k1.cell 1; have a2 := k1.cell 2; have a3 := k1.cell 3
  have b0 := k2.cell 0; have b1 := k2.cell 1; have b2 := k2.cell 2; have b3 := k2.cell 3
  simp only [List.getElem?_toArray, List.getElem?_cons_succ, List.getElem?_cons_zero] at a0 a1 a2 a3 b0 b1 b2 b3
  clear hax hay haa hbx hby hba hb0 k1 k2 hw0 hB1 hB2
  obtain ⟨pxa, cxa, rfl, hcxa, hmxa, _⟩ := fx
  obtain ⟨pya, cya, rfl, hcya, hmya, _⟩ := fy
  obtain ⟨pa, ca, rfl, hca, hma, _⟩ := fa
  obtain ⟨pxb, cxb, rfl, hcxb, hmxb, _⟩ := gx
  obtain ⟨pyb, cyb, rfl, hcyb, hmyb, _⟩ := gy
  obtain ⟨pb, cb, rfl, hcb, hmb, _⟩ := ga
  unfold maxLen at *
  go_enter Tryd.func38, Tryd.ntmps38
  by_cases h0 : a.nodes = b.nodes
  case neg =>
    have q0 : (a.nodes != b.nodes) = true := by simpa using h0
    have hs : sameB a b = false := by unfold sameB; simp [h0]
    have HS := Lib.hid hs
    clear hs h0
    go_wp2_with fail
    rw [← HW0.out]
    go_ret
    exact ⟨by rw [HS.out]; first | done | rfl, HB.out⟩
  have q0 : (a.nodes != b.nodes) = false := by simpa using h0
  have H0 := Lib.hid h0
  clear h0
  by_cases h0 : a.X.length = b.X.length
  case neg =>
    have l0 : ((a.X.length : Int) != (b.X.length : Int)) = true := by simp; omega
    have hs : sameB a b = false := by
      unfold sameB
      rw [decide_eq_false]
      rintro ⟨_, h1, h2, h3⟩
      exact h0 (by rw [h1])
    have HS := Lib.hid hs
    clear hs h0
    go_wp2_with fail
    rw [← HW0.out]
    go_ret
    exact ⟨by rw [HS.out]; first | done | rfl, HB.out⟩
  have l0 : ((a.X.length : Int) != (b.X.length : Int)) = false := by simp [h0]
  have HLX := Lib.hid h0
  have HMX := Lib.hid (show ∀ k, k < a.X.length → k < b.X.length from fun k h => by omega)
  clear h0
  by_cases h0 : a.Y.length = b.Y.length
  case neg =>
    have l1 : ((a.Y.length : Int) != (b.Y.length : Int)) = true := by simp; omega
    have hs : sameB a b = false := by
      unfold sameB
      rw [decide_eq_false]
      rintro ⟨_, h1, h2, h3⟩
      exact h0 (by rw [h2])
    have HS := Lib.hid hs
    clear hs h0
    go_wp2_with fail
    rw [← HW0.out]
    go_ret
    exact ⟨by rw [HS.out]; first | done | rfl, HB.out⟩
  have l1 : ((a.Y.length : Int) != (b.Y.length : Int)) = false := by simp [h0]
  have HLY := Lib.hid h0
  have HMY := Lib.hid (show ∀ k, k < a.Y.length → k < b.Y.length from fun k h => by omega)
  clear h0
  by_cases h0 : a.arcs.length = b.arcs.length
  case neg =>
    have l2 : ((a.arcs.length : Int) != (b.arcs.length : Int)) = true := by simp; omega
    have hs : sameB a b = false := by
      unfold sameB
      rw [decide_eq_false]
      rintro ⟨_, h1, h2, h3⟩
      exact h0 (by rw [h3])
    have HS := Lib.hid hs
    clear hs h0
    go_wp2_with fail
    rw [← HW0.out]
    go_ret
    exact ⟨by rw [HS.out]; first | done | rfl, HB.out⟩
  have l2 : ((a.arcs.length : Int) != (b.arcs.length : Int)) = false := by simp [h0]
  have HLarcs := Lib.hid h0
  have HMarcs := Lib.hid (show ∀ k, k < a.arcs.length → k < b.arcs.length from fun k h => by omega)
  clear h0
  go_wp2_with fail
  rw [← HW0.out, ← HB2.out, ← HB1.out]
  have HBW : Hid (Below w0.heap.size w0 w0) := Lib.hid (Below.refl _ _)
  clear a0 a1 a2 a3 b0 b1 b2 b3
  go_loopw [5] (fun i wr => ∃ (k : Nat), k ≤ a.X.length ∧ i = .int .i64 k ∧ Hid (a.X.take k = b.X.take k) ∧ Hid (Below w0.heap.size w0 wr)) (fun i _ => a.X.length - (intOf i).toNat)
  case atStart => exact ⟨0, Nat.zero_le _, rfl, Lib.hid rfl, Lib.hid HBW.out⟩
  clear HBW
  obtain ⟨k, hk, rfl, hpre, hbel⟩ := hrel
  have e1 := HK1.out.below hbel.out HK1.out.lt
  have e2 := HK2.out.below hbel.out HK2.out.lt
  have a0 := e1.cell 0; have a1 := e1.cell 1; have a2 := e1.cell 2; have a3 := e1.cell 3; have b0 := e2.cell 0; have b1 := e2.cell 1; have b2 := e2.cell 2; have b3 := e2.cell 3
  simp only [List.getElem?_toArray, List.getElem?_cons_succ, List.getElem?_cons_zero] at a0 a1 a2 a3 b0 b1 b2 b3
  clear e1 e2
  by_cases hlt : k < a.X.length
  case pos =>
    have hw := HB.out.next' hbel.out
    obtain ⟨xa, oa, rfl, da⟩ := (CX.out wr hw).1.at k hlt
    obtain ⟨xb, ob, rfl, db⟩ := (CX.out wr hw).2.at k (HMX.out k hlt)
    have i1 : (0 : Int) ≤ (k : Int) := by omega
    have i2 : (k : Int) < (a.X.length : Int) := by omega
    have i3 : (k : Int) < (b.X.length : Int) := by have := HMX.out k hlt; omega
    have hA1 : Hid (a.X.take (k + 1) = a.X.take k ++ [a.X[k]]) := Lib.hid (List.take_succ_eq_append_getElem hlt)
    have hB1 : Hid (b.X.take (k + 1) = b.X.take k ++ [b.X[k]'(HMX.out k hlt)]) := Lib.hid (List.take_succ_eq_append_getElem (HMX.out k hlt))
    obtain ⟨x, hx⟩ : ∃ x, x = a.X[k] := ⟨_, rfl⟩
    obtain ⟨y, hy⟩ : ∃ y, y = b.X[k]'(HMX.out k hlt) := ⟨_, rfl⟩
    rw [← hx] at da; rw [← hy] at db
    have HX := Lib.hid hx.symm; have HY := Lib.hid hy.symm
    clear hx hy hw
    go_wp2_with fail
    go_quiet (fail)
    generalize hwd : wr.drewN _ = wd at *
    by_cases hxy : x = y
    · subst hxy
      have hbq : (x != x) = false := by simp
      go_wp2_with fail
      go_roundw
      case rel =>
        refine ⟨k + 1, by omega, by go_num, Lib.hid ?_, Lib.hid ?_⟩
        · rw [hA1.out, hB1.out, hpre.out, HX.out, HY.out]
        · rw [← hwd]; exact below_drewN hbel.out _
      case measure => simp [intOf]; omega
    · have hbq : (x != y) = true := by simpa using hxy
      have hs : sameB a b = false := by
        unfold sameB
        rw [decide_eq_false]
        rintro ⟨_, h1, h2, h3⟩
        exact hxy (by rw [← HX.out, ← HY.out]; simp [h1])
      have HS := Lib.hid hs
      have HBw : Hid (Below w.heap.size w wd) := Lib.hid (by rw [← hwd]; exact below_drewN (HB.out.next' hbel.out) _)
      clear hs hwd
      go_wp2_with fail
      go_ret
      exact ⟨by rw [HS.out]; first | done | rfl, HBw.out⟩
  obtain rfl : k = a.X.length := by omega
  have HE1 : Hid (a.X = b.X) := Lib.hid (by have h := hpre.out; rwa [List.take_length, HLX.out, List.take_length] at h)
  have HBW := Lib.hid hbel.out
  clear hpre hbel
  go_wp2_with fail
  clear a0 a1 a2 a3 b0 b1 b2 b3
  go_loopw [6] (fun i wr => ∃ (k : Nat), k ≤ a.Y.length ∧ i = .int .i64 k ∧ Hid (a.Y.take k = b.Y.take k) ∧ Hid (Below w0.heap.size w0 wr)) (fun i _ => a.Y.length - (intOf i).toNat)
  case atStart => exact ⟨0, Nat.zero_le _, rfl, Lib.hid rfl, Lib.hid HBW.out⟩
  clear HBW
  obtain ⟨k, hk, rfl, hpre, hbel⟩ := hrel
  have e1 := HK1.out.below hbel.out HK1.out.lt
  have e2 := HK2.out.below hbel.out HK2.out.lt
  have a0 := e1.cell 0; have a1 := e1.cell 1; have a2 := e1.cell 2; have a3 := e1.cell 3; have b0 := e2.cell 0; have b1 := e2.cell 1; have b2 := e2.cell 2; have b3 := e2.cell 3
  simp only [List.getElem?_toArray, List.getElem?_cons_succ, List.getElem?_cons_zero] at a0 a1 a2 a3 b0 b1 b2 b3
  clear e1 e2
  by_cases hlt : k < a.Y.length
  case pos =>
    have hw := HB.out.next' hbel.out
    obtain ⟨xa, oa, rfl, da⟩ := (CY.out wr hw).1.at k hlt
    obtain ⟨xb, ob, rfl, db⟩ := (CY.out wr hw).2.at k (HMY.out k hlt)
    have i1 : (0 : Int) ≤ (k : Int) := by omega
    have i2 : (k : Int) < (a.Y.length : Int) := by omega
    have i3 : (k : Int) < (b.Y.length : Int) := by have := HMY.out k hlt; omega
    have hA1 : Hid (a.Y.take (k + 1) = a.Y.take k ++ [a.Y[k]]) := Lib.hid (List.take_succ_eq_append_getElem hlt)
    have hB1 : Hid (b.Y.take (k + 1) = b.Y.take k ++ [b.Y[k]'(HMY.out k hlt)]) := Lib.hid (List.take_succ_eq_append_getElem (HMY.out k hlt))
    obtain ⟨x, hx⟩ : ∃ x, x = a.Y[k] := ⟨_, rfl⟩
    obtain ⟨y, hy⟩ : ∃ y, y = b.Y[k]'(HMY.out k hlt) := ⟨_, rfl⟩
    rw [← hx] at da; rw [← hy] at db
    have HX := Lib.hid hx.symm; have HY := Lib.hid hy.symm
    clear hx hy hw
    go_wp2_with fail
    go_quiet (fail)
    generalize hwd : wr.drewN _ = wd at *
    by_cases hxy : x = y
    · subst hxy
      have hbq : (x != x) = false := by simp
      go_wp2_with fail
      go_roundw
      case rel =>
        refine ⟨k + 1, by omega, by go_num, Lib.hid ?_, Lib.hid ?_⟩
        · rw [hA1.out, hB1.out, hpre.out, HX.out, HY.out]
        · rw [← hwd]; exact below_drewN hbel.out _
      case measure => simp [intOf]; omega
    · have hbq : (x != y) = true := by simpa using hxy
      have hs : sameB a b = false := by
        unfold sameB
        rw [decide_eq_false]
        rintro ⟨_, h1, h2, h3⟩
        exact hxy (by rw [← HX.out, ← HY.out]; simp [h2])
      have HS := Lib.hid hs
      have HBw : Hid (Below w.heap.size w wd) := Lib.hid (by rw [← hwd]; exact below_drewN (HB.out.next' hbel.out) _)
      clear hs hwd
      go_wp2_with fail
      go_ret
      exact ⟨by rw [HS.out]; first | done | rfl, HBw.out⟩
  obtain rfl : k = a.Y.length := by omega
  have HE2 : Hid (a.Y = b.Y) := Lib.hid (by have h := hpre.out; rwa [List.take_length, HLY.out, List.take_length] at h)
  have HBW := Lib.hid hbel.out
  clear hpre hbel
  go_wp2_with fail
  clear a0 a1 a2 a3 b0 b1 b2 b3
  go_loopw [7] (fun i wr => ∃ (k : Nat), k ≤ a.arcs.length ∧ i = .int .i64 k ∧ Hid (a.arcs.take k = b.arcs.take k) ∧ Hid (Below w0.heap.size w0 wr)) (fun i _ => a.arcs.length - (intOf i).toNat)
  case atStart => exact ⟨0, Nat.zero_le _, rfl, Lib.hid rfl, Lib.hid HBW.out⟩
  clear HBW
  obtain ⟨k, hk, rfl, hpre, hbel⟩ := hrel
  have e1 := HK1.out.below hbel.out HK1.out.lt
  have e2 := HK2.out.below hbel.out HK2.out.lt
  have a0 := e1.cell 0; have a1 := e1.cell 1; have a2 := e1.cell 2; have a3 := e1.cell 3; have b0 := e2.cell 0; have b1 := e2.cell 1; have b2 := e2.cell 2; have b3 := e2.cell 3
  simp only [List.getElem?_toArray, List.getElem?_cons_succ, List.getElem?_cons_zero] at a0 a1 a2 a3 b0 b1 b2 b3
  clear e1 e2
  by_cases hlt : k < a.arcs.length
  case pos =>
    have hw := HB.out.next' hbel.out
    obtain ⟨xa, oa, rfl, da0, da1, da2⟩ := (CA.out wr hw).1.at k hlt
    obtain ⟨xb, ob, rfl, db0, db1, db2⟩ := (CA.out wr hw).2.at k (HMarcs.out k hlt)
    have i1 : (0 : Int) ≤ (k : Int) := by omega
    have i2 : (k : Int) < (a.arcs.length : Int) := by omega
    have i3 : (k : Int) < (b.arcs.length : Int) := by have := HMarcs.out k hlt; omega
    have hA1 : Hid (a.arcs.take (k + 1) = a.arcs.take k ++ [a.arcs[k]]) := Lib.hid (List.take_succ_eq_append_getElem hlt)
    have hB1 : Hid (b.arcs.take (k + 1) = b.arcs.take k ++ [b.arcs[k]'(HMarcs.out k hlt)]) := Lib.hid (List.take_succ_eq_append_getElem (HMarcs.out k hlt))
    obtain ⟨x, hx⟩ : ∃ x, x = a.arcs[k] := ⟨_, rfl⟩
    obtain ⟨y, hy⟩ : ∃ y, y = b.arcs[k]'(HMarcs.out k hlt) := ⟨_, rfl⟩
    rw [← hx] at da0 da1 da2; rw [← hy] at db0 db1 db2
    have HX := Lib.hid hx.symm; have HY := Lib.hid hy.symm
    clear hx hy hw
    obtain ⟨x0, x1, x2⟩ := x
    obtain ⟨y0, y1, y2⟩ := y
    simp only at da0 da1 da2 db0 db1 db2
    obtain ⟨q, hq⟩ : ∃ q, q = !(x0 == y0 && (x1 == y1 && x2 == y2)) := ⟨_, rfl⟩
    have hq0 : ∀ w, (binOp .neq 54 (.agg #[.int .i64 x0, .int .i64 x1, .int .i64 x2]) (.agg #[.int .i64 y0, .int .i64 y1, .int .i64 y2])).run Tryd.prog w = .ok (.bool q) w := fun w => by rw [hq]; exact arc_neq x0 x1 x2 y0 y1 y2 w
    have HQ := Lib.hid hq
    clear hq
    go_wp2_with fail
    go_quiet (fail)
    generalize hwd : wr.drewN _ = wd at *
    have hqq : q = false ∨ q = true := by cases q <;> simp
    clear hq0
    rcases hqq with rfl | rfl
    · have hxy : Hid (((x0, x1, x2) : Ar) = (y0, y1, y2)) := Lib.hid (by have h := HQ.out; simp at h; simp [h])
      go_wp2_with fail
      go_roundw
      case rel =>
        refine ⟨k + 1, by omega, by go_num, Lib.hid ?_, Lib.hid ?_⟩
        · rw [hA1.out, hB1.out, hpre.out, HX.out, HY.out, hxy.out]
        · rw [← hwd]; exact below_drewN hbel.out _
      case measure => simp [intOf]; omega
    · have hs : sameB a b = false := by
        unfold sameB
        rw [decide_eq_false]
        rintro ⟨_, _, _, h⟩
        exact arc_q HQ.out (by rw [← HX.out, ← HY.out]; simp [h])
      have HS := Lib.hid hs
      have HBw : Hid (Below w.heap.size w wd) := Lib.hid (by rw [← hwd]; exact below_drewN (HB.out.next' hbel.out) _)
      clear hs hwd
      go_wp2_with fail
      go_ret
      exact ⟨by rw [HS.out]; first | done | rfl, HBw.out⟩
  obtain rfl : k = a.arcs.length := by omega
  have HE3 : Hid (a.arcs = b.arcs) := Lib.hid (by have h := hpre.out; rwa [List.take_length, HLarcs.out, List.take_length] at h)
  have hs : sameB a b = true := by unfold sameB; simp [H0.out, HE1.out, HE2.out, HE3.out]
  have HS := Lib.hid hs
  have HBw := Lib.hid (HB.out.next' hbel.out)
  clear hs
  go_wp2_with fail
  go_ret
  exact ⟨by rw [HS.out]; first | done | rfl, HBw.out⟩
end Go.Proofs.YtnkcmlngoeofgaaDoor
/- NetOnce, in plain words: how often each arc was met. -/
namespace Go.Proofs.YtnkcmlngoeofgaaDoor
open Go.RowKit
def cntL (E : Ar → Int) (L : List Ar) (v i : Nat) : List Int := (List.range L.length).map fun a : Nat => (if E (L[a]?.getD (0, 0, 0)) < (v : Int) then 1 else 0) + (if (a : Int) ∈ (rowK E L v L.length).take i then 1 else 0)
theorem cntL_len (E : Ar → Int) (L : List Ar) (v i : Nat) : (cntL E L v i).length = L.length := by unfold cntL; rw [List.length_map, List.length_range]
theorem cntL_get (E : Ar → Int) (L : List Ar) (v i x : Nat) (hx : x < L.length) : (cntL E L v i)[x]? = some ((if E (L[x]?.getD (0, 0, 0)) < (v : Int) then 1 else 0) + (if (x : Int) ∈ (rowK E L v L.length).take i then 1 else 0)) := by
  unfold cntL; rw [List.getElem?_map, List.getElem?_range hx]; rfl
theorem row_rise {E : Ar → Int} {L : List Ar} {v : Nat} {j i : Nat} (hj : j < i) (hi : i < (rowK E L v L.length).length) : (rowK E L v L.length)[j] < (rowK E L v L.length)[i] :=
  List.pairwise_iff_getElem.1 (rowK_rises E L v L.length) j i (by omega) hi hj
theorem cnt_step {E : Ar → Int} {L : List Ar} {v i : Nat} (hi : i < (rowK E L v L.length).length) :
    ∃ x : Nat, x < L.length ∧ (rowK E L v L.length)[i] = (x : Int) ∧ (cntL E L v i)[x]? = some 0 ∧ cntL E L v (i + 1) = (cntL E L v i).set x 1 ∧ E (L[x]?.getD (0, 0, 0)) = (v : Int) := by
  obtain ⟨x, hx, hxe, hE⟩ := (mem_rowK E L v _ L.length).1 (List.getElem_mem hi)
  have hnot : ¬ (x : Int) ∈ (rowK E L v L.length).take i := fun h => by
    obtain ⟨j, hj, e⟩ := List.mem_iff_getElem.1 h
    rw [List.length_take] at hj
    rw [List.getElem_take] at e
    have := row_rise (E := E) (L := L) (v := v) (show j < i by omega) hi
    omega
  refine ⟨x, hx, hxe, ?_, ?_, hE⟩
  · rw [cntL_get E L v i x hx, if_neg (by omega), if_neg hnot]; rfl
  · apply List.ext_getElem?
    intro a
    by_cases ha : a < L.length
    · rw [cntL_get E L v (i + 1) a ha, List.take_succ_eq_append_getElem hi, hxe]
      by_cases e : a = x
      · subst e
        rw [List.getElem?_set_self (by rw [cntL_len]; exact ha), if_neg (by omega), if_pos (by simp)]; rfl
      · rw [List.getElem?_set_ne (Ne.symm e), cntL_get E L v i a ha]
        have : ((a : Int) ∈ (rowK E L v L.length).take i ++ [(x : Int)]) ↔ ((a : Int) ∈ (rowK E L v L.length).take i) := by
          rw [List.mem_append, List.mem_singleton]
          constructor
          · rintro (h | h)
            · exact h
            · exact absurd (Int.ofNat.inj h) e
          · exact .inl
        simp only [this]
    · rw [List.getElem?_eq_none (by rw [cntL_len]; omega), List.getElem?_eq_none (by rw [List.length_set, cntL_len]; omega)]
theorem cnt_end (E : Ar → Int) (L : List Ar) (v : Nat) : cntL E L v (rowK E L v L.length).length = cntL E L (v + 1) 0 := by
  unfold cntL
  apply List.map_congr_left
  intro a ha
  rw [List.mem_range] at ha
  rw [List.take_length, List.take_zero, if_neg (show ¬ (a : Int) ∈ ([] : List Int) from fun h => by cases h)]
  have hm : (a : Int) ∈ rowK E L v L.length ↔ E (L[a]?.getD (0, 0, 0)) = (v : Int) := by
    rw [mem_rowK]
    constructor
    · rintro ⟨b, _, e, h3⟩
      obtain rfl : a = b := by omega
      exact h3
    · exact fun h => ⟨a, ha, rfl, h⟩
  by_cases h1 : E (L[a]?.getD (0, 0, 0)) < (v : Int)
  · rw [if_pos h1, if_neg (fun h => by have := hm.1 h; omega), if_pos (by omega)]
  · by_cases h2 : E (L[a]?.getD (0, 0, 0)) = (v : Int)
    · rw [if_neg h1, if_pos (hm.2 h2), if_pos (by omega)]; rfl
    · rw [if_neg h1, if_neg (fun h => h2 (hm.1 h)), if_neg (by omega)]
theorem cnt_zero {E : Ar → Int} {L : List Ar} {N : Nat} (h : EndsOk E L N) : cntL E L 0 0 = List.replicate L.length 0 := by
  apply List.ext_getElem?
  intro a
  by_cases ha : a < L.length
  · rw [cntL_get E L 0 0 a ha, List.getElem?_replicate, if_pos ha, if_neg (by have := (h a ha).1; omega), List.take_zero, if_neg (show ¬ (a : Int) ∈ ([] : List Int) from fun h => by cases h)]; rfl
  · rw [List.getElem?_eq_none (by rw [cntL_len]; omega), List.getElem?_eq_none (by rw [List.length_replicate]; omega)]
theorem cnt_all {E : Ar → Int} {L : List Ar} {N : Nat} (h : EndsOk E L N) : cntL E L N 0 = List.replicate L.length 1 := by
  apply List.ext_getElem?
  intro a
  by_cases ha : a < L.length
  · rw [cntL_get E L N 0 a ha, List.getElem?_replicate, if_pos ha, if_pos (h a ha).2, List.take_zero, if_neg (show ¬ (a : Int) ∈ ([] : List Int) from fun h => by cases h)]; rfl
  · rw [List.getElem?_eq_none (by rw [cntL_len]; omega), List.getElem?_eq_none (by rw [List.length_replicate]; omega)]
theorem rowV_at {E : Ar → Int} {g : Raw} {N v : Nat} (hN : (N : Int) = g.nodes) (hv : v < N) : rowV E g (v : Int) = rowK E g.arcs v g.arcs.length := by
  have e : g.nodes.toNat = N := by omega
  unfold rowV
  rw [e, rowsOf_len, if_pos ⟨by omega, by omega⟩, Int.toNat_natCast, rowsOf_get _ _ _ _ hv]; rfl
theorem few_rows {E : Ar → Int} {L : List Ar} {N : Nat} (h : L.length ≤ 67108864) : ∀ r ∈ rowsOf E L N, r.length ≤ 1000000000000 := fun r hr => by
  unfold rowsOf at hr
  obtain ⟨v, _, rfl⟩ := List.mem_map.1 hr
  have := rowK_le E L v L.length
  omega
theorem Raw.Ok.few {g : Raw} (h : g.Ok) : g.few := by
  have h1 := h.nodes; have h2 := h.lenX; have h3 := h.lenY; have h4 := h.arcs
  exact ⟨by omega, by omega, by omega⟩
end Go.Proofs.YtnkcmlngoeofgaaDoor
