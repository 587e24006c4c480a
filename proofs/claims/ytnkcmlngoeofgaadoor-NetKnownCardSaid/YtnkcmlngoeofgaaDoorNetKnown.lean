/- NetKnown: the chapter's examples; one node; no arcs; none. -/
import Derived.Test.YtnkcmlngoeofgaaDoorNetWorks
namespace Go.Proofs.YtnkcmlngoeofgaaDoor
open Go.RowKit
def one7 : Raw := ⟨1, [-2147483648], [2147483647], []⟩
theorem arc_none (i : Int) (w : World) : Calls Tryd.prog 36 #[.pointer none, .int .i64 i] w fun e w' => e = .returned (.tuple #[.agg #[.int .i64 0, .int .i64 0, .int .i64 0], .bool false]) ∧ Below w.heap.size w w' := arc_nil i w
theorem place_one (p : Nat) (w : World) (h : NetAt w p one7) : Calls Tryd.prog 44 #[.pointer (some ⟨p, 0, none⟩), .int .i64 0] w fun e w' => e = .returned (.tuple #[.int .i64 (-2147483648), .int .i64 2147483647, .bool true]) ∧ w' = w := place_any p one7 0 w h
theorem arcs_one (p : Nat) (w : World) (h : NetAt w p one7) : Calls Tryd.prog 32 #[.pointer (some ⟨p, 0, none⟩)] w fun e w' => e = .returned (.int .i64 0) ∧ w' = w := arcs_any p one7 w h
theorem nodes_one (p : Nat) (w : World) (h : NetAt w p one7.turned) : Calls Tryd.prog 33 #[.pointer (some ⟨p, 0, none⟩)] w fun e w' => e = .returned (.int .i64 1) ∧ w' = w := nodes_any p one7.turned w h
set_option maxRecDepth 100000 in
set_option maxHeartbeats 16000000 in
theorem netKnown_all (w : World) (hg : HG w) : Calls Tryd.prog 11 #[] w fun e w' => e = .returned (.bool true) ∧ Below w.heap.size w w' := by
  have hfd : ∀ w : World, (Instr.field 25 (.agg #[.int .i64 0, .slice none 0 0, .slice none 0 0, .slice none 0 0]) 0).run Tryd.prog w = .ok (.int .i64 0) w := fun _ => by kernel_rfl
  obtain ⟨wa, hwa⟩ : ∃ wa, wa = (w.alloc (.cells #[.int .i64 (-2147483648)] 2)).alloc (.cells #[.int .i64 2147483647] 2) := ⟨_, rfl⟩
  have B1 : Blk wa w.heap.size #[.int .i64 (-2147483648)] 2 (0, 0) := by rw [hwa]; exact (Blk.new _ _ _ _).alloc _
  have B2 : Blk wa (w.heap.size + 1) #[.int .i64 2147483647] 2 (0, 0) := by
    rw [hwa]
    have h := Blk.new (w.alloc (.cells #[.int .i64 (-2147483648)] 2)) #[.int .i64 2147483647] 2 (0, 0)
    rw [World.size_alloc] at h
    exact h
  have hba : Below w.heap.size w wa := by rw [hwa]; exact ((Below.refl _ _).alloc (Nat.le_refl _) _).alloc (by simp) _
  have HC := Lib.hid (new_any (.agg #[.int .i64 1, .slice (some ⟨w.heap.size, 0, none⟩) 1 1, .slice (some ⟨w.heap.size + 1, 0, none⟩) 1 1, .slice none 0 0]) one7 wa (hg.later hba) ⟨_, _, _, rfl, slX_new (L := [-2147483648]) B1 rfl rfl (by decide), slX_new (L := [2147483647]) B2 rfl rfl (by decide), slA_nil _⟩ (by unfold Raw.few; decide))
  have HW := Lib.hid hwa; have HG0 := Lib.hid hg; have H0 := Lib.hid hba
  clear hwa B1 B2 hba hg
  go_enter Tryd.func11, Tryd.ntmps11
  go_wp2_with fail
  rw [← HW.out]
  refine HC.out.mono ?_
  rintro e w1 ⟨h | h, hb1⟩
  · exact absurd (show one7.ok by unfold Raw.ok; decide) h.1
  obtain ⟨_, p, rfl, hn⟩ := h
  have H1 := Lib.hid (H0.out.next' hb1); have HN := Lib.hid hn.all
  clear hn hb1 HC HW
  go_wp2_with fail
  refine (place_one p w1 (HN.out _ (Below.refl _ _))).mono ?_
  rintro e w2 ⟨rfl, rfl⟩
  go_wp2_with fail
  refine (place_nil 0 w2).mono ?_
  rintro e w3 ⟨rfl, rfl⟩
  go_wp2_with fail
  refine (arc_none 0 w3).mono ?_
  rintro e w4 ⟨rfl, hb4⟩
  obtain ⟨w5, hw5⟩ : ∃ w5, w5 = w4.alloc (.cells #[.int .i64 0, .int .i64 0, .int .i64 0] 54) := ⟨_, rfl⟩
  have hb5 : Below w4.heap.size w4 w5 := by rw [hw5]; exact (Below.refl _ _).alloc (Nat.le_refl _) _
  have H5 := Lib.hid (H1.out.next' (hb4.next' hb5)); have Hn5 := Lib.hid (hb4.next' hb5); have HW5 := Lib.hid hw5
  clear hb4 hb5 hw5
  go_wp2_with fail
  rw [← HW5.out]
  refine (works7_any w5 (HG0.out.later H5.out)).mono ?_
  rintro e w6 ⟨rfl, hb6⟩
  have H6 := Lib.hid (H5.out.next' hb6); have Hn6 := Lib.hid (Hn5.out.next' hb6)
  clear hb6 Hn5 HW5
  go_wp2_with fail
  refine (arcs_one p w6 (HN.out _ Hn6.out)).mono ?_
  rintro e w7 ⟨rfl, rfl⟩
  go_wp2_with fail
  refine (row_out p one7 0 [] w7 (HN.out _ Hn6.out) (by decide) (by decide)).mono ?_
  rintro e w8 ⟨a8, c8, rfl, _, hb8⟩
  have H8 := Lib.hid (H6.out.next' hb8); have Hn8 := Lib.hid (Hn6.out.next' hb8)
  clear hb8 Hn6
  go_wp2_with fail
  refine (row_in p one7 (-1) [] w8 (HN.out _ Hn8.out) (by decide) (by decide)).mono ?_
  rintro e w9 ⟨a9, c9, rfl, _, hb9⟩
  have H9 := Lib.hid (H8.out.next' hb9); have Hn9 := Lib.hid (Hn8.out.next' hb9)
  clear hb9 Hn8
  go_wp2_with fail
  refine (turnedN_any p one7 w9 (HN.out _ Hn9.out) (by unfold Raw.few; decide) ((Raw.ok_iff one7).1 (by unfold Raw.ok; decide))).mono ?_
  rintro e w10 ⟨q, rfl, hq, hb10⟩
  have H10 := Lib.hid (H9.out.next' hb10)
  have HQ := Lib.hid hq.at
  clear hb10 Hn9 hq
  go_wp2_with fail
  refine (nodes_one q w10 HQ.out).mono ?_
  rintro e w11 ⟨rfl, rfl⟩
  go_wp2_with fail
  refine (nodes_nil w11).mono ?_
  rintro e w12 ⟨rfl, rfl⟩
  go_wp2_with fail
  refine (arcs_nil w12).mono ?_
  rintro e w13 ⟨rfl, rfl⟩
  go_wp2_with fail
  refine (out_nil 0 w13).mono ?_
  rintro e w14 ⟨rfl, rfl⟩
  go_wp2_with fail
  refine (inn_nil 0 w14).mono ?_
  rintro e w15 ⟨rfl, rfl⟩
  go_wp2_with fail
  refine (raw_nil w15).mono ?_
  rintro e w16 ⟨rfl, hb16⟩
  have H16 := Lib.hid (H10.out.next' hb16)
  clear hb16
  go_wp2_with fail
  refine (turnedN_nil w16).mono ?_
  rintro e w17 ⟨rfl, rfl⟩
  go_wp2_with fail
  go_ret
  exact ⟨rfl, H16.out⟩
end Go.Proofs.YtnkcmlngoeofgaaDoor
