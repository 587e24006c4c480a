/- the net laws' works. -/
import Derived.Test.YtnkcmlngoeofgaaDoorNetSmall
namespace Go.Proofs.YtnkcmlngoeofgaaDoor
open Go.RowKit
theorem NetB.all {lo : Nat} {w : World} {p : Nat} {g : Raw} (h : NetB lo w p g) : ∀ u, Below w.heap.size w u → NetAt u p g := fun _ hu => h.at.keep (KpC.of_below hu)
/-- a row is as given -/
theorem row_out (p : Nat) (g : Raw) (i : Int) (L : List Int) (w : World) (h : NetAt w p g) (hl : ∀ r ∈ rowsOf endF g.arcs g.nodes.toNat, r.length ≤ 1000000000000) (hL : rowV endF g i = L) : Calls Tryd.prog 34 #[.pointer (some ⟨p, 0, none⟩), .int .i64 i] w fun e w' => ∃ a c, e = .returned (.slice a L.length c) ∧ SlX w' (.slice a L.length c) L ∧ Below w.heap.size w w' := by
  subst hL
  refine (out_any p g i w h hl).mono ?_
  rintro e w' ⟨v, rfl, ho, hb⟩
  have hs := slX_own rfl ho
  obtain ⟨a, c, rfl, _⟩ := id hs
  exact ⟨a, c, rfl, hs, hb⟩
theorem row_in (p : Nat) (g : Raw) (i : Int) (L : List Int) (w : World) (h : NetAt w p g) (hl : ∀ r ∈ rowsOf endT g.arcs g.nodes.toNat, r.length ≤ 1000000000000) (hL : rowV endT g i = L) : Calls Tryd.prog 35 #[.pointer (some ⟨p, 0, none⟩), .int .i64 i] w fun e w' => ∃ a c, e = .returned (.slice a L.length c) ∧ SlX w' (.slice a L.length c) L ∧ Below w.heap.size w w' := by
  subst hL
  refine (inn_any p g i w h hl).mono ?_
  rintro e w' ⟨v, rfl, ho, hb⟩
  have hs := slX_own rfl ho
  obtain ⟨a, c, rfl, _⟩ := id hs
  exact ⟨a, c, rfl, hs, hb⟩
theorem arc_is (p : Nat) (g : Raw) (i : Int) (x0 x1 x2 : Int) (q : Bool) (w : World) (h : NetAt w p g) (hx : (if 0 ≤ i ∧ i < g.arcs.length then g.arcs[i.toNat]?.getD (0, 0, 0) else (0, 0, 0)) = (x0, x1, x2)) (hq : decide (0 ≤ i ∧ i < (g.arcs.length : Int)) = q) : Calls Tryd.prog 36 #[.pointer (some ⟨p, 0, none⟩), .int .i64 i] w fun e w' => e = .returned (.tuple #[.agg #[.int .i64 x0, .int .i64 x1, .int .i64 x2], .bool q]) ∧ Below w.heap.size w w' := by
  have C := arc_any p g i w h
  rw [hx, hq] at C
  exact C
set_option maxRecDepth 100000 in
set_option maxHeartbeats 16000000 in
theorem works7_any (w : World) (hg : HG w) : Calls Tryd.prog 28 #[] w fun e w' => e = .returned (.bool true) ∧ Below w.heap.size w w' := by
  have hfd : ∀ w : World, (Instr.field 47 (.agg #[.int .i64 5, .int .i64 0, .int .i64 0, .int .i64 0]) 0).run Tryd.prog w = .ok (.int .i64 5) w := fun _ => by kernel_rfl
  have HG0 := Lib.hid hg
  clear hg
  go_enter Tryd.func28, Tryd.ntmps28
  go_wp2_with fail
  refine (small_any w).mono ?_
  rintro e w1 ⟨v1, rfl, hV, hb1⟩
  have H1 := Lib.hid hb1
  have C := Lib.hid (new_any v1 smallR w1 (HG0.out.later hb1) hV (by unfold Raw.few; decide))
  obtain ⟨_, _, _, rfl, _⟩ := id hV
  clear hb1 hV
  go_wp2_with fail
  refine C.out.mono ?_
  rintro e w2 ⟨h | h, hb2⟩
  · exact absurd (show smallR.ok by unfold Raw.ok; decide) h.1
  obtain ⟨_, p, rfl, hn⟩ := h
  have H2 := Lib.hid (H1.out.next' hb2); have HN := Lib.hid hn.all
  clear hn hb2 C
  go_wp2_with fail
  refine (new_any (.agg #[.int .i64 0, .slice none 0 0, .slice none 0 0, .slice none 0 0]) ⟨0, [], [], []⟩ w2 (HG0.out.later H2.out) ⟨_, _, _, rfl, slX_nil _, slX_nil _, slA_nil _⟩ (by unfold Raw.few; decide)).mono ?_
  rintro e w3 ⟨h | h, hb3⟩
  case inr => exact absurd h.1 (by unfold Raw.ok; decide)
  obtain ⟨_, u, rfl, hu⟩ := h
  have hcode : (⟨0, [], [], []⟩ : Raw).wrong = (5, 0, 0, 0) := by decide
  rw [hcode] at hu
  have H3 := Lib.hid (H2.out.next' hb3); have Hn3 := Lib.hid hb3
  have hu' : ErrIs w3 u 5 0 0 0 := hu
  have CT := Lib.hid (told_is w3 u 5 0 0 0 (HG0.out.later H3.out) hu')
  clear hu'
  rcases hu.form with ⟨_, h⟩ | ⟨⟨ty, xv, rfl⟩, _⟩
  · exact absurd h (by decide)
  clear hu hcode hb3
  go_wp2_with fail
  refine CT.out.mono ?_
  rintro e w4 ⟨rfl, hb4⟩
  have H4 := Lib.hid (H3.out.next' hb4); have Hn4 := Lib.hid (Hn3.out.next' hb4)
  clear hb4 CT Hn3
  go_wp2_with fail
  refine (arc_is p smallR 2 0 1 7 true w4 (HN.out _ Hn4.out) (by decide) (by decide)).mono ?_
  rintro e w5 ⟨rfl, hb5⟩
  obtain ⟨w6, hw6⟩ : ∃ w6, w6 = w5.alloc (.cells #[.int .i64 0, .int .i64 1, .int .i64 7] 54) := ⟨_, rfl⟩
  obtain ⟨Ba, hBa⟩ : ∃ b, b = w5.heap.size := ⟨_, rfl⟩
  have hb6 : Below w5.heap.size w5 w6 := by rw [hw6]; exact (Below.refl _ _).alloc (Nat.le_refl _) _
  have KA := Lib.hid (show Blk w6 Ba #[.int .i64 0, .int .i64 1, .int .i64 7] 54 (0, 0) by rw [hw6, hBa]; exact Blk.new _ _ _ _)
  have H6 := Lib.hid ((H4.out.next' hb5).next' hb6); have Hn6 := Lib.hid ((Hn4.out.next' hb5).next' hb6); have HW6 := Lib.hid hw6; have HBa := Lib.hid hBa
  clear hb5 hb6 hw6 hBa Hn4
  go_wp2_with fail
  rw [← HW6.out, ← HBa.out]
  refine (turnedN_any p smallR w6 (HN.out _ Hn6.out) (by unfold Raw.few; decide) ((Raw.ok_iff smallR).1 (by unfold Raw.ok; decide))).mono ?_
  rintro e w7 ⟨q, rfl, hq, hb7⟩
  have H7 := Lib.hid (H6.out.next' hb7); have Hn7 := Lib.hid (Hn6.out.next' hb7); have HQ := Lib.hid hq.all
  have KA7 := Lib.hid (KA.out.below hb7 KA.out.lt)
  clear hq hb7 Hn6 KA HW6 HBa
  go_wp2_with fail
  refine (arc_is q smallR.turned 0 1 0 5 true w7 (HQ.out _ (Below.refl _ _)) (by decide) (by decide)).mono ?_
  rintro e w8 ⟨rfl, hb8⟩
  obtain ⟨w9, hw9⟩ : ∃ w9, w9 = w8.alloc (.cells #[.int .i64 1, .int .i64 0, .int .i64 5] 54) := ⟨_, rfl⟩
  obtain ⟨Bb, hBb⟩ : ∃ b, b = w8.heap.size := ⟨_, rfl⟩
  have hb9 : Below w8.heap.size w8 w9 := by rw [hw9]; exact (Below.refl _ _).alloc (Nat.le_refl _) _
  have KB := Lib.hid (show Blk w9 Bb #[.int .i64 1, .int .i64 0, .int .i64 5] 54 (0, 0) by rw [hw9, hBb]; exact Blk.new _ _ _ _)
  have hb79 := hb8.next' hb9
  have H9 := Lib.hid (H7.out.next' hb79); have Hn9 := Lib.hid (Hn7.out.next' hb79); have Hq9 := Lib.hid hb79; have HW9 := Lib.hid hw9; have HBb := Lib.hid hBb
  have KA9 := Lib.hid (KA7.out.below hb79 KA7.out.lt)
  clear hb8 hb9 hw9 hBb hb79 Hn7 KA7
  go_wp2_with fail
  rw [← HW9.out, ← HBb.out]
  clear HW9 HBb
  refine (row_out p smallR 0 [0, 2] w9 (HN.out _ Hn9.out) (by decide) (by decide)).mono ?_
  rintro e w10 ⟨a10, c10, rfl, hs, hb10⟩
  obtain ⟨w11, hw11⟩ : ∃ w11, w11 = w10.alloc (.cells #[.int .i64 0, .int .i64 2] 3) := ⟨_, rfl⟩
  obtain ⟨B11, hB11⟩ : ∃ b, b = w10.heap.size := ⟨_, rfl⟩
  have hb11 : Below w10.heap.size w10 w11 := by rw [hw11]; exact (Below.refl _ _).alloc (Nat.le_refl _) _
  have K11 : Blk w11 B11 #[.int .i64 0, .int .i64 2] 3 (0, 0) := by rw [hw11, hB11]; exact Blk.new _ _ _ _
  have CI := Lib.hid (ints_any _ _ [0, 2] [0, 2] w11 (hs.keep (KpC.of_below hb11)) (slX_new (n := 2) K11 rfl rfl (by decide)))
  rw [show decide (([0, 2] : List Int) = [0, 2]) = true from rfl] at CI
  have hbc11 := hb10.next' hb11
  have HW11 := Lib.hid hw11; have HBe11 := Lib.hid hB11; have Hbc := Lib.hid hbc11
  clear hs hb10 hb11 hw11 hB11 K11 hbc11
  go_wp2_with fail
  rw [← HW11.out, ← HBe11.out]
  refine CI.out.mono ?_
  rintro e w12 ⟨rfl, hb12⟩
  have hx12 := Hbc.out.next' hb12
  have H12 := Lib.hid (H9.out.next' hx12); have Hn12 := Lib.hid (Hn9.out.next' hx12); have Hq12 := Lib.hid (Hq9.out.next' hx12)
  have KA12 := Lib.hid (KA9.out.below hx12 KA9.out.lt); have KB12 := Lib.hid (KB.out.below hx12 KB.out.lt)
  clear hb12 hx12 CI Hbc HW11 HBe11 Hn9 Hq9 KA9 KB
  go_wp2_with fail
  refine (row_in p smallR 1 [0, 2] w12 (HN.out _ Hn12.out) (by decide) (by decide)).mono ?_
  rintro e w13 ⟨a13, c13, rfl, hs, hb13⟩
  obtain ⟨w14, hw14⟩ : ∃ w14, w14 = w13.alloc (.cells #[.int .i64 0, .int .i64 2] 3) := ⟨_, rfl⟩
  obtain ⟨B14, hB14⟩ : ∃ b, b = w13.heap.size := ⟨_, rfl⟩
  have hb14 : Below w13.heap.size w13 w14 := by rw [hw14]; exact (Below.refl _ _).alloc (Nat.le_refl _) _
  have K14 : Blk w14 B14 #[.int .i64 0, .int .i64 2] 3 (0, 0) := by rw [hw14, hB14]; exact Blk.new _ _ _ _
  have CI := Lib.hid (ints_any _ _ [0, 2] [0, 2] w14 (hs.keep (KpC.of_below hb14)) (slX_new (n := 2) K14 rfl rfl (by decide)))
  rw [show decide (([0, 2] : List Int) = [0, 2]) = true from rfl] at CI
  have hbc14 := hb13.next' hb14
  have HW14 := Lib.hid hw14; have HBe14 := Lib.hid hB14; have Hbc := Lib.hid hbc14
  clear hs hb13 hb14 hw14 hB14 K14 hbc14
  go_wp2_with fail
  rw [← HW14.out, ← HBe14.out]
  refine CI.out.mono ?_
  rintro e w15 ⟨rfl, hb15⟩
  have hx15 := Hbc.out.next' hb15
  have H15 := Lib.hid (H12.out.next' hx15); have Hn15 := Lib.hid (Hn12.out.next' hx15); have Hq15 := Lib.hid (Hq12.out.next' hx15)
  have KA15 := Lib.hid (KA12.out.below hx15 KA12.out.lt); have KB15 := Lib.hid (KB12.out.below hx15 KB12.out.lt)
  clear hb15 hx15 CI Hbc HW14 HBe14 Hn12 Hq12 KA12 KB12
  go_wp2_with fail
  refine (row_out p smallR 2 [3] w15 (HN.out _ Hn15.out) (by decide) (by decide)).mono ?_
  rintro e w16 ⟨a16, c16, rfl, hs, hb16⟩
  obtain ⟨w17, hw17⟩ : ∃ w17, w17 = w16.alloc (.cells #[.int .i64 3] 3) := ⟨_, rfl⟩
  obtain ⟨B17, hB17⟩ : ∃ b, b = w16.heap.size := ⟨_, rfl⟩
  have hb17 : Below w16.heap.size w16 w17 := by rw [hw17]; exact (Below.refl _ _).alloc (Nat.le_refl _) _
  have K17 : Blk w17 B17 #[.int .i64 3] 3 (0, 0) := by rw [hw17, hB17]; exact Blk.new _ _ _ _
  have CI := Lib.hid (ints_any _ _ [3] [3] w17 (hs.keep (KpC.of_below hb17)) (slX_new (n := 1) K17 rfl rfl (by decide)))
  rw [show decide (([3] : List Int) = [3]) = true from rfl] at CI
  have hbc17 := hb16.next' hb17
  have HW17 := Lib.hid hw17; have HBe17 := Lib.hid hB17; have Hbc := Lib.hid hbc17
  clear hs hb16 hb17 hw17 hB17 K17 hbc17
  go_wp2_with fail
  rw [← HW17.out, ← HBe17.out]
  refine CI.out.mono ?_
  rintro e w18 ⟨rfl, hb18⟩
  have hx18 := Hbc.out.next' hb18
  have H18 := Lib.hid (H15.out.next' hx18); have Hn18 := Lib.hid (Hn15.out.next' hx18); have Hq18 := Lib.hid (Hq15.out.next' hx18)
  have KA18 := Lib.hid (KA15.out.below hx18 KA15.out.lt); have KB18 := Lib.hid (KB15.out.below hx18 KB15.out.lt)
  clear hb18 hx18 CI Hbc HW17 HBe17 Hn15 Hq15 KA15 KB15
  go_wp2_with fail
  refine (row_in p smallR 2 [1, 3] w18 (HN.out _ Hn18.out) (by decide) (by decide)).mono ?_
  rintro e w19 ⟨a19, c19, rfl, hs, hb19⟩
  obtain ⟨w20, hw20⟩ : ∃ w20, w20 = w19.alloc (.cells #[.int .i64 1, .int .i64 3] 3) := ⟨_, rfl⟩
  obtain ⟨B20, hB20⟩ : ∃ b, b = w19.heap.size := ⟨_, rfl⟩
  have hb20 : Below w19.heap.size w19 w20 := by rw [hw20]; exact (Below.refl _ _).alloc (Nat.le_refl _) _
  have K20 : Blk w20 B20 #[.int .i64 1, .int .i64 3] 3 (0, 0) := by rw [hw20, hB20]; exact Blk.new _ _ _ _
  have CI := Lib.hid (ints_any _ _ [1, 3] [1, 3] w20 (hs.keep (KpC.of_below hb20)) (slX_new (n := 2) K20 rfl rfl (by decide)))
  rw [show decide (([1, 3] : List Int) = [1, 3]) = true from rfl] at CI
  have hbc20 := hb19.next' hb20
  have HW20 := Lib.hid hw20; have HBe20 := Lib.hid hB20; have Hbc := Lib.hid hbc20
  clear hs hb19 hb20 hw20 hB20 K20 hbc20
  go_wp2_with fail
  rw [← HW20.out, ← HBe20.out]
  refine CI.out.mono ?_
  rintro e w21 ⟨rfl, hb21⟩
  have hx21 := Hbc.out.next' hb21
  have H21 := Lib.hid (H18.out.next' hx21); have Hn21 := Lib.hid (Hn18.out.next' hx21); have Hq21 := Lib.hid (Hq18.out.next' hx21)
  have KA21 := Lib.hid (KA18.out.below hx21 KA18.out.lt); have KB21 := Lib.hid (KB18.out.below hx21 KB18.out.lt)
  clear hb21 hx21 CI Hbc HW20 HBe20 Hn18 Hq18 KA18 KB18
  have ka := KA21.out.cell 0; have kb := KA21.out.cell 1; have kc := KA21.out.cell 2
  simp only [List.getElem?_toArray, List.getElem?_cons_succ, List.getElem?_cons_zero] at ka kb kc
  go_wp2_with fail
  clear ka kb kc
  refine (row_out q smallR.turned 1 [0, 2] w21 (HQ.out _ Hq21.out) (by decide) (by decide)).mono ?_
  rintro e w22 ⟨a22, c22, rfl, hs, hb22⟩
  obtain ⟨w23, hw23⟩ : ∃ w23, w23 = w22.alloc (.cells #[.int .i64 0, .int .i64 2] 3) := ⟨_, rfl⟩
  obtain ⟨B23, hB23⟩ : ∃ b, b = w22.heap.size := ⟨_, rfl⟩
  have hb23 : Below w22.heap.size w22 w23 := by rw [hw23]; exact (Below.refl _ _).alloc (Nat.le_refl _) _
  have K23 : Blk w23 B23 #[.int .i64 0, .int .i64 2] 3 (0, 0) := by rw [hw23, hB23]; exact Blk.new _ _ _ _
  have CI := Lib.hid (ints_any _ _ [0, 2] [0, 2] w23 (hs.keep (KpC.of_below hb23)) (slX_new (n := 2) K23 rfl rfl (by decide)))
  rw [show decide (([0, 2] : List Int) = [0, 2]) = true from rfl] at CI
  have hbc23 := hb22.next' hb23
  have HW23 := Lib.hid hw23; have HBe23 := Lib.hid hB23; have Hbc := Lib.hid hbc23
  clear hs hb22 hb23 hw23 hB23 K23 hbc23
  go_wp2_with fail
  rw [← HW23.out, ← HBe23.out]
  refine CI.out.mono ?_
  rintro e w24 ⟨rfl, hb24⟩
  have hx24 := Hbc.out.next' hb24
  have H24 := Lib.hid (H21.out.next' hx24); have Hn24 := Lib.hid (Hn21.out.next' hx24); have Hq24 := Lib.hid (Hq21.out.next' hx24)
  have KA24 := Lib.hid (KA21.out.below hx24 KA21.out.lt); have KB24 := Lib.hid (KB21.out.below hx24 KB21.out.lt)
  clear hb24 hx24 CI Hbc HW23 HBe23 Hn21 Hq21 KA21 KB21
  have ka := KB24.out.cell 0; have kb := KB24.out.cell 1; have kc := KB24.out.cell 2
  simp only [List.getElem?_toArray, List.getElem?_cons_succ, List.getElem?_cons_zero] at ka kb kc
  go_wp2_with fail
  go_ret
  exact ⟨rfl, H24.out⟩
end Go.Proofs.YtnkcmlngoeofgaaDoor
