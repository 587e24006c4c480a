/- GraphKnown: the chapter's examples; limits; what is looked at ahead of what. -/
import Derived.Test.YtnkcmlngoeofgaaDoorGrMoved
import Derived.Test.YtnkcmlngoeofgaaDoorGrWorks
import Derived.Test.YtnkcmlngoeofgaaDoorGrSame
namespace Go.Proofs.YtnkcmlngoeofgaaDoor
open Go.RowKit
theorem known_moved {r' : Raw} (h : MovedTo (-1) ⟨2, [2147483647, -2147483648], [2147483647, -2147483648], [(1, 1, 2147483647), (0, 0, 0)]⟩ r') :
    r' = ⟨2, [-2147483648, 2147483647], [-2147483648, 2147483647], [(0, 0, 2147483647), (1, 1, 0)]⟩ := by
  obtain ⟨h1, h2, h3, h4, h5, h6⟩ := h
  obtain ⟨n, X, Y, L⟩ := r'
  simp only at h1 h2 h3 h4 h5 h6
  have x1 := h4 0 (by decide); have x2 := h4 1 (by decide)
  have y1 := h5 0 (by decide); have y2 := h5 1 (by decide)
  have e0 : (mvI 2 (-1) ((0 : Nat) : Int)).toNat = 1 := by decide
  have e1 : (mvI 2 (-1) ((1 : Nat) : Int)).toNat = 0 := by decide
  rw [e0] at x1 y1; rw [e1] at x2 y2
  match X, h2 with
  | [a, b], _ =>
    match Y, h3 with
    | [c, d], _ =>
      simp only [List.getElem?_cons_succ, List.getElem?_cons_zero, Option.some.injEq] at x1 x2 y1 y2
      rw [h1, x1, x2, y1, y2, h6]
      rfl
theorem ownsRow_new {w : World} {base : Nat} {e : TypeId} {size : Nat} {v : Value} {n : Nat} {xs : List Value} (h : w.ownsRow base e size v n xs) (hn : 0 < n) : ∃ g c, v = .slice (some ⟨g, 0, none⟩) n c ∧ ∀ j u, xs[j]? = some u → w.cell? ⟨g, j, none⟩ = some u := by
  obtain ⟨g, c, hv, _, _⟩ := h.form hn
  subst hv
  refine ⟨g, c, rfl, fun j u hu => ?_⟩
  rw [h.cellAt j (by have h1 := h.1; have h2 := (List.getElem?_eq_some_iff.1 hu).1; omega)]; exact hu
set_option maxRecDepth 100000 in
set_option maxHeartbeats 16000000 in
theorem known_all (w : World) (hg : HG w) : Calls Tryd.prog 6 #[] w fun e w' => e = .returned (.bool true) ∧ Below w.heap.size w w' := by
  obtain ⟨wa, hwa⟩ : ∃ wa, wa = ((w.alloc (.cells #[.int .i64 2147483647, .int .i64 (-2147483648)] 2)).alloc (.cells #[.int .i64 (-2147483649), .int .i64 0] 2)).alloc (.cells #[.int .i64 1, .int .i64 1, .int .i64 2147483647, .int .i64 0, .int .i64 0, .int .i64 0] 54) := ⟨_, rfl⟩
  have B1 : Blk wa w.heap.size #[.int .i64 2147483647, .int .i64 (-2147483648)] 2 (0, 0) := by rw [hwa]; exact ((Blk.new _ _ _ _).alloc _).alloc _
  have B2 : Blk wa (w.heap.size + 1) #[.int .i64 (-2147483649), .int .i64 0] 2 (0, 0) := by
    rw [hwa]
    have h := Blk.new (w.alloc (.cells #[.int .i64 2147483647, .int .i64 (-2147483648)] 2)) #[.int .i64 (-2147483649), .int .i64 0] 2 (0, 0)
    rw [World.size_alloc] at h
    exact h.alloc _
  have B3 : Blk wa (w.heap.size + 1 + 1) #[.int .i64 1, .int .i64 1, .int .i64 2147483647, .int .i64 0, .int .i64 0, .int .i64 0] 54 (0, 0) := by
    rw [hwa]
    have h := Blk.new ((w.alloc (.cells #[.int .i64 2147483647, .int .i64 (-2147483648)] 2)).alloc (.cells #[.int .i64 (-2147483649), .int .i64 0] 2)) #[.int .i64 1, .int .i64 1, .int .i64 2147483647, .int .i64 0, .int .i64 0, .int .i64 0] 54 (0, 0)
    rw [World.size_alloc, World.size_alloc] at h
    exact h
  have hba : Below w.heap.size w wa := by rw [hwa]; exact (((Below.refl _ _).alloc (Nat.le_refl _) _).alloc (by simp) _).alloc (by simp; omega) _
  have hsz : wa.heap.size = w.heap.size + 1 + 1 + 1 := by rw [hwa]; simp
  obtain ⟨F, hF⟩ : ∃ F, F = w.heap.size := ⟨_, rfl⟩
  obtain ⟨Le, hLe⟩ : ∃ F, F = w.heap.size + 1 := ⟨_, rfl⟩
  obtain ⟨Ar, hAr⟩ : ∃ F, F = w.heap.size + 1 + 1 := ⟨_, rfl⟩
  rw [← hF] at B1; rw [← hLe] at B2; rw [← hAr] at B3
  obtain ⟨wb, hwb⟩ : ∃ wb, wb = wa.alloc (.cells #[.int .i64 2, .slice (some ⟨F, 0, none⟩) 2 2, .slice (some ⟨F, 0, none⟩) 2 2, .slice (some ⟨Ar, 0, none⟩) 2 2] 25) := ⟨_, rfl⟩
  obtain ⟨T, hT⟩ : ∃ T, T = wa.heap.size := ⟨_, rfl⟩
  have hbab : Below wa.heap.size wa wb := by rw [hwb]; exact (Below.refl _ _).alloc (Nat.le_refl _) _
  have BT : Blk wb T #[.int .i64 2, .slice (some ⟨F, 0, none⟩) 2 2, .slice (some ⟨F, 0, none⟩) 2 2, .slice (some ⟨Ar, 0, none⟩) 2 2] 25 (0, 0) := by rw [hwb, hT]; exact Blk.new _ _ _ _
  have SF : SlX wb (.slice (some ⟨F, 0, none⟩) 2 2) [2147483647, -2147483648] := (slX_new (L := [2147483647, -2147483648]) B1 rfl rfl (by decide)).keep (KpC.of_below hbab)
  have SL : SlX wb (.slice (some ⟨Le, 0, none⟩) 2 2) [-2147483649, 0] := (slX_new (L := [-2147483649, 0]) B2 rfl rfl (by decide)).keep (KpC.of_below hbab)
  have SA : SlA wb (.slice (some ⟨Ar, 0, none⟩) 2 2) [(1, 1, 2147483647), (0, 0, 0)] := (slA_new (L := [(1, 1, 2147483647), (0, 0, 0)]) B3 rfl rfl (by decide)).keep (KpC.of_below hbab)
  have hX : ∀ u, Below wb.heap.size wb u → SlX u (.slice (some ⟨F, 0, none⟩) 2 2) [2147483647, -2147483648] := fun u hu => SF.keep (KpC.of_below hu)
  have hXL : ∀ u, Below wb.heap.size wb u → SlX u (.slice (some ⟨Le, 0, none⟩) 2 2) [-2147483649, 0] := fun u hu => SL.keep (KpC.of_below hu)
  have hTw : ∀ u, Below wb.heap.size wb u → RawV u (.agg #[.int .i64 2, .slice (some ⟨F, 0, none⟩) 2 2, .slice (some ⟨F, 0, none⟩) 2 2, .slice (some ⟨Ar, 0, none⟩) 2 2]) ⟨2, [2147483647, -2147483648], [2147483647, -2147483648], [(1, 1, 2147483647), (0, 0, 0)]⟩ := fun u hu => ⟨_, _, _, rfl, hX u hu, hX u hu, SA.keep (KpC.of_below hu)⟩
  have hbw := hba.next' hbab
  have HX := Lib.hid hX; have HXL := Lib.hid hXL; have HTw := Lib.hid hTw; have HBT := Lib.hid BT; have HBw := Lib.hid hbw; have HG0 := Lib.hid hg
  have HWa := Lib.hid hwa; have HWb := Lib.hid hwb; have HF := Lib.hid hF; have HLe := Lib.hid hLe; have HAr := Lib.hid hAr; have HT : Hid (T = w.heap.size + 1 + 1 + 1) := Lib.hid (hT.trans hsz)
  clear hX hXL hTw BT hbw hg hwa hwb hF hLe hAr hT B1 B2 B3 hba hsz hbab SF SL SA
  go_enter Tryd.func6, Tryd.ntmps6
  go_wp2_with fail
  rw [← HWa.out, ← HT.out, ← HAr.out, ← HLe.out, ← HF.out, ← HWb.out]
  clear HWa HWb HF HLe HAr HT
  refine (check_raw _ ⟨2, [2147483647, -2147483648], [2147483647, -2147483648], [(1, 1, 2147483647), (0, 0, 0)]⟩ wb (HTw.out wb (Below.refl _ _))).mono ?_
  rintro e w1 ⟨u, rfl, hi, hb1⟩
  rcases hi.form with ⟨rfl, _⟩ | ⟨_, h⟩
  case inr => exact (h (by decide)).elim
  have H1 := Lib.hid hb1
  clear hi hb1
  go_wp2_with fail
  refine (fails_any _ ⟨2, [-2147483649, 0], [2147483647, -2147483648], []⟩ w1 7 2 0 0 (HG0.out.later (HBw.out.next' H1.out)) ⟨_, _, _, rfl, HXL.out _ H1.out, HX.out _ H1.out, slA_nil _⟩ (by decide)).mono ?_
  rintro e w2 ⟨rfl, hb2⟩
  have H2 := Lib.hid (H1.out.next' hb2)
  clear hb2
  go_wp2_with fail
  refine (fails_any _ ⟨16777216, [], [], []⟩ w2 6 1 0 0 (HG0.out.later (HBw.out.next' H2.out)) ⟨_, _, _, rfl, slX_nil _, slX_nil _, slA_nil _⟩ (by decide)).mono ?_
  rintro e w3 ⟨rfl, hb3⟩
  have H3 := Lib.hid (H2.out.next' hb3)
  clear hb3
  go_wp2_with fail
  refine (fails_any _ ⟨16777217, [], [], []⟩ w3 5 0 0 0 (HG0.out.later (HBw.out.next' H3.out)) ⟨_, _, _, rfl, slX_nil _, slX_nil _, slA_nil _⟩ (by decide)).mono ?_
  rintro e w4 ⟨rfl, hb4⟩
  have H4 := Lib.hid (H3.out.next' hb4)
  clear hb4
  go_wp2_with fail
  refine (fails_any _ ⟨-9223372036854775808, [], [], []⟩ w4 5 0 0 0 (HG0.out.later (HBw.out.next' H4.out)) ⟨_, _, _, rfl, slX_nil _, slX_nil _, slA_nil _⟩ (by decide)).mono ?_
  rintro e w5 ⟨rfl, hb5⟩
  have H5 := Lib.hid (H4.out.next' hb5)
  clear hb5
  go_wp2_with fail
  refine (fails_any _ ⟨2, [2147483647, -2147483648], [], []⟩ w5 6 1 0 1 (HG0.out.later (HBw.out.next' H5.out)) ⟨_, _, _, rfl, HX.out _ H5.out, slX_nil _, slA_nil _⟩ (by decide)).mono ?_
  rintro e w6 ⟨rfl, hb6⟩
  have H6 := Lib.hid (H5.out.next' hb6)
  clear hb6
  have bt := HBT.out.below H6.out HBT.out.lt
  have t0 := bt.cell 0; have t1 := bt.cell 1; have t2 := bt.cell 2; have t3 := bt.cell 3
  simp only [List.getElem?_toArray, List.getElem?_cons_succ, List.getElem?_cons_zero] at t0 t1 t2 t3
  clear bt
  go_wp2_with fail
  refine (moved_any _ ⟨2, [2147483647, -2147483648], [2147483647, -2147483648], [(1, 1, 2147483647), (0, 0, 0)]⟩ (-1) w6 (HTw.out w6 H6.out) (by unfold Raw.few; decide)).mono ?_
  rintro e w7 ⟨v7, r7, rfl, ho7, _, hm7, hb7⟩
  obtain rfl := known_moved (hm7 (by unfold Raw.ok; decide))
  obtain ⟨mx, my, ma, rfl, o1, o2, o3, _⟩ := id ho7
  obtain ⟨gx, cx, rfl, fx⟩ := ownsRow_new o1 (by decide)
  obtain ⟨gy, cy, rfl, _⟩ := ownsRow_new o2 (by decide)
  obtain ⟨gz, cz, rfl, fz⟩ := ownsRow_new o3 (by decide)
  have H7 := Lib.hid (H6.out.next' hb7)
  have hal := (Below.refl w7.heap.size w7).alloc (Nat.le_refl _) (.cells #[.int .i64 2, .slice (some ⟨gx, 0, none⟩) 2 cx, .slice (some ⟨gy, 0, none⟩) 2 cy, .slice (some ⟨gz, 0, none⟩) 2 cz] 25)
  have d0 := cell_later hal (fx 0 _ rfl)
  have d1 := cell_later hal (fz 0 _ rfl)
  have d2 := cell_later hal (fz 4 _ rfl)
  have bt := (HBT.out.below H7.out HBT.out.lt).below hal (HBT.out.below H7.out HBT.out.lt).lt
  have HO7 := Lib.hid (ho7.raw.below hal)
  obtain ⟨w8, hw8⟩ : ∃ w8, w8 = w7.alloc (.cells #[.int .i64 2, .slice (some ⟨gx, 0, none⟩) 2 cx, .slice (some ⟨gy, 0, none⟩) 2 cy, .slice (some ⟨gz, 0, none⟩) 2 cz] 25) := ⟨_, rfl⟩
  obtain ⟨T5, hT5⟩ : ∃ b, b = w7.heap.size := ⟨_, rfl⟩
  have BT5 : Blk w8 T5 #[.int .i64 2, .slice (some ⟨gx, 0, none⟩) 2 cx, .slice (some ⟨gy, 0, none⟩) 2 cy, .slice (some ⟨gz, 0, none⟩) 2 cz] 25 (0, 0) := by rw [hw8, hT5]; exact Blk.new _ _ _ _
  have H8 : Hid (Below wb.heap.size wb w8) := Lib.hid (by rw [hw8]; exact H7.out.next' hal)
  have HW8 := Lib.hid hw8; have HBT5 := Lib.hid BT5; have HT5 := Lib.hid hT5
  rw [← hw8] at HO7 bt
  have HBt8 := Lib.hid bt
  clear ho7 hm7 o1 o2 o3 fx fz hb7 hal t0 t1 t2 t3 hw8 BT5 bt hT5
  go_wp2_with fail
  rw [← HT5.out, ← HW8.out]
  clear HT5
  refine (moved_any _ ⟨5, [], [], []⟩ 1 w8 ⟨_, _, _, rfl, slX_nil _, slX_nil _, slA_nil _⟩ (by unfold Raw.few; decide)).mono ?_
  rintro e w9 ⟨v9, r9, rfl, ho9, hn9, _, hb9⟩
  obtain rfl := hn9 (by unfold Raw.ok; decide)
  have H9 := Lib.hid (H8.out.next' hb9)
  have HO9 := Lib.hid ho9.raw
  obtain ⟨_, _, _, rfl, p1, p2, p3⟩ := id HO9.out
  obtain ⟨_, _, _, rfl⟩ := p1.form
  obtain ⟨_, _, _, rfl⟩ := p2.form
  obtain ⟨_, _, _, rfl⟩ := p3.form
  have HT9 := Lib.hid (HBt8.out.below hb9 HBt8.out.lt); have HM9 := Lib.hid (HBT5.out.below hb9 HBT5.out.lt)
  have HOm := Lib.hid (HO7.out.below hb9)
  clear ho9 hn9 hb9 d0 d1 d2 p1 p2 p3 HBt8 HBT5
  go_wp2_with fail
  refine (same_any _ _ _ ⟨5, [], [], []⟩ w9 HO9.out ⟨_, _, _, rfl, slX_nil _, slX_nil _, slA_nil _⟩).mono ?_
  rintro e wA ⟨rfl, hbA⟩
  rw [show sameB ⟨5, [], [], []⟩ ⟨5, [], [], []⟩ = true by decide]
  have HA := Lib.hid (H9.out.next' hbA)
  have HOmA := Lib.hid (HOm.out.below hbA)
  have bt := HT9.out.below hbA HT9.out.lt; have bm := HM9.out.below hbA HM9.out.lt
  have t0 := bt.cell 0; have t1 := bt.cell 1; have t2 := bt.cell 2; have t3 := bt.cell 3
  have m0 := bm.cell 0; have m1 := bm.cell 1; have m2 := bm.cell 2; have m3 := bm.cell 3
  simp only [List.getElem?_toArray, List.getElem?_cons_succ, List.getElem?_cons_zero] at t0 t1 t2 t3 m0 m1 m2 m3
  have HTA := Lib.hid bt
  clear hbA bt bm HT9 HM9 HOm HO9
  go_wp2_with fail
  refine (same_any _ _ ⟨2, [2147483647, -2147483648], [2147483647, -2147483648], [(1, 1, 2147483647), (0, 0, 0)]⟩ ⟨2, [-2147483648, 2147483647], [-2147483648, 2147483647], [(0, 0, 2147483647), (1, 1, 0)]⟩ wA (HTw.out _ HA.out) HOmA.out).mono ?_
  rintro e wB ⟨rfl, hbB⟩
  rw [show sameB ⟨2, [2147483647, -2147483648], [2147483647, -2147483648], [(1, 1, 2147483647), (0, 0, 0)]⟩ ⟨2, [-2147483648, 2147483647], [-2147483648, 2147483647], [(0, 0, 2147483647), (1, 1, 0)]⟩ = false by decide]
  have HB := Lib.hid (HA.out.next' hbB)
  have bt := HTA.out.below hbB HTA.out.lt
  clear t0 t1 t2 t3 m0 m1 m2 m3
  have t0 := bt.cell 0; have t1 := bt.cell 1; have t2 := bt.cell 2; have t3 := bt.cell 3
  simp only [List.getElem?_toArray, List.getElem?_cons_succ, List.getElem?_cons_zero] at t0 t1 t2 t3
  clear hbB bt HTA HOmA
  go_wp2_with fail
  refine (same_any _ _ ⟨2, [2147483647, -2147483648], [2147483647, -2147483648], [(1, 1, 2147483647), (0, 0, 0)]⟩ ⟨2, [2147483647, -2147483648], [2147483647, -2147483648], []⟩ wB (HTw.out _ HB.out) ⟨_, _, _, rfl, HX.out _ HB.out, HX.out _ HB.out, slA_nil _⟩).mono ?_
  rintro e wC ⟨rfl, hbC⟩
  rw [show sameB ⟨2, [2147483647, -2147483648], [2147483647, -2147483648], [(1, 1, 2147483647), (0, 0, 0)]⟩ ⟨2, [2147483647, -2147483648], [2147483647, -2147483648], []⟩ = false by decide]
  have HC := Lib.hid (HB.out.next' hbC)
  clear hbC t0 t1 t2 t3
  obtain ⟨wD, hwD⟩ : ∃ wD, wD = wC.alloc (.cells #[] 2) := ⟨_, rfl⟩
  have hbD : Below wC.heap.size wC wD := by rw [hwD]; exact (Below.refl _ _).alloc (Nat.le_refl _) _
  have HD := Lib.hid (HC.out.next' hbD)
  have HWD := Lib.hid hwD
  clear hwD hbD
  go_wp2_with fail
  rw [← HWD.out]
  refine (same_any _ _ ⟨0, [], [], []⟩ ⟨0, [], [], []⟩ wD ⟨_, _, _, rfl, ⟨_, _, rfl, Nat.le_refl _, Nat.zero_le _, fun i hi => by cases hi⟩, slX_nil _, slA_nil _⟩ ⟨_, _, _, rfl, slX_nil _, slX_nil _, slA_nil _⟩).mono ?_
  rintro e wE ⟨rfl, hbE⟩
  rw [show sameB ⟨0, [], [], []⟩ ⟨0, [], [], []⟩ = true by decide]
  obtain ⟨wF, hwF⟩ : ∃ wF, wF = wE.alloc (.cells #[.int .i64 (-4), .int .i64 9, .int .i64 (-1)] 54) := ⟨_, rfl⟩
  have hbF : Below wE.heap.size wE wF := by rw [hwF]; exact (Below.refl _ _).alloc (Nat.le_refl _) _
  have BF : Blk wF wE.heap.size #[.int .i64 (-4), .int .i64 9, .int .i64 (-1)] 54 (0, 0) := by rw [hwF]; exact Blk.new _ _ _ _
  have HE := Lib.hid ((HD.out.next' hbE).next' hbF)
  have CT := Lib.hid (turned_any _ ⟨0, [], [], [(-4, 9, -1)]⟩ wF ⟨_, _, _, rfl, slX_nil _, slX_nil _, slA_new (L := [(-4, 9, -1)]) BF rfl rfl (by decide)⟩ (by unfold Raw.few; decide))
  rw [show (⟨0, [], [], [(-4, 9, -1)]⟩ : Raw).turned = ⟨0, [], [], [(9, -4, -1)]⟩ from rfl] at CT
  have HWF := Lib.hid hwF
  clear hbE hwF hbF BF
  go_wp2_with fail
  rw [← HWF.out]
  refine CT.out.mono ?_
  rintro e wG ⟨vG, rfl, ⟨tx, ty, ta, rfl, o1, o2, o3, _⟩, hbG⟩
  obtain ⟨xa, xn, xc, rfl⟩ := o1.one'
  obtain ⟨ya, yn, yc, rfl⟩ := o2.one'
  obtain ⟨gt, ct, rfl, ft⟩ := ownsRow_new o3 (by decide)
  have HG7 := Lib.hid (HE.out.next' hbG)
  have hal := (Below.refl wG.heap.size wG).alloc (Nat.le_refl _) (.cells #[.int .i64 0, .slice xa xn xc, .slice ya yn yc, .slice (some ⟨gt, 0, none⟩) 1 ct] 25)
  obtain ⟨wH, hwH⟩ : ∃ wH, wH = wG.alloc (.cells #[.int .i64 0, .slice xa xn xc, .slice ya yn yc, .slice (some ⟨gt, 0, none⟩) 1 ct] 25) := ⟨_, rfl⟩
  obtain ⟨T7, hT7⟩ : ∃ b, b = wG.heap.size := ⟨_, rfl⟩
  rw [← hwH] at hal
  have BT7 : Blk wH T7 #[.int .i64 0, .slice xa xn xc, .slice ya yn yc, .slice (some ⟨gt, 0, none⟩) 1 ct] 25 (0, 0) := by rw [hwH, hT7]; exact Blk.new _ _ _ _
  have g0 := cell_later hal (ft 0 _ rfl); have g1 := cell_later hal (ft 1 _ rfl); have g2 := cell_later hal (ft 2 _ rfl)
  have HH := Lib.hid (HG7.out.next' hal)
  have CW := Lib.hid (works_any wH (HG0.out.later (HBw.out.next' HH.out)))
  have HWH := Lib.hid hwH; have HBT7 := Lib.hid BT7; have HT7 := Lib.hid hT7
  clear o1 o2 o3 ft hbG hal hwH BT7 hT7
  go_wp2_with fail
  rw [← HT7.out, ← HWH.out]
  clear HT7
  refine CW.out.mono ?_
  rintro e wI ⟨rfl, hbI⟩
  have bt := HBT7.out.below hbI HBT7.out.lt
  have t3 := bt.cell 3
  simp only [List.getElem?_toArray, List.getElem?_cons_succ, List.getElem?_cons_zero] at t3
  have k0 := cell_later hbI g0; have k1 := cell_later hbI g1; have k2 := cell_later hbI g2
  have HI := Lib.hid (HBw.out.next' (HH.out.next' hbI))
  clear hbI bt g0 g1 g2
  go_wp2_with fail
  go_ret
  exact ⟨rfl, HI.out⟩
end Go.Proofs.YtnkcmlngoeofgaaDoor
