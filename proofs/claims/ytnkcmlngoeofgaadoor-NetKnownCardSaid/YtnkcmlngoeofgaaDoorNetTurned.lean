/- net: Raw and Turned. -/
import Derived.Test.YtnkcmlngoeofgaaDoorNetGet
import Derived.Test.YtnkcmlngoeofgaaDoorGrTurned
namespace Go.Proofs.YtnkcmlngoeofgaaDoor
open Go.RowKit
set_option maxRecDepth 100000 in
set_option maxHeartbeats 4000000 in
theorem raw_any (p : Nat) (g : Raw) (w : World) (h : NetAt w p g) (hl : g.few) : Calls Tryd.prog 39 #[.pointer (some ⟨p, 0, none⟩)] w fun e w' => ∃ v', e = .returned v' ∧ RawO w.heap.size w' v' g ∧ Below w.heap.size w w' := by
  obtain ⟨xa, xc, ya, yc, aa, ac, oa, oc, ia, ic, on, inn, c0, c1, c2, c3, c4, c5, hx, hy, ha, ho, hi⟩ := h.cells
  obtain ⟨w1, hw1⟩ : ∃ w1, w1 = w.alloc (.cells #[.int .i64 0, .slice none 0 0, .slice none 0 0, .slice none 0 0] 25) := ⟨_, rfl⟩
  have hb0 := (Below.refl w.heap.size w).alloc (Nat.le_refl _) (.cells #[.int .i64 0, .slice none 0 0, .slice none 0 0, .slice none 0 0] 25)
  have hb1 : Below w.heap.size w w1 := by rw [hw1]; exact hb0
  obtain ⟨B, hB⟩ : ∃ b, b = w.heap.size := ⟨_, rfl⟩
  have hbk : Blk w1 B #[.int .i64 0, .slice none 0 0, .slice none 0 0, .slice none 0 0] 25 (0, 0) := by rw [hw1, hB]; exact Blk.new _ _ _ _
  have hV : RawV w1 (.agg #[.int .i64 g.nodes, .slice xa g.X.length xc, .slice ya g.Y.length yc, .slice aa g.arcs.length ac]) g := ⟨_, _, _, rfl, hx.keep (KpC.of_below hb1), hy.keep (KpC.of_below hb1), ha.keep (KpC.of_below hb1)⟩
  have C := Lib.hid (own_any _ g w1 hV hl)
  have e0 := cell_later hb0 c0; have e1 := cell_later hb0 c1; have e2 := cell_later hb0 c2; have e3 := cell_later hb0 c3
  have H1 := Lib.hid hb1; have HK := Lib.hid hbk; have HW1 := Lib.hid hw1; have HBe := Lib.hid hB
  clear h hx hy ha ho hi hb1 hbk hw1 c4 c5 hb0 hV
  go_enter Tryd.func39, Tryd.ntmps39
  go_wp2_with fail
  rw [← HW1.out, ← hB]
  clear hB
  refine C.out.mono ?_
  rintro e w2 ⟨v2, rfl, ⟨vx, vy, va, rfl, o1, o2, o3, o4⟩, hb2⟩
  have bT := HK.out.below hb2 HK.out.lt
  have b0 := bT.cell 0; have b1 := bT.cell 1; have b2 := bT.cell 2; have b3 := bT.cell 3
  simp only [List.getElem?_toArray, List.getElem?_cons_succ, List.getElem?_cons_zero] at b0 b1 b2 b3
  have fr := fun i => bT.free i (Or.inr (Nat.zero_le _))
  have f0 := fr 0; have f1 := fr 1; have f2 := fr 2; have f3 := fr 3
  have hO : Own3 w1.heap.size w2 vx vy va g := ⟨o1, o2, o3, o4⟩
  have fx := o1.one'; have fy := o2.one'; have fa := o3.one'
  obtain ⟨xa, xn, xc, rfl⟩ := fx
  obtain ⟨ya, yn, yc, rfl⟩ := fy
  obtain ⟨za, zn, zc, rfl⟩ := fa
  have bZ := (((bT.set 0 (.int .i64 g.nodes)).set 1 (.slice xa xn xc)).set 2 (.slice ya yn yc)).set 3 (.slice za zn zc)
  have R2 := (((hO.set (p := ⟨B, 0, none⟩) bT (by decide) (by decide) (.int .i64 g.nodes)).set (p := ⟨B, 1, none⟩) (bT.set 0 (.int .i64 g.nodes)) (by decide) (by decide) (.slice xa xn xc)).set (p := ⟨B, 2, none⟩) ((bT.set 0 (.int .i64 g.nodes)).set 1 (.slice xa xn xc)) (by decide) (by decide) (.slice ya yn yc)).set (p := ⟨B, 3, none⟩) (((bT.set 0 (.int .i64 g.nodes)).set 1 (.slice xa xn xc)).set 2 (.slice ya yn yc)) (by decide) (by decide) (.slice za zn zc)
  have hle : w.heap.size ≤ B := by have := HBe.out; omega
  have B2 := ((((H1.out.next' hb2).setCell (p := ⟨B, 0, none⟩) hle (.int .i64 g.nodes)).setCell (p := ⟨B, 1, none⟩) hle (.slice xa xn xc)).setCell (p := ⟨B, 2, none⟩) hle (.slice ya yn yc)).setCell (p := ⟨B, 3, none⟩) hle (.slice za zn zc)
  have hsz1 := H1.out.size
  have HZ := Lib.hid bZ; have HR2 := Lib.hid R2; have HB2 := Lib.hid B2
  clear bZ R2 B2 bT hO o1 o2 o3 o4 hb2 fr C hle
  go_wp2_with fail
  generalize (((w2.setCell ⟨B, 0, none⟩ (.int .i64 g.nodes)).setCell ⟨B, 1, none⟩ (.slice xa xn xc)).setCell ⟨B, 2, none⟩ (.slice ya yn yc)).setCell ⟨B, 3, none⟩ (.slice za zn zc) = wz at *
  have z0 := HZ.out.cell 0; have z1 := HZ.out.cell 1; have z2 := HZ.out.cell 2; have z3 := HZ.out.cell 3
  change wz.cell? ⟨B, 0, none⟩ = some (.int .i64 g.nodes) at z0
  change wz.cell? ⟨B, 1, none⟩ = some (.slice xa xn xc) at z1
  change wz.cell? ⟨B, 2, none⟩ = some (.slice ya yn yc) at z2
  change wz.cell? ⟨B, 3, none⟩ = some (.slice za zn zc) at z3
  exact bodyPost_ret (v := .agg #[.int .i64 g.nodes, .slice xa xn xc, .slice ya yn yc, .slice za zn zc]) (by simp [results, Tryd.results39, go_sem, z0, z1, z2, z3]) rfl ⟨_, rfl, ⟨_, _, _, rfl, ownsRow_le HR2.out.1 hsz1, ownsRow_le HR2.out.2.1 hsz1, ownsRow_le HR2.out.2.2.1 hsz1, HR2.out.2.2.2⟩, HB2.out⟩
theorem raw_nil (w : World) : Calls Tryd.prog 39 #[.pointer none] w fun e w' => e = .returned (.agg #[.int .i64 0, .slice none 0 0, .slice none 0 0, .slice none 0 0]) ∧ Below w.heap.size w w' := by
  go_enter Tryd.func39, Tryd.ntmps39
  go_wp2_with fail
  exact bodyPost_ret (v := .agg #[.int .i64 0, .slice none 0 0, .slice none 0 0, .slice none 0 0]) (by simp [results, Tryd.results39, go_sem]) rfl ⟨rfl, (Below.refl _ _).alloc (Nat.le_refl _) _⟩
theorem turnedN_nil (w : World) : Calls Tryd.prog 31 #[.pointer none] w fun e w' => e = .returned (.pointer none) ∧ w' = w := by
  go_enter Tryd.func31, Tryd.ntmps31
  go_wp2_with fail
  go_ret
  exact ⟨rfl, rfl⟩
theorem Raw.turned_ok {g : Raw} (h : g.Ok) : g.turned.Ok := by
  refine ⟨h.nodes, h.lenX, h.lenY, h.x, h.y, by show (g.arcs.map turnA).length ≤ _; rw [List.length_map]; exact h.arcs, fun a ha => ?_⟩
  obtain ⟨b, hb, rfl⟩ := List.mem_map.1 (show a ∈ g.arcs.map turnA from ha)
  have k := h.arc b hb
  unfold arcOk at k ⊢
  unfold turnA
  simp only [] at k ⊢
  exact ⟨k.2.1, k.1, k.2.2⟩
theorem turn_step3 (L : List Ar) (k : Nat) (hk : k < L.length) : ((((L.take k).map turnA ++ L.drop k).set k (setArc 0 L[k].2.1 L[k])).set k (setArc 1 L[k].1 (setArc 0 L[k].2.1 L[k]))).set k (setArc 2 L[k].2.2 (setArc 1 L[k].1 (setArc 0 L[k].2.1 L[k]))) = (L.take (k + 1)).map turnA ++ L.drop (k + 1) := by
  rw [List.set_set, ← turn_step L k hk, List.set_set, List.set_set]
  rfl
set_option maxRecDepth 100000 in
set_option maxHeartbeats 8000000 in
theorem turnedN_any (p : Nat) (r : Raw) (w : World) (h : NetAt w p r) (hl : r.few) (hok : r.Ok) : Calls Tryd.prog 31 #[.pointer (some ⟨p, 0, none⟩)] w fun e w' => ∃ q, e = .returned (.pointer (some ⟨q, 0, none⟩)) ∧ NetB w.heap.size w' q r.turned ∧ Below w.heap.size w w' := by
  have C := Lib.hid (raw_any p r w h hl)
  have HOk := Lib.hid hok; have HL := Lib.hid hl
  clear h hok hl
  go_enter Tryd.func31, Tryd.ntmps31
  go_wp2_with fail
  refine C.out.mono ?_
  rintro e w2 ⟨v2, rfl, ⟨vx, vy, va, rfl, o1, o2, o3, o4⟩, hb2⟩
  have fx := o1.one'; have fy := o2.one'
  have fa : ∃ a c, va = .slice a r.arcs.length c ∧ (0 < r.arcs.length → ∃ g, a = some ⟨g, 0, none⟩) := by
    rcases o3.2 with ⟨h, h0⟩ | ⟨g, cap, cur, h, _⟩
    · exact ⟨_, _, by rw [h0]; exact h, fun h => by omega⟩
    · exact ⟨_, _, h, fun _ => ⟨g, rfl⟩⟩
  have hO : Own3 w.heap.size w2 vx vy va r := ⟨o1, o2, o3, o4⟩
  obtain ⟨xa, xn, xc, rfl⟩ := fx
  obtain ⟨ya, yn, yc, rfl⟩ := fy
  obtain ⟨za, zc, rfl, hza⟩ := fa
  obtain ⟨Bt, hBt⟩ : ∃ b, b = w2.heap.size := ⟨_, rfl⟩
  obtain ⟨w3, hw3⟩ : ∃ w3, w3 = w2.alloc (.cells #[.int .i64 r.nodes, .slice xa xn xc, .slice ya yn yc, .slice za r.arcs.length zc] 25) := ⟨_, rfl⟩
  have hb3 : Below w2.heap.size w2 w3 := by rw [hw3]; exact (Below.refl _ _).alloc (Nat.le_refl _) _
  have hB23 := hb2.next' hb3
  have hI : OutI w Bt (.slice xa xn xc) (.slice ya yn yc) (.slice za r.arcs.length zc) r w3 := ⟨by rw [hw3, hBt]; exact Blk.new _ _ _ _, hO.below hb3, ⟨hB23.os, hB23.tape, hB23.output, hB23.size, fun k hk _ => hB23.block k hk⟩⟩
  have HI := Lib.hid hI; have HW3 := Lib.hid hw3; have HBt := Lib.hid hBt
  have HLe : Hid (w.heap.size ≤ Bt) := Lib.hid (by rw [hBt]; exact hb2.size)
  clear hI hO o1 o2 o3 o4 hb2 hb3 hB23 hw3 C
  have hll : (r.arcs.length : Int) ≤ 1000000000000 := by have := HL.out.2.2; omega
  go_wp2_with fail
  rw [← HW3.out, ← hBt]
  clear hBt
  go_loopw [13] (fun i wr => ∃ (k : Nat), k ≤ r.arcs.length ∧ i = .int .i64 k ∧ Hid (OutI w Bt (.slice xa xn xc) (.slice ya yn yc) (.slice za r.arcs.length zc) { r with arcs := (r.arcs.take k).map turnA ++ r.arcs.drop k } wr)) (fun i _ => r.arcs.length - (intOf i).toNat)
  case atStart => exact ⟨0, by omega, rfl, Lib.hid (by simpa using HI.out)⟩
  case round =>
    clear HI
    obtain ⟨k, hk, rfl, hrel⟩ := hrel
    by_cases hlt : k < r.arcs.length
    · obtain ⟨g, rfl⟩ := hza (by omega)
      have hI := hrel.out
      have hlen : ((r.arcs.take k).map turnA ++ r.arcs.drop k).length = r.arcs.length := by rw [List.length_append, List.length_map, List.length_take, List.length_drop]; omega
      have hget : ((r.arcs.take k).map turnA ++ r.arcs.drop k)[k]'(by omega) = r.arcs[k] := by
        have hl : ((r.arcs.take k).map turnA).length = k := by rw [List.length_map, List.length_take]; omega
        rw [List.getElem_append_right (by omega)]
        simp only [hl, Nat.sub_self, List.getElem_drop, Nat.add_zero]
      have sA : SlA wr (.slice (some ⟨g, 0, none⟩) r.arcs.length zc) ((r.arcs.take k).map turnA ++ r.arcs.drop k) := slA_own rfl (by have h := hI.own.2.2.1; exact h)
      obtain ⟨bg, og, eg, d0, d1, d2⟩ := sA.at k (by omega)
      obtain ⟨rfl, rfl⟩ : g = bg ∧ 0 = og := by simpa using eg
      rw [hget] at d0 d1 d2
      rw [Nat.zero_add] at d0 d1 d2
      obtain ⟨hgb, cur, hgB⟩ := ownsRow_blk' hI.own.2.2.1 (g := g) rfl
      obtain ⟨x, hx⟩ : ∃ x, x = r.arcs[k] := ⟨_, rfl⟩
      have hst := turn_step3 r.arcs k hlt
      rw [← hx] at d0 d1 d2 hst
      obtain ⟨x0, x1, x2⟩ := x
      simp only at d0 d1 d2 hst
      have hltI : (k : Int) < (r.arcs.length : Int) := by omega
      have i1 : (0 : Int) ≤ (k : Int) := by omega
      obtain ⟨Ba, hBa⟩ : ∃ b, b = wr.heap.size := ⟨_, rfl⟩
      have hba := (Below.refl wr.heap.size wr).alloc (Nat.le_refl _) (.cells #[.int .i64 x0, .int .i64 x1, .int .i64 x2] 54)
      obtain ⟨wc, hwc⟩ : ∃ wc, wc = wr.alloc (.cells #[.int .i64 x0, .int .i64 x1, .int .i64 x2] 54) := ⟨_, rfl⟩
      have hbc : Below wr.heap.size wr wc := by rw [hwc]; exact hba
      have hIc := hI.below hbc
      have hkl : k < ((r.arcs.take k).map turnA ++ r.arcs.drop k).length := by omega
      have hI1 := hIc.setA (u := x1) hlen k 0 hkl (by omega) (o := k * 3) rfl
      have hkl2 : k < (((r.arcs.take k).map turnA ++ r.arcs.drop k).set k (setArc 0 x1 (((r.arcs.take k).map turnA ++ r.arcs.drop k)[k]'hkl))).length := by rw [List.length_set]; exact hkl
      have hI2 := hI1.setA (u := x0) ((List.length_set ..).trans hlen) k 1 hkl2 (by omega) (o := k * 3 + 1) rfl
      have hkl3 : k < ((((r.arcs.take k).map turnA ++ r.arcs.drop k).set k (setArc 0 x1 (((r.arcs.take k).map turnA ++ r.arcs.drop k)[k]'hkl))).set k (setArc 1 x0 ((((r.arcs.take k).map turnA ++ r.arcs.drop k).set k (setArc 0 x1 (((r.arcs.take k).map turnA ++ r.arcs.drop k)[k]'hkl)))[k]'hkl2))).length := by rw [List.length_set]; exact hkl2
      have hI3 := hI2.setA (u := x2) ((List.length_set ..).trans ((List.length_set ..).trans hlen)) k 2 hkl3 (by omega) (o := k * 3 + 2) rfl
      simp only [List.getElem_set_self, hget, ← hx] at hI3
      rw [hst] at hI3
      have g0 := (hgB.below hba hgB.lt).free (k * 3) (Or.inr (Nat.zero_le _)); have g1 := (hgB.below hba hgB.lt).free (k * 3 + 1) (Or.inr (Nat.zero_le _)); have g2 := (hgB.below hba hgB.lt).free (k * 3 + 2) (Or.inr (Nat.zero_le _))
      have e0 := cell_later hba d0; have e1 := cell_later hba d1; have e2 := cell_later hba d2
      have c3 : wr.cell? ⟨Bt, 3, none⟩ = some (.slice (some ⟨g, 0, none⟩) r.arcs.length zc) := hI.blk.cell 3
      have o3 := cell_later hba c3
      have HI3 := Lib.hid hI3; have HWc := Lib.hid hwc
      clear hrel hI hlen hget sA eg hgB hst hx hbc hIc hI1 hI2 hI3 hkl hkl2 hkl3 hwc hgb hba hBa
      go_wp2_with fail
      rw [← HWc.out]
      go_roundw
      case rel => exact ⟨k + 1, by omega, by go_num, Lib.hid HI3.out⟩
      case measure => simp [intOf]; omega
    · obtain rfl : k = r.arcs.length := by omega
      have hI := hrel.out
      have he : (r.arcs.take r.arcs.length).map turnA ++ r.arcs.drop r.arcs.length = r.arcs.map turnA := by simp
      rw [he] at hI
      have bO := hI.blk
      have c0 := bO.cell 0; have c1 := bO.cell 1; have c2 := bO.cell 2; have c3 := bO.cell 3
      change wr.cell? ⟨Bt, 0, none⟩ = some (.int .i64 r.nodes) at c0
      change wr.cell? ⟨Bt, 1, none⟩ = some (.slice xa xn xc) at c1
      change wr.cell? ⟨Bt, 2, none⟩ = some (.slice ya yn yc) at c2
      change wr.cell? ⟨Bt, 3, none⟩ = some (.slice za r.arcs.length zc) at c3
      have hraw : RawO w.heap.size wr (.agg #[.int .i64 r.nodes, .slice xa xn xc, .slice ya yn yc, .slice za r.arcs.length zc]) r.turned := hI.raw
      have hbw : Below w.heap.size w wr := below_of (Below.refl _ _) hI.kept HLe.out
      have C2 := Lib.hid (of_any _ _ w.heap.size wr hraw (Raw.turned_ok HOk.out) hbw.size)
      have HBw := Lib.hid hbw
      clear hI hrel he bO hraw hbw
      go_wp2_with fail
      refine C2.out.mono ?_
      rintro e w4 ⟨q, rfl, hn, hb4⟩
      have HN := Lib.hid hn; have HB4 := Lib.hid (HBw.out.next' hb4)
      clear hn hb4
      go_wp2_with fail
      go_ret
      exact ⟨_, rfl, HN.out, HB4.out⟩
end Go.Proofs.YtnkcmlngoeofgaaDoor
