/- Texts of the law NetOnce, merged: NetTurned, GrWorks, NetSmall, NetWorks, NetDraft, NetWeight, NetDrI. -/
import Derived.Test.YtnkcmlngoeofgaaDoorPNetOnce07
import Derived.Test.YtnkcmlngoeofgaaDoorPNetOnce03
import Derived.Test.YtnkcmlngoeofgaaDoorPNetOnce05
import Derived.BigQuiet
import Derived.Deep.QuietTactic
import Derived.WalkSmall
import Derived.Test.YtnkcmlngoeofgaaDoorPNetOnce02
/- net: Raw and Turned. -/
namespace Go.Proofs.YtnkcmlngoeofgaaDoor
open Go.RowKit
set_option maxRecDepth 100000 in
set_option maxHeartbeats 4000000 in
theorem raw_any (p : Nat) (g : Raw) (w : World) (h : NetAt w p g) (hl : g.few) : Calls Tryd.prog 39 #[.pointer (some ⟨p, 0, none⟩)] w fun e w' => ∃ v', e = .returned v' ∧ RawO w.heap.size w' v' g ∧ Below w.heap.size w w' := by
  obtain ⟨xa, xc, ya, yc, aa, ac, oa, oc, ia, ic, on, inn, c0, c1, c2, c3, c4, c5, hx, hy, ha, ho, hi⟩ := h.cells
  obtain ⟨w1, hw1⟩ : ∃ w1, w1 = w.alloc (.cells #[.int .i64 0, .slice none 0 0, .slice none 0 0, .slice none 0 0] 25) := ⟨_, rfl⟩
  have hb0 := (Below.refl w.heap.size w).alloc (Nat.le_refl _) (.cells #[.int .i64 0, .slice none 0 0, .slice none 0 0, .slice none 0 0] 25)
  have hb1 : Below w.heap.size w w1 := by rw [hw1]; exact hb0
  obtain ⟨B, hB⟩ : ∃ b, b = w.heap.size := ⟨_, rfl⟩
  have hbk : Blk w1 B #[.int .i64 0, .slice none 0 0, .slice none 0 0, .slice none 0 0] 25 (0, 0) := by rw [hw1, hB]; exact Blk.new _ _ _ _
  have hV : RawV w1 (.agg #[.int .i64 g.nodes, .slice xa g.X.length xc, .slice ya g.Y.length yc, .slice aa g.arcs.length ac]) g := ⟨_, _, _, rfl, hx.keep (KpC.of_below hb1), hy.keep (KpC.of_below hb1), ha.keep (KpC.of_below hb1)⟩
  have C := Lib.hid (own_any _ g w1 hV hl)
  have e0 := cell_later hb0 c0; have e1 := cell_later hb0 c1; have e2 := cell_later hb0 c2; have e3 := cell_later hb0 c3
  have H1 := Lib.hid hb1; have HK := Lib.hid hbk; have HW1 := Lib.hid hw1; have HBe := Lib.hid hB
  clear h hx hy ha ho hi hb1 hbk hw1 c4 c5 hb0 hV
  go_enter Tryd.func39, Tryd.ntmps39
  go_wp2_with fail
  rw [← HW1.out, ← hB]
  clear hB
  refine C.out.mono ?_
  rintro e w2 ⟨v2, rfl, ⟨vx, vy, va, rfl, o1, o2, o3, o4⟩, hb2⟩
  have bT := HK.out.below hb2 HK.out.lt
  have b0 := bT.cell 0; have b1 := bT.cell 1; have b2 := bT.cell 2; have b3 := bT.cell 3
  simp only [List.getElem?_toArray, List.getElem?_cons_succ, List.getElem?_cons_zero] at b0 b1 b2 b3
  have fr := fun i => bT.free i (Or.inr (Nat.zero_le _))
  have f0 := fr 0; have f1 := fr 1; have f2 := fr 2; have f3 := fr 3
  have hO : Own3 w1.heap.size w2 vx vy va g := ⟨o1, o2, o3, o4⟩
  have fx := o1.one'; have fy := o2.one'; have fa := o3.one'
  obtain ⟨xa, xn, xc, rfl⟩ := fx
  obtain ⟨ya, yn, yc, rfl⟩ := fy
  obtain ⟨za, zn, zc, rfl⟩ := fa
  have bZ := (((bT.set 0 (.int .i64 g.nodes)).set 1 (.slice xa xn xc)).set 2 (.slice ya yn yc)).set 3 (.slice za zn zc)
  have R2 := (((hO.set (p := ⟨B, 0, none⟩) bT (by decide) (by decide) (.int .i64 g.nodes)).set (p := ⟨B, 1, none⟩) (bT.set 0 (.int .i64 g.nodes)) (by decide) (by decide) (.slice xa xn xc)).set (p := ⟨B, 2, none⟩) ((bT.set 0 (.int .i64 g.nodes)).set 1 (.slice xa xn xc)) (by decide) (by decide) (.slice ya yn yc)).set (p := ⟨B, 3, none⟩) (((bT.set 0 (.int .i64 g.nodes)).set 1 (.slice xa xn xc)).set 2 (.slice ya yn yc)) (by decide) (by decide) (.slice za zn zc)
  have hle : w.heap.size ≤ B := by have := HBe.out; omega
  have B2 := ((((H1.out.next' hb2).setCell (p := ⟨B, 0, none⟩) hle (.int .i64 g.nodes)).setCell (p := ⟨B, 1, none⟩) hle (.slice xa xn xc)).setCell (p := ⟨B, 2, none⟩) hle (.slice ya yn yc)).setCell (p := ⟨B, 3, none⟩) hle (.slice za zn zc)
  have hsz1 := H1.out.size
  have HZ := Lib.hid bZ; have HR2 := Lib.hid R2; have HB2 := Lib.hid B2
  clear bZ R2 B2 bT hO o1 o2 o3 o4 hb2 fr C hle
  go_wp2_with fail
  generalize (((w2.setCell ⟨B, 0, none⟩ (.int .i64 g.nodes)).setCell ⟨B, 1, none⟩ (.slice xa xn xc)).setCell ⟨B, 2, none⟩ (.slice ya yn yc)).setCell ⟨B, 3, none⟩ (.slice za zn zc) = wz at *
  have z0 := HZ.out.cell 0; have z1 := HZ.out.cell 1; have z2 := HZ.out.cell 2; have z3 := HZ.out.cell 3
  change wz.cell? ⟨B, 0, none⟩ = some (.int .i64 g.nodes) at z0
  change wz.cell? ⟨B, 1, none⟩ = some (.slice xa xn xc) at z1
  change wz.cell? ⟨B, 2, none⟩ = some (.slice ya yn yc) at z2
  change wz.cell? ⟨B, 3, none⟩ = some (.slice za zn zc) at z3
  exact bodyPost_ret (v := .agg #[.int .i64 g.nodes, .slice xa xn xc, .slice ya yn yc, .slice za zn zc]) (by simp [results, Tryd.results39, go_sem, z0, z1, z2, z3]) rfl ⟨_, rfl, ⟨_, _, _, rfl, ownsRow_le HR2.out.1 hsz1, ownsRow_le HR2.out.2.1 hsz1, ownsRow_le HR2.out.2.2.1 hsz1, HR2.out.2.2.2⟩, HB2.out⟩
theorem raw_nil (w : World) : Calls Tryd.prog 39 #[.pointer none] w fun e w' => e = .returned (.agg #[.int .i64 0, .slice none 0 0, .slice none 0 0, .slice none 0 0]) ∧ Below w.heap.size w w' := by
  go_enter Tryd.func39, Tryd.ntmps39
  go_wp2_with fail
  exact bodyPost_ret (v := .agg #[.int .i64 0, .slice none 0 0, .slice none 0 0, .slice none 0 0]) (by simp [results, Tryd.results39, go_sem]) rfl ⟨rfl, (Below.refl _ _).alloc (Nat.le_refl _) _⟩
theorem turnedN_nil (w : World) : Calls Tryd.prog 31 #[.pointer none] w fun e w' => e = .returned (.pointer none) ∧ w' = w := by
  go_enter Tryd.func31, Tryd.ntmps31
  go_wp2_with fail
  go_ret
  exact ⟨rfl, rfl⟩
theorem Raw.turned_ok {g : Raw} (h : g.Ok) : g.turned.Ok := by
  refine ⟨h.nodes, h.lenX, h.lenY, h.x, h.y, by show (g.arcs.map turnA).length ≤ _; rw [List.length_map]; exact h.arcs, fun a ha => ?_⟩
  obtain ⟨b, hb, rfl⟩ := List.mem_map.1 (show a ∈ g.arcs.map turnA from ha)
  have k := h.arc b hb
  unfold arcOk at k ⊢
  unfold turnA
  simp only [] at k ⊢
  exact ⟨k.2.1, k.1, k.2.2⟩
theorem turn_step3 (L : List Ar) (k : Nat) (hk : k < L.length) : ((((L.take k).map turnA ++ L.drop k).set k (setArc 0 L[k].2.1 L[k])).set k (setArc 1 L[k].1 (setArc 0 L[k].2.1 L[k]))).set k (setArc 2 L[k].2.2 (setArc 1 L[k].1 (setArc 0 L[k].2.1 L[k]))) = (L.take (k + 1)).map turnA ++ L.drop (k + 1) := by
  rw [List.set_set, ← turn_step L k hk, List.set_set, List.set_set]
  rfl
set_option maxRecDepth 100000 in
set_option maxHeartbeats 8000000 in
theorem turnedN_any (p : Nat) (r : Raw) (w : World) (h : NetAt w p r) (hl : r.few) (hok : r.Ok) : Calls Tryd.prog 31 #[.pointer (some ⟨p, 0, none⟩)] w fun e w' => ∃ q, e = .returned (.pointer (some ⟨q, 0, none⟩)) ∧ NetB w.heap.size w' q r.turned ∧ Below w.heap.size w w' := by
  have C := Lib.hid (raw_any p r w h hl)
  have HOk := Lib.hid hok; have HL := Lib.hid hl
  clear h hok hl
  go_enter Tryd.func31, Tryd.ntmps31
  go_wp2_with fail
  refine C.out.mono ?_
  rintro e w2 ⟨v2, rfl, ⟨vx, vy, va, rfl, o1, o2, o3, o4⟩, hb2⟩
  have fx := o1.one'; have fy := o2.one'
  have fa : ∃ a c, va = .slice a r.arcs.length c ∧ (0 < r.arcs.length → ∃ g, a = some ⟨g, 0, none⟩) := by
    rcases o3.2 with ⟨h, h0⟩ | ⟨g, cap, cur, h, _⟩
    · exact ⟨_, _, by rw [h0]; exact h, fun h => by omega⟩
    · exact ⟨_, _, h, fun _ => ⟨g, rfl⟩⟩
  have hO : Own3 w.heap.size w2 vx vy va r := ⟨o1, o2, o3, o4⟩
  obtain ⟨xa, xn, xc, rfl⟩ := fx
  obtain ⟨ya, yn, yc, rfl⟩ := fy
  obtain ⟨za, zc, rfl, hza⟩ := fa
  obtain ⟨Bt, hBt⟩ : ∃ b, b = w2.heap.size := ⟨_, rfl⟩
  obtain ⟨w3, hw3⟩ : ∃ w3, w3 = w2.alloc (.cells #[.int .i64 r.nodes, .slice xa xn xc, .slice ya yn yc, .slice za r.arcs.length zc] 25) := ⟨_, rfl⟩
  have hb3 : Below w2.heap.size w2 w3 := by rw [hw3]; exact (Below.refl _ _).alloc (Nat.le_refl _) _
  have hB23 := hb2.next' hb3
  have hI : OutI w Bt (.slice xa xn xc) (.slice ya yn yc) (.slice za r.arcs.length zc) r w3 := ⟨by rw [hw3, hBt]; exact Blk.new _ _ _ _, hO.below hb3, ⟨hB23.os, hB23.tape, hB23.output, hB23.size, fun k hk _ => hB23.block k hk⟩⟩
  have HI := Lib.hid hI; have HW3 := Lib.hid hw3; have HBt := Lib.hid hBt
  have HLe : Hid (w.heap.size ≤ Bt) := Lib.hid (by rw [hBt]; exact hb2.size)
  clear hI hO o1 o2 o3 o4 hb2 hb3 hB23 hw3 C
  have hll : (r.arcs.length : Int) ≤ 1000000000000 := by have := HL.out.2.2; omega
  go_wp2_with fail
  rw [← HW3.out, ← hBt]
  clear hBt
  go_loopw [13] (fun i wr => ∃ (k : Nat), k ≤ r.arcs.length ∧ i = .int .i64 k ∧ Hid (OutI w Bt (.slice xa xn xc) (.slice ya yn yc) (.slice za r.arcs.length zc) { r with arcs := (r.arcs.take k).map turnA ++ r.arcs.drop k } wr)) (fun i _ => r.arcs.length - (intOf i).toNat)
  case atStart => exact ⟨0, by omega, rfl, Lib.hid (by simpa using HI.out)⟩
  case round =>
    clear HI
    obtain ⟨k, hk, rfl, hrel⟩ := hrel
    by_cases hlt : k < r.arcs.length
    · obtain ⟨g, rfl⟩ := hza (by omega)
      have hI := hrel.out
      have hlen : ((r.arcs.take k).map turnA ++ r.arcs.drop k).length = r.arcs.length := by rw [List.length_append, List.length_map, List.length_take, List.length_drop]; omega
      have hget : ((r.arcs.take k).map turnA ++ r.arcs.drop k)[k]'(by omega) = r.arcs[k] := by
        have hl : ((r.arcs.take k).map turnA).length = k := by rw [List.length_map, List.length_take]; omega
        rw [List.getElem_append_right (by omega)]
        simp only [hl, Nat.sub_self, List.getElem_drop, Nat.add_zero]
      have sA : SlA wr (.slice (some ⟨g, 0, none⟩) r.arcs.length zc) ((r.arcs.take k).map turnA ++ r.arcs.drop k) := slA_own rfl (by have h := hI.own.2.2.1; exact h)
      obtain ⟨bg, og, eg, d0, d1, d2⟩ := sA.at k (by omega)
      obtain ⟨rfl, rfl⟩ : g = bg ∧ 0 = og := by simpa using eg
      rw [hget] at d0 d1 d2
      rw [Nat.zero_add] at d0 d1 d2
      obtain ⟨hgb, cur, hgB⟩ := ownsRow_blk' hI.own.2.2.1 (g := g) rfl
      obtain ⟨x, hx⟩ : ∃ x, x = r.arcs[k] := ⟨_, rfl⟩
      have hst := turn_step3 r.arcs k hlt
      rw [← hx] at d0 d1 d2 hst
      obtain ⟨x0, x1, x2⟩ := x
      simp only at d0 d1 d2 hst
      have hltI : (k : Int) < (r.arcs.length : Int) := by omega
      have i1 : (0 : Int) ≤ (k : Int) := by omega
      obtain ⟨Ba, hBa⟩ : ∃ b, b = wr.heap.size := ⟨_, rfl⟩
      have hba := (Below.refl wr.heap.size wr).alloc (Nat.le_refl _) (.cells #[.int .i64 x0, .int .i64 x1, .int .i64 x2] 54)
      obtain ⟨wc, hwc⟩ : ∃ wc, wc = wr.alloc (.cells #[.int .i64 x0, .int .i64 x1, .int .i64 x2] 54) := ⟨_, rfl⟩
      have hbc : Below wr.heap.size wr wc := by rw [hwc]; exact hba
      have hIc := hI.below hbc
      have hkl : k < ((r.arcs.take k).map turnA ++ r.arcs.drop k).length := by omega
      have hI1 := hIc.setA (u := x1) hlen k 0 hkl (by omega) (o := k * 3) rfl
      have hkl2 : k < (((r.arcs.take k).map turnA ++ r.arcs.drop k).set k (setArc 0 x1 (((r.arcs.take k).map turnA ++ r.arcs.drop k)[k]'hkl))).length := by rw [List.length_set]; exact hkl
      have hI2 := hI1.setA (u := x0) ((List.length_set ..).trans hlen) k 1 hkl2 (by omega) (o := k * 3 + 1) rfl
      have hkl3 : k < ((((r.arcs.take k).map turnA ++ r.arcs.drop k).set k (setArc 0 x1 (((r.arcs.take k).map turnA ++ r.arcs.drop k)[k]'hkl))).set k (setArc 1 x0 ((((r.arcs.take k).map turnA ++ r.arcs.drop k).set k (setArc 0 x1 (((r.arcs.take k).map turnA ++ r.arcs.drop k)[k]'hkl)))[k]'hkl2))).length := by rw [List.length_set]; exact hkl2
      have hI3 := hI2.setA (u := x2) ((List.length_set ..).trans ((List.length_set ..).trans hlen)) k 2 hkl3 (by omega) (o := k * 3 + 2) rfl
      simp only [List.getElem_set_self, hget, ← hx] at hI3
      rw [hst] at hI3
      have g0 := (hgB.below hba hgB.lt).free (k * 3) (Or.inr (Nat.zero_le _)); have g1 := (hgB.below hba hgB.lt).free (k * 3 + 1) (Or.inr (Nat.zero_le _)); have g2 := (hgB.below hba hgB.lt).free (k * 3 + 2) (Or.inr (Nat.zero_le _))
      have e0 := cell_later hba d0; have e1 := cell_later hba d1; have e2 := cell_later hba d2
      have c3 : wr.cell? ⟨Bt, 3, none⟩ = some (.slice (some ⟨g, 0, none⟩) r.arcs.length zc) := hI.blk.cell 3
      have o3 := cell_later hba c3
      have HI3 := Lib.hid hI3; have HWc := Lib.hid hwc
      clear hrel hI hlen hget sA eg hgB hst hx hbc hIc hI1 hI2 hI3 hkl hkl2 hkl3 hwc hgb hba hBa
      go_wp2_with fail
      rw [← HWc.out]
      go_roundw
      case rel => exact ⟨k + 1, by omega, by go_num, Lib.hid HI3.out⟩
      case measure => simp [intOf]; omega
    · obtain rfl : k = r.arcs.length := by omega
      have hI := hrel.out
      have he : (r.arcs.take r.arcs.length).map turnA ++ r.arcs.drop r.arcs.length = r.arcs.map turnA := by simp
      rw [he] at hI
      have bO := hI.blk
      have c0 := bO.cell 0; have c1 := bO.cell 1; have c2 := bO.cell 2; have c3 := bO.cell 3
      change wr.cell? ⟨Bt, 0, none⟩ = some (.int .i64 r.nodes) at c0
      change wr.cell? ⟨Bt, 1, none⟩ = some (.slice xa xn xc) at c1
      change wr.cell? ⟨Bt, 2, none⟩ = some (.slice ya yn yc) at c2
      change wr.cell? ⟨Bt, 3, none⟩ = some (.slice za r.arcs.length zc) at c3
      have hraw : RawO w.heap.size wr (.agg #[.int .i64 r.nodes, .slice xa xn xc, .slice ya yn yc, .slice za r.arcs.length zc]) r.turned := hI.raw
      have hbw : Below w.heap.size w wr := below_of (Below.refl _ _) hI.kept HLe.out
      have C2 := Lib.hid (of_any _ _ w.heap.size wr hraw (Raw.turned_ok HOk.out) hbw.size)
      have HBw := Lib.hid hbw
      clear hI hrel he bO hraw hbw
      go_wp2_with fail
      refine C2.out.mono ?_
      rintro e w4 ⟨q, rfl, hn, hb4⟩
      have HN := Lib.hid hn; have HB4 := Lib.hid (HBw.out.next' hb4)
      clear hn hb4
      go_wp2_with fail
      go_ret
      exact ⟨_, rfl, HN.out, HB4.out⟩
end Go.Proofs.YtnkcmlngoeofgaaDoor
/- the graph laws' works. -/
namespace Go.Proofs.YtnkcmlngoeofgaaDoor
open Go.RowKit
theorem slX_new {w : World} {g n : Nat} {cs : Array Value} {t : TypeId} {fr : Nat × Nat} {L : List Int} (hb : Blk w g cs t fr) (hcs : cs = (L.flatMap inC).toArray) (hn : L.length = n) (hl : L.length ≤ 1000) : SlX w (.slice (some ⟨g, 0, none⟩) n n) L := by
  subst hn
  refine ⟨_, _, rfl, Nat.le_refl _, by unfold maxLen; omega, fun i hi => ⟨g, 0, cs, t, fr, rfl, hb, ?_⟩⟩
  have e := flatN_get 1 inC inC_len L i 0 (by omega)
  rw [Nat.mul_one, Nat.add_zero, List.getElem?_eq_getElem hi] at e
  rw [hcs, Nat.zero_add, List.getElem?_toArray, e]; rfl
theorem slA_new {w : World} {g n : Nat} {cs : Array Value} {t : TypeId} {fr : Nat × Nat} {L : List Ar} (hb : Blk w g cs t fr) (hcs : cs = (L.flatMap arC).toArray) (hn : L.length = n) (hl : L.length ≤ 1000) : SlA w (.slice (some ⟨g, 0, none⟩) n n) L := by
  subst hn
  have hc : ∀ i (hi : i < L.length) d, d < 3 → cs[0 + i * 3 + d]? = (arC L[i])[d]? := fun i hi d hd => by
    rw [hcs, Nat.zero_add, List.getElem?_toArray, flatN_get 3 arC arC_len L i d hd, List.getElem?_eq_getElem hi]; rfl
  exact ⟨_, _, rfl, Nat.le_refl _, by unfold maxLen; omega, fun i hi => ⟨g, 0, cs, t, fr, rfl, hb, hc i hi 0 (by omega), hc i hi 1 (by omega), hc i hi 2 (by omega)⟩⟩
theorem slX_nil (w : World) : SlX w (.slice none 0 0) [] := ⟨none, 0, rfl, Nat.le_refl _, Nat.zero_le _, fun i hi => by cases hi⟩
theorem slA_nil (w : World) : SlA w (.slice none 0 0) [] := ⟨none, 0, rfl, Nat.le_refl _, Nat.zero_le _, fun i hi => by cases hi⟩
set_option maxHeartbeats 4000000 in
theorem works_any (w : World) (hg : HG w) : Calls Tryd.prog 12 #[] w fun e w' => e = .returned (.bool true) ∧ Below w.heap.size w w' := by
  obtain ⟨w3, hw3⟩ : ∃ w3, w3 = ((w.alloc (.cells #[.int .i64 0, .int .i64 0] 2)).alloc (.cells #[.int .i64 0] 2)).alloc (.cells #[.int .i64 0, .int .i64 1, .int .i64 5] 54) := ⟨_, rfl⟩
  have B1 : Blk w3 w.heap.size #[.int .i64 0, .int .i64 0] 2 (0, 0) := by rw [hw3]; exact ((Blk.new _ _ _ _).alloc _).alloc _
  have B2 : Blk w3 (w.heap.size + 1) #[.int .i64 0] 2 (0, 0) := by
    rw [hw3]
    have h := Blk.new (w.alloc (.cells #[.int .i64 0, .int .i64 0] 2)) #[.int .i64 0] 2 (0, 0)
    rw [World.size_alloc] at h
    exact h.alloc _
  have B3 : Blk w3 (w.heap.size + 1 + 1) #[.int .i64 0, .int .i64 1, .int .i64 5] 54 (0, 0) := by
    rw [hw3]
    have h := Blk.new ((w.alloc (.cells #[.int .i64 0, .int .i64 0] 2)).alloc (.cells #[.int .i64 0] 2)) #[.int .i64 0, .int .i64 1, .int .i64 5] 54 (0, 0)
    rw [World.size_alloc, World.size_alloc] at h
    exact h
  have hb3 : Below w.heap.size w w3 := by rw [hw3]; exact (((Below.refl _ _).alloc (Nat.le_refl _) _).alloc (by simp) _).alloc (by simp; omega) _
  have S2 : SlX w3 (.slice (some ⟨w.heap.size, 0, none⟩) 2 2) [0, 0] := slX_new B1 rfl rfl (by decide)
  have S1 : SlX w3 (.slice (some ⟨w.heap.size + 1, 0, none⟩) 1 1) [0] := slX_new B2 rfl rfl (by decide)
  have S3 : SlA w3 (.slice (some ⟨w.heap.size + 1 + 1, 0, none⟩) 1 1) [(0, 1, 5)] := slA_new B3 rfl rfl (by decide)
  have C1 := Lib.hid (check_raw _ ⟨2, [0, 0], [0, 0], [(0, 1, 5)]⟩ w3 ⟨_, _, _, rfl, S2, S2, S3⟩)
  have H2 := Lib.hid S2; have H1 := Lib.hid S1; have HW3 := Lib.hid hw3; have HB3 := Lib.hid hb3; have HG0 := Lib.hid hg
  clear S1 S2 S3 B1 B2 B3 hw3 hb3 hg
  go_enter Tryd.func12, Tryd.ntmps12
  go_wp2_with fail
  rw [← HW3.out]
  refine C1.out.mono ?_
  rintro e w4 ⟨u, rfl, hi, hb4⟩
  rcases hi.form with ⟨rfl, _⟩ | ⟨_, h⟩
  case inr => exact (h (by decide)).elim
  have HB4 := Lib.hid (HB3.out.next' hb4)
  have HS2 := Lib.hid (H2.out.keep (KpC.of_below hb4)); have HS1 := Lib.hid (H1.out.keep (KpC.of_below hb4))
  have C2 := Lib.hid (fails_any _ ⟨0, [], [], []⟩ w4 5 0 0 0 (HG0.out.later HB4.out) ⟨_, _, _, rfl, slX_nil _, slX_nil _, slA_nil _⟩ (by decide))
  clear hi hb4 H1 H2
  go_wp2_with fail
  refine C2.out.mono ?_
  rintro e w5 ⟨rfl, hb5⟩
  have HB5 := Lib.hid (HB4.out.next' hb5)
  have HT2 := Lib.hid (HS2.out.keep (KpC.of_below hb5)); have HT1 := Lib.hid (HS1.out.keep (KpC.of_below hb5))
  have C3 := Lib.hid (fails_any _ ⟨2, [0], [0, 0], []⟩ w5 6 1 0 0 (HG0.out.later HB5.out) ⟨_, _, _, rfl, HT1.out, HT2.out, slA_nil _⟩ (by decide))
  clear hb5 HS1 HS2 C1 C2
  go_wp2_with fail
  refine C3.out.mono ?_
  rintro e w6 ⟨rfl, hb6⟩
  obtain ⟨w7, hw7⟩ : ∃ w7, w7 = w6.alloc (.cells #[.int .i64 2147483648] 2) := ⟨_, rfl⟩
  have hb7 : Below w6.heap.size w6 w7 := by rw [hw7]; exact (Below.refl _ _).alloc (Nat.le_refl _) _
  have B7 : Blk w7 w6.heap.size #[.int .i64 2147483648] 2 (0, 0) := by rw [hw7]; exact Blk.new _ _ _ _
  have HB7 := Lib.hid ((HB5.out.next' hb6).next' hb7)
  have HU1 := Lib.hid ((HT1.out.keep (KpC.of_below hb6)).keep (KpC.of_below hb7))
  have C4 := Lib.hid (fails_any _ ⟨1, [0], [2147483648], []⟩ w7 7 2 0 1 (HG0.out.later HB7.out) ⟨_, _, _, rfl, HU1.out, slX_new (L := [2147483648]) B7 rfl rfl (by decide), slA_nil _⟩ (by decide))
  have HW7 := Lib.hid hw7
  clear hb6 hb7 hw7 B7 HT1 HT2 C3
  go_wp2_with fail
  rw [← HW7.out]
  refine C4.out.mono ?_
  rintro e w8 ⟨rfl, hb8⟩
  obtain ⟨w9, hw9⟩ : ∃ w9, w9 = w8.alloc (.cells #[.int .i64 0, .int .i64 0, .int .i64 1, .int .i64 0, .int .i64 1, .int .i64 (-1)] 54) := ⟨_, rfl⟩
  have hb9 : Below w8.heap.size w8 w9 := by rw [hw9]; exact (Below.refl _ _).alloc (Nat.le_refl _) _
  have B9 : Blk w9 w8.heap.size #[.int .i64 0, .int .i64 0, .int .i64 1, .int .i64 0, .int .i64 1, .int .i64 (-1)] 54 (0, 0) := by rw [hw9]; exact Blk.new _ _ _ _
  have HB9 := Lib.hid ((HB7.out.next' hb8).next' hb9)
  have HV1 := Lib.hid ((HU1.out.keep (KpC.of_below hb8)).keep (KpC.of_below hb9))
  have C5 := Lib.hid (fails_any _ ⟨1, [0], [0], [(0, 0, 1), (0, 1, -1)]⟩ w9 9 4 1 1 (HG0.out.later HB9.out) ⟨_, _, _, rfl, HV1.out, HV1.out, slA_new (L := [(0, 0, 1), (0, 1, -1)]) B9 rfl rfl (by decide)⟩ (by decide))
  have HW9 := Lib.hid hw9
  clear hb8 hb9 hw9 B9 HU1 C4
  go_wp2_with fail
  rw [← HW9.out]
  refine C5.out.mono ?_
  rintro e w10 ⟨rfl, hb10⟩
  have HB10 := Lib.hid (HB9.out.next' hb10)
  clear hb10 C5
  go_wp2_with fail
  go_ret
  exact ⟨rfl, HB10.out⟩
end Go.Proofs.YtnkcmlngoeofgaaDoor
/- the net laws' small graph. -/
namespace Go.Proofs.YtnkcmlngoeofgaaDoor
open Go.RowKit
def smallR : Raw := ⟨3, [1, 2, 3], [0, 0, 5], [(0, 1, 5), (1, 2, 0), (0, 1, 7), (2, 2, 1)]⟩
set_option maxHeartbeats 4000000 in
theorem small_any (w : World) : Calls Tryd.prog 52 #[] w fun e w' => ∃ v', e = .returned v' ∧ RawV w' v' smallR ∧ Below w.heap.size w w' := by
  obtain ⟨wf, hwf⟩ : ∃ wf, wf = (((w.alloc (.cells #[.int .i64 3, .slice (some ⟨w.heap.size + 1, 0, none⟩) 3 3, .slice (some ⟨w.heap.size + 1 + 1, 0, none⟩) 3 3, .slice (some ⟨w.heap.size + 1 + 1 + 1, 0, none⟩) 4 4] 25)).alloc (.cells #[.int .i64 1, .int .i64 2, .int .i64 3] 2)).alloc (.cells #[.int .i64 0, .int .i64 0, .int .i64 5] 2)).alloc (.cells #[.int .i64 0, .int .i64 1, .int .i64 5, .int .i64 1, .int .i64 2, .int .i64 0, .int .i64 0, .int .i64 1, .int .i64 7, .int .i64 2, .int .i64 2, .int .i64 1] 54) := ⟨_, rfl⟩
  have hb : Below w.heap.size w wf := by rw [hwf]; exact ((((Below.refl _ _).alloc (Nat.le_refl _) _).alloc (by simp) _).alloc (by simp; omega) _).alloc (by simp; omega) _
  have k0 : Blk wf w.heap.size #[.int .i64 3, .slice (some ⟨w.heap.size + 1, 0, none⟩) 3 3, .slice (some ⟨w.heap.size + 1 + 1, 0, none⟩) 3 3, .slice (some ⟨w.heap.size + 1 + 1 + 1, 0, none⟩) 4 4] 25 (0, 0) := by rw [hwf]; exact (((Blk.new _ _ _ _).alloc _).alloc _).alloc _
  have k1 : Blk wf (w.heap.size + 1) #[.int .i64 1, .int .i64 2, .int .i64 3] 2 (0, 0) := by
    rw [hwf]
    have h := Blk.new (w.alloc (.cells #[.int .i64 3, .slice (some ⟨w.heap.size + 1, 0, none⟩) 3 3, .slice (some ⟨w.heap.size + 1 + 1, 0, none⟩) 3 3, .slice (some ⟨w.heap.size + 1 + 1 + 1, 0, none⟩) 4 4] 25)) #[.int .i64 1, .int .i64 2, .int .i64 3] 2 (0, 0)
    rw [World.size_alloc] at h
    exact (h.alloc _).alloc _
  have k2 : Blk wf (w.heap.size + 1 + 1) #[.int .i64 0, .int .i64 0, .int .i64 5] 2 (0, 0) := by
    rw [hwf]
    have h := Blk.new ((w.alloc (.cells #[.int .i64 3, .slice (some ⟨w.heap.size + 1, 0, none⟩) 3 3, .slice (some ⟨w.heap.size + 1 + 1, 0, none⟩) 3 3, .slice (some ⟨w.heap.size + 1 + 1 + 1, 0, none⟩) 4 4] 25)).alloc (.cells #[.int .i64 1, .int .i64 2, .int .i64 3] 2)) #[.int .i64 0, .int .i64 0, .int .i64 5] 2 (0, 0)
    rw [World.size_alloc, World.size_alloc] at h
    exact h.alloc _
  have k3 : Blk wf (w.heap.size + 1 + 1 + 1) #[.int .i64 0, .int .i64 1, .int .i64 5, .int .i64 1, .int .i64 2, .int .i64 0, .int .i64 0, .int .i64 1, .int .i64 7, .int .i64 2, .int .i64 2, .int .i64 1] 54 (0, 0) := by
    rw [hwf]
    have h := Blk.new (((w.alloc (.cells #[.int .i64 3, .slice (some ⟨w.heap.size + 1, 0, none⟩) 3 3, .slice (some ⟨w.heap.size + 1 + 1, 0, none⟩) 3 3, .slice (some ⟨w.heap.size + 1 + 1 + 1, 0, none⟩) 4 4] 25)).alloc (.cells #[.int .i64 1, .int .i64 2, .int .i64 3] 2)).alloc (.cells #[.int .i64 0, .int .i64 0, .int .i64 5] 2)) #[.int .i64 0, .int .i64 1, .int .i64 5, .int .i64 1, .int .i64 2, .int .i64 0, .int .i64 0, .int .i64 1, .int .i64 7, .int .i64 2, .int .i64 2, .int .i64 1] 54 (0, 0)
    rw [World.size_alloc, World.size_alloc, World.size_alloc] at h
    exact h
  have HK := Lib.hid (And.intro k0 (And.intro k1 (And.intro k2 (And.intro k3 hb)))); have HW := Lib.hid hwf
  clear k0 k1 k2 k3 hb hwf
  go_enter Tryd.func52, Tryd.ntmps52
  go_wp2_with fail
  rw [← HW.out]
  obtain ⟨k0, k1, k2, k3, hb⟩ := HK.out
  have z0 := k0.cell 0; have z1 := k0.cell 1; have z2 := k0.cell 2; have z3 := k0.cell 3
  simp only [List.getElem?_toArray, List.getElem?_cons_succ, List.getElem?_cons_zero] at z0 z1 z2 z3
  exact bodyPost_ret (v := .agg #[.int .i64 3, .slice (some ⟨w.heap.size + 1, 0, none⟩) 3 3, .slice (some ⟨w.heap.size + 1 + 1, 0, none⟩) 3 3, .slice (some ⟨w.heap.size + 1 + 1 + 1, 0, none⟩) 4 4]) (by simp [results, Tryd.results52, go_sem, z0, z1, z2, z3]) rfl ⟨_, rfl, ⟨_, _, _, rfl, slX_new (L := [1, 2, 3]) k1 rfl rfl (by decide), slX_new (L := [0, 0, 5]) k2 rfl rfl (by decide), slA_new (L := [(0, 1, 5), (1, 2, 0), (0, 1, 7), (2, 2, 1)]) k3 rfl rfl (by decide)⟩, hb⟩
end Go.Proofs.YtnkcmlngoeofgaaDoor
/- the net laws' works. -/
namespace Go.Proofs.YtnkcmlngoeofgaaDoor
open Go.RowKit
theorem NetB.all {lo : Nat} {w : World} {p : Nat} {g : Raw} (h : NetB lo w p g) : ∀ u, Below w.heap.size w u → NetAt u p g := fun _ hu => h.at.keep (KpC.of_below hu)
/-- a row is as given -/
theorem row_out (p : Nat) (g : Raw) (i : Int) (L : List Int) (w : World) (h : NetAt w p g) (hl : ∀ r ∈ rowsOf endF g.arcs g.nodes.toNat, r.length ≤ 1000000000000) (hL : rowV endF g i = L) : Calls Tryd.prog 34 #[.pointer (some ⟨p, 0, none⟩), .int .i64 i] w fun e w' => ∃ a c, e = .returned (.slice a L.length c) ∧ SlX w' (.slice a L.length c) L ∧ Below w.heap.size w w' := by
  subst hL
  refine (out_any p g i w h hl).mono ?_
  rintro e w' ⟨v, rfl, ho, hb⟩
  have hs := slX_own rfl ho
  obtain ⟨a, c, rfl, _⟩ := id hs
  exact ⟨a, c, rfl, hs, hb⟩
theorem row_in (p : Nat) (g : Raw) (i : Int) (L : List Int) (w : World) (h : NetAt w p g) (hl : ∀ r ∈ rowsOf endT g.arcs g.nodes.toNat, r.length ≤ 1000000000000) (hL : rowV endT g i = L) : Calls Tryd.prog 35 #[.pointer (some ⟨p, 0, none⟩), .int .i64 i] w fun e w' => ∃ a c, e = .returned (.slice a L.length c) ∧ SlX w' (.slice a L.length c) L ∧ Below w.heap.size w w' := by
  subst hL
  refine (inn_any p g i w h hl).mono ?_
  rintro e w' ⟨v, rfl, ho, hb⟩
  have hs := slX_own rfl ho
  obtain ⟨a, c, rfl, _⟩ := id hs
  exact ⟨a, c, rfl, hs, hb⟩
theorem arc_is (p : Nat) (g : Raw) (i : Int) (x0 x1 x2 : Int) (q : Bool) (w : World) (h : NetAt w p g) (hx : (if 0 ≤ i ∧ i < g.arcs.length then g.arcs[i.toNat]?.getD (0, 0, 0) else (0, 0, 0)) = (x0, x1, x2)) (hq : decide (0 ≤ i ∧ i < (g.arcs.length : Int)) = q) : Calls Tryd.prog 36 #[.pointer (some ⟨p, 0, none⟩), .int .i64 i] w fun e w' => e = .returned (.tuple #[.agg #[.int .i64 x0, .int .i64 x1, .int .i64 x2], .bool q]) ∧ Below w.heap.size w w' := by
  have C := arc_any p g i w h
  rw [hx, hq] at C
  exact C
set_option maxRecDepth 100000 in
set_option maxHeartbeats 16000000 in
theorem works7_any (w : World) (hg : HG w) : Calls Tryd.prog 28 #[] w fun e w' => e = .returned (.bool true) ∧ Below w.heap.size w w' := by
  have hfd : ∀ w : World, (Instr.field 47 (.agg #[.int .i64 5, .int .i64 0, .int .i64 0, .int .i64 0]) 0).run Tryd.prog w = .ok (.int .i64 5) w := fun _ => by kernel_rfl
  have HG0 := Lib.hid hg
  clear hg
  go_enter Tryd.func28, Tryd.ntmps28
  go_wp2_with fail
  refine (small_any w).mono ?_
  rintro e w1 ⟨v1, rfl, hV, hb1⟩
  have H1 := Lib.hid hb1
  have C := Lib.hid (new_any v1 smallR w1 (HG0.out.later hb1) hV (by unfold Raw.few; decide))
  obtain ⟨_, _, _, rfl, _⟩ := id hV
  clear hb1 hV
  go_wp2_with fail
  refine C.out.mono ?_
  rintro e w2 ⟨h | h, hb2⟩
  · exact absurd (show smallR.ok by unfold Raw.ok; decide) h.1
  obtain ⟨_, p, rfl, hn⟩ := h
  have H2 := Lib.hid (H1.out.next' hb2); have HN := Lib.hid hn.all
  clear hn hb2 C
  go_wp2_with fail
  refine (new_any (.agg #[.int .i64 0, .slice none 0 0, .slice none 0 0, .slice none 0 0]) ⟨0, [], [], []⟩ w2 (HG0.out.later H2.out) ⟨_, _, _, rfl, slX_nil _, slX_nil _, slA_nil _⟩ (by unfold Raw.few; decide)).mono ?_
  rintro e w3 ⟨h | h, hb3⟩
  case inr => exact absurd h.1 (by unfold Raw.ok; decide)
  obtain ⟨_, u, rfl, hu⟩ := h
  have hcode : (⟨0, [], [], []⟩ : Raw).wrong = (5, 0, 0, 0) := by decide
  rw [hcode] at hu
  have H3 := Lib.hid (H2.out.next' hb3); have Hn3 := Lib.hid hb3
  have hu' : ErrIs w3 u 5 0 0 0 := hu
  have CT := Lib.hid (told_is w3 u 5 0 0 0 (HG0.out.later H3.out) hu')
  clear hu'
  rcases hu.form with ⟨_, h⟩ | ⟨⟨ty, xv, rfl⟩, _⟩
  · exact absurd h (by decide)
  clear hu hcode hb3
  go_wp2_with fail
  refine CT.out.mono ?_
  rintro e w4 ⟨rfl, hb4⟩
  have H4 := Lib.hid (H3.out.next' hb4); have Hn4 := Lib.hid (Hn3.out.next' hb4)
  clear hb4 CT Hn3
  go_wp2_with fail
  refine (arc_is p smallR 2 0 1 7 true w4 (HN.out _ Hn4.out) (by decide) (by decide)).mono ?_
  rintro e w5 ⟨rfl, hb5⟩
  obtain ⟨w6, hw6⟩ : ∃ w6, w6 = w5.alloc (.cells #[.int .i64 0, .int .i64 1, .int .i64 7] 54) := ⟨_, rfl⟩
  obtain ⟨Ba, hBa⟩ : ∃ b, b = w5.heap.size := ⟨_, rfl⟩
  have hb6 : Below w5.heap.size w5 w6 := by rw [hw6]; exact (Below.refl _ _).alloc (Nat.le_refl _) _
  have KA := Lib.hid (show Blk w6 Ba #[.int .i64 0, .int .i64 1, .int .i64 7] 54 (0, 0) by rw [hw6, hBa]; exact Blk.new _ _ _ _)
  have H6 := Lib.hid ((H4.out.next' hb5).next' hb6); have Hn6 := Lib.hid ((Hn4.out.next' hb5).next' hb6); have HW6 := Lib.hid hw6; have HBa := Lib.hid hBa
  clear hb5 hb6 hw6 hBa Hn4
  go_wp2_with fail
  rw [← HW6.out, ← HBa.out]
  refine (turnedN_any p smallR w6 (HN.out _ Hn6.out) (by unfold Raw.few; decide) ((Raw.ok_iff smallR).1 (by unfold Raw.ok; decide))).mono ?_
  rintro e w7 ⟨q, rfl, hq, hb7⟩
  have H7 := Lib.hid (H6.out.next' hb7); have Hn7 := Lib.hid (Hn6.out.next' hb7); have HQ := Lib.hid hq.all
  have KA7 := Lib.hid (KA.out.below hb7 KA.out.lt)
  clear hq hb7 Hn6 KA HW6 HBa
  go_wp2_with fail
  refine (arc_is q smallR.turned 0 1 0 5 true w7 (HQ.out _ (Below.refl _ _)) (by decide) (by decide)).mono ?_
  rintro e w8 ⟨rfl, hb8⟩
  obtain ⟨w9, hw9⟩ : ∃ w9, w9 = w8.alloc (.cells #[.int .i64 1, .int .i64 0, .int .i64 5] 54) := ⟨_, rfl⟩
  obtain ⟨Bb, hBb⟩ : ∃ b, b = w8.heap.size := ⟨_, rfl⟩
  have hb9 : Below w8.heap.size w8 w9 := by rw [hw9]; exact (Below.refl _ _).alloc (Nat.le_refl _) _
  have KB := Lib.hid (show Blk w9 Bb #[.int .i64 1, .int .i64 0, .int .i64 5] 54 (0, 0) by rw [hw9, hBb]; exact Blk.new _ _ _ _)
  have hb79 := hb8.next' hb9
  have H9 := Lib.hid (H7.out.next' hb79); have Hn9 := Lib.hid (Hn7.out.next' hb79); have Hq9 := Lib.hid hb79; have HW9 := Lib.hid hw9; have HBb := Lib.hid hBb
  have KA9 := Lib.hid (KA7.out.below hb79 KA7.out.lt)
  clear hb8 hb9 hw9 hBb hb79 Hn7 KA7
  go_wp2_with fail
  rw [← HW9.out, ← HBb.out]
  clear HW9 HBb
  refine (row_out p smallR 0 [0, 2] w9 (HN.out _ Hn9.out) (by decide) (by decide)).mono ?_
  rintro e w10 ⟨a10, c10, rfl, hs, hb10⟩
  obtain ⟨w11, hw11⟩ : ∃ w11, w11 = w10.alloc (.cells #[.int .i64 0, .int .i64 2] 3) := ⟨_, rfl⟩
  obtain ⟨B11, hB11⟩ : ∃ b, b = w10.heap.size := ⟨_, rfl⟩
  have hb11 : Below w10.heap.size w10 w11 := by rw [hw11]; exact (Below.refl _ _).alloc (Nat.le_refl _) _
  have K11 : Blk w11 B11 #[.int .i64 0, .int .i64 2] 3 (0, 0) := by rw [hw11, hB11]; exact Blk.new _ _ _ _
  have CI := Lib.hid (ints_any _ _ [0, 2] [0, 2] w11 (hs.keep (KpC.of_below hb11)) (slX_new (n := 2) K11 rfl rfl (by decide)))
  rw [show decide (([0, 2] : List Int) = [0, 2]) = true from rfl] at CI
  have hbc11 := hb10.next' hb11
  have HW11 := Lib.hid hw11; have HBe11 := Lib.hid hB11; have Hbc := Lib.hid hbc11
  clear hs hb10 hb11 hw11 hB11 K11 hbc11
  go_wp2_with fail
  rw [← HW11.out, ← HBe11.out]
  refine CI.out.mono ?_
  rintro e w12 ⟨rfl, hb12⟩
  have hx12 := Hbc.out.next' hb12
  have H12 := Lib.hid (H9.out.next' hx12); have Hn12 := Lib.hid (Hn9.out.next' hx12); have Hq12 := Lib.hid (Hq9.out.next' hx12)
  have KA12 := Lib.hid (KA9.out.below hx12 KA9.out.lt); have KB12 := Lib.hid (KB.out.below hx12 KB.out.lt)
  clear hb12 hx12 CI Hbc HW11 HBe11 Hn9 Hq9 KA9 KB
  go_wp2_with fail
  refine (row_in p smallR 1 [0, 2] w12 (HN.out _ Hn12.out) (by decide) (by decide)).mono ?_
  rintro e w13 ⟨a13, c13, rfl, hs, hb13⟩
  obtain ⟨w14, hw14⟩ : ∃ w14, w14 = w13.alloc (.cells #[.int .i64 0, .int .i64 2] 3) := ⟨_, rfl⟩
  obtain ⟨B14, hB14⟩ : ∃ b, b = w13.heap.size := ⟨_, rfl⟩
  have hb14 : Below w13.heap.size w13 w14 := by rw [hw14]; exact (Below.refl _ _).alloc (Nat.le_refl _) _
  have K14 : Blk w14 B14 #[.int .i64 0, .int .i64 2] 3 (0, 0) := by rw [hw14, hB14]; exact Blk.new _ _ _ _
  have CI := Lib.hid (ints_any _ _ [0, 2] [0, 2] w14 (hs.keep (KpC.of_below hb14)) (slX_new (n := 2) K14 rfl rfl (by decide)))
  rw [show decide (([0, 2] : List Int) = [0, 2]) = true from rfl] at CI
  have hbc14 := hb13.next' hb14
  have HW14 := Lib.hid hw14; have HBe14 := Lib.hid hB14; have Hbc := Lib.hid hbc14
  clear hs hb13 hb14 hw14 hB14 K14 hbc14
  go_wp2_with fail
  rw [← HW14.out, ← HBe14.out]
  refine CI.out.mono ?_
  rintro e w15 ⟨rfl, hb15⟩
  have hx15 := Hbc.out.next' hb15
  have H15 := Lib.hid (H12.out.next' hx15); have Hn15 := Lib.hid (Hn12.out.next' hx15); have Hq15 := Lib.hid (Hq12.out.next' hx15)
  have KA15 := Lib.hid (KA12.out.below hx15 KA12.out.lt); have KB15 := Lib.hid (KB12.out.below hx15 KB12.out.lt)
  clear hb15 hx15 CI Hbc HW14 HBe14 Hn12 Hq12 KA12 KB12
  go_wp2_with fail
  refine (row_out p smallR 2 [3] w15 (HN.out _ Hn15.out) (by decide) (by decide)).mono ?_
  rintro e w16 ⟨a16, c16, rfl, hs, hb16⟩
  obtain ⟨w17, hw17⟩ : ∃ w17, w17 = w16.alloc (.cells #[.int .i64 3] 3) := ⟨_, rfl⟩
  obtain ⟨B17, hB17⟩ : ∃ b, b = w16.heap.size := ⟨_, rfl⟩
  have hb17 : Below w16.heap.size w16 w17 := by rw [hw17]; exact (Below.refl _ _).alloc (Nat.le_refl _) _
  have K17 : Blk w17 B17 #[.int .i64 3] 3 (0, 0) := by rw [hw17, hB17]; exact Blk.new _ _ _ _
  have CI := Lib.hid (ints_any _ _ [3] [3] w17 (hs.keep (KpC.of_below hb17)) (slX_new (n := 1) K17 rfl rfl (by decide)))
  rw [show decide (([3] : List Int) = [3]) = true from rfl] at CI
  have hbc17 := hb16.next' hb17
  have HW17 := Lib.hid hw17; have HBe17 := Lib.hid hB17; have Hbc := Lib.hid hbc17
  clear hs hb16 hb17 hw17 hB17 K17 hbc17
  go_wp2_with fail
  rw [← HW17.out, ← HBe17.out]
  refine CI.out.mono ?_
  rintro e w18 ⟨rfl, hb18⟩
  have hx18 := Hbc.out.next' hb18
  have H18 := Lib.hid (H15.out.next' hx18); have Hn18 := Lib.hid (Hn15.out.next' hx18); have Hq18 := Lib.hid (Hq15.out.next' hx18)
  have KA18 := Lib.hid (KA15.out.below hx18 KA15.out.lt); have KB18 := Lib.hid (KB15.out.below hx18 KB15.out.lt)
  clear hb18 hx18 CI Hbc HW17 HBe17 Hn15 Hq15 KA15 KB15
  go_wp2_with fail
  refine (row_in p smallR 2 [1, 3] w18 (HN.out _ Hn18.out) (by decide) (by decide)).mono ?_
  rintro e w19 ⟨a19, c19, rfl, hs, hb19⟩
  obtain ⟨w20, hw20⟩ : ∃ w20, w20 = w19.alloc (.cells #[.int .i64 1, .int .i64 3] 3) := ⟨_, rfl⟩
  obtain ⟨B20, hB20⟩ : ∃ b, b = w19.heap.size := ⟨_, rfl⟩
  have hb20 : Below w19.heap.size w19 w20 := by rw [hw20]; exact (Below.refl _ _).alloc (Nat.le_refl _) _
  have K20 : Blk w20 B20 #[.int .i64 1, .int .i64 3] 3 (0, 0) := by rw [hw20, hB20]; exact Blk.new _ _ _ _
  have CI := Lib.hid (ints_any _ _ [1, 3] [1, 3] w20 (hs.keep (KpC.of_below hb20)) (slX_new (n := 2) K20 rfl rfl (by decide)))
  rw [show decide (([1, 3] : List Int) = [1, 3]) = true from rfl] at CI
  have hbc20 := hb19.next' hb20
  have HW20 := Lib.hid hw20; have HBe20 := Lib.hid hB20; have Hbc := Lib.hid hbc20
  clear hs hb19 hb20 hw20 hB20 K20 hbc20
  go_wp2_with fail
  rw [← HW20.out, ← HBe20.out]
  refine CI.out.mono ?_
  rintro e w21 ⟨rfl, hb21⟩
  have hx21 := Hbc.out.next' hb21
  have H21 := Lib.hid (H18.out.next' hx21); have Hn21 := Lib.hid (Hn18.out.next' hx21); have Hq21 := Lib.hid (Hq18.out.next' hx21)
  have KA21 := Lib.hid (KA18.out.below hx21 KA18.out.lt); have KB21 := Lib.hid (KB18.out.below hx21 KB18.out.lt)
  clear hb21 hx21 CI Hbc HW20 HBe20 Hn18 Hq18 KA18 KB18
  have ka := KA21.out.cell 0; have kb := KA21.out.cell 1; have kc := KA21.out.cell 2
  simp only [List.getElem?_toArray, List.getElem?_cons_succ, List.getElem?_cons_zero] at ka kb kc
  go_wp2_with fail
  clear ka kb kc
  refine (row_out q smallR.turned 1 [0, 2] w21 (HQ.out _ Hq21.out) (by decide) (by decide)).mono ?_
  rintro e w22 ⟨a22, c22, rfl, hs, hb22⟩
  obtain ⟨w23, hw23⟩ : ∃ w23, w23 = w22.alloc (.cells #[.int .i64 0, .int .i64 2] 3) := ⟨_, rfl⟩
  obtain ⟨B23, hB23⟩ : ∃ b, b = w22.heap.size := ⟨_, rfl⟩
  have hb23 : Below w22.heap.size w22 w23 := by rw [hw23]; exact (Below.refl _ _).alloc (Nat.le_refl _) _
  have K23 : Blk w23 B23 #[.int .i64 0, .int .i64 2] 3 (0, 0) := by rw [hw23, hB23]; exact Blk.new _ _ _ _
  have CI := Lib.hid (ints_any _ _ [0, 2] [0, 2] w23 (hs.keep (KpC.of_below hb23)) (slX_new (n := 2) K23 rfl rfl (by decide)))
  rw [show decide (([0, 2] : List Int) = [0, 2]) = true from rfl] at CI
  have hbc23 := hb22.next' hb23
  have HW23 := Lib.hid hw23; have HBe23 := Lib.hid hB23; have Hbc := Lib.hid hbc23
  clear hs hb22 hb23 hw23 hB23 K23 hbc23
  go_wp2_with fail
  rw [← HW23.out, ← HBe23.out]
  refine CI.out.mono ?_
  rintro e w24 ⟨rfl, hb24⟩
  have hx24 := Hbc.out.next' hb24
  have H24 := Lib.hid (H21.out.next' hx24); have Hn24 := Lib.hid (Hn21.out.next' hx24); have Hq24 := Lib.hid (Hq21.out.next' hx24)
  have KA24 := Lib.hid (KA21.out.below hx24 KA21.out.lt); have KB24 := Lib.hid (KB21.out.below hx24 KB21.out.lt)
  clear hb24 hx24 CI Hbc HW23 HBe23 Hn21 Hq21 KA21 KB21
  have ka := KB24.out.cell 0; have kb := KB24.out.cell 1; have kc := KB24.out.cell 2
  simp only [List.getElem?_toArray, List.getElem?_cons_succ, List.getElem?_cons_zero] at ka kb kc
  go_wp2_with fail
  go_ret
  exact ⟨rfl, H24.out⟩
end Go.Proofs.YtnkcmlngoeofgaaDoor
/- milestoneref07.Draft: what it draws. -/
namespace Go.Proofs.YtnkcmlngoeofgaaDoor
open Go.RowKit
/-- what a draft is made of: bytes, that lie below lo -/
structure Dft where
  lo : Nat
  a : Option Addr
  cap : Nat
  l : List Int
/-- a draft lies at p: its bytes, and how many were drawn -/
def DrS (w : World) (p : Nat) (L : Dft) (at' : Nat) : Prop :=
  Blk w p #[.slice L.a L.l.length L.cap, .int .i64 at'] 92 (0, 0) ∧ L.l.length ≤ 60 ∧ at' ≤ 1000000 ∧ ∀ i (h : i < L.l.length), ∃ b off, L.a = some ⟨b, off, none⟩ ∧ b ≠ p ∧ b < L.lo ∧ w.cell? ⟨b, off + i, none⟩ = some (.int .u8 L.l[i])
theorem DrS.kept {S : Nat → Prop} {w w' : World} {p : Nat} {L : Dft} {k : Nat} (h : DrS w p L k) (hk : Kept S w w') (hp : ¬ S p) (hS : ∀ b, b < L.lo → b ≠ p → ¬ S b) : DrS w' p L k := by
  obtain ⟨h1, h2, h3, h4⟩ := h
  refine ⟨hk.blk h1 hp, h2, h3, fun i hi => ?_⟩
  obtain ⟨b, off, ha, hb, hl, hc⟩ := h4 i hi
  exact ⟨b, off, ha, hb, hl, (World.cell?_of_block (hk.block b (block_lt_of_cell hc) (hS b hl hb))).trans hc⟩
theorem DrS.below {w w' : World} {p : Nat} {L : Dft} {k : Nat} (h : DrS w p L k) (hb : Below w.heap.size w w') : DrS w' p L k :=
  h.kept (S := fun _ => False) ⟨hb.os, hb.tape, hb.output, hb.size, fun k hk _ => hb.block k hk⟩ id (fun _ _ _ => id)
set_option maxHeartbeats 4000000 in
theorem next7_any (p : Nat) (L : Dft) (k : Nat) (n : Int) (w : World) (h : DrS w p L k) (hk : k < 1000000) (hn : n ≤ 1000000) :
    Calls Tryd.prog 77 #[.pointer (some ⟨p, 0, none⟩), .int .i64 n] w fun e w' => ∃ x k', e = .returned (.int .i64 x) ∧ (0 ≤ x ∧ (x < n ∨ x = 0) ∧ x ≤ 1000000) ∧ k' ≤ k + 1 ∧ DrS w' p L k' ∧ Kept (· = p) w w' := by
  have hd := h
  obtain ⟨lo, a, cap, L⟩ := L
  obtain ⟨h1, h2, h3, h4⟩ := h
  dsimp only at h1 h2 h3 h4
  have c0 := h1.cell 0; have c1 := h1.cell 1
  simp only [List.getElem?_toArray, List.getElem?_cons_succ, List.getElem?_cons_zero] at c0 c1
  have HD := Lib.hid hd
  clear hd
  by_cases hL : L.length = 0
  · have hz : (L.length : Int) = 0 := by omega
    rw [hL] at c0
    clear h1 h4 hL h2 h3 hz
    go_enter Tryd.func77, Tryd.ntmps77
    go_wp2_with fail
    go_ret
    exact ⟨0, k, rfl, ⟨by omega, .inr rfl, by omega⟩, by omega, HD.out, ⟨rfl, rfl, rfl, Nat.le_refl _, fun _ _ _ => rfl⟩⟩
  · by_cases hn1 : n < 1
    · have hz : ¬ (L.length : Int) = 0 := by omega
      clear h1 h4 h2 h3
      go_enter Tryd.func77, Tryd.ntmps77
      go_wp2_with fail
      go_ret
      exact ⟨0, k, rfl, ⟨by omega, .inr rfl, by omega⟩, by omega, HD.out, ⟨rfl, rfl, rfl, Nat.le_refl _, fun _ _ _ => rfl⟩⟩
    · have hz : ¬ (L.length : Int) = 0 := by omega
      have hnz : ¬ n = 0 := by omega
      have f1 := h1.free 1 (Or.inr (Nat.zero_le _))
      have hB1 := h1.set 1 (.int .i64 ((k : Int) + 1))
      have d0 := hB1.cell 0; have d1 := hB1.cell 1
      change (w.setCell ⟨p, 1, none⟩ (.int .i64 ((k : Int) + 1))).cell? ⟨p, 0, none⟩ = some (.slice a L.length cap) at d0
      change (w.setCell ⟨p, 1, none⟩ (.int .i64 ((k : Int) + 1))).cell? ⟨p, 1, none⟩ = some (.int .i64 ((k : Int) + 1)) at d1
      obtain ⟨j, hj⟩ : ∃ j : Nat, (k : Int).tmod L.length = (j : Int) := ⟨k % L.length, by simp [Int.tmod]⟩
      have hjl : j < L.length := by
        have := Int.tmod_lt_of_pos (k : Int) (show (0 : Int) < L.length by omega)
        omega
      obtain ⟨b, off, rfl, hbp, hbl, hc⟩ := h4 j hjl
      have d2 : (w.setCell ⟨p, 1, none⟩ (.int .i64 ((k : Int) + 1))).cell? ⟨b, off + j, none⟩ = some (.int .u8 L[j]) := (World.cell?_of_block (heap_setCell_other _ _ _ _ hbp)).trans hc
      obtain ⟨x, hx⟩ : ∃ x, x = L[j] := ⟨_, rfl⟩
      rw [← hx] at d2
      have hji : (j : Int) < (L.length : Int) := by omega
      have hj0 : (0 : Int) ≤ (j : Int) := by omega
      have HK : Hid (Kept (· = p) w (w.setCell ⟨p, 1, none⟩ (.int .i64 ((k : Int) + 1)))) := Lib.hid ((⟨rfl, rfl, rfl, Nat.le_refl _, fun _ _ _ => rfl⟩ : Kept (· = p) w w).setCell (p := ⟨p, 1, none⟩) rfl _)
      have HD1 : Hid (DrS (w.setCell ⟨p, 1, none⟩ (.int .i64 ((k : Int) + 1))) p ⟨lo, some ⟨b, off, none⟩, cap, L⟩ (k + 1)) := Lib.hid (by
        refine ⟨hB1, h2, by omega, fun i hi => ?_⟩
        obtain ⟨b', off', e', hb', hl', hc'⟩ := h4 i hi
        exact ⟨b', off', e', hb', hl', (World.cell?_of_block (heap_setCell_other _ _ _ _ hb')).trans hc'⟩)
      clear h1 h4 hc hx hB1 hbl HD
      go_enter Tryd.func77, Tryd.ntmps77
      go_wp2_with fail
      generalize w.setCell ⟨p, 1, none⟩ (.int .i64 ((k : Int) + 1)) = w1 at *
      clear c0 c1 f1
      go_quiet (fail)
      go_wp2
      go_ret
      exact ⟨_, k + 1, rfl, ⟨Int.emod_nonneg _ hnz, .inl (Int.emod_lt_of_pos _ (by omega)), Int.le_trans (Int.le_of_lt (Int.emod_lt_of_pos _ (by omega))) hn⟩, Nat.le_refl _, HD1.out.below ⟨rfl, rfl, rfl, Nat.le_refl _, fun _ _ => rfl⟩, ⟨HK.out.os, HK.out.tape, HK.out.output, HK.out.size, HK.out.block⟩⟩
end Go.Proofs.YtnkcmlngoeofgaaDoor
/- milestoneref07.Draft.Weight. -/
namespace Go.Proofs.YtnkcmlngoeofgaaDoor
open Go.RowKit
set_option maxHeartbeats 4000000 in
theorem weight7_any (p : Nat) (L : Dft) (k : Nat) (w : World) (h : DrS w p L k) (hk : k + 1 < 1000000) :
    Calls Tryd.prog 78 #[.pointer (some ⟨p, 0, none⟩)] w fun e w' => ∃ x k', e = .returned (.int .i64 x) ∧ (0 ≤ x ∧ x < 2147483648) ∧ k' ≤ k + 2 ∧ DrS w' p L k' ∧ Kept (· = p) w w' := by
  have HD := Lib.hid h
  have HNx := Lib.hid (fun n (hn : n ≤ 1000000) (u : World) (k' : Nat) (hd : DrS u p L k') (hk' : k' < 1000000) => next7_any p L k' n u hd hk' hn)
  clear h
  go_enter Tryd.func78, Tryd.ntmps78
  go_wp2_with fail
  refine (HNx.out 12 (by decide) w k HD.out (by omega)).mono ?_
  rintro e w1 ⟨x, k1, rfl, ⟨hx0, hx1, _⟩, hk1, hd1, hkk1⟩
  have hx : x < 12 := by rcases hx1 with h | h <;> omega
  have HD1 := Lib.hid hd1; have HK1 := Lib.hid hkk1
  clear hd1 hkk1 hx1 HD
  by_cases c3 : x < 3
  · go_wp2_with fail
    go_ret
    exact ⟨0, k1, rfl, ⟨by omega, by omega⟩, by omega, HD1.out, HK1.out⟩
  · by_cases c10 : x < 10
    · go_wp2_with fail
      refine (HNx.out 9 (by decide) w1 k1 HD1.out (by omega)).mono ?_
      rintro e w2 ⟨y, k2, rfl, ⟨hy0, hy1, _⟩, hk2, hd2, hkk2⟩
      have hy : y < 9 := by rcases hy1 with h | h <;> omega
      have HD2 := Lib.hid hd2; have HK2 := Lib.hid (HK1.out.trans hkk2)
      clear hd2 hkk2 hy1
      go_wp2_with fail
      go_ret
      exact ⟨1 + y, k2, rfl, ⟨by omega, by omega⟩, by omega, HD2.out, HK2.out⟩
    · by_cases c11 : x < 11
      · go_wp2_with fail
        refine (HNx.out 20 (by decide) w1 k1 HD1.out (by omega)).mono ?_
        rintro e w2 ⟨y, k2, rfl, ⟨hy0, hy1, _⟩, hk2, hd2, hkk2⟩
        have hy : y < 20 := by rcases hy1 with h | h <;> omega
        have HD2 := Lib.hid hd2; have HK2 := Lib.hid (HK1.out.trans hkk2)
        clear hd2 hkk2 hy1
        go_wp2_with fail
        go_ret
        exact ⟨100 * y, k2, rfl, ⟨by omega, by omega⟩, by omega, HD2.out, HK2.out⟩
      · go_wp2_with fail
        refine (HNx.out 2 (by decide) w1 k1 HD1.out (by omega)).mono ?_
        rintro e w2 ⟨y, k2, rfl, ⟨hy0, hy1, _⟩, hk2, hd2, hkk2⟩
        have hy : y < 2 := by rcases hy1 with h | h <;> omega
        have HD2 := Lib.hid hd2; have HK2 := Lib.hid (HK1.out.trans hkk2)
        clear hd2 hkk2 hy1
        go_wp2_with fail
        go_ret
        exact ⟨2147483647 - y, k2, rfl, ⟨by omega, by omega⟩, by omega, HD2.out, HK2.out⟩
end Go.Proofs.YtnkcmlngoeofgaaDoor
/- a draft at p, and a graph in a variable of ours beside it: what numbers drawn, and elements more, leave of both. -/
namespace Go.Proofs.YtnkcmlngoeofgaaDoor
open Go.RowKit
/-- where things lie -/
structure DrC (w0 : World) (B2 Bo p N1 : Nat) (L : Dft) : Prop where
  p : p < w0.heap.size
  lo : L.lo ≤ w0.heap.size
  b2 : w0.heap.size ≤ B2
  bo : B2 < Bo
  n1 : Bo < N1
/-- the draft at p, the graph g in Bo, its lists ours -/
def DrI (w0 : World) (B2 Bo p N1 : Nat) (L : Dft) (vx vy va : Value) (g : Raw) (k : Nat) (W : World) : Prop :=
  ∃ u, (u.heap.size = N1 ∧ Kept (· = p) w0 u ∧ DrS u p L k ∧ Blk u B2 #[.int .i64 0, .slice none 0 0, .slice none 0 0, .slice none 0 0] 25 (0, 0)) ∧ OutI u Bo vx vy va g W
section
variable {w0 W W' : World} {B2 Bo p N1 k k' : Nat} {L : Dft} {vx vy va : Value} {g : Raw}
theorem DrI.dr (hC : DrC w0 B2 Bo p N1 L) (h : DrI w0 B2 Bo p N1 L vx vy va g k W) : DrS W p L k := by
  obtain ⟨u, ⟨_, _, hd, _⟩, ho⟩ := h
  have := hC.p; have := hC.lo; have := hC.b2; have := hC.bo
  exact hd.kept ho.kept (by omega) (fun b hb _ => by omega)
theorem DrI.kept (hC : DrC w0 B2 Bo p N1 L) (h : DrI w0 B2 Bo p N1 L vx vy va g k W) : Kept (· = p) w0 W := by
  obtain ⟨u, ⟨_, hk, _, _⟩, ho⟩ := h
  have := hC.p; have := hC.b2; have := hC.bo
  have h2 := ho.kept
  exact ⟨h2.os.trans hk.os, h2.tape.trans hk.tape, h2.output.trans hk.output, Nat.le_trans hk.size h2.size, fun b hb hs => (h2.block b (Nat.lt_of_lt_of_le hb hk.size) (by omega)).trans (hk.block b hb hs)⟩
theorem DrI.b2 (hC : DrC w0 B2 Bo p N1 L) (h : DrI w0 B2 Bo p N1 L vx vy va g k W) : Blk W B2 #[.int .i64 0, .slice none 0 0, .slice none 0 0, .slice none 0 0] 25 (0, 0) := by
  obtain ⟨u, ⟨_, _, _, hb⟩, ho⟩ := h
  have := hC.bo
  exact ho.kept.blk hb (by omega)
theorem DrI.blk (h : DrI w0 B2 Bo p N1 L vx vy va g k W) : Blk W Bo #[.int .i64 g.nodes, vx, vy, va] 25 (0, 0) := by
  obtain ⟨u, _, ho⟩ := h
  exact ho.blk
theorem DrI.raw (h : DrI w0 B2 Bo p N1 L vx vy va g k W) : RawO N1 W (.agg #[.int .i64 g.nodes, vx, vy, va]) g := by
  obtain ⟨u, ⟨hs, _⟩, ho⟩ := h
  rw [← hs]; exact ho.raw
/-- a number drawn -/
theorem DrI.next (hC : DrC w0 B2 Bo p N1 L) (h : DrI w0 B2 Bo p N1 L vx vy va g k W) (hW : Kept (· = p) W W') (hd' : DrS W' p L k') : DrI w0 B2 Bo p N1 L vx vy va g k' W' := by
  obtain ⟨u, ⟨hs, hk, hd, hb⟩, ho⟩ := h
  have c1 := hC.p; have c2 := hC.lo; have c3 := hC.b2; have c4 := hC.bo; have c5 := hC.n1
  have c6 := hk.size
  obtain ⟨hd1, hd2, hd3, hd4⟩ := hd'
  obtain ⟨cs, hcs⟩ : ∃ cs, cs = Obj.cells #[.slice L.a L.l.length L.cap, .int .i64 (k' : Int)] 92 (0, 0) := ⟨_, rfl⟩
  obtain ⟨u', hu'⟩ : ∃ u' : World, u' = { u with heap := u.heap.setIfInBounds p cs } := ⟨_, rfl⟩
  have hne : ∀ b, b ≠ p → u'.heap[b]? = u.heap[b]? := fun b hb => by
    rw [hu']; exact Array.getElem?_setIfInBounds_ne (Ne.symm hb)
  have hpp : u'.heap[p]? = some cs := by
    rw [hu']; exact Array.getElem?_setIfInBounds_self_of_lt (by omega)
  have hsz : u'.heap.size = u.heap.size := by rw [hu']; simp
  have hWp : W'.heap[p]? = some cs := by rw [hcs]; exact hd1
  have hm := ho.kept.size
  refine ⟨u', ⟨hsz.trans hs, ⟨by rw [hu']; exact hk.os, by rw [hu']; exact hk.tape, by rw [hu']; exact hk.output, by rw [hsz]; exact hk.size, fun b hb hp => (hne b hp).trans (hk.block b hb hp)⟩, ⟨by show u'.heap[p]? = _; rw [hpp, hcs], hd2, hd3, fun i hi => ?_⟩, ?_⟩, ⟨?_, ?_, ?_⟩⟩
  · obtain ⟨b, off, ha, hbp, hl, hc⟩ := hd4 i hi
    refine ⟨b, off, ha, hbp, hl, (World.cell?_of_block ?_).trans hc⟩
    rw [hne b hbp, hW.block b (by omega) hbp, ho.kept.block b (by omega) (by omega)]
  · show u'.heap[B2]? = _
    rw [hne B2 (by omega)]; exact hb
  · exact (hW.block Bo ho.blk.lt (by omega)).trans ho.blk
  · have agr : ∀ {e : TypeId} {size : Nat} {v : Value} {n : Nat} {xs : List Value}, W.ownsRow u.heap.size e size v n xs → W'.ownsRow u'.heap.size e size v n xs := fun hr => by
      rw [hsz]
      exact ownsRow_agree' hr fun b hb => by
        obtain ⟨h1, _, h2⟩ := ownsRow_blk' hr hb
        exact hW.block b h2.lt (by omega)
    exact ⟨agr ho.own.1, agr ho.own.2.1, agr ho.own.2.2.1, ho.own.2.2.2⟩
  · have k2 := ho.kept
    refine ⟨by rw [hu']; exact hW.os.trans k2.os, by rw [hu']; exact hW.tape.trans k2.tape, by rw [hu']; exact hW.output.trans k2.output, by rw [hsz]; exact Nat.le_trans k2.size hW.size, fun b hb hne' => ?_⟩
    by_cases e : b = p
    · subst e; rw [hpp, hWp]
    · rw [hne b e, hW.block b (by omega) e]
      exact k2.block b (by omega) hne'
theorem DrI.below (h : DrI w0 B2 Bo p N1 L vx vy va g k W) (hb : Below W.heap.size W W') : DrI w0 B2 Bo p N1 L vx vy va g k W' := by
  obtain ⟨u, hu, ho⟩ := h
  exact ⟨u, hu, ho.below hb⟩
/-- block b is none of the rows', nor p, Bo, B2 -/
structure DrA (B2 Bo p N1 b : Nat) (vx vy va : Value) : Prop where
  n1 : N1 ≤ b
  x : some b ≠ vx.ownBlock
  y : some b ≠ vy.ownBlock
  a : some b ≠ va.ownBlock
  p : b ≠ p
  bo : b ≠ Bo
theorem DrI.apart (hC : DrC w0 B2 Bo p N1 L) (h : DrI w0 B2 Bo p N1 L vx vy va g k W) : DrA B2 Bo p N1 W.heap.size vx vy va := by
  have hp := (h.dr hC).1.lt
  have hb := h.blk.lt
  obtain ⟨u, ⟨hs, _, _, _⟩, ho⟩ := h
  have := ho.kept.size
  have nn : ∀ {e : TypeId} {size : Nat} {v : Value} {n : Nat} {xs : List Value}, W.ownsRow u.heap.size e size v n xs → some W.heap.size ≠ v.ownBlock := fun hr e => by
    have := (ownsRow_blk' hr e.symm).2.choose_spec.lt
    omega
  exact ⟨by omega, nn ho.own.1, nn ho.own.2.1, nn ho.own.2.2.1, by omega, by omega⟩
theorem DrI.setNew {b i : Nat} {v : Value} (h : DrI w0 B2 Bo p N1 L vx vy va g k W) (ha : DrA B2 Bo p N1 b vx vy va) : DrI w0 B2 Bo p N1 L vx vy va g k (W.setCell ⟨b, i, none⟩ v) := by
  obtain ⟨u, hu, ho⟩ := h
  have hs := hu.1
  have h1 := ha.n1
  have agr : ∀ {e : TypeId} {size : Nat} {x : Value} {n : Nat} {xs : List Value}, W.ownsRow u.heap.size e size x n xs → some b ≠ x.ownBlock → (W.setCell ⟨b, i, none⟩ v).ownsRow u.heap.size e size x n xs := fun hr hx =>
    ownsRow_agree' hr fun c hc => heap_setCell_other _ _ _ _ (fun e => hx (by rw [hc]; exact congrArg some e.symm))
  have hk := ho.kept
  refine ⟨u, hu, ⟨ho.blk.setOther ⟨b, i, none⟩ v (Ne.symm ha.bo), ⟨agr ho.own.1 ha.x, agr ho.own.2.1 ha.y, agr ho.own.2.2.1 ha.a, ho.own.2.2.2⟩, ⟨hk.os, hk.tape, hk.output, by simpa [World.setCell] using hk.size, fun c hc hne => (heap_setCell_other _ _ _ _ (fun e : c = b => by omega)).trans (hk.block c hc hne)⟩⟩⟩
/-- the beginning: a variable just made -/
theorem DrI.new {nodes : Int} {w2 : World} (hk : Kept (· = p) w0 w2) (hd : DrS w2 p L k) (hb : Blk w2 B2 #[.int .i64 0, .slice none 0 0, .slice none 0 0, .slice none 0 0] 25 (0, 0)) :
    DrI w0 B2 w2.heap.size p (w2.heap.size + 1) L (.slice none 0 0) (.slice none 0 0) (.slice none 0 0) ⟨nodes, [], [], []⟩ k (w2.alloc (.cells #[.int .i64 nodes, .slice none 0 0, .slice none 0 0, .slice none 0 0] 25)) := by
  have hbl : Below w2.heap.size w2 (w2.alloc (.cells #[.int .i64 nodes, .slice none 0 0, .slice none 0 0, .slice none 0 0] 25)) := (Below.refl _ _).alloc (Nat.le_refl _) _
  refine ⟨_, ⟨by simp, hk.alloc _, hd.below hbl, hb.alloc _⟩, ⟨Blk.new _ _ _ _, ⟨World.ownsRow_nil _ _ _ _, World.ownsRow_nil _ _ _ _, World.ownsRow_nil _ _ _ _, fun b hb => by cases hb⟩, Kept.refl _ _⟩⟩
end
end Go.Proofs.YtnkcmlngoeofgaaDoor
