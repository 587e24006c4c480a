/- Texts of the law GraphFirst, merged: NetCopy. -/
import Derived.Test.YtnkcmlngoeofgaaDoorPGraphFirst02
/- milestoneref07.Copy. -/
namespace Go.Proofs.YtnkcmlngoeofgaaDoor
open Go.RowKit
set_option maxRecDepth 100000 in
set_option maxHeartbeats 32000000 in
theorem copy7_any (v : Value) (r : Raw) (w : World) (h : RawV w v r) (hl : r.few) : Calls Tryd.prog 42 #[v] w fun e w' => ∃ v', e = .returned v' ∧ RawO w.heap.size w' v' r ∧ Below w.heap.size w w' := by
  have h0 := h
  obtain ⟨vx, vy, va, rfl, hx, hy, ha⟩ := h
  have fx := hx.form; have fy := hy.form; have fa := ha.form
  obtain ⟨Br, hBr⟩ : ∃ b, b = w.heap.size := ⟨_, rfl⟩
  obtain ⟨Bt, hBt⟩ : ∃ b, b = w.heap.size + 1 := ⟨_, rfl⟩
  obtain ⟨w1, hw1⟩ : ∃ w1, w1 = (w.alloc (.cells #[.int .i64 r.nodes, vx, vy, va] 25)).alloc (.cells #[.int .i64 0, .slice none 0 0, .slice none 0 0, .slice none 0 0] 25) := ⟨_, rfl⟩
  have hb1 : Below w.heap.size w w1 := by rw [hw1]; exact ((Below.refl _ _).alloc (Nat.le_refl _) _).alloc (by simp) _
  have KR : Blk w1 Br #[.int .i64 r.nodes, vx, vy, va] 25 (0, 0) := by rw [hw1, hBr]; exact (Blk.new _ _ _ _).alloc _
  have KT : Blk w1 Bt #[.int .i64 0, .slice none 0 0, .slice none 0 0, .slice none 0 0] 25 (0, 0) := by
    rw [hw1, hBt]
    have h := Blk.new (w.alloc (.cells #[.int .i64 r.nodes, vx, vy, va] 25)) #[.int .i64 0, .slice none 0 0, .slice none 0 0, .slice none 0 0] 25 (0, 0)
    rwa [World.size_alloc] at h
  have HV := Lib.hid (show ∀ u, Below w1.heap.size w1 u → SlX u vx r.X ∧ SlX u vy r.Y ∧ SlA u va r.arcs from fun u hu =>
    have k := (KpC.of_below hb1).trans (KpC.of_below hu)
    ⟨hx.keep k, hy.keep k, ha.keep k⟩)
  have HB1 := Lib.hid hb1; have HBr := Lib.hid KR; have HBt := Lib.hid KT; have HW1 := Lib.hid hw1; have HFew := Lib.hid hl
  have HEr := Lib.hid hBr; have HEt := Lib.hid hBt
  have HLt := Lib.hid (show w.heap.size ≤ Bt by omega)
  clear h0 hx hy ha hb1 KR KT hw1 hl
  obtain ⟨_, _, _, rfl⟩ := fx
  obtain ⟨_, _, _, rfl⟩ := fy
  obtain ⟨_, _, _, rfl⟩ := fa
  rename_i x1 x2 x3 y1 y2 y3 z1 z2 z3
  go_enter Tryd.func42, Tryd.ntmps42
  go_wp2_with fail
  rw [← HW1.out, ← HEt.out, ← HEr.out]
  clear hBt hBr
  obtain ⟨vx, hvx⟩ : ∃ v, v = Value.slice x1 x2 x3 := ⟨_, rfl⟩
  obtain ⟨vy, hvy⟩ : ∃ v, v = Value.slice y1 y2 y3 := ⟨_, rfl⟩
  obtain ⟨va, hva⟩ : ∃ v, v = Value.slice z1 z2 z3 := ⟨_, rfl⟩
  rw [← hvx, ← hvy, ← hva] at HBr HV ⊢
  clear hvx hvy hva HW1 HEr HEt
  refine wp_region_heldD (fun w' => w'.cell? ⟨Br, 0, none⟩ = some (.int .i64 r.nodes) ∧ w'.cell? ⟨Br, 1, none⟩ = some (vx) ∧ w'.cell? ⟨Br, 2, none⟩ = some (vy) ∧ w'.cell? ⟨Br, 3, none⟩ = some (va)) 15 rfl ?_
  change heldD _ _ _ _ _ _ _ 16 _ _ w1.drew
  obtain ⟨wk0, hu0⟩ : ∃ u, u = w1.drew := ⟨_, rfl⟩
  have HBw0 := Lib.hid (show Below w1.heap.size w1 wk0 by rw [hu0]; exact (Below.refl _ _).drew)
  have HSS := Lib.hid (show ∀ u, Below w1.heap.size w1 u → (u.cell? ⟨Br, 0, none⟩ = some (.int .i64 r.nodes) ∧ u.cell? ⟨Br, 1, none⟩ = some (vx) ∧ u.cell? ⟨Br, 2, none⟩ = some (vy) ∧ u.cell? ⟨Br, 3, none⟩ = some (va)) from fun u hu => ⟨(HBr.out.below hu HBr.out.lt).cell 0, (HBr.out.below hu HBr.out.lt).cell 1, (HBr.out.below hu HBr.out.lt).cell 2, (HBr.out.below hu HBr.out.lt).cell 3⟩)
  have hS0 := HSS.out wk0 HBw0.out
  rw [← hu0]
  clear hu0
  refine heldD_takeF (i := 0) (v := .pointer (some ⟨Br, 0, none⟩)) rfl rfl rfl (by kernel_rfl) (by kernel_rfl) (by kernel_rfl) (by kernel_rfl) (fun _ _ _ h => h) (by rfl) (fun w => ⟨by rfl, by go_simp⟩) (fun _ => hS0) ?_
  simp only [List.setIfInBounds_toArray, List.set_cons_zero, List.set_cons_succ]
  refine heldD_take (i := 1) (v := .int .i64 r.nodes) rfl rfl rfl (by kernel_rfl) (by kernel_rfl) (by kernel_rfl) (by kernel_rfl) (by kernel_rfl) (by kernel_rfl) (fun _ _ _ h => h) (by rfl) (fun w hS => ⟨by rfl, by obtain ⟨hS1, hS2, hS3, hS4⟩ := hS; go_simp⟩) hS0 ?_
  simp only [List.setIfInBounds_toArray, List.set_cons_zero, List.set_cons_succ]
  refine heldD_takeF (i := 3) (v := .pointer (some ⟨Br, 1, none⟩)) rfl rfl rfl (by kernel_rfl) (by kernel_rfl) (by kernel_rfl) (by kernel_rfl) (fun _ _ _ h => h) (by rfl) (fun w => ⟨by rfl, by go_simp⟩) (fun _ => hS0) ?_
  simp only [List.setIfInBounds_toArray, List.set_cons_zero, List.set_cons_succ]
  refine heldD_take (i := 4) (v := vx) rfl rfl rfl (by kernel_rfl) (by kernel_rfl) (by kernel_rfl) (by kernel_rfl) (by kernel_rfl) (by kernel_rfl) (fun _ _ _ h => h) (by rfl) (fun w hS => ⟨by rfl, by obtain ⟨hS1, hS2, hS3, hS4⟩ := hS; go_simp⟩) hS0 ?_
  simp only [List.setIfInBounds_toArray, List.set_cons_zero, List.set_cons_succ]
  refine heldD_takeF (i := 7) (v := .pointer (some ⟨Br, 2, none⟩)) rfl rfl rfl (by kernel_rfl) (by kernel_rfl) (by kernel_rfl) (by kernel_rfl) (fun _ _ _ h => h) (by rfl) (fun w => ⟨by rfl, by go_simp⟩) (fun _ => hS0) ?_
  simp only [List.setIfInBounds_toArray, List.set_cons_zero, List.set_cons_succ]
  refine heldD_take (i := 8) (v := vy) rfl rfl rfl (by kernel_rfl) (by kernel_rfl) (by kernel_rfl) (by kernel_rfl) (by kernel_rfl) (by kernel_rfl) (fun _ _ _ h => h) (by rfl) (fun w hS => ⟨by rfl, by obtain ⟨hS1, hS2, hS3, hS4⟩ := hS; go_simp⟩) hS0 ?_
  simp only [List.setIfInBounds_toArray, List.set_cons_zero, List.set_cons_succ]
  refine heldD_takeF (i := 11) (v := .pointer (some ⟨Br, 3, none⟩)) rfl rfl rfl (by kernel_rfl) (by kernel_rfl) (by kernel_rfl) (by kernel_rfl) (fun _ _ _ h => h) (by rfl) (fun w => ⟨by rfl, by go_simp⟩) (fun _ => hS0) ?_
  simp only [List.setIfInBounds_toArray, List.set_cons_zero, List.set_cons_succ]
  refine heldD_take (i := 12) (v := va) rfl rfl rfl (by kernel_rfl) (by kernel_rfl) (by kernel_rfl) (by kernel_rfl) (by kernel_rfl) (by kernel_rfl) (fun _ _ _ h => h) (by rfl) (fun w hS => ⟨by rfl, by obtain ⟨hS1, hS2, hS3, hS4⟩ := hS; go_simp⟩) hS0 ?_
  simp only [List.setIfInBounds_toArray, List.set_cons_zero, List.set_cons_succ]
  refine heldD_three (i := 2) (k := 6) (m := 10) (by kernel_rfl) ?_ ?_ ?_
  · obtain ⟨g0, hg0⟩ : ∃ g, g = wk0.heap.size := ⟨_, rfl⟩
    obtain ⟨wk1, hw⟩ : ∃ u, u = wk0.alloc (.cells #[] 2) := ⟨_, rfl⟩
    refine wpOpIn_value (v := .slice (some ⟨g0, 0, none⟩) 0 0) (w' := wk1) rfl rfl rfl (by rfl) (by rfl) (by rw [hw, hg0]; go_simp) ?_
    have hb : Below wk0.heap.size wk0 wk1 := by rw [hw]; exact (Below.refl _ _).alloc (Nat.le_refl _) _
    have hs1 : wk1.heap.size = wk0.heap.size + 1 := by rw [hw]; simp
    have HA0 := Lib.hid (show wk1.ownsRow w1.heap.size 2 1 (.slice (some ⟨g0, 0, none⟩) 0 0) 0 [] by rw [hw, hg0]; exact ownsRow_zero _ _ _ _ HBw0.out.size)
    have HBw1 := Lib.hid (HBw0.out.trans (hb.mono HBw0.out.size))
    have HL0 := Lib.hid (show w1.heap.size ≤ g0 by rw [hg0]; exact HBw0.out.size)
    have HG0 := Lib.hid hg0; have HZ1 := Lib.hid hs1
    have hS0 := HSS.out wk1 HBw1.out
    clear hw hb hg0 hs1
    refine ⟨fun _ => hS0, ?_⟩
    simp only [List.setIfInBounds_toArray, List.set_cons_zero, List.set_cons_succ]
    refine heldD_three (i := 5) (k := 6) (m := 10) (by kernel_rfl) ?_ ?_ ?_
    · have hge := HL0.out
      obtain ⟨a0, n0, c0, wk2, hr, ho, hb, hgr, hO, hsz⟩ := copyApp (t := 22) Tryd.underlying22 infoI rfl (by omega) (by omega) HA0.out (HV.out wk1 HBw1.out).1.row HFew.out.1 HBw1.out hge
      have HR := Lib.hid hr
      clear hr
      refine wpOpIn_append rfl rfl rfl (by rfl) _ _ _ _ rfl HR.out ?_
      clear HR
      have HZ2 := Lib.hid hsz; have HO0 := Lib.hid hO; have HS0 := Lib.hid (show ∀ b, (Value.slice a0 n0 c0).ownBlock = some b → b < wk2.heap.size ∧ (b = g0 ∨ b = wk1.heap.size) from hO)
      have HP0 := Lib.hid ho
      have HBw2 := Lib.hid hb
      have hS0 := HSS.out wk2 HBw2.out
      clear hge ho hb hgr hO hsz HO0
      refine ⟨fun _ => hS0, ?_⟩
      simp only [List.setIfInBounds_toArray, List.set_cons_zero, List.set_cons_succ]
      refine heldD_two (i := 6) (k := 10) (by kernel_rfl) ?_ ?_
      · obtain ⟨g1, hg1⟩ : ∃ g, g = wk2.heap.size := ⟨_, rfl⟩
        obtain ⟨wk3, hw⟩ : ∃ u, u = wk2.alloc (.cells #[] 2) := ⟨_, rfl⟩
        refine wpOpIn_value (v := .slice (some ⟨g1, 0, none⟩) 0 0) (w' := wk3) rfl rfl rfl (by rfl) (by rfl) (by rw [hw, hg1]; go_simp) ?_
        have hb : Below wk2.heap.size wk2 wk3 := by rw [hw]; exact (Below.refl _ _).alloc (Nat.le_refl _) _
        have hs3 : wk3.heap.size = wk2.heap.size + 1 := by rw [hw]; simp
        have HA1 := Lib.hid (show wk3.ownsRow w1.heap.size 2 1 (.slice (some ⟨g1, 0, none⟩) 0 0) 0 [] by rw [hw, hg1]; exact ownsRow_zero _ _ _ _ HBw2.out.size)
        replace HP0 := Lib.hid (ownsRow_below HP0.out hb)
        have HBw3 := Lib.hid (HBw2.out.trans (hb.mono HBw2.out.size))
        have HL1 := Lib.hid (show w1.heap.size ≤ g1 by rw [hg1]; exact HBw2.out.size)
        have HG1 := Lib.hid hg1; have HZ3 := Lib.hid hs3
        have hS0 := HSS.out wk3 HBw3.out
        clear hw hb hg1 hs3
        refine ⟨fun _ => hS0, ?_⟩
        simp only [List.setIfInBounds_toArray, List.set_cons_zero, List.set_cons_succ]
        refine heldD_two (i := 9) (k := 10) (by kernel_rfl) ?_ ?_
        · have hge := HL1.out
          obtain ⟨a1, n1, c1, wk4, hr, ho, hb, hgr, hO, hsz⟩ := copyApp (t := 22) Tryd.underlying22 infoI rfl (by omega) (by omega) HA1.out (HV.out wk3 HBw3.out).2.1.row HFew.out.2.1 HBw3.out hge
          have HR := Lib.hid hr
          clear hr
          refine wpOpIn_append rfl rfl rfl (by rfl) _ _ _ _ rfl HR.out ?_
          clear HR
          have HZ4 := Lib.hid hsz; have HO1 := Lib.hid hO; have HS1 := Lib.hid (show ∀ b, (Value.slice a1 n1 c1).ownBlock = some b → b < wk4.heap.size ∧ (b = g1 ∨ b = wk3.heap.size) from hO)
          have HP1 := Lib.hid ho
          replace HP0 := Lib.hid (ownsRow_grown HP0.out hgr (fun b h => by have q := HS0.out b h; have q1 := HG0.out; have q2 := HG1.out; have z1 := HZ1.out; have z2 := HZ2.out; have z3 := HZ3.out; omega))
          have HBw4 := Lib.hid hb
          have hS0 := HSS.out wk4 HBw4.out
          clear hge ho hb hgr hO hsz HO1
          refine ⟨fun _ => hS0, ?_⟩
          simp only [List.setIfInBounds_toArray, List.set_cons_zero, List.set_cons_succ]
          refine heldD_one (i := 10) (by kernel_rfl) ?_
          obtain ⟨g2, hg2⟩ : ∃ g, g = wk4.heap.size := ⟨_, rfl⟩
          obtain ⟨wk5, hw⟩ : ∃ u, u = wk4.alloc (.cells #[] 54) := ⟨_, rfl⟩
          refine wpOpIn_value (v := .slice (some ⟨g2, 0, none⟩) 0 0) (w' := wk5) rfl rfl rfl (by rfl) (by rfl) (by rw [hw, hg2]; go_simp) ?_
          have hb : Below wk4.heap.size wk4 wk5 := by rw [hw]; exact (Below.refl _ _).alloc (Nat.le_refl _) _
          have hs5 : wk5.heap.size = wk4.heap.size + 1 := by rw [hw]; simp
          have HA2 := Lib.hid (show wk5.ownsRow w1.heap.size 54 3 (.slice (some ⟨g2, 0, none⟩) 0 0) 0 [] by rw [hw, hg2]; exact ownsRow_zero _ _ _ _ HBw4.out.size)
          replace HP0 := Lib.hid (ownsRow_below HP0.out hb)
          replace HP1 := Lib.hid (ownsRow_below HP1.out hb)
          have HBw5 := Lib.hid (HBw4.out.trans (hb.mono HBw4.out.size))
          have HL2 := Lib.hid (show w1.heap.size ≤ g2 by rw [hg2]; exact HBw4.out.size)
          have HG2 := Lib.hid hg2; have HZ5 := Lib.hid hs5
          have hS0 := HSS.out wk5 HBw5.out
          clear hw hb hg2 hs5
          refine ⟨fun _ => hS0, ?_⟩
          simp only [List.setIfInBounds_toArray, List.set_cons_zero, List.set_cons_succ]
          refine heldD_one (i := 13) (by kernel_rfl) ?_
          have hge := HL2.out
          obtain ⟨a2, n2, c2, wk6, hr, ho, hb, hgr, hO, hsz⟩ := copyApp (t := 23) Tryd.underlying23 infoA rfl (by omega) (by omega) HA2.out (HV.out wk5 HBw5.out).2.2.row HFew.out.2.2 HBw5.out hge
          have HR := Lib.hid hr
          clear hr
          refine wpOpIn_append rfl rfl rfl (by rfl) _ _ _ _ rfl HR.out ?_
          clear HR
          have HZ6 := Lib.hid hsz; have HO2 := Lib.hid hO; have HS2 := Lib.hid (show ∀ b, (Value.slice a2 n2 c2).ownBlock = some b → b < wk6.heap.size ∧ (b = g2 ∨ b = wk5.heap.size) from hO)
          have HP2 := Lib.hid ho
          replace HP0 := Lib.hid (ownsRow_grown HP0.out hgr (fun b h => by have q := HS0.out b h; have q1 := HG0.out; have q2 := HG2.out; have z1 := HZ1.out; have z2 := HZ2.out; have z3 := HZ3.out; have z4 := HZ4.out; have z5 := HZ5.out; omega))
          replace HP1 := Lib.hid (ownsRow_grown HP1.out hgr (fun b h => by have q := HS1.out b h; have q1 := HG1.out; have q2 := HG2.out; have z1 := HZ1.out; have z2 := HZ2.out; have z3 := HZ3.out; have z4 := HZ4.out; have z5 := HZ5.out; omega))
          have HBw6 := Lib.hid hb
          have hS0 := HSS.out wk6 HBw6.out
          clear hge ho hb hgr hO hsz HO2
          refine ⟨fun _ => hS0, ?_⟩
          simp only [List.setIfInBounds_toArray, List.set_cons_zero, List.set_cons_succ]
          refine heldD_takeF (i := 14) (v := .agg #[.int .i64 r.nodes, .slice a0 n0 c0, .slice a1 n1 c1, .slice a2 n2 c2]) rfl rfl rfl (by kernel_rfl) (by kernel_rfl) (by kernel_rfl) (by kernel_rfl) (fun _ _ _ h => h) (by rfl) (fun w => ⟨by rfl, by go_simp⟩) (fun _ => hS0) ?_
          simp only [List.setIfInBounds_toArray, List.set_cons_zero, List.set_cons_succ]
          have hOw : Own3 w1.heap.size wk6 (.slice a0 n0 c0) (.slice a1 n1 c1) (.slice a2 n2 c2) r := ⟨HP0.out, HP1.out, HP2.out, fun b h0 h1 => by have q := HS0.out b h0; have q' := HS1.out b h1; have q1 := HG0.out; have q2 := HG1.out; have z1 := HZ1.out; have z2 := HZ2.out; have z3 := HZ3.out; have z4 := HZ4.out; have z5 := HZ5.out; have z6 := HZ6.out; omega⟩
          have bT := HBt.out.below HBw6.out HBt.out.lt
          have h4 := store4 hOw bT HLt.out (HB1.out.next' HBw6.out)
          have hbase : w.heap.size ≤ w1.heap.size := HB1.out.size
          have fr := fun i => bT.free i (Or.inr (Nat.zero_le _))
          have f0 := fr 0; have f1 := fr 1; have f2 := fr 2; have f3 := fr 3
          have e0 := bT.cell 0; have e1 := bT.cell 1; have e2 := bT.cell 2; have e3 := bT.cell 3
          change wk6.cell? ⟨Bt, 0, none⟩ = some (.int .i64 0) at e0
          change wk6.cell? ⟨Bt, 1, none⟩ = some (.slice none 0 0) at e1
          change wk6.cell? ⟨Bt, 2, none⟩ = some (.slice none 0 0) at e2
          change wk6.cell? ⟨Bt, 3, none⟩ = some (.slice none 0 0) at e3
          have H4 := Lib.hid h4
          clear h4 bT fr hOw
          refine heldD_one (i := 15) (by kernel_rfl) ?_
          refine wpOpIn_skip (w' := (((wk6.setCell ⟨Bt, 0, none⟩ (.int .i64 r.nodes)).setCell ⟨Bt, 1, none⟩ (.slice a0 n0 c0)).setCell ⟨Bt, 2, none⟩ (.slice a1 n1 c1)).setCell ⟨Bt, 3, none⟩ (.slice a2 n2 c2)) rfl rfl rfl (by rfl) (by rfl) (by go_simp) ?_
          refine ⟨fun h => (by cases h), ?_⟩
          refine heldD_done (by kernel_rfl) ?_ _
          clear hS0 e0 e1 e2 e3 f0 f1 f2 f3
          have z0 := H4.out.1.cell 0; have z1 := H4.out.1.cell 1; have z2 := H4.out.1.cell 2; have z3 := H4.out.1.cell 3
          simp only [List.getElem?_toArray, List.getElem?_cons_succ, List.getElem?_cons_zero] at z0 z1 z2 z3
          generalize (((wk6.setCell ⟨Bt, 0, none⟩ (.int .i64 r.nodes)).setCell ⟨Bt, 1, none⟩ (.slice a0 n0 c0)).setCell ⟨Bt, 2, none⟩ (.slice a1 n1 c1)).setCell ⟨Bt, 3, none⟩ (.slice a2 n2 c2) = wz at *
          go_wp2_with fail
          exact bodyPost_ret (v := .agg #[.int .i64 r.nodes, .slice a0 n0 c0, .slice a1 n1 c1, .slice a2 n2 c2]) (by simp [results, Tryd.results42, go_sem, z0, z1, z2, z3]) rfl ⟨_, rfl, ⟨_, _, _, rfl, ownsRow_le H4.out.2.1.1 hbase, ownsRow_le H4.out.2.1.2.1 hbase, ownsRow_le H4.out.2.1.2.2.1 hbase, H4.out.2.1.2.2.2⟩, H4.out.2.2⟩
        · obtain ⟨g2, hg2⟩ : ∃ g, g = wk3.heap.size := ⟨_, rfl⟩
          obtain ⟨wk4, hw⟩ : ∃ u, u = wk3.alloc (.cells #[] 54) := ⟨_, rfl⟩
          refine wpOpIn_value (v := .slice (some ⟨g2, 0, none⟩) 0 0) (w' := wk4) rfl rfl rfl (by rfl) (by rfl) (by rw [hw, hg2]; go_simp) ?_
          have hb : Below wk3.heap.size wk3 wk4 := by rw [hw]; exact (Below.refl _ _).alloc (Nat.le_refl _) _
          have hs4 : wk4.heap.size = wk3.heap.size + 1 := by rw [hw]; simp
          have HA2 := Lib.hid (show wk4.ownsRow w1.heap.size 54 3 (.slice (some ⟨g2, 0, none⟩) 0 0) 0 [] by rw [hw, hg2]; exact ownsRow_zero _ _ _ _ HBw3.out.size)
          replace HP0 := Lib.hid (ownsRow_below HP0.out hb)
          replace HA1 := Lib.hid (ownsRow_below HA1.out hb)
          have HBw4 := Lib.hid (HBw3.out.trans (hb.mono HBw3.out.size))
          have HL2 := Lib.hid (show w1.heap.size ≤ g2 by rw [hg2]; exact HBw3.out.size)
          have HG2 := Lib.hid hg2; have HZ4 := Lib.hid hs4
          have hS0 := HSS.out wk4 HBw4.out
          clear hw hb hg2 hs4
          refine ⟨fun _ => hS0, ?_⟩
          simp only [List.setIfInBounds_toArray, List.set_cons_zero, List.set_cons_succ]
          refine heldD_one (i := 9) (by kernel_rfl) ?_
          have hge := HL1.out
          obtain ⟨a1, n1, c1, wk5, hr, ho, hb, hgr, hO, hsz⟩ := copyApp (t := 22) Tryd.underlying22 infoI rfl (by omega) (by omega) HA1.out (HV.out wk4 HBw4.out).2.1.row HFew.out.2.1 HBw4.out hge
          have HR := Lib.hid hr
          clear hr
          refine wpOpIn_append rfl rfl rfl (by rfl) _ _ _ _ rfl HR.out ?_
          clear HR
          have HZ5 := Lib.hid hsz; have HO1 := Lib.hid hO; have HS1 := Lib.hid (show ∀ b, (Value.slice a1 n1 c1).ownBlock = some b → b < wk5.heap.size ∧ (b = g1 ∨ b = wk4.heap.size) from hO)
          have HP1 := Lib.hid ho
          replace HP0 := Lib.hid (ownsRow_grown HP0.out hgr (fun b h => by have q := HS0.out b h; have q1 := HG0.out; have q2 := HG1.out; have z1 := HZ1.out; have z2 := HZ2.out; have z3 := HZ3.out; have z4 := HZ4.out; omega))
          replace HA2 := Lib.hid (ownsRow_grown HA2.out hgr (fun b h => by have q : g2 = b := (by simpa [Value.ownBlock] using h); have q1 := HG2.out; have q2 := HG1.out; have z1 := HZ1.out; have z2 := HZ2.out; have z3 := HZ3.out; have z4 := HZ4.out; omega))
          have HBw5 := Lib.hid hb
          have hS0 := HSS.out wk5 HBw5.out
          clear hge ho hb hgr hO hsz HO1
          refine ⟨fun _ => hS0, ?_⟩
          simp only [List.setIfInBounds_toArray, List.set_cons_zero, List.set_cons_succ]
          refine heldD_one (i := 13) (by kernel_rfl) ?_
          have hge := HL2.out
          obtain ⟨a2, n2, c2, wk6, hr, ho, hb, hgr, hO, hsz⟩ := copyApp (t := 23) Tryd.underlying23 infoA rfl (by omega) (by omega) HA2.out (HV.out wk5 HBw5.out).2.2.row HFew.out.2.2 HBw5.out hge
          have HR := Lib.hid hr
          clear hr
          refine wpOpIn_append rfl rfl rfl (by rfl) _ _ _ _ rfl HR.out ?_
          clear HR
          have HZ6 := Lib.hid hsz; have HO2 := Lib.hid hO; have HS2 := Lib.hid (show ∀ b, (Value.slice a2 n2 c2).ownBlock = some b → b < wk6.heap.size ∧ (b = g2 ∨ b = wk5.heap.size) from hO)
          have HP2 := Lib.hid ho
          replace HP0 := Lib.hid (ownsRow_grown HP0.out hgr (fun b h => by have q := HS0.out b h; have q1 := HG0.out; have q2 := HG2.out; have z1 := HZ1.out; have z2 := HZ2.out; have z3 := HZ3.out; have z4 := HZ4.out; have z5 := HZ5.out; omega))
          replace HP1 := Lib.hid (ownsRow_grown HP1.out hgr (fun b h => by have q := HS1.out b h; have q1 := HG1.out; have q2 := HG2.out; have z1 := HZ1.out; have z2 := HZ2.out; have z3 := HZ3.out; have z4 := HZ4.out; have z5 := HZ5.out; omega))
          have HBw6 := Lib.hid hb
          have hS0 := HSS.out wk6 HBw6.out
          clear hge ho hb hgr hO hsz HO2
          refine ⟨fun _ => hS0, ?_⟩
          simp only [List.setIfInBounds_toArray, List.set_cons_zero, List.set_cons_succ]
          refine heldD_takeF (i := 14) (v := .agg #[.int .i64 r.nodes, .slice a0 n0 c0, .slice a1 n1 c1, .slice a2 n2 c2]) rfl rfl rfl (by kernel_rfl) (by kernel_rfl) (by kernel_rfl) (by kernel_rfl) (fun _ _ _ h => h) (by rfl) (fun w => ⟨by rfl, by go_simp⟩) (fun _ => hS0) ?_
          simp only [List.setIfInBounds_toArray, List.set_cons_zero, List.set_cons_succ]
          have hOw : Own3 w1.heap.size wk6 (.slice a0 n0 c0) (.slice a1 n1 c1) (.slice a2 n2 c2) r := ⟨HP0.out, HP1.out, HP2.out, fun b h0 h1 => by have q := HS0.out b h0; have q' := HS1.out b h1; have q1 := HG0.out; have q2 := HG1.out; have z1 := HZ1.out; have z2 := HZ2.out; have z3 := HZ3.out; have z4 := HZ4.out; have z5 := HZ5.out; have z6 := HZ6.out; omega⟩
          have bT := HBt.out.below HBw6.out HBt.out.lt
          have h4 := store4 hOw bT HLt.out (HB1.out.next' HBw6.out)
          have hbase : w.heap.size ≤ w1.heap.size := HB1.out.size
          have fr := fun i => bT.free i (Or.inr (Nat.zero_le _))
          have f0 := fr 0; have f1 := fr 1; have f2 := fr 2; have f3 := fr 3
          have e0 := bT.cell 0; have e1 := bT.cell 1; have e2 := bT.cell 2; have e3 := bT.cell 3
          change wk6.cell? ⟨Bt, 0, none⟩ = some (.int .i64 0) at e0
          change wk6.cell? ⟨Bt, 1, none⟩ = some (.slice none 0 0) at e1
          change wk6.cell? ⟨Bt, 2, none⟩ = some (.slice none 0 0) at e2
          change wk6.cell? ⟨Bt, 3, none⟩ = some (.slice none 0 0) at e3
          have H4 := Lib.hid h4
          clear h4 bT fr hOw
          refine heldD_one (i := 15) (by kernel_rfl) ?_
          refine wpOpIn_skip (w' := (((wk6.setCell ⟨Bt, 0, none⟩ (.int .i64 r.nodes)).setCell ⟨Bt, 1, none⟩ (.slice a0 n0 c0)).setCell ⟨Bt, 2, none⟩ (.slice a1 n1 c1)).setCell ⟨Bt, 3, none⟩ (.slice a2 n2 c2)) rfl rfl rfl (by rfl) (by rfl) (by go_simp) ?_
          refine ⟨fun h => (by cases h), ?_⟩
          refine heldD_done (by kernel_rfl) ?_ _
          clear hS0 e0 e1 e2 e3 f0 f1 f2 f3
          have z0 := H4.out.1.cell 0; have z1 := H4.out.1.cell 1; have z2 := H4.out.1.cell 2; have z3 := H4.out.1.cell 3
          simp only [List.getElem?_toArray, List.getElem?_cons_succ, List.getElem?_cons_zero] at z0 z1 z2 z3
          generalize (((wk6.setCell ⟨Bt, 0, none⟩ (.int .i64 r.nodes)).setCell ⟨Bt, 1, none⟩ (.slice a0 n0 c0)).setCell ⟨Bt, 2, none⟩ (.slice a1 n1 c1)).setCell ⟨Bt, 3, none⟩ (.slice a2 n2 c2) = wz at *
          go_wp2_with fail
          exact bodyPost_ret (v := .agg #[.int .i64 r.nodes, .slice a0 n0 c0, .slice a1 n1 c1, .slice a2 n2 c2]) (by simp [results, Tryd.results42, go_sem, z0, z1, z2, z3]) rfl ⟨_, rfl, ⟨_, _, _, rfl, ownsRow_le H4.out.2.1.1 hbase, ownsRow_le H4.out.2.1.2.1 hbase, ownsRow_le H4.out.2.1.2.2.1 hbase, H4.out.2.1.2.2.2⟩, H4.out.2.2⟩
      · obtain ⟨g2, hg2⟩ : ∃ g, g = wk2.heap.size := ⟨_, rfl⟩
        obtain ⟨wk3, hw⟩ : ∃ u, u = wk2.alloc (.cells #[] 54) := ⟨_, rfl⟩
        refine wpOpIn_value (v := .slice (some ⟨g2, 0, none⟩) 0 0) (w' := wk3) rfl rfl rfl (by rfl) (by rfl) (by rw [hw, hg2]; go_simp) ?_
        have hb : Below wk2.heap.size wk2 wk3 := by rw [hw]; exact (Below.refl _ _).alloc (Nat.le_refl _) _
        have hs3 : wk3.heap.size = wk2.heap.size + 1 := by rw [hw]; simp
        have HA2 := Lib.hid (show wk3.ownsRow w1.heap.size 54 3 (.slice (some ⟨g2, 0, none⟩) 0 0) 0 [] by rw [hw, hg2]; exact ownsRow_zero _ _ _ _ HBw2.out.size)
        replace HP0 := Lib.hid (ownsRow_below HP0.out hb)
        have HBw3 := Lib.hid (HBw2.out.trans (hb.mono HBw2.out.size))
        have HL2 := Lib.hid (show w1.heap.size ≤ g2 by rw [hg2]; exact HBw2.out.size)
        have HG2 := Lib.hid hg2; have HZ3 := Lib.hid hs3
        have hS0 := HSS.out wk3 HBw3.out
        clear hw hb hg2 hs3
        refine ⟨fun _ => hS0, ?_⟩
        simp only [List.setIfInBounds_toArray, List.set_cons_zero, List.set_cons_succ]
        refine heldD_one (i := 6) (by kernel_rfl) ?_
        obtain ⟨g1, hg1⟩ : ∃ g, g = wk3.heap.size := ⟨_, rfl⟩
        obtain ⟨wk4, hw⟩ : ∃ u, u = wk3.alloc (.cells #[] 2) := ⟨_, rfl⟩
        refine wpOpIn_value (v := .slice (some ⟨g1, 0, none⟩) 0 0) (w' := wk4) rfl rfl rfl (by rfl) (by rfl) (by rw [hw, hg1]; go_simp) ?_
        have hb : Below wk3.heap.size wk3 wk4 := by rw [hw]; exact (Below.refl _ _).alloc (Nat.le_refl _) _
        have hs4 : wk4.heap.size = wk3.heap.size + 1 := by rw [hw]; simp
        have HA1 := Lib.hid (show wk4.ownsRow w1.heap.size 2 1 (.slice (some ⟨g1, 0, none⟩) 0 0) 0 [] by rw [hw, hg1]; exact ownsRow_zero _ _ _ _ HBw3.out.size)
        replace HP0 := Lib.hid (ownsRow_below HP0.out hb)
        replace HA2 := Lib.hid (ownsRow_below HA2.out hb)
        have HBw4 := Lib.hid (HBw3.out.trans (hb.mono HBw3.out.size))
        have HL1 := Lib.hid (show w1.heap.size ≤ g1 by rw [hg1]; exact HBw3.out.size)
        have HG1 := Lib.hid hg1; have HZ4 := Lib.hid hs4
        have hS0 := HSS.out wk4 HBw4.out
        clear hw hb hg1 hs4
        refine ⟨fun _ => hS0, ?_⟩
        simp only [List.setIfInBounds_toArray, List.set_cons_zero, List.set_cons_succ]
        refine heldD_one (i := 9) (by kernel_rfl) ?_
        have hge := HL1.out
        obtain ⟨a1, n1, c1, wk5, hr, ho, hb, hgr, hO, hsz⟩ := copyApp (t := 22) Tryd.underlying22 infoI rfl (by omega) (by omega) HA1.out (HV.out wk4 HBw4.out).2.1.row HFew.out.2.1 HBw4.out hge
        have HR := Lib.hid hr
        clear hr
        refine wpOpIn_append rfl rfl rfl (by rfl) _ _ _ _ rfl HR.out ?_
        clear HR
        have HZ5 := Lib.hid hsz; have HO1 := Lib.hid hO; have HS1 := Lib.hid (show ∀ b, (Value.slice a1 n1 c1).ownBlock = some b → b < wk5.heap.size ∧ (b = g1 ∨ b = wk4.heap.size) from hO)
        have HP1 := Lib.hid ho
        replace HP0 := Lib.hid (ownsRow_grown HP0.out hgr (fun b h => by have q := HS0.out b h; have q1 := HG0.out; have q2 := HG1.out; have z1 := HZ1.out; have z2 := HZ2.out; have z3 := HZ3.out; have z4 := HZ4.out; omega))
        replace HA2 := Lib.hid (ownsRow_grown HA2.out hgr (fun b h => by have q : g2 = b := (by simpa [Value.ownBlock] using h); have q1 := HG2.out; have q2 := HG1.out; have z1 := HZ1.out; have z2 := HZ2.out; have z3 := HZ3.out; have z4 := HZ4.out; omega))
        have HBw5 := Lib.hid hb
        have hS0 := HSS.out wk5 HBw5.out
        clear hge ho hb hgr hO hsz HO1
        refine ⟨fun _ => hS0, ?_⟩
        simp only [List.setIfInBounds_toArray, List.set_cons_zero, List.set_cons_succ]
        refine heldD_one (i := 13) (by kernel_rfl) ?_
        have hge := HL2.out
        obtain ⟨a2, n2, c2, wk6, hr, ho, hb, hgr, hO, hsz⟩ := copyApp (t := 23) Tryd.underlying23 infoA rfl (by omega) (by omega) HA2.out (HV.out wk5 HBw5.out).2.2.row HFew.out.2.2 HBw5.out hge
        have HR := Lib.hid hr
        clear hr
        refine wpOpIn_append rfl rfl rfl (by rfl) _ _ _ _ rfl HR.out ?_
        clear HR
        have HZ6 := Lib.hid hsz; have HO2 := Lib.hid hO; have HS2 := Lib.hid (show ∀ b, (Value.slice a2 n2 c2).ownBlock = some b → b < wk6.heap.size ∧ (b = g2 ∨ b = wk5.heap.size) from hO)
        have HP2 := Lib.hid ho
        replace HP0 := Lib.hid (ownsRow_grown HP0.out hgr (fun b h => by have q := HS0.out b h; have q1 := HG0.out; have q2 := HG2.out; have z1 := HZ1.out; have z2 := HZ2.out; have z3 := HZ3.out; have z4 := HZ4.out; have z5 := HZ5.out; omega))
        replace HP1 := Lib.hid (ownsRow_grown HP1.out hgr (fun b h => by have q := HS1.out b h; have q1 := HG1.out; have q2 := HG2.out; have z1 := HZ1.out; have z2 := HZ2.out; have z3 := HZ3.out; have z4 := HZ4.out; have z5 := HZ5.out; omega))
        have HBw6 := Lib.hid hb
        have hS0 := HSS.out wk6 HBw6.out
        clear hge ho hb hgr hO hsz HO2
        refine ⟨fun _ => hS0, ?_⟩
        simp only [List.setIfInBounds_toArray, List.set_cons_zero, List.set_cons_succ]
        refine heldD_takeF (i := 14) (v := .agg #[.int .i64 r.nodes, .slice a0 n0 c0, .slice a1 n1 c1, .slice a2 n2 c2]) rfl rfl rfl (by kernel_rfl) (by kernel_rfl) (by kernel_rfl) (by kernel_rfl) (fun _ _ _ h => h) (by rfl) (fun w => ⟨by rfl, by go_simp⟩) (fun _ => hS0) ?_
        simp only [List.setIfInBounds_toArray, List.set_cons_zero, List.set_cons_succ]
        have hOw : Own3 w1.heap.size wk6 (.slice a0 n0 c0) (.slice a1 n1 c1) (.slice a2 n2 c2) r := ⟨HP0.out, HP1.out, HP2.out, fun b h0 h1 => by have q := HS0.out b h0; have q' := HS1.out b h1; have q1 := HG0.out; have q2 := HG1.out; have z1 := HZ1.out; have z2 := HZ2.out; have z3 := HZ3.out; have z4 := HZ4.out; have z5 := HZ5.out; have z6 := HZ6.out; omega⟩
        have bT := HBt.out.below HBw6.out HBt.out.lt
        have h4 := store4 hOw bT HLt.out (HB1.out.next' HBw6.out)
        have hbase : w.heap.size ≤ w1.heap.size := HB1.out.size
        have fr := fun i => bT.free i (Or.inr (Nat.zero_le _))
        have f0 := fr 0; have f1 := fr 1; have f2 := fr 2; have f3 := fr 3
        have e0 := bT.cell 0; have e1 := bT.cell 1; have e2 := bT.cell 2; have e3 := bT.cell 3
        change wk6.cell? ⟨Bt, 0, none⟩ = some (.int .i64 0) at e0
        change wk6.cell? ⟨Bt, 1, none⟩ = some (.slice none 0 0) at e1
        change wk6.cell? ⟨Bt, 2, none⟩ = some (.slice none 0 0) at e2
        change wk6.cell? ⟨Bt, 3, none⟩ = some (.slice none 0 0) at e3
        have H4 := Lib.hid h4
        clear h4 bT fr hOw
        refine heldD_one (i := 15) (by kernel_rfl) ?_
        refine wpOpIn_skip (w' := (((wk6.setCell ⟨Bt, 0, none⟩ (.int .i64 r.nodes)).setCell ⟨Bt, 1, none⟩ (.slice a0 n0 c0)).setCell ⟨Bt, 2, none⟩ (.slice a1 n1 c1)).setCell ⟨Bt, 3, none⟩ (.slice a2 n2 c2)) rfl rfl rfl (by rfl) (by rfl) (by go_simp) ?_
        refine ⟨fun h => (by cases h), ?_⟩
        refine heldD_done (by kernel_rfl) ?_ _
        clear hS0 e0 e1 e2 e3 f0 f1 f2 f3
        have z0 := H4.out.1.cell 0; have z1 := H4.out.1.cell 1; have z2 := H4.out.1.cell 2; have z3 := H4.out.1.cell 3
        simp only [List.getElem?_toArray, List.getElem?_cons_succ, List.getElem?_cons_zero] at z0 z1 z2 z3
        generalize (((wk6.setCell ⟨Bt, 0, none⟩ (.int .i64 r.nodes)).setCell ⟨Bt, 1, none⟩ (.slice a0 n0 c0)).setCell ⟨Bt, 2, none⟩ (.slice a1 n1 c1)).setCell ⟨Bt, 3, none⟩ (.slice a2 n2 c2) = wz at *
        go_wp2_with fail
        exact bodyPost_ret (v := .agg #[.int .i64 r.nodes, .slice a0 n0 c0, .slice a1 n1 c1, .slice a2 n2 c2]) (by simp [results, Tryd.results42, go_sem, z0, z1, z2, z3]) rfl ⟨_, rfl, ⟨_, _, _, rfl, ownsRow_le H4.out.2.1.1 hbase, ownsRow_le H4.out.2.1.2.1 hbase, ownsRow_le H4.out.2.1.2.2.1 hbase, H4.out.2.1.2.2.2⟩, H4.out.2.2⟩
    · obtain ⟨g1, hg1⟩ : ∃ g, g = wk1.heap.size := ⟨_, rfl⟩
      obtain ⟨wk2, hw⟩ : ∃ u, u = wk1.alloc (.cells #[] 2) := ⟨_, rfl⟩
      refine wpOpIn_value (v := .slice (some ⟨g1, 0, none⟩) 0 0) (w' := wk2) rfl rfl rfl (by rfl) (by rfl) (by rw [hw, hg1]; go_simp) ?_
      have hb : Below wk1.heap.size wk1 wk2 := by rw [hw]; exact (Below.refl _ _).alloc (Nat.le_refl _) _
      have hs2 : wk2.heap.size = wk1.heap.size + 1 := by rw [hw]; simp
      have HA1 := Lib.hid (show wk2.ownsRow w1.heap.size 2 1 (.slice (some ⟨g1, 0, none⟩) 0 0) 0 [] by rw [hw, hg1]; exact ownsRow_zero _ _ _ _ HBw1.out.size)
      replace HA0 := Lib.hid (ownsRow_below HA0.out hb)
      have HBw2 := Lib.hid (HBw1.out.trans (hb.mono HBw1.out.size))
      have HL1 := Lib.hid (show w1.heap.size ≤ g1 by rw [hg1]; exact HBw1.out.size)
      have HG1 := Lib.hid hg1; have HZ2 := Lib.hid hs2
      have hS0 := HSS.out wk2 HBw2.out
      clear hw hb hg1 hs2
      refine ⟨fun _ => hS0, ?_⟩
      simp only [List.setIfInBounds_toArray, List.set_cons_zero, List.set_cons_succ]
      refine heldD_two (i := 5) (k := 10) (by kernel_rfl) ?_ ?_
      · have hge := HL0.out
        obtain ⟨a0, n0, c0, wk3, hr, ho, hb, hgr, hO, hsz⟩ := copyApp (t := 22) Tryd.underlying22 infoI rfl (by omega) (by omega) HA0.out (HV.out wk2 HBw2.out).1.row HFew.out.1 HBw2.out hge
        have HR := Lib.hid hr
        clear hr
        refine wpOpIn_append rfl rfl rfl (by rfl) _ _ _ _ rfl HR.out ?_
        clear HR
        have HZ3 := Lib.hid hsz; have HO0 := Lib.hid hO; have HS0 := Lib.hid (show ∀ b, (Value.slice a0 n0 c0).ownBlock = some b → b < wk3.heap.size ∧ (b = g0 ∨ b = wk2.heap.size) from hO)
        have HP0 := Lib.hid ho
        replace HA1 := Lib.hid (ownsRow_grown HA1.out hgr (fun b h => by have q : g1 = b := (by simpa [Value.ownBlock] using h); have q1 := HG1.out; have q2 := HG0.out; have z1 := HZ1.out; have z2 := HZ2.out; omega))
        have HBw3 := Lib.hid hb
        have hS0 := HSS.out wk3 HBw3.out
        clear hge ho hb hgr hO hsz HO0
        refine ⟨fun _ => hS0, ?_⟩
        simp only [List.setIfInBounds_toArray, List.set_cons_zero, List.set_cons_succ]
        refine heldD_two (i := 9) (k := 10) (by kernel_rfl) ?_ ?_
        · have hge := HL1.out
          obtain ⟨a1, n1, c1, wk4, hr, ho, hb, hgr, hO, hsz⟩ := copyApp (t := 22) Tryd.underlying22 infoI rfl (by omega) (by omega) HA1.out (HV.out wk3 HBw3.out).2.1.row HFew.out.2.1 HBw3.out hge
          have HR := Lib.hid hr
          clear hr
          refine wpOpIn_append rfl rfl rfl (by rfl) _ _ _ _ rfl HR.out ?_
          clear HR
          have HZ4 := Lib.hid hsz; have HO1 := Lib.hid hO; have HS1 := Lib.hid (show ∀ b, (Value.slice a1 n1 c1).ownBlock = some b → b < wk4.heap.size ∧ (b = g1 ∨ b = wk3.heap.size) from hO)
          have HP1 := Lib.hid ho
          replace HP0 := Lib.hid (ownsRow_grown HP0.out hgr (fun b h => by have q := HS0.out b h; have q1 := HG0.out; have q2 := HG1.out; have z1 := HZ1.out; have z2 := HZ2.out; have z3 := HZ3.out; omega))
          have HBw4 := Lib.hid hb
          have hS0 := HSS.out wk4 HBw4.out
          clear hge ho hb hgr hO hsz HO1
          refine ⟨fun _ => hS0, ?_⟩
          simp only [List.setIfInBounds_toArray, List.set_cons_zero, List.set_cons_succ]
          refine heldD_one (i := 10) (by kernel_rfl) ?_
          obtain ⟨g2, hg2⟩ : ∃ g, g = wk4.heap.size := ⟨_, rfl⟩
          obtain ⟨wk5, hw⟩ : ∃ u, u = wk4.alloc (.cells #[] 54) := ⟨_, rfl⟩
          refine wpOpIn_value (v := .slice (some ⟨g2, 0, none⟩) 0 0) (w' := wk5) rfl rfl rfl (by rfl) (by rfl) (by rw [hw, hg2]; go_simp) ?_
          have hb : Below wk4.heap.size wk4 wk5 := by rw [hw]; exact (Below.refl _ _).alloc (Nat.le_refl _) _
          have hs5 : wk5.heap.size = wk4.heap.size + 1 := by rw [hw]; simp
          have HA2 := Lib.hid (show wk5.ownsRow w1.heap.size 54 3 (.slice (some ⟨g2, 0, none⟩) 0 0) 0 [] by rw [hw, hg2]; exact ownsRow_zero _ _ _ _ HBw4.out.size)
          replace HP0 := Lib.hid (ownsRow_below HP0.out hb)
          replace HP1 := Lib.hid (ownsRow_below HP1.out hb)
          have HBw5 := Lib.hid (HBw4.out.trans (hb.mono HBw4.out.size))
          have HL2 := Lib.hid (show w1.heap.size ≤ g2 by rw [hg2]; exact HBw4.out.size)
          have HG2 := Lib.hid hg2; have HZ5 := Lib.hid hs5
          have hS0 := HSS.out wk5 HBw5.out
          clear hw hb hg2 hs5
          refine ⟨fun _ => hS0, ?_⟩
          simp only [List.setIfInBounds_toArray, List.set_cons_zero, List.set_cons_succ]
          refine heldD_one (i := 13) (by kernel_rfl) ?_
          have hge := HL2.out
          obtain ⟨a2, n2, c2, wk6, hr, ho, hb, hgr, hO, hsz⟩ := copyApp (t := 23) Tryd.underlying23 infoA rfl (by omega) (by omega) HA2.out (HV.out wk5 HBw5.out).2.2.row HFew.out.2.2 HBw5.out hge
          have HR := Lib.hid hr
          clear hr
          refine wpOpIn_append rfl rfl rfl (by rfl) _ _ _ _ rfl HR.out ?_
          clear HR
          have HZ6 := Lib.hid hsz; have HO2 := Lib.hid hO; have HS2 := Lib.hid (show ∀ b, (Value.slice a2 n2 c2).ownBlock = some b → b < wk6.heap.size ∧ (b = g2 ∨ b = wk5.heap.size) from hO)
          have HP2 := Lib.hid ho
          replace HP0 := Lib.hid (ownsRow_grown HP0.out hgr (fun b h => by have q := HS0.out b h; have q1 := HG0.out; have q2 := HG2.out; have z1 := HZ1.out; have z2 := HZ2.out; have z3 := HZ3.out; have z4 := HZ4.out; have z5 := HZ5.out; omega))
          replace HP1 := Lib.hid (ownsRow_grown HP1.out hgr (fun b h => by have q := HS1.out b h; have q1 := HG1.out; have q2 := HG2.out; have z1 := HZ1.out; have z2 := HZ2.out; have z3 := HZ3.out; have z4 := HZ4.out; have z5 := HZ5.out; omega))
          have HBw6 := Lib.hid hb
          have hS0 := HSS.out wk6 HBw6.out
          clear hge ho hb hgr hO hsz HO2
          refine ⟨fun _ => hS0, ?_⟩
          simp only [List.setIfInBounds_toArray, List.set_cons_zero, List.set_cons_succ]
          refine heldD_takeF (i := 14) (v := .agg #[.int .i64 r.nodes, .slice a0 n0 c0, .slice a1 n1 c1, .slice a2 n2 c2]) rfl rfl rfl (by kernel_rfl) (by kernel_rfl) (by kernel_rfl) (by kernel_rfl) (fun _ _ _ h => h) (by rfl) (fun w => ⟨by rfl, by go_simp⟩) (fun _ => hS0) ?_
          simp only [List.setIfInBounds_toArray, List.set_cons_zero, List.set_cons_succ]
          have hOw : Own3 w1.heap.size wk6 (.slice a0 n0 c0) (.slice a1 n1 c1) (.slice a2 n2 c2) r := ⟨HP0.out, HP1.out, HP2.out, fun b h0 h1 => by have q := HS0.out b h0; have q' := HS1.out b h1; have q1 := HG0.out; have q2 := HG1.out; have z1 := HZ1.out; have z2 := HZ2.out; have z3 := HZ3.out; have z4 := HZ4.out; have z5 := HZ5.out; have z6 := HZ6.out; omega⟩
          have bT := HBt.out.below HBw6.out HBt.out.lt
          have h4 := store4 hOw bT HLt.out (HB1.out.next' HBw6.out)
          have hbase : w.heap.size ≤ w1.heap.size := HB1.out.size
          have fr := fun i => bT.free i (Or.inr (Nat.zero_le _))
          have f0 := fr 0; have f1 := fr 1; have f2 := fr 2; have f3 := fr 3
          have e0 := bT.cell 0; have e1 := bT.cell 1; have e2 := bT.cell 2; have e3 := bT.cell 3
          change wk6.cell? ⟨Bt, 0, none⟩ = some (.int .i64 0) at e0
          change wk6.cell? ⟨Bt, 1, none⟩ = some (.slice none 0 0) at e1
          change wk6.cell? ⟨Bt, 2, none⟩ = some (.slice none 0 0) at e2
          change wk6.cell? ⟨Bt, 3, none⟩ = some (.slice none 0 0) at e3
          have H4 := Lib.hid h4
          clear h4 bT fr hOw
          refine heldD_one (i := 15) (by kernel_rfl) ?_
          refine wpOpIn_skip (w' := (((wk6.setCell ⟨Bt, 0, none⟩ (.int .i64 r.nodes)).setCell ⟨Bt, 1, none⟩ (.slice a0 n0 c0)).setCell ⟨Bt, 2, none⟩ (.slice a1 n1 c1)).setCell ⟨Bt, 3, none⟩ (.slice a2 n2 c2)) rfl rfl rfl (by rfl) (by rfl) (by go_simp) ?_
          refine ⟨fun h => (by cases h), ?_⟩
          refine heldD_done (by kernel_rfl) ?_ _
          clear hS0 e0 e1 e2 e3 f0 f1 f2 f3
          have z0 := H4.out.1.cell 0; have z1 := H4.out.1.cell 1; have z2 := H4.out.1.cell 2; have z3 := H4.out.1.cell 3
          simp only [List.getElem?_toArray, List.getElem?_cons_succ, List.getElem?_cons_zero] at z0 z1 z2 z3
          generalize (((wk6.setCell ⟨Bt, 0, none⟩ (.int .i64 r.nodes)).setCell ⟨Bt, 1, none⟩ (.slice a0 n0 c0)).setCell ⟨Bt, 2, none⟩ (.slice a1 n1 c1)).setCell ⟨Bt, 3, none⟩ (.slice a2 n2 c2) = wz at *
          go_wp2_with fail
          exact bodyPost_ret (v := .agg #[.int .i64 r.nodes, .slice a0 n0 c0, .slice a1 n1 c1, .slice a2 n2 c2]) (by simp [results, Tryd.results42, go_sem, z0, z1, z2, z3]) rfl ⟨_, rfl, ⟨_, _, _, rfl, ownsRow_le H4.out.2.1.1 hbase, ownsRow_le H4.out.2.1.2.1 hbase, ownsRow_le H4.out.2.1.2.2.1 hbase, H4.out.2.1.2.2.2⟩, H4.out.2.2⟩
        · obtain ⟨g2, hg2⟩ : ∃ g, g = wk3.heap.size := ⟨_, rfl⟩
          obtain ⟨wk4, hw⟩ : ∃ u, u = wk3.alloc (.cells #[] 54) := ⟨_, rfl⟩
          refine wpOpIn_value (v := .slice (some ⟨g2, 0, none⟩) 0 0) (w' := wk4) rfl rfl rfl (by rfl) (by rfl) (by rw [hw, hg2]; go_simp) ?_
          have hb : Below wk3.heap.size wk3 wk4 := by rw [hw]; exact (Below.refl _ _).alloc (Nat.le_refl _) _
          have hs4 : wk4.heap.size = wk3.heap.size + 1 := by rw [hw]; simp
          have HA2 := Lib.hid (show wk4.ownsRow w1.heap.size 54 3 (.slice (some ⟨g2, 0, none⟩) 0 0) 0 [] by rw [hw, hg2]; exact ownsRow_zero _ _ _ _ HBw3.out.size)
          replace HP0 := Lib.hid (ownsRow_below HP0.out hb)
          replace HA1 := Lib.hid (ownsRow_below HA1.out hb)
          have HBw4 := Lib.hid (HBw3.out.trans (hb.mono HBw3.out.size))
          have HL2 := Lib.hid (show w1.heap.size ≤ g2 by rw [hg2]; exact HBw3.out.size)
          have HG2 := Lib.hid hg2; have HZ4 := Lib.hid hs4
          have hS0 := HSS.out wk4 HBw4.out
          clear hw hb hg2 hs4
          refine ⟨fun _ => hS0, ?_⟩
          simp only [List.setIfInBounds_toArray, List.set_cons_zero, List.set_cons_succ]
          refine heldD_one (i := 9) (by kernel_rfl) ?_
          have hge := HL1.out
          obtain ⟨a1, n1, c1, wk5, hr, ho, hb, hgr, hO, hsz⟩ := copyApp (t := 22) Tryd.underlying22 infoI rfl (by omega) (by omega) HA1.out (HV.out wk4 HBw4.out).2.1.row HFew.out.2.1 HBw4.out hge
          have HR := Lib.hid hr
          clear hr
          refine wpOpIn_append rfl rfl rfl (by rfl) _ _ _ _ rfl HR.out ?_
          clear HR
          have HZ5 := Lib.hid hsz; have HO1 := Lib.hid hO; have HS1 := Lib.hid (show ∀ b, (Value.slice a1 n1 c1).ownBlock = some b → b < wk5.heap.size ∧ (b = g1 ∨ b = wk4.heap.size) from hO)
          have HP1 := Lib.hid ho
          replace HP0 := Lib.hid (ownsRow_grown HP0.out hgr (fun b h => by have q := HS0.out b h; have q1 := HG0.out; have q2 := HG1.out; have z1 := HZ1.out; have z2 := HZ2.out; have z3 := HZ3.out; have z4 := HZ4.out; omega))
          replace HA2 := Lib.hid (ownsRow_grown HA2.out hgr (fun b h => by have q : g2 = b := (by simpa [Value.ownBlock] using h); have q1 := HG2.out; have q2 := HG1.out; have z1 := HZ1.out; have z2 := HZ2.out; have z3 := HZ3.out; have z4 := HZ4.out; omega))
          have HBw5 := Lib.hid hb
          have hS0 := HSS.out wk5 HBw5.out
          clear hge ho hb hgr hO hsz HO1
          refine ⟨fun _ => hS0, ?_⟩
          simp only [List.setIfInBounds_toArray, List.set_cons_zero, List.set_cons_succ]
          refine heldD_one (i := 13) (by kernel_rfl) ?_
          have hge := HL2.out
          obtain ⟨a2, n2, c2, wk6, hr, ho, hb, hgr, hO, hsz⟩ := copyApp (t := 23) Tryd.underlying23 infoA rfl (by omega) (by omega) HA2.out (HV.out wk5 HBw5.out).2.2.row HFew.out.2.2 HBw5.out hge
          have HR := Lib.hid hr
          clear hr
          refine wpOpIn_append rfl rfl rfl (by rfl) _ _ _ _ rfl HR.out ?_
          clear HR
          have HZ6 := Lib.hid hsz; have HO2 := Lib.hid hO; have HS2 := Lib.hid (show ∀ b, (Value.slice a2 n2 c2).ownBlock = some b → b < wk6.heap.size ∧ (b = g2 ∨ b = wk5.heap.size) from hO)
          have HP2 := Lib.hid ho
          replace HP0 := Lib.hid (ownsRow_grown HP0.out hgr (fun b h => by have q := HS0.out b h; have q1 := HG0.out; have q2 := HG2.out; have z1 := HZ1.out; have z2 := HZ2.out; have z3 := HZ3.out; have z4 := HZ4.out; have z5 := HZ5.out; omega))
          replace HP1 := Lib.hid (ownsRow_grown HP1.out hgr (fun b h => by have q := HS1.out b h; have q1 := HG1.out; have q2 := HG2.out; have z1 := HZ1.out; have z2 := HZ2.out; have z3 := HZ3.out; have z4 := HZ4.out; have z5 := HZ5.out; omega))
          have HBw6 := Lib.hid hb
          have hS0 := HSS.out wk6 HBw6.out
          clear hge ho hb hgr hO hsz HO2
          refine ⟨fun _ => hS0, ?_⟩
          simp only [List.setIfInBounds_toArray, List.set_cons_zero, List.set_cons_succ]
          refine heldD_takeF (i := 14) (v := .agg #[.int .i64 r.nodes, .slice a0 n0 c0, .slice a1 n1 c1, .slice a2 n2 c2]) rfl rfl rfl (by kernel_rfl) (by kernel_rfl) (by kernel_rfl) (by kernel_rfl) (fun _ _ _ h => h) (by rfl) (fun w => ⟨by rfl, by go_simp⟩) (fun _ => hS0) ?_
          simp only [List.setIfInBounds_toArray, List.set_cons_zero, List.set_cons_succ]
          have hOw : Own3 w1.heap.size wk6 (.slice a0 n0 c0) (.slice a1 n1 c1) (.slice a2 n2 c2) r := ⟨HP0.out, HP1.out, HP2.out, fun b h0 h1 => by have q := HS0.out b h0; have q' := HS1.out b h1; have q1 := HG0.out; have q2 := HG1.out; have z1 := HZ1.out; have z2 := HZ2.out; have z3 := HZ3.out; have z4 := HZ4.out; have z5 := HZ5.out; have z6 := HZ6.out; omega⟩
          have bT := HBt.out.below HBw6.out HBt.out.lt
          have h4 := store4 hOw bT HLt.out (HB1.out.next' HBw6.out)
          have hbase : w.heap.size ≤ w1.heap.size := HB1.out.size
          have fr := fun i => bT.free i (Or.inr (Nat.zero_le _))
          have f0 := fr 0; have f1 := fr 1; have f2 := fr 2; have f3 := fr 3
          have e0 := bT.cell 0; have e1 := bT.cell 1; have e2 := bT.cell 2; have e3 := bT.cell 3
          change wk6.cell? ⟨Bt, 0, none⟩ = some (.int .i64 0) at e0
          change wk6.cell? ⟨Bt, 1, none⟩ = some (.slice none 0 0) at e1
          change wk6.cell? ⟨Bt, 2, none⟩ = some (.slice none 0 0) at e2
          change wk6.cell? ⟨Bt, 3, none⟩ = some (.slice none 0 0) at e3
          have H4 := Lib.hid h4
          clear h4 bT fr hOw
          refine heldD_one (i := 15) (by kernel_rfl) ?_
          refine wpOpIn_skip (w' := (((wk6.setCell ⟨Bt, 0, none⟩ (.int .i64 r.nodes)).setCell ⟨Bt, 1, none⟩ (.slice a0 n0 c0)).setCell ⟨Bt, 2, none⟩ (.slice a1 n1 c1)).setCell ⟨Bt, 3, none⟩ (.slice a2 n2 c2)) rfl rfl rfl (by rfl) (by rfl) (by go_simp) ?_
          refine ⟨fun h => (by cases h), ?_⟩
          refine heldD_done (by kernel_rfl) ?_ _
          clear hS0 e0 e1 e2 e3 f0 f1 f2 f3
          have z0 := H4.out.1.cell 0; have z1 := H4.out.1.cell 1; have z2 := H4.out.1.cell 2; have z3 := H4.out.1.cell 3
          simp only [List.getElem?_toArray, List.getElem?_cons_succ, List.getElem?_cons_zero] at z0 z1 z2 z3
          generalize (((wk6.setCell ⟨Bt, 0, none⟩ (.int .i64 r.nodes)).setCell ⟨Bt, 1, none⟩ (.slice a0 n0 c0)).setCell ⟨Bt, 2, none⟩ (.slice a1 n1 c1)).setCell ⟨Bt, 3, none⟩ (.slice a2 n2 c2) = wz at *
          go_wp2_with fail
          exact bodyPost_ret (v := .agg #[.int .i64 r.nodes, .slice a0 n0 c0, .slice a1 n1 c1, .slice a2 n2 c2]) (by simp [results, Tryd.results42, go_sem, z0, z1, z2, z3]) rfl ⟨_, rfl, ⟨_, _, _, rfl, ownsRow_le H4.out.2.1.1 hbase, ownsRow_le H4.out.2.1.2.1 hbase, ownsRow_le H4.out.2.1.2.2.1 hbase, H4.out.2.1.2.2.2⟩, H4.out.2.2⟩
      · obtain ⟨g2, hg2⟩ : ∃ g, g = wk2.heap.size := ⟨_, rfl⟩
        obtain ⟨wk3, hw⟩ : ∃ u, u = wk2.alloc (.cells #[] 54) := ⟨_, rfl⟩
        refine wpOpIn_value (v := .slice (some ⟨g2, 0, none⟩) 0 0) (w' := wk3) rfl rfl rfl (by rfl) (by rfl) (by rw [hw, hg2]; go_simp) ?_
        have hb : Below wk2.heap.size wk2 wk3 := by rw [hw]; exact (Below.refl _ _).alloc (Nat.le_refl _) _
        have hs3 : wk3.heap.size = wk2.heap.size + 1 := by rw [hw]; simp
        have HA2 := Lib.hid (show wk3.ownsRow w1.heap.size 54 3 (.slice (some ⟨g2, 0, none⟩) 0 0) 0 [] by rw [hw, hg2]; exact ownsRow_zero _ _ _ _ HBw2.out.size)
        replace HA0 := Lib.hid (ownsRow_below HA0.out hb)
        replace HA1 := Lib.hid (ownsRow_below HA1.out hb)
        have HBw3 := Lib.hid (HBw2.out.trans (hb.mono HBw2.out.size))
        have HL2 := Lib.hid (show w1.heap.size ≤ g2 by rw [hg2]; exact HBw2.out.size)
        have HG2 := Lib.hid hg2; have HZ3 := Lib.hid hs3
        have hS0 := HSS.out wk3 HBw3.out
        clear hw hb hg2 hs3
        refine ⟨fun _ => hS0, ?_⟩
        simp only [List.setIfInBounds_toArray, List.set_cons_zero, List.set_cons_succ]
        refine heldD_one (i := 5) (by kernel_rfl) ?_
        have hge := HL0.out
        obtain ⟨a0, n0, c0, wk4, hr, ho, hb, hgr, hO, hsz⟩ := copyApp (t := 22) Tryd.underlying22 infoI rfl (by omega) (by omega) HA0.out (HV.out wk3 HBw3.out).1.row HFew.out.1 HBw3.out hge
        have HR := Lib.hid hr
        clear hr
        refine wpOpIn_append rfl rfl rfl (by rfl) _ _ _ _ rfl HR.out ?_
        clear HR
        have HZ4 := Lib.hid hsz; have HO0 := Lib.hid hO; have HS0 := Lib.hid (show ∀ b, (Value.slice a0 n0 c0).ownBlock = some b → b < wk4.heap.size ∧ (b = g0 ∨ b = wk3.heap.size) from hO)
        have HP0 := Lib.hid ho
        replace HA1 := Lib.hid (ownsRow_grown HA1.out hgr (fun b h => by have q : g1 = b := (by simpa [Value.ownBlock] using h); have q1 := HG1.out; have q2 := HG0.out; have z1 := HZ1.out; have z2 := HZ2.out; have z3 := HZ3.out; omega))
        replace HA2 := Lib.hid (ownsRow_grown HA2.out hgr (fun b h => by have q : g2 = b := (by simpa [Value.ownBlock] using h); have q1 := HG2.out; have q2 := HG0.out; have z1 := HZ1.out; have z2 := HZ2.out; have z3 := HZ3.out; omega))
        have HBw4 := Lib.hid hb
        have hS0 := HSS.out wk4 HBw4.out
        clear hge ho hb hgr hO hsz HO0
        refine ⟨fun _ => hS0, ?_⟩
        simp only [List.setIfInBounds_toArray, List.set_cons_zero, List.set_cons_succ]
        refine heldD_one (i := 9) (by kernel_rfl) ?_
        have hge := HL1.out
        obtain ⟨a1, n1, c1, wk5, hr, ho, hb, hgr, hO, hsz⟩ := copyApp (t := 22) Tryd.underlying22 infoI rfl (by omega) (by omega) HA1.out (HV.out wk4 HBw4.out).2.1.row HFew.out.2.1 HBw4.out hge
        have HR := Lib.hid hr
        clear hr
        refine wpOpIn_append rfl rfl rfl (by rfl) _ _ _ _ rfl HR.out ?_
        clear HR
        have HZ5 := Lib.hid hsz; have HO1 := Lib.hid hO; have HS1 := Lib.hid (show ∀ b, (Value.slice a1 n1 c1).ownBlock = some b → b < wk5.heap.size ∧ (b = g1 ∨ b = wk4.heap.size) from hO)
        have HP1 := Lib.hid ho
        replace HP0 := Lib.hid (ownsRow_grown HP0.out hgr (fun b h => by have q := HS0.out b h; have q1 := HG0.out; have q2 := HG1.out; have z1 := HZ1.out; have z2 := HZ2.out; have z3 := HZ3.out; have z4 := HZ4.out; omega))
        replace HA2 := Lib.hid (ownsRow_grown HA2.out hgr (fun b h => by have q : g2 = b := (by simpa [Value.ownBlock] using h); have q1 := HG2.out; have q2 := HG1.out; have z1 := HZ1.out; have z2 := HZ2.out; have z3 := HZ3.out; have z4 := HZ4.out; omega))
        have HBw5 := Lib.hid hb
        have hS0 := HSS.out wk5 HBw5.out
        clear hge ho hb hgr hO hsz HO1
        refine ⟨fun _ => hS0, ?_⟩
        simp only [List.setIfInBounds_toArray, List.set_cons_zero, List.set_cons_succ]
        refine heldD_one (i := 13) (by kernel_rfl) ?_
        have hge := HL2.out
        obtain ⟨a2, n2, c2, wk6, hr, ho, hb, hgr, hO, hsz⟩ := copyApp (t := 23) Tryd.underlying23 infoA rfl (by omega) (by omega) HA2.out (HV.out wk5 HBw5.out).2.2.row HFew.out.2.2 HBw5.out hge
        have HR := Lib.hid hr
        clear hr
        refine wpOpIn_append rfl rfl rfl (by rfl) _ _ _ _ rfl HR.out ?_
        clear HR
        have HZ6 := Lib.hid hsz; have HO2 := Lib.hid hO; have HS2 := Lib.hid (show ∀ b, (Value.slice a2 n2 c2).ownBlock = some b → b < wk6.heap.size ∧ (b = g2 ∨ b = wk5.heap.size) from hO)
        have HP2 := Lib.hid ho
        replace HP0 := Lib.hid (ownsRow_grown HP0.out hgr (fun b h => by have q := HS0.out b h; have q1 := HG0.out; have q2 := HG2.out; have z1 := HZ1.out; have z2 := HZ2.out; have z3 := HZ3.out; have z4 := HZ4.out; have z5 := HZ5.out; omega))
        replace HP1 := Lib.hid (ownsRow_grown HP1.out hgr (fun b h => by have q := HS1.out b h; have q1 := HG1.out; have q2 := HG2.out; have z1 := HZ1.out; have z2 := HZ2.out; have z3 := HZ3.out; have z4 := HZ4.out; have z5 := HZ5.out; omega))
        have HBw6 := Lib.hid hb
        have hS0 := HSS.out wk6 HBw6.out
        clear hge ho hb hgr hO hsz HO2
        refine ⟨fun _ => hS0, ?_⟩
        simp only [List.setIfInBounds_toArray, List.set_cons_zero, List.set_cons_succ]
        refine heldD_takeF (i := 14) (v := .agg #[.int .i64 r.nodes, .slice a0 n0 c0, .slice a1 n1 c1, .slice a2 n2 c2]) rfl rfl rfl (by kernel_rfl) (by kernel_rfl) (by kernel_rfl) (by kernel_rfl) (fun _ _ _ h => h) (by rfl) (fun w => ⟨by rfl, by go_simp⟩) (fun _ => hS0) ?_
        simp only [List.setIfInBounds_toArray, List.set_cons_zero, List.set_cons_succ]
        have hOw : Own3 w1.heap.size wk6 (.slice a0 n0 c0) (.slice a1 n1 c1) (.slice a2 n2 c2) r := ⟨HP0.out, HP1.out, HP2.out, fun b h0 h1 => by have q := HS0.out b h0; have q' := HS1.out b h1; have q1 := HG0.out; have q2 := HG1.out; have z1 := HZ1.out; have z2 := HZ2.out; have z3 := HZ3.out; have z4 := HZ4.out; have z5 := HZ5.out; have z6 := HZ6.out; omega⟩
        have bT := HBt.out.below HBw6.out HBt.out.lt
        have h4 := store4 hOw bT HLt.out (HB1.out.next' HBw6.out)
        have hbase : w.heap.size ≤ w1.heap.size := HB1.out.size
        have fr := fun i => bT.free i (Or.inr (Nat.zero_le _))
        have f0 := fr 0; have f1 := fr 1; have f2 := fr 2; have f3 := fr 3
        have e0 := bT.cell 0; have e1 := bT.cell 1; have e2 := bT.cell 2; have e3 := bT.cell 3
        change wk6.cell? ⟨Bt, 0, none⟩ = some (.int .i64 0) at e0
        change wk6.cell? ⟨Bt, 1, none⟩ = some (.slice none 0 0) at e1
        change wk6.cell? ⟨Bt, 2, none⟩ = some (.slice none 0 0) at e2
        change wk6.cell? ⟨Bt, 3, none⟩ = some (.slice none 0 0) at e3
        have H4 := Lib.hid h4
        clear h4 bT fr hOw
        refine heldD_one (i := 15) (by kernel_rfl) ?_
        refine wpOpIn_skip (w' := (((wk6.setCell ⟨Bt, 0, none⟩ (.int .i64 r.nodes)).setCell ⟨Bt, 1, none⟩ (.slice a0 n0 c0)).setCell ⟨Bt, 2, none⟩ (.slice a1 n1 c1)).setCell ⟨Bt, 3, none⟩ (.slice a2 n2 c2)) rfl rfl rfl (by rfl) (by rfl) (by go_simp) ?_
        refine ⟨fun h => (by cases h), ?_⟩
        refine heldD_done (by kernel_rfl) ?_ _
        clear hS0 e0 e1 e2 e3 f0 f1 f2 f3
        have z0 := H4.out.1.cell 0; have z1 := H4.out.1.cell 1; have z2 := H4.out.1.cell 2; have z3 := H4.out.1.cell 3
        simp only [List.getElem?_toArray, List.getElem?_cons_succ, List.getElem?_cons_zero] at z0 z1 z2 z3
        generalize (((wk6.setCell ⟨Bt, 0, none⟩ (.int .i64 r.nodes)).setCell ⟨Bt, 1, none⟩ (.slice a0 n0 c0)).setCell ⟨Bt, 2, none⟩ (.slice a1 n1 c1)).setCell ⟨Bt, 3, none⟩ (.slice a2 n2 c2) = wz at *
        go_wp2_with fail
        exact bodyPost_ret (v := .agg #[.int .i64 r.nodes, .slice a0 n0 c0, .slice a1 n1 c1, .slice a2 n2 c2]) (by simp [results, Tryd.results42, go_sem, z0, z1, z2, z3]) rfl ⟨_, rfl, ⟨_, _, _, rfl, ownsRow_le H4.out.2.1.1 hbase, ownsRow_le H4.out.2.1.2.1 hbase, ownsRow_le H4.out.2.1.2.2.1 hbase, H4.out.2.1.2.2.2⟩, H4.out.2.2⟩
    · obtain ⟨g2, hg2⟩ : ∃ g, g = wk1.heap.size := ⟨_, rfl⟩
      obtain ⟨wk2, hw⟩ : ∃ u, u = wk1.alloc (.cells #[] 54) := ⟨_, rfl⟩
      refine wpOpIn_value (v := .slice (some ⟨g2, 0, none⟩) 0 0) (w' := wk2) rfl rfl rfl (by rfl) (by rfl) (by rw [hw, hg2]; go_simp) ?_
      have hb : Below wk1.heap.size wk1 wk2 := by rw [hw]; exact (Below.refl _ _).alloc (Nat.le_refl _) _
      have hs2 : wk2.heap.size = wk1.heap.size + 1 := by rw [hw]; simp
      have HA2 := Lib.hid (show wk2.ownsRow w1.heap.size 54 3 (.slice (some ⟨g2, 0, none⟩) 0 0) 0 [] by rw [hw, hg2]; exact ownsRow_zero _ _ _ _ HBw1.out.size)
      replace HA0 := Lib.hid (ownsRow_below HA0.out hb)
      have HBw2 := Lib.hid (HBw1.out.trans (hb.mono HBw1.out.size))
      have HL2 := Lib.hid (show w1.heap.size ≤ g2 by rw [hg2]; exact HBw1.out.size)
      have HG2 := Lib.hid hg2; have HZ2 := Lib.hid hs2
      have hS0 := HSS.out wk2 HBw2.out
      clear hw hb hg2 hs2
      refine ⟨fun _ => hS0, ?_⟩
      simp only [List.setIfInBounds_toArray, List.set_cons_zero, List.set_cons_succ]
      refine heldD_two (i := 5) (k := 6) (by kernel_rfl) ?_ ?_
      · have hge := HL0.out
        obtain ⟨a0, n0, c0, wk3, hr, ho, hb, hgr, hO, hsz⟩ := copyApp (t := 22) Tryd.underlying22 infoI rfl (by omega) (by omega) HA0.out (HV.out wk2 HBw2.out).1.row HFew.out.1 HBw2.out hge
        have HR := Lib.hid hr
        clear hr
        refine wpOpIn_append rfl rfl rfl (by rfl) _ _ _ _ rfl HR.out ?_
        clear HR
        have HZ3 := Lib.hid hsz; have HO0 := Lib.hid hO; have HS0 := Lib.hid (show ∀ b, (Value.slice a0 n0 c0).ownBlock = some b → b < wk3.heap.size ∧ (b = g0 ∨ b = wk2.heap.size) from hO)
        have HP0 := Lib.hid ho
        replace HA2 := Lib.hid (ownsRow_grown HA2.out hgr (fun b h => by have q : g2 = b := (by simpa [Value.ownBlock] using h); have q1 := HG2.out; have q2 := HG0.out; have z1 := HZ1.out; have z2 := HZ2.out; omega))
        have HBw3 := Lib.hid hb
        have hS0 := HSS.out wk3 HBw3.out
        clear hge ho hb hgr hO hsz HO0
        refine ⟨fun _ => hS0, ?_⟩
        simp only [List.setIfInBounds_toArray, List.set_cons_zero, List.set_cons_succ]
        refine heldD_one (i := 6) (by kernel_rfl) ?_
        obtain ⟨g1, hg1⟩ : ∃ g, g = wk3.heap.size := ⟨_, rfl⟩
        obtain ⟨wk4, hw⟩ : ∃ u, u = wk3.alloc (.cells #[] 2) := ⟨_, rfl⟩
        refine wpOpIn_value (v := .slice (some ⟨g1, 0, none⟩) 0 0) (w' := wk4) rfl rfl rfl (by rfl) (by rfl) (by rw [hw, hg1]; go_simp) ?_
        have hb : Below wk3.heap.size wk3 wk4 := by rw [hw]; exact (Below.refl _ _).alloc (Nat.le_refl _) _
        have hs4 : wk4.heap.size = wk3.heap.size + 1 := by rw [hw]; simp
        have HA1 := Lib.hid (show wk4.ownsRow w1.heap.size 2 1 (.slice (some ⟨g1, 0, none⟩) 0 0) 0 [] by rw [hw, hg1]; exact ownsRow_zero _ _ _ _ HBw3.out.size)
        replace HP0 := Lib.hid (ownsRow_below HP0.out hb)
        replace HA2 := Lib.hid (ownsRow_below HA2.out hb)
        have HBw4 := Lib.hid (HBw3.out.trans (hb.mono HBw3.out.size))
        have HL1 := Lib.hid (show w1.heap.size ≤ g1 by rw [hg1]; exact HBw3.out.size)
        have HG1 := Lib.hid hg1; have HZ4 := Lib.hid hs4
        have hS0 := HSS.out wk4 HBw4.out
        clear hw hb hg1 hs4
        refine ⟨fun _ => hS0, ?_⟩
        simp only [List.setIfInBounds_toArray, List.set_cons_zero, List.set_cons_succ]
        refine heldD_one (i := 9) (by kernel_rfl) ?_
        have hge := HL1.out
        obtain ⟨a1, n1, c1, wk5, hr, ho, hb, hgr, hO, hsz⟩ := copyApp (t := 22) Tryd.underlying22 infoI rfl (by omega) (by omega) HA1.out (HV.out wk4 HBw4.out).2.1.row HFew.out.2.1 HBw4.out hge
        have HR := Lib.hid hr
        clear hr
        refine wpOpIn_append rfl rfl rfl (by rfl) _ _ _ _ rfl HR.out ?_
        clear HR
        have HZ5 := Lib.hid hsz; have HO1 := Lib.hid hO; have HS1 := Lib.hid (show ∀ b, (Value.slice a1 n1 c1).ownBlock = some b → b < wk5.heap.size ∧ (b = g1 ∨ b = wk4.heap.size) from hO)
        have HP1 := Lib.hid ho
        replace HP0 := Lib.hid (ownsRow_grown HP0.out hgr (fun b h => by have q := HS0.out b h; have q1 := HG0.out; have q2 := HG1.out; have z1 := HZ1.out; have z2 := HZ2.out; have z3 := HZ3.out; have z4 := HZ4.out; omega))
        replace HA2 := Lib.hid (ownsRow_grown HA2.out hgr (fun b h => by have q : g2 = b := (by simpa [Value.ownBlock] using h); have q1 := HG2.out; have q2 := HG1.out; have z1 := HZ1.out; have z2 := HZ2.out; have z3 := HZ3.out; have z4 := HZ4.out; omega))
        have HBw5 := Lib.hid hb
        have hS0 := HSS.out wk5 HBw5.out
        clear hge ho hb hgr hO hsz HO1
        refine ⟨fun _ => hS0, ?_⟩
        simp only [List.setIfInBounds_toArray, List.set_cons_zero, List.set_cons_succ]
        refine heldD_one (i := 13) (by kernel_rfl) ?_
        have hge := HL2.out
        obtain ⟨a2, n2, c2, wk6, hr, ho, hb, hgr, hO, hsz⟩ := copyApp (t := 23) Tryd.underlying23 infoA rfl (by omega) (by omega) HA2.out (HV.out wk5 HBw5.out).2.2.row HFew.out.2.2 HBw5.out hge
        have HR := Lib.hid hr
        clear hr
        refine wpOpIn_append rfl rfl rfl (by rfl) _ _ _ _ rfl HR.out ?_
        clear HR
        have HZ6 := Lib.hid hsz; have HO2 := Lib.hid hO; have HS2 := Lib.hid (show ∀ b, (Value.slice a2 n2 c2).ownBlock = some b → b < wk6.heap.size ∧ (b = g2 ∨ b = wk5.heap.size) from hO)
        have HP2 := Lib.hid ho
        replace HP0 := Lib.hid (ownsRow_grown HP0.out hgr (fun b h => by have q := HS0.out b h; have q1 := HG0.out; have q2 := HG2.out; have z1 := HZ1.out; have z2 := HZ2.out; have z3 := HZ3.out; have z4 := HZ4.out; have z5 := HZ5.out; omega))
        replace HP1 := Lib.hid (ownsRow_grown HP1.out hgr (fun b h => by have q := HS1.out b h; have q1 := HG1.out; have q2 := HG2.out; have z1 := HZ1.out; have z2 := HZ2.out; have z3 := HZ3.out; have z4 := HZ4.out; have z5 := HZ5.out; omega))
        have HBw6 := Lib.hid hb
        have hS0 := HSS.out wk6 HBw6.out
        clear hge ho hb hgr hO hsz HO2
        refine ⟨fun _ => hS0, ?_⟩
        simp only [List.setIfInBounds_toArray, List.set_cons_zero, List.set_cons_succ]
        refine heldD_takeF (i := 14) (v := .agg #[.int .i64 r.nodes, .slice a0 n0 c0, .slice a1 n1 c1, .slice a2 n2 c2]) rfl rfl rfl (by kernel_rfl) (by kernel_rfl) (by kernel_rfl) (by kernel_rfl) (fun _ _ _ h => h) (by rfl) (fun w => ⟨by rfl, by go_simp⟩) (fun _ => hS0) ?_
        simp only [List.setIfInBounds_toArray, List.set_cons_zero, List.set_cons_succ]
        have hOw : Own3 w1.heap.size wk6 (.slice a0 n0 c0) (.slice a1 n1 c1) (.slice a2 n2 c2) r := ⟨HP0.out, HP1.out, HP2.out, fun b h0 h1 => by have q := HS0.out b h0; have q' := HS1.out b h1; have q1 := HG0.out; have q2 := HG1.out; have z1 := HZ1.out; have z2 := HZ2.out; have z3 := HZ3.out; have z4 := HZ4.out; have z5 := HZ5.out; have z6 := HZ6.out; omega⟩
        have bT := HBt.out.below HBw6.out HBt.out.lt
        have h4 := store4 hOw bT HLt.out (HB1.out.next' HBw6.out)
        have hbase : w.heap.size ≤ w1.heap.size := HB1.out.size
        have fr := fun i => bT.free i (Or.inr (Nat.zero_le _))
        have f0 := fr 0; have f1 := fr 1; have f2 := fr 2; have f3 := fr 3
        have e0 := bT.cell 0; have e1 := bT.cell 1; have e2 := bT.cell 2; have e3 := bT.cell 3
        change wk6.cell? ⟨Bt, 0, none⟩ = some (.int .i64 0) at e0
        change wk6.cell? ⟨Bt, 1, none⟩ = some (.slice none 0 0) at e1
        change wk6.cell? ⟨Bt, 2, none⟩ = some (.slice none 0 0) at e2
        change wk6.cell? ⟨Bt, 3, none⟩ = some (.slice none 0 0) at e3
        have H4 := Lib.hid h4
        clear h4 bT fr hOw
        refine heldD_one (i := 15) (by kernel_rfl) ?_
        refine wpOpIn_skip (w' := (((wk6.setCell ⟨Bt, 0, none⟩ (.int .i64 r.nodes)).setCell ⟨Bt, 1, none⟩ (.slice a0 n0 c0)).setCell ⟨Bt, 2, none⟩ (.slice a1 n1 c1)).setCell ⟨Bt, 3, none⟩ (.slice a2 n2 c2)) rfl rfl rfl (by rfl) (by rfl) (by go_simp) ?_
        refine ⟨fun h => (by cases h), ?_⟩
        refine heldD_done (by kernel_rfl) ?_ _
        clear hS0 e0 e1 e2 e3 f0 f1 f2 f3
        have z0 := H4.out.1.cell 0; have z1 := H4.out.1.cell 1; have z2 := H4.out.1.cell 2; have z3 := H4.out.1.cell 3
        simp only [List.getElem?_toArray, List.getElem?_cons_succ, List.getElem?_cons_zero] at z0 z1 z2 z3
        generalize (((wk6.setCell ⟨Bt, 0, none⟩ (.int .i64 r.nodes)).setCell ⟨Bt, 1, none⟩ (.slice a0 n0 c0)).setCell ⟨Bt, 2, none⟩ (.slice a1 n1 c1)).setCell ⟨Bt, 3, none⟩ (.slice a2 n2 c2) = wz at *
        go_wp2_with fail
        exact bodyPost_ret (v := .agg #[.int .i64 r.nodes, .slice a0 n0 c0, .slice a1 n1 c1, .slice a2 n2 c2]) (by simp [results, Tryd.results42, go_sem, z0, z1, z2, z3]) rfl ⟨_, rfl, ⟨_, _, _, rfl, ownsRow_le H4.out.2.1.1 hbase, ownsRow_le H4.out.2.1.2.1 hbase, ownsRow_le H4.out.2.1.2.2.1 hbase, H4.out.2.1.2.2.2⟩, H4.out.2.2⟩
      · obtain ⟨g1, hg1⟩ : ∃ g, g = wk2.heap.size := ⟨_, rfl⟩
        obtain ⟨wk3, hw⟩ : ∃ u, u = wk2.alloc (.cells #[] 2) := ⟨_, rfl⟩
        refine wpOpIn_value (v := .slice (some ⟨g1, 0, none⟩) 0 0) (w' := wk3) rfl rfl rfl (by rfl) (by rfl) (by rw [hw, hg1]; go_simp) ?_
        have hb : Below wk2.heap.size wk2 wk3 := by rw [hw]; exact (Below.refl _ _).alloc (Nat.le_refl _) _
        have hs3 : wk3.heap.size = wk2.heap.size + 1 := by rw [hw]; simp
        have HA1 := Lib.hid (show wk3.ownsRow w1.heap.size 2 1 (.slice (some ⟨g1, 0, none⟩) 0 0) 0 [] by rw [hw, hg1]; exact ownsRow_zero _ _ _ _ HBw2.out.size)
        replace HA0 := Lib.hid (ownsRow_below HA0.out hb)
        replace HA2 := Lib.hid (ownsRow_below HA2.out hb)
        have HBw3 := Lib.hid (HBw2.out.trans (hb.mono HBw2.out.size))
        have HL1 := Lib.hid (show w1.heap.size ≤ g1 by rw [hg1]; exact HBw2.out.size)
        have HG1 := Lib.hid hg1; have HZ3 := Lib.hid hs3
        have hS0 := HSS.out wk3 HBw3.out
        clear hw hb hg1 hs3
        refine ⟨fun _ => hS0, ?_⟩
        simp only [List.setIfInBounds_toArray, List.set_cons_zero, List.set_cons_succ]
        refine heldD_one (i := 5) (by kernel_rfl) ?_
        have hge := HL0.out
        obtain ⟨a0, n0, c0, wk4, hr, ho, hb, hgr, hO, hsz⟩ := copyApp (t := 22) Tryd.underlying22 infoI rfl (by omega) (by omega) HA0.out (HV.out wk3 HBw3.out).1.row HFew.out.1 HBw3.out hge
        have HR := Lib.hid hr
        clear hr
        refine wpOpIn_append rfl rfl rfl (by rfl) _ _ _ _ rfl HR.out ?_
        clear HR
        have HZ4 := Lib.hid hsz; have HO0 := Lib.hid hO; have HS0 := Lib.hid (show ∀ b, (Value.slice a0 n0 c0).ownBlock = some b → b < wk4.heap.size ∧ (b = g0 ∨ b = wk3.heap.size) from hO)
        have HP0 := Lib.hid ho
        replace HA1 := Lib.hid (ownsRow_grown HA1.out hgr (fun b h => by have q : g1 = b := (by simpa [Value.ownBlock] using h); have q1 := HG1.out; have q2 := HG0.out; have z1 := HZ1.out; have z2 := HZ2.out; have z3 := HZ3.out; omega))
        replace HA2 := Lib.hid (ownsRow_grown HA2.out hgr (fun b h => by have q : g2 = b := (by simpa [Value.ownBlock] using h); have q1 := HG2.out; have q2 := HG0.out; have z1 := HZ1.out; have z2 := HZ2.out; have z3 := HZ3.out; omega))
        have HBw4 := Lib.hid hb
        have hS0 := HSS.out wk4 HBw4.out
        clear hge ho hb hgr hO hsz HO0
        refine ⟨fun _ => hS0, ?_⟩
        simp only [List.setIfInBounds_toArray, List.set_cons_zero, List.set_cons_succ]
        refine heldD_one (i := 9) (by kernel_rfl) ?_
        have hge := HL1.out
        obtain ⟨a1, n1, c1, wk5, hr, ho, hb, hgr, hO, hsz⟩ := copyApp (t := 22) Tryd.underlying22 infoI rfl (by omega) (by omega) HA1.out (HV.out wk4 HBw4.out).2.1.row HFew.out.2.1 HBw4.out hge
        have HR := Lib.hid hr
        clear hr
        refine wpOpIn_append rfl rfl rfl (by rfl) _ _ _ _ rfl HR.out ?_
        clear HR
        have HZ5 := Lib.hid hsz; have HO1 := Lib.hid hO; have HS1 := Lib.hid (show ∀ b, (Value.slice a1 n1 c1).ownBlock = some b → b < wk5.heap.size ∧ (b = g1 ∨ b = wk4.heap.size) from hO)
        have HP1 := Lib.hid ho
        replace HP0 := Lib.hid (ownsRow_grown HP0.out hgr (fun b h => by have q := HS0.out b h; have q1 := HG0.out; have q2 := HG1.out; have z1 := HZ1.out; have z2 := HZ2.out; have z3 := HZ3.out; have z4 := HZ4.out; omega))
        replace HA2 := Lib.hid (ownsRow_grown HA2.out hgr (fun b h => by have q : g2 = b := (by simpa [Value.ownBlock] using h); have q1 := HG2.out; have q2 := HG1.out; have z1 := HZ1.out; have z2 := HZ2.out; have z3 := HZ3.out; have z4 := HZ4.out; omega))
        have HBw5 := Lib.hid hb
        have hS0 := HSS.out wk5 HBw5.out
        clear hge ho hb hgr hO hsz HO1
        refine ⟨fun _ => hS0, ?_⟩
        simp only [List.setIfInBounds_toArray, List.set_cons_zero, List.set_cons_succ]
        refine heldD_one (i := 13) (by kernel_rfl) ?_
        have hge := HL2.out
        obtain ⟨a2, n2, c2, wk6, hr, ho, hb, hgr, hO, hsz⟩ := copyApp (t := 23) Tryd.underlying23 infoA rfl (by omega) (by omega) HA2.out (HV.out wk5 HBw5.out).2.2.row HFew.out.2.2 HBw5.out hge
        have HR := Lib.hid hr
        clear hr
        refine wpOpIn_append rfl rfl rfl (by rfl) _ _ _ _ rfl HR.out ?_
        clear HR
        have HZ6 := Lib.hid hsz; have HO2 := Lib.hid hO; have HS2 := Lib.hid (show ∀ b, (Value.slice a2 n2 c2).ownBlock = some b → b < wk6.heap.size ∧ (b = g2 ∨ b = wk5.heap.size) from hO)
        have HP2 := Lib.hid ho
        replace HP0 := Lib.hid (ownsRow_grown HP0.out hgr (fun b h => by have q := HS0.out b h; have q1 := HG0.out; have q2 := HG2.out; have z1 := HZ1.out; have z2 := HZ2.out; have z3 := HZ3.out; have z4 := HZ4.out; have z5 := HZ5.out; omega))
        replace HP1 := Lib.hid (ownsRow_grown HP1.out hgr (fun b h => by have q := HS1.out b h; have q1 := HG1.out; have q2 := HG2.out; have z1 := HZ1.out; have z2 := HZ2.out; have z3 := HZ3.out; have z4 := HZ4.out; have z5 := HZ5.out; omega))
        have HBw6 := Lib.hid hb
        have hS0 := HSS.out wk6 HBw6.out
        clear hge ho hb hgr hO hsz HO2
        refine ⟨fun _ => hS0, ?_⟩
        simp only [List.setIfInBounds_toArray, List.set_cons_zero, List.set_cons_succ]
        refine heldD_takeF (i := 14) (v := .agg #[.int .i64 r.nodes, .slice a0 n0 c0, .slice a1 n1 c1, .slice a2 n2 c2]) rfl rfl rfl (by kernel_rfl) (by kernel_rfl) (by kernel_rfl) (by kernel_rfl) (fun _ _ _ h => h) (by rfl) (fun w => ⟨by rfl, by go_simp⟩) (fun _ => hS0) ?_
        simp only [List.setIfInBounds_toArray, List.set_cons_zero, List.set_cons_succ]
        have hOw : Own3 w1.heap.size wk6 (.slice a0 n0 c0) (.slice a1 n1 c1) (.slice a2 n2 c2) r := ⟨HP0.out, HP1.out, HP2.out, fun b h0 h1 => by have q := HS0.out b h0; have q' := HS1.out b h1; have q1 := HG0.out; have q2 := HG1.out; have z1 := HZ1.out; have z2 := HZ2.out; have z3 := HZ3.out; have z4 := HZ4.out; have z5 := HZ5.out; have z6 := HZ6.out; omega⟩
        have bT := HBt.out.below HBw6.out HBt.out.lt
        have h4 := store4 hOw bT HLt.out (HB1.out.next' HBw6.out)
        have hbase : w.heap.size ≤ w1.heap.size := HB1.out.size
        have fr := fun i => bT.free i (Or.inr (Nat.zero_le _))
        have f0 := fr 0; have f1 := fr 1; have f2 := fr 2; have f3 := fr 3
        have e0 := bT.cell 0; have e1 := bT.cell 1; have e2 := bT.cell 2; have e3 := bT.cell 3
        change wk6.cell? ⟨Bt, 0, none⟩ = some (.int .i64 0) at e0
        change wk6.cell? ⟨Bt, 1, none⟩ = some (.slice none 0 0) at e1
        change wk6.cell? ⟨Bt, 2, none⟩ = some (.slice none 0 0) at e2
        change wk6.cell? ⟨Bt, 3, none⟩ = some (.slice none 0 0) at e3
        have H4 := Lib.hid h4
        clear h4 bT fr hOw
        refine heldD_one (i := 15) (by kernel_rfl) ?_
        refine wpOpIn_skip (w' := (((wk6.setCell ⟨Bt, 0, none⟩ (.int .i64 r.nodes)).setCell ⟨Bt, 1, none⟩ (.slice a0 n0 c0)).setCell ⟨Bt, 2, none⟩ (.slice a1 n1 c1)).setCell ⟨Bt, 3, none⟩ (.slice a2 n2 c2)) rfl rfl rfl (by rfl) (by rfl) (by go_simp) ?_
        refine ⟨fun h => (by cases h), ?_⟩
        refine heldD_done (by kernel_rfl) ?_ _
        clear hS0 e0 e1 e2 e3 f0 f1 f2 f3
        have z0 := H4.out.1.cell 0; have z1 := H4.out.1.cell 1; have z2 := H4.out.1.cell 2; have z3 := H4.out.1.cell 3
        simp only [List.getElem?_toArray, List.getElem?_cons_succ, List.getElem?_cons_zero] at z0 z1 z2 z3
        generalize (((wk6.setCell ⟨Bt, 0, none⟩ (.int .i64 r.nodes)).setCell ⟨Bt, 1, none⟩ (.slice a0 n0 c0)).setCell ⟨Bt, 2, none⟩ (.slice a1 n1 c1)).setCell ⟨Bt, 3, none⟩ (.slice a2 n2 c2) = wz at *
        go_wp2_with fail
        exact bodyPost_ret (v := .agg #[.int .i64 r.nodes, .slice a0 n0 c0, .slice a1 n1 c1, .slice a2 n2 c2]) (by simp [results, Tryd.results42, go_sem, z0, z1, z2, z3]) rfl ⟨_, rfl, ⟨_, _, _, rfl, ownsRow_le H4.out.2.1.1 hbase, ownsRow_le H4.out.2.1.2.1 hbase, ownsRow_le H4.out.2.1.2.2.1 hbase, H4.out.2.1.2.2.2⟩, H4.out.2.2⟩
  · obtain ⟨g1, hg1⟩ : ∃ g, g = wk0.heap.size := ⟨_, rfl⟩
    obtain ⟨wk1, hw⟩ : ∃ u, u = wk0.alloc (.cells #[] 2) := ⟨_, rfl⟩
    refine wpOpIn_value (v := .slice (some ⟨g1, 0, none⟩) 0 0) (w' := wk1) rfl rfl rfl (by rfl) (by rfl) (by rw [hw, hg1]; go_simp) ?_
    have hb : Below wk0.heap.size wk0 wk1 := by rw [hw]; exact (Below.refl _ _).alloc (Nat.le_refl _) _
    have hs1 : wk1.heap.size = wk0.heap.size + 1 := by rw [hw]; simp
    have HA1 := Lib.hid (show wk1.ownsRow w1.heap.size 2 1 (.slice (some ⟨g1, 0, none⟩) 0 0) 0 [] by rw [hw, hg1]; exact ownsRow_zero _ _ _ _ HBw0.out.size)
    have HBw1 := Lib.hid (HBw0.out.trans (hb.mono HBw0.out.size))
    have HL1 := Lib.hid (show w1.heap.size ≤ g1 by rw [hg1]; exact HBw0.out.size)
    have HG1 := Lib.hid hg1; have HZ1 := Lib.hid hs1
    have hS0 := HSS.out wk1 HBw1.out
    clear hw hb hg1 hs1
    refine ⟨fun _ => hS0, ?_⟩
    simp only [List.setIfInBounds_toArray, List.set_cons_zero, List.set_cons_succ]
    refine heldD_two (i := 2) (k := 10) (by kernel_rfl) ?_ ?_
    · obtain ⟨g0, hg0⟩ : ∃ g, g = wk1.heap.size := ⟨_, rfl⟩
      obtain ⟨wk2, hw⟩ : ∃ u, u = wk1.alloc (.cells #[] 2) := ⟨_, rfl⟩
      refine wpOpIn_value (v := .slice (some ⟨g0, 0, none⟩) 0 0) (w' := wk2) rfl rfl rfl (by rfl) (by rfl) (by rw [hw, hg0]; go_simp) ?_
      have hb : Below wk1.heap.size wk1 wk2 := by rw [hw]; exact (Below.refl _ _).alloc (Nat.le_refl _) _
      have hs2 : wk2.heap.size = wk1.heap.size + 1 := by rw [hw]; simp
      have HA0 := Lib.hid (show wk2.ownsRow w1.heap.size 2 1 (.slice (some ⟨g0, 0, none⟩) 0 0) 0 [] by rw [hw, hg0]; exact ownsRow_zero _ _ _ _ HBw1.out.size)
      replace HA1 := Lib.hid (ownsRow_below HA1.out hb)
      have HBw2 := Lib.hid (HBw1.out.trans (hb.mono HBw1.out.size))
      have HL0 := Lib.hid (show w1.heap.size ≤ g0 by rw [hg0]; exact HBw1.out.size)
      have HG0 := Lib.hid hg0; have HZ2 := Lib.hid hs2
      have hS0 := HSS.out wk2 HBw2.out
      clear hw hb hg0 hs2
      refine ⟨fun _ => hS0, ?_⟩
      simp only [List.setIfInBounds_toArray, List.set_cons_zero, List.set_cons_succ]
      refine heldD_two (i := 5) (k := 10) (by kernel_rfl) ?_ ?_
      · have hge := HL0.out
        obtain ⟨a0, n0, c0, wk3, hr, ho, hb, hgr, hO, hsz⟩ := copyApp (t := 22) Tryd.underlying22 infoI rfl (by omega) (by omega) HA0.out (HV.out wk2 HBw2.out).1.row HFew.out.1 HBw2.out hge
        have HR := Lib.hid hr
        clear hr
        refine wpOpIn_append rfl rfl rfl (by rfl) _ _ _ _ rfl HR.out ?_
        clear HR
        have HZ3 := Lib.hid hsz; have HO0 := Lib.hid hO; have HS0 := Lib.hid (show ∀ b, (Value.slice a0 n0 c0).ownBlock = some b → b < wk3.heap.size ∧ (b = g0 ∨ b = wk2.heap.size) from hO)
        have HP0 := Lib.hid ho
        replace HA1 := Lib.hid (ownsRow_grown HA1.out hgr (fun b h => by have q : g1 = b := (by simpa [Value.ownBlock] using h); have q1 := HG1.out; have q2 := HG0.out; have z1 := HZ1.out; have z2 := HZ2.out; omega))
        have HBw3 := Lib.hid hb
        have hS0 := HSS.out wk3 HBw3.out
        clear hge ho hb hgr hO hsz HO0
        refine ⟨fun _ => hS0, ?_⟩
        simp only [List.setIfInBounds_toArray, List.set_cons_zero, List.set_cons_succ]
        refine heldD_two (i := 9) (k := 10) (by kernel_rfl) ?_ ?_
        · have hge := HL1.out
          obtain ⟨a1, n1, c1, wk4, hr, ho, hb, hgr, hO, hsz⟩ := copyApp (t := 22) Tryd.underlying22 infoI rfl (by omega) (by omega) HA1.out (HV.out wk3 HBw3.out).2.1.row HFew.out.2.1 HBw3.out hge
          have HR := Lib.hid hr
          clear hr
          refine wpOpIn_append rfl rfl rfl (by rfl) _ _ _ _ rfl HR.out ?_
          clear HR
          have HZ4 := Lib.hid hsz; have HO1 := Lib.hid hO; have HS1 := Lib.hid (show ∀ b, (Value.slice a1 n1 c1).ownBlock = some b → b < wk4.heap.size ∧ (b = g1 ∨ b = wk3.heap.size) from hO)
          have HP1 := Lib.hid ho
          replace HP0 := Lib.hid (ownsRow_grown HP0.out hgr (fun b h => by have q := HS0.out b h; have q1 := HG0.out; have q2 := HG1.out; have z1 := HZ1.out; have z2 := HZ2.out; have z3 := HZ3.out; omega))
          have HBw4 := Lib.hid hb
          have hS0 := HSS.out wk4 HBw4.out
          clear hge ho hb hgr hO hsz HO1
          refine ⟨fun _ => hS0, ?_⟩
          simp only [List.setIfInBounds_toArray, List.set_cons_zero, List.set_cons_succ]
          refine heldD_one (i := 10) (by kernel_rfl) ?_
          obtain ⟨g2, hg2⟩ : ∃ g, g = wk4.heap.size := ⟨_, rfl⟩
          obtain ⟨wk5, hw⟩ : ∃ u, u = wk4.alloc (.cells #[] 54) := ⟨_, rfl⟩
          refine wpOpIn_value (v := .slice (some ⟨g2, 0, none⟩) 0 0) (w' := wk5) rfl rfl rfl (by rfl) (by rfl) (by rw [hw, hg2]; go_simp) ?_
          have hb : Below wk4.heap.size wk4 wk5 := by rw [hw]; exact (Below.refl _ _).alloc (Nat.le_refl _) _
          have hs5 : wk5.heap.size = wk4.heap.size + 1 := by rw [hw]; simp
          have HA2 := Lib.hid (show wk5.ownsRow w1.heap.size 54 3 (.slice (some ⟨g2, 0, none⟩) 0 0) 0 [] by rw [hw, hg2]; exact ownsRow_zero _ _ _ _ HBw4.out.size)
          replace HP0 := Lib.hid (ownsRow_below HP0.out hb)
          replace HP1 := Lib.hid (ownsRow_below HP1.out hb)
          have HBw5 := Lib.hid (HBw4.out.trans (hb.mono HBw4.out.size))
          have HL2 := Lib.hid (show w1.heap.size ≤ g2 by rw [hg2]; exact HBw4.out.size)
          have HG2 := Lib.hid hg2; have HZ5 := Lib.hid hs5
          have hS0 := HSS.out wk5 HBw5.out
          clear hw hb hg2 hs5
          refine ⟨fun _ => hS0, ?_⟩
          simp only [List.setIfInBounds_toArray, List.set_cons_zero, List.set_cons_succ]
          refine heldD_one (i := 13) (by kernel_rfl) ?_
          have hge := HL2.out
          obtain ⟨a2, n2, c2, wk6, hr, ho, hb, hgr, hO, hsz⟩ := copyApp (t := 23) Tryd.underlying23 infoA rfl (by omega) (by omega) HA2.out (HV.out wk5 HBw5.out).2.2.row HFew.out.2.2 HBw5.out hge
          have HR := Lib.hid hr
          clear hr
          refine wpOpIn_append rfl rfl rfl (by rfl) _ _ _ _ rfl HR.out ?_
          clear HR
          have HZ6 := Lib.hid hsz; have HO2 := Lib.hid hO; have HS2 := Lib.hid (show ∀ b, (Value.slice a2 n2 c2).ownBlock = some b → b < wk6.heap.size ∧ (b = g2 ∨ b = wk5.heap.size) from hO)
          have HP2 := Lib.hid ho
          replace HP0 := Lib.hid (ownsRow_grown HP0.out hgr (fun b h => by have q := HS0.out b h; have q1 := HG0.out; have q2 := HG2.out; have z1 := HZ1.out; have z2 := HZ2.out; have z3 := HZ3.out; have z4 := HZ4.out; have z5 := HZ5.out; omega))
          replace HP1 := Lib.hid (ownsRow_grown HP1.out hgr (fun b h => by have q := HS1.out b h; have q1 := HG1.out; have q2 := HG2.out; have z1 := HZ1.out; have z2 := HZ2.out; have z3 := HZ3.out; have z4 := HZ4.out; have z5 := HZ5.out; omega))
          have HBw6 := Lib.hid hb
          have hS0 := HSS.out wk6 HBw6.out
          clear hge ho hb hgr hO hsz HO2
          refine ⟨fun _ => hS0, ?_⟩
          simp only [List.setIfInBounds_toArray, List.set_cons_zero, List.set_cons_succ]
          refine heldD_takeF (i := 14) (v := .agg #[.int .i64 r.nodes, .slice a0 n0 c0, .slice a1 n1 c1, .slice a2 n2 c2]) rfl rfl rfl (by kernel_rfl) (by kernel_rfl) (by kernel_rfl) (by kernel_rfl) (fun _ _ _ h => h) (by rfl) (fun w => ⟨by rfl, by go_simp⟩) (fun _ => hS0) ?_
          simp only [List.setIfInBounds_toArray, List.set_cons_zero, List.set_cons_succ]
          have hOw : Own3 w1.heap.size wk6 (.slice a0 n0 c0) (.slice a1 n1 c1) (.slice a2 n2 c2) r := ⟨HP0.out, HP1.out, HP2.out, fun b h0 h1 => by have q := HS0.out b h0; have q' := HS1.out b h1; have q1 := HG0.out; have q2 := HG1.out; have z1 := HZ1.out; have z2 := HZ2.out; have z3 := HZ3.out; have z4 := HZ4.out; have z5 := HZ5.out; have z6 := HZ6.out; omega⟩
          have bT := HBt.out.below HBw6.out HBt.out.lt
          have h4 := store4 hOw bT HLt.out (HB1.out.next' HBw6.out)
          have hbase : w.heap.size ≤ w1.heap.size := HB1.out.size
          have fr := fun i => bT.free i (Or.inr (Nat.zero_le _))
          have f0 := fr 0; have f1 := fr 1; have f2 := fr 2; have f3 := fr 3
          have e0 := bT.cell 0; have e1 := bT.cell 1; have e2 := bT.cell 2; have e3 := bT.cell 3
          change wk6.cell? ⟨Bt, 0, none⟩ = some (.int .i64 0) at e0
          change wk6.cell? ⟨Bt, 1, none⟩ = some (.slice none 0 0) at e1
          change wk6.cell? ⟨Bt, 2, none⟩ = some (.slice none 0 0) at e2
          change wk6.cell? ⟨Bt, 3, none⟩ = some (.slice none 0 0) at e3
          have H4 := Lib.hid h4
          clear h4 bT fr hOw
          refine heldD_one (i := 15) (by kernel_rfl) ?_
          refine wpOpIn_skip (w' := (((wk6.setCell ⟨Bt, 0, none⟩ (.int .i64 r.nodes)).setCell ⟨Bt, 1, none⟩ (.slice a0 n0 c0)).setCell ⟨Bt, 2, none⟩ (.slice a1 n1 c1)).setCell ⟨Bt, 3, none⟩ (.slice a2 n2 c2)) rfl rfl rfl (by rfl) (by rfl) (by go_simp) ?_
          refine ⟨fun h => (by cases h), ?_⟩
          refine heldD_done (by kernel_rfl) ?_ _
          clear hS0 e0 e1 e2 e3 f0 f1 f2 f3
          have z0 := H4.out.1.cell 0; have z1 := H4.out.1.cell 1; have z2 := H4.out.1.cell 2; have z3 := H4.out.1.cell 3
          simp only [List.getElem?_toArray, List.getElem?_cons_succ, List.getElem?_cons_zero] at z0 z1 z2 z3
          generalize (((wk6.setCell ⟨Bt, 0, none⟩ (.int .i64 r.nodes)).setCell ⟨Bt, 1, none⟩ (.slice a0 n0 c0)).setCell ⟨Bt, 2, none⟩ (.slice a1 n1 c1)).setCell ⟨Bt, 3, none⟩ (.slice a2 n2 c2) = wz at *
          go_wp2_with fail
          exact bodyPost_ret (v := .agg #[.int .i64 r.nodes, .slice a0 n0 c0, .slice a1 n1 c1, .slice a2 n2 c2]) (by simp [results, Tryd.results42, go_sem, z0, z1, z2, z3]) rfl ⟨_, rfl, ⟨_, _, _, rfl, ownsRow_le H4.out.2.1.1 hbase, ownsRow_le H4.out.2.1.2.1 hbase, ownsRow_le H4.out.2.1.2.2.1 hbase, H4.out.2.1.2.2.2⟩, H4.out.2.2⟩
        · obtain ⟨g2, hg2⟩ : ∃ g, g = wk3.heap.size := ⟨_, rfl⟩
          obtain ⟨wk4, hw⟩ : ∃ u, u = wk3.alloc (.cells #[] 54) := ⟨_, rfl⟩
          refine wpOpIn_value (v := .slice (some ⟨g2, 0, none⟩) 0 0) (w' := wk4) rfl rfl rfl (by rfl) (by rfl) (by rw [hw, hg2]; go_simp) ?_
          have hb : Below wk3.heap.size wk3 wk4 := by rw [hw]; exact (Below.refl _ _).alloc (Nat.le_refl _) _
          have hs4 : wk4.heap.size = wk3.heap.size + 1 := by rw [hw]; simp
          have HA2 := Lib.hid (show wk4.ownsRow w1.heap.size 54 3 (.slice (some ⟨g2, 0, none⟩) 0 0) 0 [] by rw [hw, hg2]; exact ownsRow_zero _ _ _ _ HBw3.out.size)
          replace HP0 := Lib.hid (ownsRow_below HP0.out hb)
          replace HA1 := Lib.hid (ownsRow_below HA1.out hb)
          have HBw4 := Lib.hid (HBw3.out.trans (hb.mono HBw3.out.size))
          have HL2 := Lib.hid (show w1.heap.size ≤ g2 by rw [hg2]; exact HBw3.out.size)
          have HG2 := Lib.hid hg2; have HZ4 := Lib.hid hs4
          have hS0 := HSS.out wk4 HBw4.out
          clear hw hb hg2 hs4
          refine ⟨fun _ => hS0, ?_⟩
          simp only [List.setIfInBounds_toArray, List.set_cons_zero, List.set_cons_succ]
          refine heldD_one (i := 9) (by kernel_rfl) ?_
          have hge := HL1.out
          obtain ⟨a1, n1, c1, wk5, hr, ho, hb, hgr, hO, hsz⟩ := copyApp (t := 22) Tryd.underlying22 infoI rfl (by omega) (by omega) HA1.out (HV.out wk4 HBw4.out).2.1.row HFew.out.2.1 HBw4.out hge
          have HR := Lib.hid hr
          clear hr
          refine wpOpIn_append rfl rfl rfl (by rfl) _ _ _ _ rfl HR.out ?_
          clear HR
          have HZ5 := Lib.hid hsz; have HO1 := Lib.hid hO; have HS1 := Lib.hid (show ∀ b, (Value.slice a1 n1 c1).ownBlock = some b → b < wk5.heap.size ∧ (b = g1 ∨ b = wk4.heap.size) from hO)
          have HP1 := Lib.hid ho
          replace HP0 := Lib.hid (ownsRow_grown HP0.out hgr (fun b h => by have q := HS0.out b h; have q1 := HG0.out; have q2 := HG1.out; have z1 := HZ1.out; have z2 := HZ2.out; have z3 := HZ3.out; have z4 := HZ4.out; omega))
          replace HA2 := Lib.hid (ownsRow_grown HA2.out hgr (fun b h => by have q : g2 = b := (by simpa [Value.ownBlock] using h); have q1 := HG2.out; have q2 := HG1.out; have z1 := HZ1.out; have z2 := HZ2.out; have z3 := HZ3.out; have z4 := HZ4.out; omega))
          have HBw5 := Lib.hid hb
          have hS0 := HSS.out wk5 HBw5.out
          clear hge ho hb hgr hO hsz HO1
          refine ⟨fun _ => hS0, ?_⟩
          simp only [List.setIfInBounds_toArray, List.set_cons_zero, List.set_cons_succ]
          refine heldD_one (i := 13) (by kernel_rfl) ?_
          have hge := HL2.out
          obtain ⟨a2, n2, c2, wk6, hr, ho, hb, hgr, hO, hsz⟩ := copyApp (t := 23) Tryd.underlying23 infoA rfl (by omega) (by omega) HA2.out (HV.out wk5 HBw5.out).2.2.row HFew.out.2.2 HBw5.out hge
          have HR := Lib.hid hr
          clear hr
          refine wpOpIn_append rfl rfl rfl (by rfl) _ _ _ _ rfl HR.out ?_
          clear HR
          have HZ6 := Lib.hid hsz; have HO2 := Lib.hid hO; have HS2 := Lib.hid (show ∀ b, (Value.slice a2 n2 c2).ownBlock = some b → b < wk6.heap.size ∧ (b = g2 ∨ b = wk5.heap.size) from hO)
          have HP2 := Lib.hid ho
          replace HP0 := Lib.hid (ownsRow_grown HP0.out hgr (fun b h => by have q := HS0.out b h; have q1 := HG0.out; have q2 := HG2.out; have z1 := HZ1.out; have z2 := HZ2.out; have z3 := HZ3.out; have z4 := HZ4.out; have z5 := HZ5.out; omega))
          replace HP1 := Lib.hid (ownsRow_grown HP1.out hgr (fun b h => by have q := HS1.out b h; have q1 := HG1.out; have q2 := HG2.out; have z1 := HZ1.out; have z2 := HZ2.out; have z3 := HZ3.out; have z4 := HZ4.out; have z5 := HZ5.out; omega))
          have HBw6 := Lib.hid hb
          have hS0 := HSS.out wk6 HBw6.out
          clear hge ho hb hgr hO hsz HO2
          refine ⟨fun _ => hS0, ?_⟩
          simp only [List.setIfInBounds_toArray, List.set_cons_zero, List.set_cons_succ]
          refine heldD_takeF (i := 14) (v := .agg #[.int .i64 r.nodes, .slice a0 n0 c0, .slice a1 n1 c1, .slice a2 n2 c2]) rfl rfl rfl (by kernel_rfl) (by kernel_rfl) (by kernel_rfl) (by kernel_rfl) (fun _ _ _ h => h) (by rfl) (fun w => ⟨by rfl, by go_simp⟩) (fun _ => hS0) ?_
          simp only [List.setIfInBounds_toArray, List.set_cons_zero, List.set_cons_succ]
          have hOw : Own3 w1.heap.size wk6 (.slice a0 n0 c0) (.slice a1 n1 c1) (.slice a2 n2 c2) r := ⟨HP0.out, HP1.out, HP2.out, fun b h0 h1 => by have q := HS0.out b h0; have q' := HS1.out b h1; have q1 := HG0.out; have q2 := HG1.out; have z1 := HZ1.out; have z2 := HZ2.out; have z3 := HZ3.out; have z4 := HZ4.out; have z5 := HZ5.out; have z6 := HZ6.out; omega⟩
          have bT := HBt.out.below HBw6.out HBt.out.lt
          have h4 := store4 hOw bT HLt.out (HB1.out.next' HBw6.out)
          have hbase : w.heap.size ≤ w1.heap.size := HB1.out.size
          have fr := fun i => bT.free i (Or.inr (Nat.zero_le _))
          have f0 := fr 0; have f1 := fr 1; have f2 := fr 2; have f3 := fr 3
          have e0 := bT.cell 0; have e1 := bT.cell 1; have e2 := bT.cell 2; have e3 := bT.cell 3
          change wk6.cell? ⟨Bt, 0, none⟩ = some (.int .i64 0) at e0
          change wk6.cell? ⟨Bt, 1, none⟩ = some (.slice none 0 0) at e1
          change wk6.cell? ⟨Bt, 2, none⟩ = some (.slice none 0 0) at e2
          change wk6.cell? ⟨Bt, 3, none⟩ = some (.slice none 0 0) at e3
          have H4 := Lib.hid h4
          clear h4 bT fr hOw
          refine heldD_one (i := 15) (by kernel_rfl) ?_
          refine wpOpIn_skip (w' := (((wk6.setCell ⟨Bt, 0, none⟩ (.int .i64 r.nodes)).setCell ⟨Bt, 1, none⟩ (.slice a0 n0 c0)).setCell ⟨Bt, 2, none⟩ (.slice a1 n1 c1)).setCell ⟨Bt, 3, none⟩ (.slice a2 n2 c2)) rfl rfl rfl (by rfl) (by rfl) (by go_simp) ?_
          refine ⟨fun h => (by cases h), ?_⟩
          refine heldD_done (by kernel_rfl) ?_ _
          clear hS0 e0 e1 e2 e3 f0 f1 f2 f3
          have z0 := H4.out.1.cell 0; have z1 := H4.out.1.cell 1; have z2 := H4.out.1.cell 2; have z3 := H4.out.1.cell 3
          simp only [List.getElem?_toArray, List.getElem?_cons_succ, List.getElem?_cons_zero] at z0 z1 z2 z3
          generalize (((wk6.setCell ⟨Bt, 0, none⟩ (.int .i64 r.nodes)).setCell ⟨Bt, 1, none⟩ (.slice a0 n0 c0)).setCell ⟨Bt, 2, none⟩ (.slice a1 n1 c1)).setCell ⟨Bt, 3, none⟩ (.slice a2 n2 c2) = wz at *
          go_wp2_with fail
          exact bodyPost_ret (v := .agg #[.int .i64 r.nodes, .slice a0 n0 c0, .slice a1 n1 c1, .slice a2 n2 c2]) (by simp [results, Tryd.results42, go_sem, z0, z1, z2, z3]) rfl ⟨_, rfl, ⟨_, _, _, rfl, ownsRow_le H4.out.2.1.1 hbase, ownsRow_le H4.out.2.1.2.1 hbase, ownsRow_le H4.out.2.1.2.2.1 hbase, H4.out.2.1.2.2.2⟩, H4.out.2.2⟩
      · obtain ⟨g2, hg2⟩ : ∃ g, g = wk2.heap.size := ⟨_, rfl⟩
        obtain ⟨wk3, hw⟩ : ∃ u, u = wk2.alloc (.cells #[] 54) := ⟨_, rfl⟩
        refine wpOpIn_value (v := .slice (some ⟨g2, 0, none⟩) 0 0) (w' := wk3) rfl rfl rfl (by rfl) (by rfl) (by rw [hw, hg2]; go_simp) ?_
        have hb : Below wk2.heap.size wk2 wk3 := by rw [hw]; exact (Below.refl _ _).alloc (Nat.le_refl _) _
        have hs3 : wk3.heap.size = wk2.heap.size + 1 := by rw [hw]; simp
        have HA2 := Lib.hid (show wk3.ownsRow w1.heap.size 54 3 (.slice (some ⟨g2, 0, none⟩) 0 0) 0 [] by rw [hw, hg2]; exact ownsRow_zero _ _ _ _ HBw2.out.size)
        replace HA0 := Lib.hid (ownsRow_below HA0.out hb)
        replace HA1 := Lib.hid (ownsRow_below HA1.out hb)
        have HBw3 := Lib.hid (HBw2.out.trans (hb.mono HBw2.out.size))
        have HL2 := Lib.hid (show w1.heap.size ≤ g2 by rw [hg2]; exact HBw2.out.size)
        have HG2 := Lib.hid hg2; have HZ3 := Lib.hid hs3
        have hS0 := HSS.out wk3 HBw3.out
        clear hw hb hg2 hs3
        refine ⟨fun _ => hS0, ?_⟩
        simp only [List.setIfInBounds_toArray, List.set_cons_zero, List.set_cons_succ]
        refine heldD_one (i := 5) (by kernel_rfl) ?_
        have hge := HL0.out
        obtain ⟨a0, n0, c0, wk4, hr, ho, hb, hgr, hO, hsz⟩ := copyApp (t := 22) Tryd.underlying22 infoI rfl (by omega) (by omega) HA0.out (HV.out wk3 HBw3.out).1.row HFew.out.1 HBw3.out hge
        have HR := Lib.hid hr
        clear hr
        refine wpOpIn_append rfl rfl rfl (by rfl) _ _ _ _ rfl HR.out ?_
        clear HR
        have HZ4 := Lib.hid hsz; have HO0 := Lib.hid hO; have HS0 := Lib.hid (show ∀ b, (Value.slice a0 n0 c0).ownBlock = some b → b < wk4.heap.size ∧ (b = g0 ∨ b = wk3.heap.size) from hO)
        have HP0 := Lib.hid ho
        replace HA1 := Lib.hid (ownsRow_grown HA1.out hgr (fun b h => by have q : g1 = b := (by simpa [Value.ownBlock] using h); have q1 := HG1.out; have q2 := HG0.out; have z1 := HZ1.out; have z2 := HZ2.out; have z3 := HZ3.out; omega))
        replace HA2 := Lib.hid (ownsRow_grown HA2.out hgr (fun b h => by have q : g2 = b := (by simpa [Value.ownBlock] using h); have q1 := HG2.out; have q2 := HG0.out; have z1 := HZ1.out; have z2 := HZ2.out; have z3 := HZ3.out; omega))
        have HBw4 := Lib.hid hb
        have hS0 := HSS.out wk4 HBw4.out
        clear hge ho hb hgr hO hsz HO0
        refine ⟨fun _ => hS0, ?_⟩
        simp only [List.setIfInBounds_toArray, List.set_cons_zero, List.set_cons_succ]
        refine heldD_one (i := 9) (by kernel_rfl) ?_
        have hge := HL1.out
        obtain ⟨a1, n1, c1, wk5, hr, ho, hb, hgr, hO, hsz⟩ := copyApp (t := 22) Tryd.underlying22 infoI rfl (by omega) (by omega) HA1.out (HV.out wk4 HBw4.out).2.1.row HFew.out.2.1 HBw4.out hge
        have HR := Lib.hid hr
        clear hr
        refine wpOpIn_append rfl rfl rfl (by rfl) _ _ _ _ rfl HR.out ?_
        clear HR
        have HZ5 := Lib.hid hsz; have HO1 := Lib.hid hO; have HS1 := Lib.hid (show ∀ b, (Value.slice a1 n1 c1).ownBlock = some b → b < wk5.heap.size ∧ (b = g1 ∨ b = wk4.heap.size) from hO)
        have HP1 := Lib.hid ho
        replace HP0 := Lib.hid (ownsRow_grown HP0.out hgr (fun b h => by have q := HS0.out b h; have q1 := HG0.out; have q2 := HG1.out; have z1 := HZ1.out; have z2 := HZ2.out; have z3 := HZ3.out; have z4 := HZ4.out; omega))
        replace HA2 := Lib.hid (ownsRow_grown HA2.out hgr (fun b h => by have q : g2 = b := (by simpa [Value.ownBlock] using h); have q1 := HG2.out; have q2 := HG1.out; have z1 := HZ1.out; have z2 := HZ2.out; have z3 := HZ3.out; have z4 := HZ4.out; omega))
        have HBw5 := Lib.hid hb
        have hS0 := HSS.out wk5 HBw5.out
        clear hge ho hb hgr hO hsz HO1
        refine ⟨fun _ => hS0, ?_⟩
        simp only [List.setIfInBounds_toArray, List.set_cons_zero, List.set_cons_succ]
        refine heldD_one (i := 13) (by kernel_rfl) ?_
        have hge := HL2.out
        obtain ⟨a2, n2, c2, wk6, hr, ho, hb, hgr, hO, hsz⟩ := copyApp (t := 23) Tryd.underlying23 infoA rfl (by omega) (by omega) HA2.out (HV.out wk5 HBw5.out).2.2.row HFew.out.2.2 HBw5.out hge
        have HR := Lib.hid hr
        clear hr
        refine wpOpIn_append rfl rfl rfl (by rfl) _ _ _ _ rfl HR.out ?_
        clear HR
        have HZ6 := Lib.hid hsz; have HO2 := Lib.hid hO; have HS2 := Lib.hid (show ∀ b, (Value.slice a2 n2 c2).ownBlock = some b → b < wk6.heap.size ∧ (b = g2 ∨ b = wk5.heap.size) from hO)
        have HP2 := Lib.hid ho
        replace HP0 := Lib.hid (ownsRow_grown HP0.out hgr (fun b h => by have q := HS0.out b h; have q1 := HG0.out; have q2 := HG2.out; have z1 := HZ1.out; have z2 := HZ2.out; have z3 := HZ3.out; have z4 := HZ4.out; have z5 := HZ5.out; omega))
        replace HP1 := Lib.hid (ownsRow_grown HP1.out hgr (fun b h => by have q := HS1.out b h; have q1 := HG1.out; have q2 := HG2.out; have z1 := HZ1.out; have z2 := HZ2.out; have z3 := HZ3.out; have z4 := HZ4.out; have z5 := HZ5.out; omega))
        have HBw6 := Lib.hid hb
        have hS0 := HSS.out wk6 HBw6.out
        clear hge ho hb hgr hO hsz HO2
        refine ⟨fun _ => hS0, ?_⟩
        simp only [List.setIfInBounds_toArray, List.set_cons_zero, List.set_cons_succ]
        refine heldD_takeF (i := 14) (v := .agg #[.int .i64 r.nodes, .slice a0 n0 c0, .slice a1 n1 c1, .slice a2 n2 c2]) rfl rfl rfl (by kernel_rfl) (by kernel_rfl) (by kernel_rfl) (by kernel_rfl) (fun _ _ _ h => h) (by rfl) (fun w => ⟨by rfl, by go_simp⟩) (fun _ => hS0) ?_
        simp only [List.setIfInBounds_toArray, List.set_cons_zero, List.set_cons_succ]
        have hOw : Own3 w1.heap.size wk6 (.slice a0 n0 c0) (.slice a1 n1 c1) (.slice a2 n2 c2) r := ⟨HP0.out, HP1.out, HP2.out, fun b h0 h1 => by have q := HS0.out b h0; have q' := HS1.out b h1; have q1 := HG0.out; have q2 := HG1.out; have z1 := HZ1.out; have z2 := HZ2.out; have z3 := HZ3.out; have z4 := HZ4.out; have z5 := HZ5.out; have z6 := HZ6.out; omega⟩
        have bT := HBt.out.below HBw6.out HBt.out.lt
        have h4 := store4 hOw bT HLt.out (HB1.out.next' HBw6.out)
        have hbase : w.heap.size ≤ w1.heap.size := HB1.out.size
        have fr := fun i => bT.free i (Or.inr (Nat.zero_le _))
        have f0 := fr 0; have f1 := fr 1; have f2 := fr 2; have f3 := fr 3
        have e0 := bT.cell 0; have e1 := bT.cell 1; have e2 := bT.cell 2; have e3 := bT.cell 3
        change wk6.cell? ⟨Bt, 0, none⟩ = some (.int .i64 0) at e0
        change wk6.cell? ⟨Bt, 1, none⟩ = some (.slice none 0 0) at e1
        change wk6.cell? ⟨Bt, 2, none⟩ = some (.slice none 0 0) at e2
        change wk6.cell? ⟨Bt, 3, none⟩ = some (.slice none 0 0) at e3
        have H4 := Lib.hid h4
        clear h4 bT fr hOw
        refine heldD_one (i := 15) (by kernel_rfl) ?_
        refine wpOpIn_skip (w' := (((wk6.setCell ⟨Bt, 0, none⟩ (.int .i64 r.nodes)).setCell ⟨Bt, 1, none⟩ (.slice a0 n0 c0)).setCell ⟨Bt, 2, none⟩ (.slice a1 n1 c1)).setCell ⟨Bt, 3, none⟩ (.slice a2 n2 c2)) rfl rfl rfl (by rfl) (by rfl) (by go_simp) ?_
        refine ⟨fun h => (by cases h), ?_⟩
        refine heldD_done (by kernel_rfl) ?_ _
        clear hS0 e0 e1 e2 e3 f0 f1 f2 f3
        have z0 := H4.out.1.cell 0; have z1 := H4.out.1.cell 1; have z2 := H4.out.1.cell 2; have z3 := H4.out.1.cell 3
        simp only [List.getElem?_toArray, List.getElem?_cons_succ, List.getElem?_cons_zero] at z0 z1 z2 z3
        generalize (((wk6.setCell ⟨Bt, 0, none⟩ (.int .i64 r.nodes)).setCell ⟨Bt, 1, none⟩ (.slice a0 n0 c0)).setCell ⟨Bt, 2, none⟩ (.slice a1 n1 c1)).setCell ⟨Bt, 3, none⟩ (.slice a2 n2 c2) = wz at *
        go_wp2_with fail
        exact bodyPost_ret (v := .agg #[.int .i64 r.nodes, .slice a0 n0 c0, .slice a1 n1 c1, .slice a2 n2 c2]) (by simp [results, Tryd.results42, go_sem, z0, z1, z2, z3]) rfl ⟨_, rfl, ⟨_, _, _, rfl, ownsRow_le H4.out.2.1.1 hbase, ownsRow_le H4.out.2.1.2.1 hbase, ownsRow_le H4.out.2.1.2.2.1 hbase, H4.out.2.1.2.2.2⟩, H4.out.2.2⟩
    · obtain ⟨g2, hg2⟩ : ∃ g, g = wk1.heap.size := ⟨_, rfl⟩
      obtain ⟨wk2, hw⟩ : ∃ u, u = wk1.alloc (.cells #[] 54) := ⟨_, rfl⟩
      refine wpOpIn_value (v := .slice (some ⟨g2, 0, none⟩) 0 0) (w' := wk2) rfl rfl rfl (by rfl) (by rfl) (by rw [hw, hg2]; go_simp) ?_
      have hb : Below wk1.heap.size wk1 wk2 := by rw [hw]; exact (Below.refl _ _).alloc (Nat.le_refl _) _
      have hs2 : wk2.heap.size = wk1.heap.size + 1 := by rw [hw]; simp
      have HA2 := Lib.hid (show wk2.ownsRow w1.heap.size 54 3 (.slice (some ⟨g2, 0, none⟩) 0 0) 0 [] by rw [hw, hg2]; exact ownsRow_zero _ _ _ _ HBw1.out.size)
      replace HA1 := Lib.hid (ownsRow_below HA1.out hb)
      have HBw2 := Lib.hid (HBw1.out.trans (hb.mono HBw1.out.size))
      have HL2 := Lib.hid (show w1.heap.size ≤ g2 by rw [hg2]; exact HBw1.out.size)
      have HG2 := Lib.hid hg2; have HZ2 := Lib.hid hs2
      have hS0 := HSS.out wk2 HBw2.out
      clear hw hb hg2 hs2
      refine ⟨fun _ => hS0, ?_⟩
      simp only [List.setIfInBounds_toArray, List.set_cons_zero, List.set_cons_succ]
      refine heldD_one (i := 2) (by kernel_rfl) ?_
      obtain ⟨g0, hg0⟩ : ∃ g, g = wk2.heap.size := ⟨_, rfl⟩
      obtain ⟨wk3, hw⟩ : ∃ u, u = wk2.alloc (.cells #[] 2) := ⟨_, rfl⟩
      refine wpOpIn_value (v := .slice (some ⟨g0, 0, none⟩) 0 0) (w' := wk3) rfl rfl rfl (by rfl) (by rfl) (by rw [hw, hg0]; go_simp) ?_
      have hb : Below wk2.heap.size wk2 wk3 := by rw [hw]; exact (Below.refl _ _).alloc (Nat.le_refl _) _
      have hs3 : wk3.heap.size = wk2.heap.size + 1 := by rw [hw]; simp
      have HA0 := Lib.hid (show wk3.ownsRow w1.heap.size 2 1 (.slice (some ⟨g0, 0, none⟩) 0 0) 0 [] by rw [hw, hg0]; exact ownsRow_zero _ _ _ _ HBw2.out.size)
      replace HA1 := Lib.hid (ownsRow_below HA1.out hb)
      replace HA2 := Lib.hid (ownsRow_below HA2.out hb)
      have HBw3 := Lib.hid (HBw2.out.trans (hb.mono HBw2.out.size))
      have HL0 := Lib.hid (show w1.heap.size ≤ g0 by rw [hg0]; exact HBw2.out.size)
      have HG0 := Lib.hid hg0; have HZ3 := Lib.hid hs3
      have hS0 := HSS.out wk3 HBw3.out
      clear hw hb hg0 hs3
      refine ⟨fun _ => hS0, ?_⟩
      simp only [List.setIfInBounds_toArray, List.set_cons_zero, List.set_cons_succ]
      refine heldD_one (i := 5) (by kernel_rfl) ?_
      have hge := HL0.out
      obtain ⟨a0, n0, c0, wk4, hr, ho, hb, hgr, hO, hsz⟩ := copyApp (t := 22) Tryd.underlying22 infoI rfl (by omega) (by omega) HA0.out (HV.out wk3 HBw3.out).1.row HFew.out.1 HBw3.out hge
      have HR := Lib.hid hr
      clear hr
      refine wpOpIn_append rfl rfl rfl (by rfl) _ _ _ _ rfl HR.out ?_
      clear HR
      have HZ4 := Lib.hid hsz; have HO0 := Lib.hid hO; have HS0 := Lib.hid (show ∀ b, (Value.slice a0 n0 c0).ownBlock = some b → b < wk4.heap.size ∧ (b = g0 ∨ b = wk3.heap.size) from hO)
      have HP0 := Lib.hid ho
      replace HA1 := Lib.hid (ownsRow_grown HA1.out hgr (fun b h => by have q : g1 = b := (by simpa [Value.ownBlock] using h); have q1 := HG1.out; have q2 := HG0.out; have z1 := HZ1.out; have z2 := HZ2.out; have z3 := HZ3.out; omega))
      replace HA2 := Lib.hid (ownsRow_grown HA2.out hgr (fun b h => by have q : g2 = b := (by simpa [Value.ownBlock] using h); have q1 := HG2.out; have q2 := HG0.out; have z1 := HZ1.out; have z2 := HZ2.out; have z3 := HZ3.out; omega))
      have HBw4 := Lib.hid hb
      have hS0 := HSS.out wk4 HBw4.out
      clear hge ho hb hgr hO hsz HO0
      refine ⟨fun _ => hS0, ?_⟩
      simp only [List.setIfInBounds_toArray, List.set_cons_zero, List.set_cons_succ]
      refine heldD_one (i := 9) (by kernel_rfl) ?_
      have hge := HL1.out
      obtain ⟨a1, n1, c1, wk5, hr, ho, hb, hgr, hO, hsz⟩ := copyApp (t := 22) Tryd.underlying22 infoI rfl (by omega) (by omega) HA1.out (HV.out wk4 HBw4.out).2.1.row HFew.out.2.1 HBw4.out hge
      have HR := Lib.hid hr
      clear hr
      refine wpOpIn_append rfl rfl rfl (by rfl) _ _ _ _ rfl HR.out ?_
      clear HR
      have HZ5 := Lib.hid hsz; have HO1 := Lib.hid hO; have HS1 := Lib.hid (show ∀ b, (Value.slice a1 n1 c1).ownBlock = some b → b < wk5.heap.size ∧ (b = g1 ∨ b = wk4.heap.size) from hO)
      have HP1 := Lib.hid ho
      replace HP0 := Lib.hid (ownsRow_grown HP0.out hgr (fun b h => by have q := HS0.out b h; have q1 := HG0.out; have q2 := HG1.out; have z1 := HZ1.out; have z2 := HZ2.out; have z3 := HZ3.out; have z4 := HZ4.out; omega))
      replace HA2 := Lib.hid (ownsRow_grown HA2.out hgr (fun b h => by have q : g2 = b := (by simpa [Value.ownBlock] using h); have q1 := HG2.out; have q2 := HG1.out; have z1 := HZ1.out; have z2 := HZ2.out; have z3 := HZ3.out; have z4 := HZ4.out; omega))
      have HBw5 := Lib.hid hb
      have hS0 := HSS.out wk5 HBw5.out
      clear hge ho hb hgr hO hsz HO1
      refine ⟨fun _ => hS0, ?_⟩
      simp only [List.setIfInBounds_toArray, List.set_cons_zero, List.set_cons_succ]
      refine heldD_one (i := 13) (by kernel_rfl) ?_
      have hge := HL2.out
      obtain ⟨a2, n2, c2, wk6, hr, ho, hb, hgr, hO, hsz⟩ := copyApp (t := 23) Tryd.underlying23 infoA rfl (by omega) (by omega) HA2.out (HV.out wk5 HBw5.out).2.2.row HFew.out.2.2 HBw5.out hge
      have HR := Lib.hid hr
      clear hr
      refine wpOpIn_append rfl rfl rfl (by rfl) _ _ _ _ rfl HR.out ?_
      clear HR
      have HZ6 := Lib.hid hsz; have HO2 := Lib.hid hO; have HS2 := Lib.hid (show ∀ b, (Value.slice a2 n2 c2).ownBlock = some b → b < wk6.heap.size ∧ (b = g2 ∨ b = wk5.heap.size) from hO)
      have HP2 := Lib.hid ho
      replace HP0 := Lib.hid (ownsRow_grown HP0.out hgr (fun b h => by have q := HS0.out b h; have q1 := HG0.out; have q2 := HG2.out; have z1 := HZ1.out; have z2 := HZ2.out; have z3 := HZ3.out; have z4 := HZ4.out; have z5 := HZ5.out; omega))
      replace HP1 := Lib.hid (ownsRow_grown HP1.out hgr (fun b h => by have q := HS1.out b h; have q1 := HG1.out; have q2 := HG2.out; have z1 := HZ1.out; have z2 := HZ2.out; have z3 := HZ3.out; have z4 := HZ4.out; have z5 := HZ5.out; omega))
      have HBw6 := Lib.hid hb
      have hS0 := HSS.out wk6 HBw6.out
      clear hge ho hb hgr hO hsz HO2
      refine ⟨fun _ => hS0, ?_⟩
      simp only [List.setIfInBounds_toArray, List.set_cons_zero, List.set_cons_succ]
      refine heldD_takeF (i := 14) (v := .agg #[.int .i64 r.nodes, .slice a0 n0 c0, .slice a1 n1 c1, .slice a2 n2 c2]) rfl rfl rfl (by kernel_rfl) (by kernel_rfl) (by kernel_rfl) (by kernel_rfl) (fun _ _ _ h => h) (by rfl) (fun w => ⟨by rfl, by go_simp⟩) (fun _ => hS0) ?_
      simp only [List.setIfInBounds_toArray, List.set_cons_zero, List.set_cons_succ]
      have hOw : Own3 w1.heap.size wk6 (.slice a0 n0 c0) (.slice a1 n1 c1) (.slice a2 n2 c2) r := ⟨HP0.out, HP1.out, HP2.out, fun b h0 h1 => by have q := HS0.out b h0; have q' := HS1.out b h1; have q1 := HG0.out; have q2 := HG1.out; have z1 := HZ1.out; have z2 := HZ2.out; have z3 := HZ3.out; have z4 := HZ4.out; have z5 := HZ5.out; have z6 := HZ6.out; omega⟩
      have bT := HBt.out.below HBw6.out HBt.out.lt
      have h4 := store4 hOw bT HLt.out (HB1.out.next' HBw6.out)
      have hbase : w.heap.size ≤ w1.heap.size := HB1.out.size
      have fr := fun i => bT.free i (Or.inr (Nat.zero_le _))
      have f0 := fr 0; have f1 := fr 1; have f2 := fr 2; have f3 := fr 3
      have e0 := bT.cell 0; have e1 := bT.cell 1; have e2 := bT.cell 2; have e3 := bT.cell 3
      change wk6.cell? ⟨Bt, 0, none⟩ = some (.int .i64 0) at e0
      change wk6.cell? ⟨Bt, 1, none⟩ = some (.slice none 0 0) at e1
      change wk6.cell? ⟨Bt, 2, none⟩ = some (.slice none 0 0) at e2
      change wk6.cell? ⟨Bt, 3, none⟩ = some (.slice none 0 0) at e3
      have H4 := Lib.hid h4
      clear h4 bT fr hOw
      refine heldD_one (i := 15) (by kernel_rfl) ?_
      refine wpOpIn_skip (w' := (((wk6.setCell ⟨Bt, 0, none⟩ (.int .i64 r.nodes)).setCell ⟨Bt, 1, none⟩ (.slice a0 n0 c0)).setCell ⟨Bt, 2, none⟩ (.slice a1 n1 c1)).setCell ⟨Bt, 3, none⟩ (.slice a2 n2 c2)) rfl rfl rfl (by rfl) (by rfl) (by go_simp) ?_
      refine ⟨fun h => (by cases h), ?_⟩
      refine heldD_done (by kernel_rfl) ?_ _
      clear hS0 e0 e1 e2 e3 f0 f1 f2 f3
      have z0 := H4.out.1.cell 0; have z1 := H4.out.1.cell 1; have z2 := H4.out.1.cell 2; have z3 := H4.out.1.cell 3
      simp only [List.getElem?_toArray, List.getElem?_cons_succ, List.getElem?_cons_zero] at z0 z1 z2 z3
      generalize (((wk6.setCell ⟨Bt, 0, none⟩ (.int .i64 r.nodes)).setCell ⟨Bt, 1, none⟩ (.slice a0 n0 c0)).setCell ⟨Bt, 2, none⟩ (.slice a1 n1 c1)).setCell ⟨Bt, 3, none⟩ (.slice a2 n2 c2) = wz at *
      go_wp2_with fail
      exact bodyPost_ret (v := .agg #[.int .i64 r.nodes, .slice a0 n0 c0, .slice a1 n1 c1, .slice a2 n2 c2]) (by simp [results, Tryd.results42, go_sem, z0, z1, z2, z3]) rfl ⟨_, rfl, ⟨_, _, _, rfl, ownsRow_le H4.out.2.1.1 hbase, ownsRow_le H4.out.2.1.2.1 hbase, ownsRow_le H4.out.2.1.2.2.1 hbase, H4.out.2.1.2.2.2⟩, H4.out.2.2⟩
  · obtain ⟨g2, hg2⟩ : ∃ g, g = wk0.heap.size := ⟨_, rfl⟩
    obtain ⟨wk1, hw⟩ : ∃ u, u = wk0.alloc (.cells #[] 54) := ⟨_, rfl⟩
    refine wpOpIn_value (v := .slice (some ⟨g2, 0, none⟩) 0 0) (w' := wk1) rfl rfl rfl (by rfl) (by rfl) (by rw [hw, hg2]; go_simp) ?_
    have hb : Below wk0.heap.size wk0 wk1 := by rw [hw]; exact (Below.refl _ _).alloc (Nat.le_refl _) _
    have hs1 : wk1.heap.size = wk0.heap.size + 1 := by rw [hw]; simp
    have HA2 := Lib.hid (show wk1.ownsRow w1.heap.size 54 3 (.slice (some ⟨g2, 0, none⟩) 0 0) 0 [] by rw [hw, hg2]; exact ownsRow_zero _ _ _ _ HBw0.out.size)
    have HBw1 := Lib.hid (HBw0.out.trans (hb.mono HBw0.out.size))
    have HL2 := Lib.hid (show w1.heap.size ≤ g2 by rw [hg2]; exact HBw0.out.size)
    have HG2 := Lib.hid hg2; have HZ1 := Lib.hid hs1
    have hS0 := HSS.out wk1 HBw1.out
    clear hw hb hg2 hs1
    refine ⟨fun _ => hS0, ?_⟩
    simp only [List.setIfInBounds_toArray, List.set_cons_zero, List.set_cons_succ]
    refine heldD_two (i := 2) (k := 6) (by kernel_rfl) ?_ ?_
    · obtain ⟨g0, hg0⟩ : ∃ g, g = wk1.heap.size := ⟨_, rfl⟩
      obtain ⟨wk2, hw⟩ : ∃ u, u = wk1.alloc (.cells #[] 2) := ⟨_, rfl⟩
      refine wpOpIn_value (v := .slice (some ⟨g0, 0, none⟩) 0 0) (w' := wk2) rfl rfl rfl (by rfl) (by rfl) (by rw [hw, hg0]; go_simp) ?_
      have hb : Below wk1.heap.size wk1 wk2 := by rw [hw]; exact (Below.refl _ _).alloc (Nat.le_refl _) _
      have hs2 : wk2.heap.size = wk1.heap.size + 1 := by rw [hw]; simp
      have HA0 := Lib.hid (show wk2.ownsRow w1.heap.size 2 1 (.slice (some ⟨g0, 0, none⟩) 0 0) 0 [] by rw [hw, hg0]; exact ownsRow_zero _ _ _ _ HBw1.out.size)
      replace HA2 := Lib.hid (ownsRow_below HA2.out hb)
      have HBw2 := Lib.hid (HBw1.out.trans (hb.mono HBw1.out.size))
      have HL0 := Lib.hid (show w1.heap.size ≤ g0 by rw [hg0]; exact HBw1.out.size)
      have HG0 := Lib.hid hg0; have HZ2 := Lib.hid hs2
      have hS0 := HSS.out wk2 HBw2.out
      clear hw hb hg0 hs2
      refine ⟨fun _ => hS0, ?_⟩
      simp only [List.setIfInBounds_toArray, List.set_cons_zero, List.set_cons_succ]
      refine heldD_two (i := 5) (k := 6) (by kernel_rfl) ?_ ?_
      · have hge := HL0.out
        obtain ⟨a0, n0, c0, wk3, hr, ho, hb, hgr, hO, hsz⟩ := copyApp (t := 22) Tryd.underlying22 infoI rfl (by omega) (by omega) HA0.out (HV.out wk2 HBw2.out).1.row HFew.out.1 HBw2.out hge
        have HR := Lib.hid hr
        clear hr
        refine wpOpIn_append rfl rfl rfl (by rfl) _ _ _ _ rfl HR.out ?_
        clear HR
        have HZ3 := Lib.hid hsz; have HO0 := Lib.hid hO; have HS0 := Lib.hid (show ∀ b, (Value.slice a0 n0 c0).ownBlock = some b → b < wk3.heap.size ∧ (b = g0 ∨ b = wk2.heap.size) from hO)
        have HP0 := Lib.hid ho
        replace HA2 := Lib.hid (ownsRow_grown HA2.out hgr (fun b h => by have q : g2 = b := (by simpa [Value.ownBlock] using h); have q1 := HG2.out; have q2 := HG0.out; have z1 := HZ1.out; have z2 := HZ2.out; omega))
        have HBw3 := Lib.hid hb
        have hS0 := HSS.out wk3 HBw3.out
        clear hge ho hb hgr hO hsz HO0
        refine ⟨fun _ => hS0, ?_⟩
        simp only [List.setIfInBounds_toArray, List.set_cons_zero, List.set_cons_succ]
        refine heldD_one (i := 6) (by kernel_rfl) ?_
        obtain ⟨g1, hg1⟩ : ∃ g, g = wk3.heap.size := ⟨_, rfl⟩
        obtain ⟨wk4, hw⟩ : ∃ u, u = wk3.alloc (.cells #[] 2) := ⟨_, rfl⟩
        refine wpOpIn_value (v := .slice (some ⟨g1, 0, none⟩) 0 0) (w' := wk4) rfl rfl rfl (by rfl) (by rfl) (by rw [hw, hg1]; go_simp) ?_
        have hb : Below wk3.heap.size wk3 wk4 := by rw [hw]; exact (Below.refl _ _).alloc (Nat.le_refl _) _
        have hs4 : wk4.heap.size = wk3.heap.size + 1 := by rw [hw]; simp
        have HA1 := Lib.hid (show wk4.ownsRow w1.heap.size 2 1 (.slice (some ⟨g1, 0, none⟩) 0 0) 0 [] by rw [hw, hg1]; exact ownsRow_zero _ _ _ _ HBw3.out.size)
        replace HP0 := Lib.hid (ownsRow_below HP0.out hb)
        replace HA2 := Lib.hid (ownsRow_below HA2.out hb)
        have HBw4 := Lib.hid (HBw3.out.trans (hb.mono HBw3.out.size))
        have HL1 := Lib.hid (show w1.heap.size ≤ g1 by rw [hg1]; exact HBw3.out.size)
        have HG1 := Lib.hid hg1; have HZ4 := Lib.hid hs4
        have hS0 := HSS.out wk4 HBw4.out
        clear hw hb hg1 hs4
        refine ⟨fun _ => hS0, ?_⟩
        simp only [List.setIfInBounds_toArray, List.set_cons_zero, List.set_cons_succ]
        refine heldD_one (i := 9) (by kernel_rfl) ?_
        have hge := HL1.out
        obtain ⟨a1, n1, c1, wk5, hr, ho, hb, hgr, hO, hsz⟩ := copyApp (t := 22) Tryd.underlying22 infoI rfl (by omega) (by omega) HA1.out (HV.out wk4 HBw4.out).2.1.row HFew.out.2.1 HBw4.out hge
        have HR := Lib.hid hr
        clear hr
        refine wpOpIn_append rfl rfl rfl (by rfl) _ _ _ _ rfl HR.out ?_
        clear HR
        have HZ5 := Lib.hid hsz; have HO1 := Lib.hid hO; have HS1 := Lib.hid (show ∀ b, (Value.slice a1 n1 c1).ownBlock = some b → b < wk5.heap.size ∧ (b = g1 ∨ b = wk4.heap.size) from hO)
        have HP1 := Lib.hid ho
        replace HP0 := Lib.hid (ownsRow_grown HP0.out hgr (fun b h => by have q := HS0.out b h; have q1 := HG0.out; have q2 := HG1.out; have z1 := HZ1.out; have z2 := HZ2.out; have z3 := HZ3.out; have z4 := HZ4.out; omega))
        replace HA2 := Lib.hid (ownsRow_grown HA2.out hgr (fun b h => by have q : g2 = b := (by simpa [Value.ownBlock] using h); have q1 := HG2.out; have q2 := HG1.out; have z1 := HZ1.out; have z2 := HZ2.out; have z3 := HZ3.out; have z4 := HZ4.out; omega))
        have HBw5 := Lib.hid hb
        have hS0 := HSS.out wk5 HBw5.out
        clear hge ho hb hgr hO hsz HO1
        refine ⟨fun _ => hS0, ?_⟩
        simp only [List.setIfInBounds_toArray, List.set_cons_zero, List.set_cons_succ]
        refine heldD_one (i := 13) (by kernel_rfl) ?_
        have hge := HL2.out
        obtain ⟨a2, n2, c2, wk6, hr, ho, hb, hgr, hO, hsz⟩ := copyApp (t := 23) Tryd.underlying23 infoA rfl (by omega) (by omega) HA2.out (HV.out wk5 HBw5.out).2.2.row HFew.out.2.2 HBw5.out hge
        have HR := Lib.hid hr
        clear hr
        refine wpOpIn_append rfl rfl rfl (by rfl) _ _ _ _ rfl HR.out ?_
        clear HR
        have HZ6 := Lib.hid hsz; have HO2 := Lib.hid hO; have HS2 := Lib.hid (show ∀ b, (Value.slice a2 n2 c2).ownBlock = some b → b < wk6.heap.size ∧ (b = g2 ∨ b = wk5.heap.size) from hO)
        have HP2 := Lib.hid ho
        replace HP0 := Lib.hid (ownsRow_grown HP0.out hgr (fun b h => by have q := HS0.out b h; have q1 := HG0.out; have q2 := HG2.out; have z1 := HZ1.out; have z2 := HZ2.out; have z3 := HZ3.out; have z4 := HZ4.out; have z5 := HZ5.out; omega))
        replace HP1 := Lib.hid (ownsRow_grown HP1.out hgr (fun b h => by have q := HS1.out b h; have q1 := HG1.out; have q2 := HG2.out; have z1 := HZ1.out; have z2 := HZ2.out; have z3 := HZ3.out; have z4 := HZ4.out; have z5 := HZ5.out; omega))
        have HBw6 := Lib.hid hb
        have hS0 := HSS.out wk6 HBw6.out
        clear hge ho hb hgr hO hsz HO2
        refine ⟨fun _ => hS0, ?_⟩
        simp only [List.setIfInBounds_toArray, List.set_cons_zero, List.set_cons_succ]
        refine heldD_takeF (i := 14) (v := .agg #[.int .i64 r.nodes, .slice a0 n0 c0, .slice a1 n1 c1, .slice a2 n2 c2]) rfl rfl rfl (by kernel_rfl) (by kernel_rfl) (by kernel_rfl) (by kernel_rfl) (fun _ _ _ h => h) (by rfl) (fun w => ⟨by rfl, by go_simp⟩) (fun _ => hS0) ?_
        simp only [List.setIfInBounds_toArray, List.set_cons_zero, List.set_cons_succ]
        have hOw : Own3 w1.heap.size wk6 (.slice a0 n0 c0) (.slice a1 n1 c1) (.slice a2 n2 c2) r := ⟨HP0.out, HP1.out, HP2.out, fun b h0 h1 => by have q := HS0.out b h0; have q' := HS1.out b h1; have q1 := HG0.out; have q2 := HG1.out; have z1 := HZ1.out; have z2 := HZ2.out; have z3 := HZ3.out; have z4 := HZ4.out; have z5 := HZ5.out; have z6 := HZ6.out; omega⟩
        have bT := HBt.out.below HBw6.out HBt.out.lt
        have h4 := store4 hOw bT HLt.out (HB1.out.next' HBw6.out)
        have hbase : w.heap.size ≤ w1.heap.size := HB1.out.size
        have fr := fun i => bT.free i (Or.inr (Nat.zero_le _))
        have f0 := fr 0; have f1 := fr 1; have f2 := fr 2; have f3 := fr 3
        have e0 := bT.cell 0; have e1 := bT.cell 1; have e2 := bT.cell 2; have e3 := bT.cell 3
        change wk6.cell? ⟨Bt, 0, none⟩ = some (.int .i64 0) at e0
        change wk6.cell? ⟨Bt, 1, none⟩ = some (.slice none 0 0) at e1
        change wk6.cell? ⟨Bt, 2, none⟩ = some (.slice none 0 0) at e2
        change wk6.cell? ⟨Bt, 3, none⟩ = some (.slice none 0 0) at e3
        have H4 := Lib.hid h4
        clear h4 bT fr hOw
        refine heldD_one (i := 15) (by kernel_rfl) ?_
        refine wpOpIn_skip (w' := (((wk6.setCell ⟨Bt, 0, none⟩ (.int .i64 r.nodes)).setCell ⟨Bt, 1, none⟩ (.slice a0 n0 c0)).setCell ⟨Bt, 2, none⟩ (.slice a1 n1 c1)).setCell ⟨Bt, 3, none⟩ (.slice a2 n2 c2)) rfl rfl rfl (by rfl) (by rfl) (by go_simp) ?_
        refine ⟨fun h => (by cases h), ?_⟩
        refine heldD_done (by kernel_rfl) ?_ _
        clear hS0 e0 e1 e2 e3 f0 f1 f2 f3
        have z0 := H4.out.1.cell 0; have z1 := H4.out.1.cell 1; have z2 := H4.out.1.cell 2; have z3 := H4.out.1.cell 3
        simp only [List.getElem?_toArray, List.getElem?_cons_succ, List.getElem?_cons_zero] at z0 z1 z2 z3
        generalize (((wk6.setCell ⟨Bt, 0, none⟩ (.int .i64 r.nodes)).setCell ⟨Bt, 1, none⟩ (.slice a0 n0 c0)).setCell ⟨Bt, 2, none⟩ (.slice a1 n1 c1)).setCell ⟨Bt, 3, none⟩ (.slice a2 n2 c2) = wz at *
        go_wp2_with fail
        exact bodyPost_ret (v := .agg #[.int .i64 r.nodes, .slice a0 n0 c0, .slice a1 n1 c1, .slice a2 n2 c2]) (by simp [results, Tryd.results42, go_sem, z0, z1, z2, z3]) rfl ⟨_, rfl, ⟨_, _, _, rfl, ownsRow_le H4.out.2.1.1 hbase, ownsRow_le H4.out.2.1.2.1 hbase, ownsRow_le H4.out.2.1.2.2.1 hbase, H4.out.2.1.2.2.2⟩, H4.out.2.2⟩
      · obtain ⟨g1, hg1⟩ : ∃ g, g = wk2.heap.size := ⟨_, rfl⟩
        obtain ⟨wk3, hw⟩ : ∃ u, u = wk2.alloc (.cells #[] 2) := ⟨_, rfl⟩
        refine wpOpIn_value (v := .slice (some ⟨g1, 0, none⟩) 0 0) (w' := wk3) rfl rfl rfl (by rfl) (by rfl) (by rw [hw, hg1]; go_simp) ?_
        have hb : Below wk2.heap.size wk2 wk3 := by rw [hw]; exact (Below.refl _ _).alloc (Nat.le_refl _) _
        have hs3 : wk3.heap.size = wk2.heap.size + 1 := by rw [hw]; simp
        have HA1 := Lib.hid (show wk3.ownsRow w1.heap.size 2 1 (.slice (some ⟨g1, 0, none⟩) 0 0) 0 [] by rw [hw, hg1]; exact ownsRow_zero _ _ _ _ HBw2.out.size)
        replace HA0 := Lib.hid (ownsRow_below HA0.out hb)
        replace HA2 := Lib.hid (ownsRow_below HA2.out hb)
        have HBw3 := Lib.hid (HBw2.out.trans (hb.mono HBw2.out.size))
        have HL1 := Lib.hid (show w1.heap.size ≤ g1 by rw [hg1]; exact HBw2.out.size)
        have HG1 := Lib.hid hg1; have HZ3 := Lib.hid hs3
        have hS0 := HSS.out wk3 HBw3.out
        clear hw hb hg1 hs3
        refine ⟨fun _ => hS0, ?_⟩
        simp only [List.setIfInBounds_toArray, List.set_cons_zero, List.set_cons_succ]
        refine heldD_one (i := 5) (by kernel_rfl) ?_
        have hge := HL0.out
        obtain ⟨a0, n0, c0, wk4, hr, ho, hb, hgr, hO, hsz⟩ := copyApp (t := 22) Tryd.underlying22 infoI rfl (by omega) (by omega) HA0.out (HV.out wk3 HBw3.out).1.row HFew.out.1 HBw3.out hge
        have HR := Lib.hid hr
        clear hr
        refine wpOpIn_append rfl rfl rfl (by rfl) _ _ _ _ rfl HR.out ?_
        clear HR
        have HZ4 := Lib.hid hsz; have HO0 := Lib.hid hO; have HS0 := Lib.hid (show ∀ b, (Value.slice a0 n0 c0).ownBlock = some b → b < wk4.heap.size ∧ (b = g0 ∨ b = wk3.heap.size) from hO)
        have HP0 := Lib.hid ho
        replace HA1 := Lib.hid (ownsRow_grown HA1.out hgr (fun b h => by have q : g1 = b := (by simpa [Value.ownBlock] using h); have q1 := HG1.out; have q2 := HG0.out; have z1 := HZ1.out; have z2 := HZ2.out; have z3 := HZ3.out; omega))
        replace HA2 := Lib.hid (ownsRow_grown HA2.out hgr (fun b h => by have q : g2 = b := (by simpa [Value.ownBlock] using h); have q1 := HG2.out; have q2 := HG0.out; have z1 := HZ1.out; have z2 := HZ2.out; have z3 := HZ3.out; omega))
        have HBw4 := Lib.hid hb
        have hS0 := HSS.out wk4 HBw4.out
        clear hge ho hb hgr hO hsz HO0
        refine ⟨fun _ => hS0, ?_⟩
        simp only [List.setIfInBounds_toArray, List.set_cons_zero, List.set_cons_succ]
        refine heldD_one (i := 9) (by kernel_rfl) ?_
        have hge := HL1.out
        obtain ⟨a1, n1, c1, wk5, hr, ho, hb, hgr, hO, hsz⟩ := copyApp (t := 22) Tryd.underlying22 infoI rfl (by omega) (by omega) HA1.out (HV.out wk4 HBw4.out).2.1.row HFew.out.2.1 HBw4.out hge
        have HR := Lib.hid hr
        clear hr
        refine wpOpIn_append rfl rfl rfl (by rfl) _ _ _ _ rfl HR.out ?_
        clear HR
        have HZ5 := Lib.hid hsz; have HO1 := Lib.hid hO; have HS1 := Lib.hid (show ∀ b, (Value.slice a1 n1 c1).ownBlock = some b → b < wk5.heap.size ∧ (b = g1 ∨ b = wk4.heap.size) from hO)
        have HP1 := Lib.hid ho
        replace HP0 := Lib.hid (ownsRow_grown HP0.out hgr (fun b h => by have q := HS0.out b h; have q1 := HG0.out; have q2 := HG1.out; have z1 := HZ1.out; have z2 := HZ2.out; have z3 := HZ3.out; have z4 := HZ4.out; omega))
        replace HA2 := Lib.hid (ownsRow_grown HA2.out hgr (fun b h => by have q : g2 = b := (by simpa [Value.ownBlock] using h); have q1 := HG2.out; have q2 := HG1.out; have z1 := HZ1.out; have z2 := HZ2.out; have z3 := HZ3.out; have z4 := HZ4.out; omega))
        have HBw5 := Lib.hid hb
        have hS0 := HSS.out wk5 HBw5.out
        clear hge ho hb hgr hO hsz HO1
        refine ⟨fun _ => hS0, ?_⟩
        simp only [List.setIfInBounds_toArray, List.set_cons_zero, List.set_cons_succ]
        refine heldD_one (i := 13) (by kernel_rfl) ?_
        have hge := HL2.out
        obtain ⟨a2, n2, c2, wk6, hr, ho, hb, hgr, hO, hsz⟩ := copyApp (t := 23) Tryd.underlying23 infoA rfl (by omega) (by omega) HA2.out (HV.out wk5 HBw5.out).2.2.row HFew.out.2.2 HBw5.out hge
        have HR := Lib.hid hr
        clear hr
        refine wpOpIn_append rfl rfl rfl (by rfl) _ _ _ _ rfl HR.out ?_
        clear HR
        have HZ6 := Lib.hid hsz; have HO2 := Lib.hid hO; have HS2 := Lib.hid (show ∀ b, (Value.slice a2 n2 c2).ownBlock = some b → b < wk6.heap.size ∧ (b = g2 ∨ b = wk5.heap.size) from hO)
        have HP2 := Lib.hid ho
        replace HP0 := Lib.hid (ownsRow_grown HP0.out hgr (fun b h => by have q := HS0.out b h; have q1 := HG0.out; have q2 := HG2.out; have z1 := HZ1.out; have z2 := HZ2.out; have z3 := HZ3.out; have z4 := HZ4.out; have z5 := HZ5.out; omega))
        replace HP1 := Lib.hid (ownsRow_grown HP1.out hgr (fun b h => by have q := HS1.out b h; have q1 := HG1.out; have q2 := HG2.out; have z1 := HZ1.out; have z2 := HZ2.out; have z3 := HZ3.out; have z4 := HZ4.out; have z5 := HZ5.out; omega))
        have HBw6 := Lib.hid hb
        have hS0 := HSS.out wk6 HBw6.out
        clear hge ho hb hgr hO hsz HO2
        refine ⟨fun _ => hS0, ?_⟩
        simp only [List.setIfInBounds_toArray, List.set_cons_zero, List.set_cons_succ]
        refine heldD_takeF (i := 14) (v := .agg #[.int .i64 r.nodes, .slice a0 n0 c0, .slice a1 n1 c1, .slice a2 n2 c2]) rfl rfl rfl (by kernel_rfl) (by kernel_rfl) (by kernel_rfl) (by kernel_rfl) (fun _ _ _ h => h) (by rfl) (fun w => ⟨by rfl, by go_simp⟩) (fun _ => hS0) ?_
        simp only [List.setIfInBounds_toArray, List.set_cons_zero, List.set_cons_succ]
        have hOw : Own3 w1.heap.size wk6 (.slice a0 n0 c0) (.slice a1 n1 c1) (.slice a2 n2 c2) r := ⟨HP0.out, HP1.out, HP2.out, fun b h0 h1 => by have q := HS0.out b h0; have q' := HS1.out b h1; have q1 := HG0.out; have q2 := HG1.out; have z1 := HZ1.out; have z2 := HZ2.out; have z3 := HZ3.out; have z4 := HZ4.out; have z5 := HZ5.out; have z6 := HZ6.out; omega⟩
        have bT := HBt.out.below HBw6.out HBt.out.lt
        have h4 := store4 hOw bT HLt.out (HB1.out.next' HBw6.out)
        have hbase : w.heap.size ≤ w1.heap.size := HB1.out.size
        have fr := fun i => bT.free i (Or.inr (Nat.zero_le _))
        have f0 := fr 0; have f1 := fr 1; have f2 := fr 2; have f3 := fr 3
        have e0 := bT.cell 0; have e1 := bT.cell 1; have e2 := bT.cell 2; have e3 := bT.cell 3
        change wk6.cell? ⟨Bt, 0, none⟩ = some (.int .i64 0) at e0
        change wk6.cell? ⟨Bt, 1, none⟩ = some (.slice none 0 0) at e1
        change wk6.cell? ⟨Bt, 2, none⟩ = some (.slice none 0 0) at e2
        change wk6.cell? ⟨Bt, 3, none⟩ = some (.slice none 0 0) at e3
        have H4 := Lib.hid h4
        clear h4 bT fr hOw
        refine heldD_one (i := 15) (by kernel_rfl) ?_
        refine wpOpIn_skip (w' := (((wk6.setCell ⟨Bt, 0, none⟩ (.int .i64 r.nodes)).setCell ⟨Bt, 1, none⟩ (.slice a0 n0 c0)).setCell ⟨Bt, 2, none⟩ (.slice a1 n1 c1)).setCell ⟨Bt, 3, none⟩ (.slice a2 n2 c2)) rfl rfl rfl (by rfl) (by rfl) (by go_simp) ?_
        refine ⟨fun h => (by cases h), ?_⟩
        refine heldD_done (by kernel_rfl) ?_ _
        clear hS0 e0 e1 e2 e3 f0 f1 f2 f3
        have z0 := H4.out.1.cell 0; have z1 := H4.out.1.cell 1; have z2 := H4.out.1.cell 2; have z3 := H4.out.1.cell 3
        simp only [List.getElem?_toArray, List.getElem?_cons_succ, List.getElem?_cons_zero] at z0 z1 z2 z3
        generalize (((wk6.setCell ⟨Bt, 0, none⟩ (.int .i64 r.nodes)).setCell ⟨Bt, 1, none⟩ (.slice a0 n0 c0)).setCell ⟨Bt, 2, none⟩ (.slice a1 n1 c1)).setCell ⟨Bt, 3, none⟩ (.slice a2 n2 c2) = wz at *
        go_wp2_with fail
        exact bodyPost_ret (v := .agg #[.int .i64 r.nodes, .slice a0 n0 c0, .slice a1 n1 c1, .slice a2 n2 c2]) (by simp [results, Tryd.results42, go_sem, z0, z1, z2, z3]) rfl ⟨_, rfl, ⟨_, _, _, rfl, ownsRow_le H4.out.2.1.1 hbase, ownsRow_le H4.out.2.1.2.1 hbase, ownsRow_le H4.out.2.1.2.2.1 hbase, H4.out.2.1.2.2.2⟩, H4.out.2.2⟩
    · obtain ⟨g1, hg1⟩ : ∃ g, g = wk1.heap.size := ⟨_, rfl⟩
      obtain ⟨wk2, hw⟩ : ∃ u, u = wk1.alloc (.cells #[] 2) := ⟨_, rfl⟩
      refine wpOpIn_value (v := .slice (some ⟨g1, 0, none⟩) 0 0) (w' := wk2) rfl rfl rfl (by rfl) (by rfl) (by rw [hw, hg1]; go_simp) ?_
      have hb : Below wk1.heap.size wk1 wk2 := by rw [hw]; exact (Below.refl _ _).alloc (Nat.le_refl _) _
      have hs2 : wk2.heap.size = wk1.heap.size + 1 := by rw [hw]; simp
      have HA1 := Lib.hid (show wk2.ownsRow w1.heap.size 2 1 (.slice (some ⟨g1, 0, none⟩) 0 0) 0 [] by rw [hw, hg1]; exact ownsRow_zero _ _ _ _ HBw1.out.size)
      replace HA2 := Lib.hid (ownsRow_below HA2.out hb)
      have HBw2 := Lib.hid (HBw1.out.trans (hb.mono HBw1.out.size))
      have HL1 := Lib.hid (show w1.heap.size ≤ g1 by rw [hg1]; exact HBw1.out.size)
      have HG1 := Lib.hid hg1; have HZ2 := Lib.hid hs2
      have hS0 := HSS.out wk2 HBw2.out
      clear hw hb hg1 hs2
      refine ⟨fun _ => hS0, ?_⟩
      simp only [List.setIfInBounds_toArray, List.set_cons_zero, List.set_cons_succ]
      refine heldD_one (i := 2) (by kernel_rfl) ?_
      obtain ⟨g0, hg0⟩ : ∃ g, g = wk2.heap.size := ⟨_, rfl⟩
      obtain ⟨wk3, hw⟩ : ∃ u, u = wk2.alloc (.cells #[] 2) := ⟨_, rfl⟩
      refine wpOpIn_value (v := .slice (some ⟨g0, 0, none⟩) 0 0) (w' := wk3) rfl rfl rfl (by rfl) (by rfl) (by rw [hw, hg0]; go_simp) ?_
      have hb : Below wk2.heap.size wk2 wk3 := by rw [hw]; exact (Below.refl _ _).alloc (Nat.le_refl _) _
      have hs3 : wk3.heap.size = wk2.heap.size + 1 := by rw [hw]; simp
      have HA0 := Lib.hid (show wk3.ownsRow w1.heap.size 2 1 (.slice (some ⟨g0, 0, none⟩) 0 0) 0 [] by rw [hw, hg0]; exact ownsRow_zero _ _ _ _ HBw2.out.size)
      replace HA1 := Lib.hid (ownsRow_below HA1.out hb)
      replace HA2 := Lib.hid (ownsRow_below HA2.out hb)
      have HBw3 := Lib.hid (HBw2.out.trans (hb.mono HBw2.out.size))
      have HL0 := Lib.hid (show w1.heap.size ≤ g0 by rw [hg0]; exact HBw2.out.size)
      have HG0 := Lib.hid hg0; have HZ3 := Lib.hid hs3
      have hS0 := HSS.out wk3 HBw3.out
      clear hw hb hg0 hs3
      refine ⟨fun _ => hS0, ?_⟩
      simp only [List.setIfInBounds_toArray, List.set_cons_zero, List.set_cons_succ]
      refine heldD_one (i := 5) (by kernel_rfl) ?_
      have hge := HL0.out
      obtain ⟨a0, n0, c0, wk4, hr, ho, hb, hgr, hO, hsz⟩ := copyApp (t := 22) Tryd.underlying22 infoI rfl (by omega) (by omega) HA0.out (HV.out wk3 HBw3.out).1.row HFew.out.1 HBw3.out hge
      have HR := Lib.hid hr
      clear hr
      refine wpOpIn_append rfl rfl rfl (by rfl) _ _ _ _ rfl HR.out ?_
      clear HR
      have HZ4 := Lib.hid hsz; have HO0 := Lib.hid hO; have HS0 := Lib.hid (show ∀ b, (Value.slice a0 n0 c0).ownBlock = some b → b < wk4.heap.size ∧ (b = g0 ∨ b = wk3.heap.size) from hO)
      have HP0 := Lib.hid ho
      replace HA1 := Lib.hid (ownsRow_grown HA1.out hgr (fun b h => by have q : g1 = b := (by simpa [Value.ownBlock] using h); have q1 := HG1.out; have q2 := HG0.out; have z1 := HZ1.out; have z2 := HZ2.out; have z3 := HZ3.out; omega))
      replace HA2 := Lib.hid (ownsRow_grown HA2.out hgr (fun b h => by have q : g2 = b := (by simpa [Value.ownBlock] using h); have q1 := HG2.out; have q2 := HG0.out; have z1 := HZ1.out; have z2 := HZ2.out; have z3 := HZ3.out; omega))
      have HBw4 := Lib.hid hb
      have hS0 := HSS.out wk4 HBw4.out
      clear hge ho hb hgr hO hsz HO0
      refine ⟨fun _ => hS0, ?_⟩
      simp only [List.setIfInBounds_toArray, List.set_cons_zero, List.set_cons_succ]
      refine heldD_one (i := 9) (by kernel_rfl) ?_
      have hge := HL1.out
      obtain ⟨a1, n1, c1, wk5, hr, ho, hb, hgr, hO, hsz⟩ := copyApp (t := 22) Tryd.underlying22 infoI rfl (by omega) (by omega) HA1.out (HV.out wk4 HBw4.out).2.1.row HFew.out.2.1 HBw4.out hge
      have HR := Lib.hid hr
      clear hr
      refine wpOpIn_append rfl rfl rfl (by rfl) _ _ _ _ rfl HR.out ?_
      clear HR
      have HZ5 := Lib.hid hsz; have HO1 := Lib.hid hO; have HS1 := Lib.hid (show ∀ b, (Value.slice a1 n1 c1).ownBlock = some b → b < wk5.heap.size ∧ (b = g1 ∨ b = wk4.heap.size) from hO)
      have HP1 := Lib.hid ho
      replace HP0 := Lib.hid (ownsRow_grown HP0.out hgr (fun b h => by have q := HS0.out b h; have q1 := HG0.out; have q2 := HG1.out; have z1 := HZ1.out; have z2 := HZ2.out; have z3 := HZ3.out; have z4 := HZ4.out; omega))
      replace HA2 := Lib.hid (ownsRow_grown HA2.out hgr (fun b h => by have q : g2 = b := (by simpa [Value.ownBlock] using h); have q1 := HG2.out; have q2 := HG1.out; have z1 := HZ1.out; have z2 := HZ2.out; have z3 := HZ3.out; have z4 := HZ4.out; omega))
      have HBw5 := Lib.hid hb
      have hS0 := HSS.out wk5 HBw5.out
      clear hge ho hb hgr hO hsz HO1
      refine ⟨fun _ => hS0, ?_⟩
      simp only [List.setIfInBounds_toArray, List.set_cons_zero, List.set_cons_succ]
      refine heldD_one (i := 13) (by kernel_rfl) ?_
      have hge := HL2.out
      obtain ⟨a2, n2, c2, wk6, hr, ho, hb, hgr, hO, hsz⟩ := copyApp (t := 23) Tryd.underlying23 infoA rfl (by omega) (by omega) HA2.out (HV.out wk5 HBw5.out).2.2.row HFew.out.2.2 HBw5.out hge
      have HR := Lib.hid hr
      clear hr
      refine wpOpIn_append rfl rfl rfl (by rfl) _ _ _ _ rfl HR.out ?_
      clear HR
      have HZ6 := Lib.hid hsz; have HO2 := Lib.hid hO; have HS2 := Lib.hid (show ∀ b, (Value.slice a2 n2 c2).ownBlock = some b → b < wk6.heap.size ∧ (b = g2 ∨ b = wk5.heap.size) from hO)
      have HP2 := Lib.hid ho
      replace HP0 := Lib.hid (ownsRow_grown HP0.out hgr (fun b h => by have q := HS0.out b h; have q1 := HG0.out; have q2 := HG2.out; have z1 := HZ1.out; have z2 := HZ2.out; have z3 := HZ3.out; have z4 := HZ4.out; have z5 := HZ5.out; omega))
      replace HP1 := Lib.hid (ownsRow_grown HP1.out hgr (fun b h => by have q := HS1.out b h; have q1 := HG1.out; have q2 := HG2.out; have z1 := HZ1.out; have z2 := HZ2.out; have z3 := HZ3.out; have z4 := HZ4.out; have z5 := HZ5.out; omega))
      have HBw6 := Lib.hid hb
      have hS0 := HSS.out wk6 HBw6.out
      clear hge ho hb hgr hO hsz HO2
      refine ⟨fun _ => hS0, ?_⟩
      simp only [List.setIfInBounds_toArray, List.set_cons_zero, List.set_cons_succ]
      refine heldD_takeF (i := 14) (v := .agg #[.int .i64 r.nodes, .slice a0 n0 c0, .slice a1 n1 c1, .slice a2 n2 c2]) rfl rfl rfl (by kernel_rfl) (by kernel_rfl) (by kernel_rfl) (by kernel_rfl) (fun _ _ _ h => h) (by rfl) (fun w => ⟨by rfl, by go_simp⟩) (fun _ => hS0) ?_
      simp only [List.setIfInBounds_toArray, List.set_cons_zero, List.set_cons_succ]
      have hOw : Own3 w1.heap.size wk6 (.slice a0 n0 c0) (.slice a1 n1 c1) (.slice a2 n2 c2) r := ⟨HP0.out, HP1.out, HP2.out, fun b h0 h1 => by have q := HS0.out b h0; have q' := HS1.out b h1; have q1 := HG0.out; have q2 := HG1.out; have z1 := HZ1.out; have z2 := HZ2.out; have z3 := HZ3.out; have z4 := HZ4.out; have z5 := HZ5.out; have z6 := HZ6.out; omega⟩
      have bT := HBt.out.below HBw6.out HBt.out.lt
      have h4 := store4 hOw bT HLt.out (HB1.out.next' HBw6.out)
      have hbase : w.heap.size ≤ w1.heap.size := HB1.out.size
      have fr := fun i => bT.free i (Or.inr (Nat.zero_le _))
      have f0 := fr 0; have f1 := fr 1; have f2 := fr 2; have f3 := fr 3
      have e0 := bT.cell 0; have e1 := bT.cell 1; have e2 := bT.cell 2; have e3 := bT.cell 3
      change wk6.cell? ⟨Bt, 0, none⟩ = some (.int .i64 0) at e0
      change wk6.cell? ⟨Bt, 1, none⟩ = some (.slice none 0 0) at e1
      change wk6.cell? ⟨Bt, 2, none⟩ = some (.slice none 0 0) at e2
      change wk6.cell? ⟨Bt, 3, none⟩ = some (.slice none 0 0) at e3
      have H4 := Lib.hid h4
      clear h4 bT fr hOw
      refine heldD_one (i := 15) (by kernel_rfl) ?_
      refine wpOpIn_skip (w' := (((wk6.setCell ⟨Bt, 0, none⟩ (.int .i64 r.nodes)).setCell ⟨Bt, 1, none⟩ (.slice a0 n0 c0)).setCell ⟨Bt, 2, none⟩ (.slice a1 n1 c1)).setCell ⟨Bt, 3, none⟩ (.slice a2 n2 c2)) rfl rfl rfl (by rfl) (by rfl) (by go_simp) ?_
      refine ⟨fun h => (by cases h), ?_⟩
      refine heldD_done (by kernel_rfl) ?_ _
      clear hS0 e0 e1 e2 e3 f0 f1 f2 f3
      have z0 := H4.out.1.cell 0; have z1 := H4.out.1.cell 1; have z2 := H4.out.1.cell 2; have z3 := H4.out.1.cell 3
      simp only [List.getElem?_toArray, List.getElem?_cons_succ, List.getElem?_cons_zero] at z0 z1 z2 z3
      generalize (((wk6.setCell ⟨Bt, 0, none⟩ (.int .i64 r.nodes)).setCell ⟨Bt, 1, none⟩ (.slice a0 n0 c0)).setCell ⟨Bt, 2, none⟩ (.slice a1 n1 c1)).setCell ⟨Bt, 3, none⟩ (.slice a2 n2 c2) = wz at *
      go_wp2_with fail
      exact bodyPost_ret (v := .agg #[.int .i64 r.nodes, .slice a0 n0 c0, .slice a1 n1 c1, .slice a2 n2 c2]) (by simp [results, Tryd.results42, go_sem, z0, z1, z2, z3]) rfl ⟨_, rfl, ⟨_, _, _, rfl, ownsRow_le H4.out.2.1.1 hbase, ownsRow_le H4.out.2.1.2.1 hbase, ownsRow_le H4.out.2.1.2.2.1 hbase, H4.out.2.1.2.2.2⟩, H4.out.2.2⟩
end Go.Proofs.YtnkcmlngoeofgaaDoor
