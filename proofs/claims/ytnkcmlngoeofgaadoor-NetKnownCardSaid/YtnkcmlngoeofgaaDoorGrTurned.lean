/- graph.Turned. -/
import Derived.Test.YtnkcmlngoeofgaaDoorGrRight
import Derived.Test.YtnkcmlngoeofgaaDoorHeldD
namespace Go.Proofs.YtnkcmlngoeofgaaDoor
open Go.RowKit
theorem ownsRow_setAt {w : World} {base : Nat} {e : TypeId} {size : Nat} {g n cap : Nat} {xs : List Value} (h : w.ownsRow base e size (.slice (some ⟨g, 0, none⟩) n cap) n xs) (j : Nat) (x : Value) :
    (w.setCell ⟨g, j, none⟩ x).ownsRow base e size (.slice (some ⟨g, 0, none⟩) n cap) n (xs.set j x) := by
  obtain ⟨hl, h2⟩ := h
  refine ⟨by rw [List.length_set]; exact hl, ?_⟩
  rcases h2 with ⟨e, _⟩ | ⟨g', cap', cur, ev, h3, h4, h5, h6, h7, h8⟩
  · cases e
  · obtain ⟨rfl, rfl⟩ : g = g' ∧ cap = cap' := by simpa using ev
    refine .inr ⟨g, cap, cur.setIfInBounds j x, rfl, h3, (show Blk w g cur e (0, 0) from h4).set j x, h5, h6, by simpa using h7, ?_⟩
    rw [Array.toList_setIfInBounds, List.take_set, h8]
theorem flat_set {α : Type} (m : Nat) (f : α → List Value) (hf : ∀ x, (f x).length = m) : ∀ (L : List α) (k d : Nat) (y : α) (u : Value), k < L.length → d < m → (∀ x, L[k]? = some x → (f x).set d u = f y) → (L.flatMap f).set (k * m + d) u = (L.set k y).flatMap f
  | x :: L, 0, d, y, u, _, hd, h => by
    rw [List.set_cons_zero, List.flatMap_cons, List.flatMap_cons, Nat.zero_mul, Nat.zero_add, List.set_append_left _ _ (by rw [hf]; exact hd), h x rfl]
  | x :: L, k + 1, d, y, u, hk, hd, h => by
    rw [List.set_cons_succ, List.flatMap_cons, List.flatMap_cons, List.set_append_right _ _ (by rw [hf, Nat.succ_mul]; omega), hf, show (k + 1) * m + d - m = k * m + d by rw [Nat.succ_mul]; omega, flat_set m f hf L k d y u (by simpa using hk) hd (fun x' hx' => h x' (by simpa using hx'))]
/-- an arc's end, or its weight, another one -/
def setArc (d : Nat) (u : Int) (a : Ar) : Ar := match d with
  | 0 => (u, a.2)
  | 1 => (a.1, u, a.2.2)
  | _ => (a.1, a.2.1, u)
theorem setArc_cells (d : Nat) (hd : d < 3) (u : Int) (a : Ar) : (arC a).set d (.int .i64 u) = arC (setArc d u a) := by
  match d, hd with
  | 0, _ => rfl
  | 1, _ => rfl
  | 2, _ => rfl
theorem OutI.setA {w1 W : World} {Bo : Nat} {vx vy : Value} {g n cap : Nat} {r : Raw} (h : OutI w1 Bo vx vy (.slice (some ⟨g, 0, none⟩) n cap) r W) (hn : r.arcs.length = n) (k d : Nat) (hk : k < r.arcs.length) (hd : d < 3) (u : Int) {o : Nat} (ho : o = k * 3 + d) :
    OutI w1 Bo vx vy (.slice (some ⟨g, 0, none⟩) n cap) { r with arcs := r.arcs.set k (setArc d u r.arcs[k]) } (W.setCell ⟨g, o, none⟩ (.int .i64 u)) := by
  subst ho
  have hown := h.own.2.2.1
  obtain ⟨hgb, cur, hc⟩ := ownsRow_blk' hown (g := g) rfl
  have hgBo : Bo ≠ g := fun e => by
    subst e
    have e2 := (show W.heap[Bo]? = some _ from h.blk).symm.trans (show W.heap[Bo]? = some _ from hc)
    cases e2
  have ox := ownsRow_set h.own.1 (p := ⟨g, k * 3 + d, none⟩) hc (by decide) (.int .i64 u)
  have oy := ownsRow_set h.own.2.1 (p := ⟨g, k * 3 + d, none⟩) hc (by decide) (.int .i64 u)
  have oa := ownsRow_setAt (n := n) (by rw [← hn]; rw [← hn] at hown; exact hown) (k * 3 + d) (.int .i64 u)
  rw [flat_set 3 arC arC_len r.arcs k d (setArc d u r.arcs[k]) (.int .i64 u) hk hd (fun x hx => by
    rw [List.getElem?_eq_getElem hk] at hx
    rw [← Option.some.inj hx]; exact setArc_cells d hd u _)] at oa
  refine ⟨h.blk.setOther ⟨g, k * 3 + d, none⟩ (.int .i64 u) hgBo, ⟨ox, oy, ?_, h.own.2.2.2⟩, ?_⟩
  · show World.ownsRow _ _ _ _ _ (r.arcs.set k _).length _
    rw [List.length_set, hn]; exact oa
  · have hk := h.kept
    exact ⟨hk.os, hk.tape, hk.output, by simpa using hk.size, fun j hj hs => (heap_setCell_other _ _ _ _ (show j ≠ g by omega)).trans (hk.block j hj hs)⟩
/-- all arcs the other way -/
def turnA (a : Ar) : Ar := (a.2.1, a.1, a.2.2)
def Raw.turned (r : Raw) : Raw := { r with arcs := r.arcs.map turnA }
theorem turn_step (L : List Ar) (k : Nat) (hk : k < L.length) : (((L.take k).map turnA ++ L.drop k).set k (setArc 0 L[k].2.1 L[k])).set k (setArc 1 L[k].1 (setArc 0 L[k].2.1 L[k])) = (L.take (k + 1)).map turnA ++ L.drop (k + 1) := by
  rw [List.set_set]
  have hl : ((L.take k).map turnA).length = k := by rw [List.length_map, List.length_take]; omega
  rw [List.set_append_right _ _ (by omega), hl, Nat.sub_self, List.drop_eq_getElem_cons hk, List.set_cons_zero, List.take_succ_eq_append_getElem hk, List.map_append, List.append_assoc]
  rfl
set_option maxRecDepth 100000 in
set_option maxHeartbeats 8000000 in
theorem turned_any (v : Value) (r : Raw) (w : World) (h : RawV w v r) (hl : r.few) : Calls Tryd.prog 24 #[v] w fun e w' => ∃ v', e = .returned v' ∧ RawO w.heap.size w' v' r.turned ∧ Below w.heap.size w w' := by
  have h0 := h
  obtain ⟨vx, vy, va, rfl, hx, hy, ha⟩ := h
  have fx := hx.form; have fy := hy.form; have fa := ha.form
  obtain ⟨Bt, hBt⟩ : ∃ b, b = w.heap.size := ⟨_, rfl⟩
  obtain ⟨Bs, hBs⟩ : ∃ b, b = w.heap.size + 1 := ⟨_, rfl⟩
  obtain ⟨w1, hw1⟩ : ∃ w1, w1 = (w.alloc (.cells #[.int .i64 r.nodes, vx, vy, va] 25)).alloc (.cells #[.int .i64 0, .slice none 0 0, .slice none 0 0, .slice none 0 0] 25) := ⟨_, rfl⟩
  have hb1 : Below w.heap.size w w1 := by rw [hw1]; exact ((Below.refl _ _).alloc (Nat.le_refl _) _).alloc (by simp) _
  have K1 : Blk w1 Bt #[.int .i64 r.nodes, vx, vy, va] 25 (0, 0) := by rw [hw1, hBt]; exact (Blk.new _ _ _ _).alloc _
  have K2 : Blk w1 Bs #[.int .i64 0, .slice none 0 0, .slice none 0 0, .slice none 0 0] 25 (0, 0) := by
    rw [hw1, hBs]
    have h := Blk.new (w.alloc (.cells #[.int .i64 r.nodes, vx, vy, va] 25)) #[.int .i64 0, .slice none 0 0, .slice none 0 0, .slice none 0 0] 25 (0, 0)
    rwa [World.size_alloc] at h
  have C := Lib.hid (copied_any _ r w1 (h0.below hb1) hl)
  have HB1 := Lib.hid hb1; have HK1 := Lib.hid K1; have HK2 := Lib.hid K2; have HW1 := Lib.hid hw1; have HL := Lib.hid hl
  have hne2 : ¬ Bs = Bt := by omega
  have hle : w.heap.size ≤ Bt := by omega
  have HN2 := Lib.hid hne2; have HLe := Lib.hid hle; have HBs := Lib.hid hBs; have HBt := Lib.hid hBt
  clear h0 hx hy ha hb1 K1 K2 hw1 hl hne2 hle
  obtain ⟨_, _, _, rfl⟩ := fx
  obtain ⟨_, _, _, rfl⟩ := fy
  obtain ⟨_, _, _, rfl⟩ := fa
  go_enter Tryd.func24, Tryd.ntmps24
  go_wp2_with fail
  rw [← HW1.out, ← HBs.out, ← HBt.out]
  clear hBt hBs
  refine C.out.mono ?_
  rintro e w2 ⟨v2, rfl, ⟨vx, vy, va, rfl, o1, o2, o3, o4⟩, hb2⟩
  have bT := HK1.out.below hb2 HK1.out.lt
  have b0 := bT.cell 0; have b1 := bT.cell 1; have b2 := bT.cell 2; have b3 := bT.cell 3
  simp only [List.getElem?_toArray, List.getElem?_cons_succ, List.getElem?_cons_zero] at b0 b1 b2 b3
  have fr := fun i => bT.free i (Or.inr (Nat.zero_le _))
  have f0 := fr 0; have f1 := fr 1; have f2 := fr 2; have f3 := fr 3
  have hO : Own3 w1.heap.size w2 vx vy va r := ⟨o1, o2, o3, o4⟩
  have fx := o1.one'; have fy := o2.one'
  have fa : ∃ a c, va = .slice a r.arcs.length c ∧ (0 < r.arcs.length → ∃ g, a = some ⟨g, 0, none⟩) := by
    rcases o3.2 with ⟨h, h0⟩ | ⟨g, cap, cur, h, _⟩
    · exact ⟨_, _, by rw [h0]; exact h, fun h => by omega⟩
    · exact ⟨_, _, h, fun _ => ⟨g, rfl⟩⟩
  obtain ⟨xa, xn, xc, rfl⟩ := fx
  obtain ⟨ya, yn, yc, rfl⟩ := fy
  obtain ⟨za, zc, rfl, hza⟩ := fa
  have bZ := (((bT.set 0 (.int .i64 r.nodes)).set 1 (.slice xa xn xc)).set 2 (.slice ya yn yc)).set 3 (.slice za r.arcs.length zc)
  have R2 := (((hO.set (p := ⟨Bt, 0, none⟩) bT (by decide) (by decide) (.int .i64 r.nodes)).set (p := ⟨Bt, 1, none⟩) (bT.set 0 (.int .i64 r.nodes)) (by decide) (by decide) (.slice xa xn xc)).set (p := ⟨Bt, 2, none⟩) ((bT.set 0 (.int .i64 r.nodes)).set 1 (.slice xa xn xc)) (by decide) (by decide) (.slice ya yn yc)).set (p := ⟨Bt, 3, none⟩) (((bT.set 0 (.int .i64 r.nodes)).set 1 (.slice xa xn xc)).set 2 (.slice ya yn yc)) (by decide) (by decide) (.slice za r.arcs.length zc)
  have hk2 : Kept (· = Bt) w1 w2 := ⟨hb2.os, hb2.tape, hb2.output, hb2.size, fun k hk _ => hb2.block k hk⟩
  have K3 := (((hk2.setCell (p := ⟨Bt, 0, none⟩) rfl (.int .i64 r.nodes)).setCell (p := ⟨Bt, 1, none⟩) rfl (.slice xa xn xc)).setCell (p := ⟨Bt, 2, none⟩) rfl (.slice ya yn yc)).setCell (p := ⟨Bt, 3, none⟩) rfl (.slice za r.arcs.length zc)
  have hI : OutI w1 Bt (.slice xa xn xc) (.slice ya yn yc) (.slice za r.arcs.length zc) r ((((w2.setCell ⟨Bt, 0, none⟩ (.int .i64 r.nodes)).setCell ⟨Bt, 1, none⟩ (.slice xa xn xc)).setCell ⟨Bt, 2, none⟩ (.slice ya yn yc)).setCell ⟨Bt, 3, none⟩ (.slice za r.arcs.length zc)) := ⟨bZ, R2, K3⟩
  have HI := Lib.hid hI
  clear hI bZ R2 hk2 K3 bT hO o1 o2 o3 o4 hb2 fr C
  go_wp2_with fail
  generalize (((w2.setCell ⟨Bt, 0, none⟩ (.int .i64 r.nodes)).setCell ⟨Bt, 1, none⟩ (.slice xa xn xc)).setCell ⟨Bt, 2, none⟩ (.slice ya yn yc)).setCell ⟨Bt, 3, none⟩ (.slice za r.arcs.length zc) = w3 at *
  clear b0 b1 b2 b3 f0 f1 f2 f3
  have c3 := HI.out.blk.cell 3
  change w3.cell? ⟨Bt, 3, none⟩ = some (.slice za r.arcs.length zc) at c3
  have hll : (r.arcs.length : Int) ≤ 1000000000000 := by have := HL.out.2.2; omega
  go_wp2_with fail
  go_loopw [10] (fun i wr => ∃ (k : Nat), k ≤ r.arcs.length ∧ i = .int .i64 k ∧ Hid (OutI w1 Bt (.slice xa xn xc) (.slice ya yn yc) (.slice za r.arcs.length zc) { r with arcs := (r.arcs.take k).map turnA ++ r.arcs.drop k } wr)) (fun i _ => r.arcs.length - (intOf i).toNat)
  case atStart => exact ⟨0, by omega, rfl, Lib.hid (by simpa using HI.out)⟩
  case round =>
    clear c3 HI
    obtain ⟨k, hk, rfl, hrel⟩ := hrel
    by_cases hlt : k < r.arcs.length
    · obtain ⟨g, rfl⟩ := hza (by omega)
      have hI := hrel.out
      have hlen : ((r.arcs.take k).map turnA ++ r.arcs.drop k).length = r.arcs.length := by rw [List.length_append, List.length_map, List.length_take, List.length_drop]; omega
      have hget : ((r.arcs.take k).map turnA ++ r.arcs.drop k)[k]'(by omega) = r.arcs[k] := by
        have hl : ((r.arcs.take k).map turnA).length = k := by rw [List.length_map, List.length_take]; omega
        rw [List.getElem_append_right (by omega)]
        simp only [hl, Nat.sub_self, List.getElem_drop, Nat.add_zero]
      have sA : SlA wr (.slice (some ⟨g, 0, none⟩) r.arcs.length zc) ((r.arcs.take k).map turnA ++ r.arcs.drop k) := slA_own rfl (by have h := hI.own.2.2.1; exact h)
      obtain ⟨bg, og, eg, d0, d1, d2⟩ := sA.at k (by omega)
      obtain ⟨rfl, rfl⟩ : g = bg ∧ 0 = og := by simpa using eg
      rw [hget] at d0 d1 d2
      rw [Nat.zero_add] at d0 d1 d2
      obtain ⟨hgb, cur, hgB⟩ := ownsRow_blk' hI.own.2.2.1 (g := g) rfl
      have gfr := fun i => hgB.free i (Or.inr (Nat.zero_le _))
      obtain ⟨x, hx⟩ : ∃ x, x = r.arcs[k] := ⟨_, rfl⟩
      have hst := turn_step r.arcs k hlt
      rw [← hx] at d0 d1 d2 hst
      obtain ⟨x0, x1, x2⟩ := x
      simp only at d0 d1 d2 hst
      have hltI : (k : Int) < (r.arcs.length : Int) := by omega
      have i1 : (0 : Int) ≤ (k : Int) := by omega
      obtain ⟨Ba, hBa⟩ : ∃ b, b = wr.heap.size := ⟨_, rfl⟩
      obtain ⟨wc, hwc⟩ : ∃ wc, wc = wr.alloc (.cells #[.int .i64 x0, .int .i64 x1, .int .i64 x2] 54) := ⟨_, rfl⟩
      have hbc : Below wr.heap.size wr wc := by rw [hwc]; exact (Below.refl _ _).alloc (Nat.le_refl _) _
      have hBc : Blk wc Ba #[.int .i64 x0, .int .i64 x1, .int .i64 x2] 54 (0, 0) := by rw [hwc, hBa]; exact Blk.new _ _ _ _
      have hIc := (hI.below hbc).below (Below.refl _ wc).drew
      have hgl : g < wr.heap.size := hgB.lt
      have hgne : Ba ≠ g := by omega
      have hBtg : Bt ≠ g := fun e => by
        have e2 := (show wr.heap[Bt]? = some _ from hI.blk).symm.trans (show wr.heap[Bt]? = some _ from e ▸ hgB)
        cases e2
      -- the two stores
      have hkl : k < ((r.arcs.take k).map turnA ++ r.arcs.drop k).length := by omega
      have hI1 := hIc.setA (u := x1) hlen k 0 hkl (by omega) (o := k * 3) rfl
      have hkl2 : k < (((r.arcs.take k).map turnA ++ r.arcs.drop k).set k (setArc 0 x1 (((r.arcs.take k).map turnA ++ r.arcs.drop k)[k]'hkl))).length := by rw [List.length_set]; exact hkl
      have hI2 := hI1.setA (u := x0) ((List.length_set ..).trans hlen) k 1 hkl2 (by omega) (o := k * 3 + 1) rfl
      have hfin : ((((r.arcs.take k).map turnA ++ r.arcs.drop k).set k (setArc 0 x1 (((r.arcs.take k).map turnA ++ r.arcs.drop k)[k]'(by omega)))).set k (setArc 1 x0 ((((r.arcs.take k).map turnA ++ r.arcs.drop k).set k (setArc 0 x1 (((r.arcs.take k).map turnA ++ r.arcs.drop k)[k]'(by omega))))[k]'(by rw [List.length_set]; omega)))) = (r.arcs.take (k + 1)).map turnA ++ r.arcs.drop (k + 1) := by
        rw [List.getElem_set_self, hget, ← hx]; exact hst
      have hI3 : OutI w1 Bt (.slice xa xn xc) (.slice ya yn yc) (.slice (some ⟨g, 0, none⟩) r.arcs.length zc) { r with arcs := (r.arcs.take (k + 1)).map turnA ++ r.arcs.drop (k + 1) } ((wc.drew.setCell ⟨g, k * 3, none⟩ (.int .i64 x1)).setCell ⟨g, k * 3 + 1, none⟩ (.int .i64 x0)) := by
        rw [← hfin]; exact hI2
      have hgc := (hgB.below hbc hgl).drew
      have s0 := hgc.cell (k * 3)
      have e0 : wc.drew.cell? ⟨g, k * 3, none⟩ = some (.int .i64 x0) := cell_later (hbc.drew) d0
      have ff := hgc.free (k * 3) (Or.inr (Nat.zero_le _))
      have e1 : wc.cell? ⟨g, k * 3 + 1, none⟩ = some (.int .i64 x1) := cell_later hbc d1
      have ff1 : wc.frozen? ⟨g, k * 3 + 1, none⟩ = false := (hgB.below hbc hgl).free (k * 3 + 1) (Or.inr (Nat.zero_le _))
      have o3 : wc.cell? ⟨Bt, 3, none⟩ = some (.slice (some ⟨g, 0, none⟩) r.arcs.length zc) := (hI.below hbc).blk.cell 3
      have t0 : wc.cell? ⟨Ba, 0, none⟩ = some (.int .i64 x0) := hBc.cell 0
      have t1 : wc.cell? ⟨Ba, 1, none⟩ = some (.int .i64 x1) := hBc.cell 1
      have hS1 : (wc.drew.setCell ⟨g, k * 3, none⟩ (.int .i64 x1)).cell? ⟨Bt, 3, none⟩ = some (.slice (some ⟨g, 0, none⟩) r.arcs.length zc) ∧ (wc.drew.setCell ⟨g, k * 3, none⟩ (.int .i64 x1)).cell? ⟨Ba, 0, none⟩ = some (.int .i64 x0) ∧ (wc.drew.setCell ⟨g, k * 3, none⟩ (.int .i64 x1)).cell? ⟨Ba, 1, none⟩ = some (.int .i64 x1) := ⟨(World.cell?_of_block (heap_setCell_other _ _ _ _ hBtg)).trans o3, (World.cell?_of_block (heap_setCell_other _ _ _ _ hgne)).trans t0, (World.cell?_of_block (heap_setCell_other _ _ _ _ hgne)).trans t1⟩
      have c3 : wr.cell? ⟨Bt, 3, none⟩ = some (.slice (some ⟨g, 0, none⟩) r.arcs.length zc) := hI.blk.cell 3
      have HI3 := Lib.hid hI3; have HS1 := Lib.hid hS1; have HWc := Lib.hid hwc; have HBa := Lib.hid hBa
      clear hrel hI hlen hget sA eg hgB gfr hst hx hbc hBc hIc hgl hI1 hI2 hfin hI3 hgc s0 hS1 hkl hkl2 hwc hgb
      go_wp2_with fail
      rw [← HWc.out, ← HBa.out]
      clear hBa
      refine wp_region_heldD (fun w' => w'.cell? ⟨Bt, 3, none⟩ = some (.slice (some ⟨g, 0, none⟩) r.arcs.length zc) ∧ w'.cell? ⟨Ba, 0, none⟩ = some (.int .i64 x0) ∧ w'.cell? ⟨Ba, 1, none⟩ = some (.int .i64 x1)) 15 rfl ?_
      change heldD _ _ _ _ _ _ _ 16 _ _ wc.drew
      have hS0 : wc.drew.cell? ⟨Bt, 3, none⟩ = some (.slice (some ⟨g, 0, none⟩) r.arcs.length zc) ∧ wc.drew.cell? ⟨Ba, 0, none⟩ = some (.int .i64 x0) ∧ wc.drew.cell? ⟨Ba, 1, none⟩ = some (.int .i64 x1) := ⟨o3, t0, t1⟩
      refine heldD_takeF (i := 0) (v := .pointer (some ⟨Bt, 3, none⟩)) rfl rfl rfl (by kernel_rfl) (by kernel_rfl) (by kernel_rfl) (by kernel_rfl) (fun _ _ _ h => h) (by rfl) (fun w => ⟨by rfl, by go_simp⟩) (fun _ => hS0) ?_
      simp only [List.setIfInBounds_toArray, List.set_cons_zero, List.set_cons_succ]
      refine heldD_take (i := 1) (v := .slice (some ⟨g, 0, none⟩) r.arcs.length zc) rfl rfl rfl (by kernel_rfl) (by kernel_rfl) (by kernel_rfl) (by kernel_rfl) (by kernel_rfl) (by kernel_rfl) (fun _ _ _ h => h) (by rfl) (fun w hS => ⟨by rfl, by obtain ⟨hS1, hS2, hS3⟩ := hS; go_simp⟩) hS0 ?_
      simp only [List.setIfInBounds_toArray, List.set_cons_zero, List.set_cons_succ]
      refine heldD_takeF (i := 2) (v := .int .i64 (k : Nat)) rfl rfl rfl (by kernel_rfl) (by kernel_rfl) (by kernel_rfl) (by kernel_rfl) (fun _ _ _ h => h) (by rfl) (fun w => ⟨by rfl, by go_simp⟩) (fun _ => hS0) ?_
      simp only [List.setIfInBounds_toArray, List.set_cons_zero, List.set_cons_succ]
      refine heldD_takeF (i := 3) (v := .pointer (some ⟨Bt, 3, none⟩)) rfl rfl rfl (by kernel_rfl) (by kernel_rfl) (by kernel_rfl) (by kernel_rfl) (fun _ _ _ h => h) (by rfl) (fun w => ⟨by rfl, by go_simp⟩) (fun _ => hS0) ?_
      simp only [List.setIfInBounds_toArray, List.set_cons_zero, List.set_cons_succ]
      refine heldD_take (i := 4) (v := .slice (some ⟨g, 0, none⟩) r.arcs.length zc) rfl rfl rfl (by kernel_rfl) (by kernel_rfl) (by kernel_rfl) (by kernel_rfl) (by kernel_rfl) (by kernel_rfl) (fun _ _ _ h => h) (by rfl) (fun w hS => ⟨by rfl, by obtain ⟨hS1, hS2, hS3⟩ := hS; go_simp⟩) hS0 ?_
      simp only [List.setIfInBounds_toArray, List.set_cons_zero, List.set_cons_succ]
      refine heldD_takeF (i := 5) (v := .int .i64 (k : Nat)) rfl rfl rfl (by kernel_rfl) (by kernel_rfl) (by kernel_rfl) (by kernel_rfl) (fun _ _ _ h => h) (by rfl) (fun w => ⟨by rfl, by go_simp⟩) (fun _ => hS0) ?_
      simp only [List.setIfInBounds_toArray, List.set_cons_zero, List.set_cons_succ]
      refine heldD_takeF (i := 6) (v := .pointer (some ⟨Ba, 1, none⟩)) rfl rfl rfl (by kernel_rfl) (by kernel_rfl) (by kernel_rfl) (by kernel_rfl) (fun _ _ _ h => h) (by rfl) (fun w => ⟨by rfl, by go_simp⟩) (fun _ => hS0) ?_
      simp only [List.setIfInBounds_toArray, List.set_cons_zero, List.set_cons_succ]
      refine heldD_take (i := 7) (v := .int .i64 x1) rfl rfl rfl (by kernel_rfl) (by kernel_rfl) (by kernel_rfl) (by kernel_rfl) (by kernel_rfl) (by kernel_rfl) (fun _ _ _ h => h) (by rfl) (fun w hS => ⟨by rfl, by obtain ⟨hS1, hS2, hS3⟩ := hS; go_simp⟩) hS0 ?_
      simp only [List.setIfInBounds_toArray, List.set_cons_zero, List.set_cons_succ]
      refine heldD_takeF (i := 8) (v := .pointer (some ⟨Ba, 0, none⟩)) rfl rfl rfl (by kernel_rfl) (by kernel_rfl) (by kernel_rfl) (by kernel_rfl) (fun _ _ _ h => h) (by rfl) (fun w => ⟨by rfl, by go_simp⟩) (fun _ => hS0) ?_
      simp only [List.setIfInBounds_toArray, List.set_cons_zero, List.set_cons_succ]
      refine heldD_take (i := 9) (v := .int .i64 x0) rfl rfl rfl (by kernel_rfl) (by kernel_rfl) (by kernel_rfl) (by kernel_rfl) (by kernel_rfl) (by kernel_rfl) (fun _ _ _ h => h) (by rfl) (fun w hS => ⟨by rfl, by obtain ⟨hS1, hS2, hS3⟩ := hS; go_simp⟩) hS0 ?_
      simp only [List.setIfInBounds_toArray, List.set_cons_zero, List.set_cons_succ]
      refine heldD_takeF (i := 10) (v := .pointer (some ⟨g, k * 3, none⟩)) rfl rfl rfl (by kernel_rfl) (by kernel_rfl) (by kernel_rfl) (by kernel_rfl) (fun _ _ _ h => h) (by rfl) (fun w => ⟨by rfl, by go_simp⟩) (fun _ => hS0) ?_
      simp only [List.setIfInBounds_toArray, List.set_cons_zero, List.set_cons_succ]
      refine heldD_takeF (i := 11) (v := .pointer (some ⟨g, k * 3, none⟩)) rfl rfl rfl (by kernel_rfl) (by kernel_rfl) (by kernel_rfl) (by kernel_rfl) (fun _ _ _ h => h) (by rfl) (fun w => ⟨by rfl, by go_simp⟩) (fun _ => hS0) ?_
      simp only [List.setIfInBounds_toArray, List.set_cons_zero, List.set_cons_succ]
      refine heldD_one (i := 12) (by kernel_rfl) ?_
      refine wpOpIn_skip (w' := wc.drew.setCell ⟨g, k * 3, none⟩ (.int .i64 x1)) rfl rfl rfl (by rfl) (by rfl) (by go_simp) ?_
      have HS1 := HS1.out
      refine ⟨fun _ => HS1, ?_⟩
      clear hS0
      have hS0 := HS1
      refine heldD_takeF (i := 13) (v := .pointer (some ⟨g, k * 3, none⟩)) rfl rfl rfl (by kernel_rfl) (by kernel_rfl) (by kernel_rfl) (by kernel_rfl) (fun _ _ _ h => h) (by rfl) (fun w => ⟨by rfl, by go_simp⟩) (fun _ => hS0) ?_
      simp only [List.setIfInBounds_toArray, List.set_cons_zero, List.set_cons_succ]
      refine heldD_takeF (i := 14) (v := .pointer (some ⟨g, k * 3 + 1, none⟩)) rfl rfl rfl (by kernel_rfl) (by kernel_rfl) (by kernel_rfl) (by kernel_rfl) (fun _ _ _ h => h) (by rfl) (fun w => ⟨by rfl, by go_simp⟩) (fun _ => hS0) ?_
      simp only [List.setIfInBounds_toArray, List.set_cons_zero, List.set_cons_succ]
      refine heldD_one (i := 15) (by kernel_rfl) ?_
      refine wpOpIn_skip (w' := (wc.drew.setCell ⟨g, k * 3, none⟩ (.int .i64 x1)).setCell ⟨g, k * 3 + 1, none⟩ (.int .i64 x0)) rfl rfl rfl (by rfl) (by rfl) (by go_simp) ?_
      refine ⟨fun h => (by cases h), ?_⟩
      refine heldD_done (by kernel_rfl) ?_ _
      clear HS1 hS0 o3 t0 t1 d0 d1 d2 e0 e1 ff ff1 c3
      go_wp2_with fail
      go_roundw
      case rel => exact ⟨k + 1, by omega, by go_num, Lib.hid HI3.out⟩
      case measure => simp [intOf]; omega
    · obtain rfl : k = r.arcs.length := by omega
      have hI := hrel.out
      have he : (r.arcs.take r.arcs.length).map turnA ++ r.arcs.drop r.arcs.length = r.arcs.map turnA := by simp
      rw [he] at hI
      have HI4 := Lib.hid hI
      clear hI hrel he
      have bO := HI4.out.blk
      have c0 := bO.cell 0; have c1 := bO.cell 1; have c2 := bO.cell 2; have c3 := bO.cell 3
      change wr.cell? ⟨Bt, 0, none⟩ = some (.int .i64 r.nodes) at c0
      change wr.cell? ⟨Bt, 1, none⟩ = some (.slice xa xn xc) at c1
      change wr.cell? ⟨Bt, 2, none⟩ = some (.slice ya yn yc) at c2
      change wr.cell? ⟨Bt, 3, none⟩ = some (.slice za r.arcs.length zc) at c3
      have bC3 := HI4.out.kept.blk HK2.out HN2.out
      have e0 := bC3.cell 0; have e1 := bC3.cell 1; have e2 := bC3.cell 2; have e3 := bC3.cell 3
      change wr.cell? ⟨Bs, 0, none⟩ = some (.int .i64 0) at e0
      change wr.cell? ⟨Bs, 1, none⟩ = some (.slice none 0 0) at e1
      change wr.cell? ⟨Bs, 2, none⟩ = some (.slice none 0 0) at e2
      change wr.cell? ⟨Bs, 3, none⟩ = some (.slice none 0 0) at e3
      have fr := fun i => bC3.free i (Or.inr (Nat.zero_le _))
      have f0 := fr 0; have f1 := fr 1; have f2 := fr 2; have f3 := fr 3
      have hle : w.heap.size ≤ Bs := by rw [HBs.out]; omega
      have bZ := (((bC3.set 0 (.int .i64 r.nodes)).set 1 (.slice xa xn xc)).set 2 (.slice ya yn yc)).set 3 (.slice za r.arcs.length zc)
      have R2 := (((HI4.out.own.set (p := ⟨Bs, 0, none⟩) bC3 (by decide) (by decide) (.int .i64 r.nodes)).set (p := ⟨Bs, 1, none⟩) (bC3.set 0 (.int .i64 r.nodes)) (by decide) (by decide) (.slice xa xn xc)).set (p := ⟨Bs, 2, none⟩) ((bC3.set 0 (.int .i64 r.nodes)).set 1 (.slice xa xn xc)) (by decide) (by decide) (.slice ya yn yc)).set (p := ⟨Bs, 3, none⟩) (((bC3.set 0 (.int .i64 r.nodes)).set 1 (.slice xa xn xc)).set 2 (.slice ya yn yc)) (by decide) (by decide) (.slice za r.arcs.length zc)
      have B2 := ((((below_of HB1.out HI4.out.kept HLe.out).setCell (p := ⟨Bs, 0, none⟩) hle (.int .i64 r.nodes)).setCell (p := ⟨Bs, 1, none⟩) hle (.slice xa xn xc)).setCell (p := ⟨Bs, 2, none⟩) hle (.slice ya yn yc)).setCell (p := ⟨Bs, 3, none⟩) hle (.slice za r.arcs.length zc)
      have hsz1 := HB1.out.size
      have HZ := Lib.hid bZ; have HR2 := Lib.hid R2; have HB2 := Lib.hid B2
      clear bZ R2 B2 bC3 bO fr hle HI4
      go_wp2_with fail
      generalize (((wr.setCell ⟨Bs, 0, none⟩ (.int .i64 r.nodes)).setCell ⟨Bs, 1, none⟩ (.slice xa xn xc)).setCell ⟨Bs, 2, none⟩ (.slice ya yn yc)).setCell ⟨Bs, 3, none⟩ (.slice za r.arcs.length zc) = wz at *
      have z0 := HZ.out.cell 0; have z1 := HZ.out.cell 1; have z2 := HZ.out.cell 2; have z3 := HZ.out.cell 3
      change wz.cell? ⟨Bs, 0, none⟩ = some (.int .i64 r.nodes) at z0
      change wz.cell? ⟨Bs, 1, none⟩ = some (.slice xa xn xc) at z1
      change wz.cell? ⟨Bs, 2, none⟩ = some (.slice ya yn yc) at z2
      change wz.cell? ⟨Bs, 3, none⟩ = some (.slice za r.arcs.length zc) at z3
      exact bodyPost_ret (v := .agg #[.int .i64 r.nodes, .slice xa xn xc, .slice ya yn yc, .slice za r.arcs.length zc]) (by simp [results, Tryd.results24, go_sem, z0, z1, z2, z3]) rfl ⟨_, rfl, ⟨_, _, _, rfl, ownsRow_le HR2.out.1 hsz1, ownsRow_le HR2.out.2.1 hsz1, ownsRow_le HR2.out.2.2.1 hsz1, HR2.out.2.2.2⟩, HB2.out⟩
end Go.Proofs.YtnkcmlngoeofgaaDoor
