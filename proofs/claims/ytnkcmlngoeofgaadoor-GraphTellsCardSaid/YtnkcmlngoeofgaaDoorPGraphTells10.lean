/- Texts of the law GraphTells, merged: GrRefCheck, GrSame, GrBackP. -/
import Derived.Test.YtnkcmlngoeofgaaDoorPGraphTells05
import Derived.Test.YtnkcmlngoeofgaaDoorPGraphTells02
/- milestoneref06.Check. -/
namespace Go.Proofs.YtnkcmlngoeofgaaDoor
open Go.RowKit
theorem first_count {r : Raw} (hb : ¬ (1 ≤ r.nodes ∧ r.nodes ≤ 16777216)) : r.wrong = (5, 0, 0, 0) := by
  unfold Raw.wrong phases
  have hbad : (⟨0, 0, 5, r.nodes, 1, 16777217⟩ : Pl).bad = true := by
    unfold Pl.bad
    simp only [Bool.or_eq_true, decide_eq_true_eq]
    omega
  rw [lookV]
  simp only [List.find?_cons, hbad]
  rfl
theorem first_many {r : Raw} (h : r.sized) (hg : nodesOk r r.X.length) (hl : ¬ r.arcs.length ≤ 67108864) : r.wrong = (8, 3, 0, 0) := by
  unfold Raw.wrong
  rw [sized_look h, lookV_cons (find_none (nodes_good hg))]
  have hbad : (⟨0, 0, 8, r.arcs.length, 0, 67108865⟩ : Pl).bad = true := by
    unfold Pl.bad
    simp only [Bool.or_eq_true, decide_eq_true_eq]
    omega
  rw [lookV]
  simp only [List.find?_cons, hbad]
  rfl
theorem first_none {r : Raw} (h : r.sized) (hg : nodesOk r r.X.length) (hl : r.arcs.length ≤ 67108864) (ha : arcsOk r r.arcs.length) : r.wrong = (0, 0, 0, 0) := by
  refine Raw.ok_wrong ((Raw.ok_iff r).2 ⟨h.1, h.2.1, h.2.2, ?_, ?_, hl, ?_⟩)
  · intro x hx
    obtain ⟨i, hi, rfl⟩ := List.mem_iff_getElem.1 hx
    have := (hg i hi).1
    rwa [List.getElem?_eq_getElem hi] at this
  · intro y hy
    obtain ⟨i, hi, rfl⟩ := List.mem_iff_getElem.1 hy
    have := (hg i (by have := h.2.1; have := h.2.2; omega)).2
    rwa [List.getElem?_eq_getElem hi] at this
  · intro a ha'
    obtain ⟨i, hi, rfl⟩ := List.mem_iff_getElem.1 ha'
    have := ha i hi
    rwa [List.getElem?_eq_getElem hi] at this
set_option maxRecDepth 100000 in
set_option maxHeartbeats 32000000 in
theorem refCheck6_any (v : Value) (r : Raw) (w : World) (h : RawV w v r) : Calls Tryd.prog 21 #[v] w fun e w' => e = .returned (.agg #[.int .i64 r.wrong.1, .int .i64 r.wrong.2.1, .int .i64 r.wrong.2.2.1, .int .i64 r.wrong.2.2.2]) ∧ Below w.heap.size w w' := by
  obtain ⟨vx, vy, va, rfl, hx, hy, ha⟩ := h
  obtain ⟨xa, xc, rfl, hxc, hxm, _⟩ := id hx
  obtain ⟨ya, yc, rfl, hyc, hym, _⟩ := id hy
  obtain ⟨za, zc, rfl, hzc, hzm, _⟩ := id ha
  unfold maxLen at hxm hym hzm
  obtain ⟨B1, hB1⟩ : ∃ b, b = w.heap.size := ⟨_, rfl⟩
  obtain ⟨B2, hB2⟩ : ∃ b, b = w.heap.size + 1 := ⟨_, rfl⟩
  obtain ⟨w1, hw1⟩ : ∃ u, u = (w.alloc (.cells #[.int .i64 r.nodes, .slice xa r.X.length xc, .slice ya r.Y.length yc, .slice za r.arcs.length zc] 25)).alloc (.cells #[.int .i64 0, .int .i64 0, .int .i64 0, .int .i64 0] 47) := ⟨_, rfl⟩
  have hb1 : Below w.heap.size w w1 := by rw [hw1]; exact ((Below.refl _ _).alloc (Nat.le_refl _) _).alloc (by simp) _
  have K1 : Blk w1 B1 #[.int .i64 r.nodes, .slice xa r.X.length xc, .slice ya r.Y.length yc, .slice za r.arcs.length zc] 25 (0, 0) := by rw [hw1, hB1]; exact (Blk.new _ _ _ _).alloc _
  have K2 : Blk w1 B2 #[.int .i64 0, .int .i64 0, .int .i64 0, .int .i64 0] 47 (0, 0) := by
    rw [hw1, hB2]
    have h := Blk.new (w.alloc (.cells #[.int .i64 r.nodes, .slice xa r.X.length xc, .slice ya r.Y.length yc, .slice za r.arcs.length zc] 25)) #[.int .i64 0, .int .i64 0, .int .i64 0, .int .i64 0] 47 (0, 0)
    rwa [World.size_alloc] at h
  have HXv := Lib.hid (show ∀ u, Below w1.heap.size w1 u → SlX u (.slice xa r.X.length xc) r.X from fun u hu => hx.keep ((KpC.of_below hb1).trans (KpC.of_below hu)))
  have HYv := Lib.hid (show ∀ u, Below w1.heap.size w1 u → SlX u (.slice ya r.Y.length yc) r.Y from fun u hu => hy.keep ((KpC.of_below hb1).trans (KpC.of_below hu)))
  have HAv := Lib.hid (show ∀ u, Below w1.heap.size w1 u → SlA u (.slice za r.arcs.length zc) r.arcs from fun u hu => ha.keep ((KpC.of_below hb1).trans (KpC.of_below hu)))
  have HB1 := Lib.hid hb1; have HK1 := Lib.hid K1; have HK2 := Lib.hid K2; have HW1 := Lib.hid hw1; have HE1 := Lib.hid hB1; have HE2 := Lib.hid hB2; have HL2 := Lib.hid (show w.heap.size ≤ B2 by omega)
  clear hx hy ha hb1 K1 K2 hw1
  go_enter Tryd.func21, Tryd.ntmps21
  go_upto_region 1 with fail
  rw [← HW1.out, ← HE2.out, ← HE1.out]
  clear hB1 hB2 HW1 HE1 HE2
  have HBel := Lib.hid (Below.refl w1.heap.size w1)
  have c0 := HK1.out.cell 0; have c1 := HK1.out.cell 1; have c2 := HK1.out.cell 2; have c3 := HK1.out.cell 3
  change w1.cell? ⟨B1, 0, none⟩ = some (.int .i64 r.nodes) at c0
  change w1.cell? ⟨B1, 1, none⟩ = some (.slice xa r.X.length xc) at c1
  change w1.cell? ⟨B1, 2, none⟩ = some (.slice ya r.Y.length yc) at c2
  change w1.cell? ⟨B1, 3, none⟩ = some (.slice za r.arcs.length zc) at c3
  by_cases h1 : r.nodes < 1
  · have h1b : decide (r.nodes < 1) = true := decide_eq_true h1
    have hwr : r.wrong = (5, 0, (0 : Int), 0) := first_count (by omega)
    have HWr := Lib.hid hwr
    clear hwr
    have k2 := HK2.out.below HBel.out HK2.out.lt
    have e0 := k2.cell 0; have e1 := k2.cell 1; have e2 := k2.cell 2; have e3 := k2.cell 3
    simp only [List.getElem?_toArray, List.getElem?_cons_succ, List.getElem?_cons_zero] at e0 e1 e2 e3
    have fr := fun i => k2.free i (Or.inr (Nat.zero_le _))
    have f0 := fr 0; have f1 := fr 1; have f2 := fr 2; have f3 := fr 3
    have hkz := (((k2.set 0 (.int .i64 5)).set 1 (.int .i64 0)).set 2 (.int .i64 0)).set 3 (.int .i64 0)
    have hbz := (((((HB1.out.next' HBel.out).setCell (p := ⟨B2, 0, none⟩) HL2.out (.int .i64 5)).setCell (p := ⟨B2, 1, none⟩) HL2.out (.int .i64 0)).setCell (p := ⟨B2, 2, none⟩) HL2.out (.int .i64 0)).setCell (p := ⟨B2, 3, none⟩) HL2.out (.int .i64 0))
    have HZ := Lib.hid hkz; have HBz := Lib.hid hbz
    clear hkz hbz k2 fr
    go_wp2_with fail
    generalize (((w1.setCell ⟨B2, 0, none⟩ (.int .i64 5)).setCell ⟨B2, 1, none⟩ (.int .i64 0)).setCell ⟨B2, 2, none⟩ (.int .i64 0)).setCell ⟨B2, 3, none⟩ (.int .i64 0) = wz at *
    have z0 := HZ.out.cell 0; have z1 := HZ.out.cell 1; have z2 := HZ.out.cell 2; have z3 := HZ.out.cell 3
    change wz.cell? ⟨B2, 0, none⟩ = some (.int .i64 5) at z0
    change wz.cell? ⟨B2, 1, none⟩ = some (.int .i64 0) at z1
    change wz.cell? ⟨B2, 2, none⟩ = some (.int .i64 0) at z2
    change wz.cell? ⟨B2, 3, none⟩ = some (.int .i64 0) at z3
    exact bodyPost_ret (v := .agg #[.int .i64 5, .int .i64 0, .int .i64 0, .int .i64 0]) (by simp [results, Tryd.results21, go_sem, z0, z1, z2, z3]) rfl ⟨by rw [HWr.out], HBz.out⟩
  have h1b : decide (r.nodes < 1) = false := decide_eq_false h1
  by_cases h2 : 16777216 < r.nodes
  · have h2b : decide (16777216 < r.nodes) = true := decide_eq_true h2
    have hwr : r.wrong = (5, 0, (0 : Int), 0) := first_count (by omega)
    have HWr := Lib.hid hwr
    clear hwr
    have k2 := HK2.out.below HBel.out HK2.out.lt
    have e0 := k2.cell 0; have e1 := k2.cell 1; have e2 := k2.cell 2; have e3 := k2.cell 3
    simp only [List.getElem?_toArray, List.getElem?_cons_succ, List.getElem?_cons_zero] at e0 e1 e2 e3
    have fr := fun i => k2.free i (Or.inr (Nat.zero_le _))
    have f0 := fr 0; have f1 := fr 1; have f2 := fr 2; have f3 := fr 3
    have hkz := (((k2.set 0 (.int .i64 5)).set 1 (.int .i64 0)).set 2 (.int .i64 0)).set 3 (.int .i64 0)
    have hbz := (((((HB1.out.next' HBel.out).setCell (p := ⟨B2, 0, none⟩) HL2.out (.int .i64 5)).setCell (p := ⟨B2, 1, none⟩) HL2.out (.int .i64 0)).setCell (p := ⟨B2, 2, none⟩) HL2.out (.int .i64 0)).setCell (p := ⟨B2, 3, none⟩) HL2.out (.int .i64 0))
    have HZ := Lib.hid hkz; have HBz := Lib.hid hbz
    clear hkz hbz k2 fr
    go_wp2_with fail
    generalize (((w1.setCell ⟨B2, 0, none⟩ (.int .i64 5)).setCell ⟨B2, 1, none⟩ (.int .i64 0)).setCell ⟨B2, 2, none⟩ (.int .i64 0)).setCell ⟨B2, 3, none⟩ (.int .i64 0) = wz at *
    have z0 := HZ.out.cell 0; have z1 := HZ.out.cell 1; have z2 := HZ.out.cell 2; have z3 := HZ.out.cell 3
    change wz.cell? ⟨B2, 0, none⟩ = some (.int .i64 5) at z0
    change wz.cell? ⟨B2, 1, none⟩ = some (.int .i64 0) at z1
    change wz.cell? ⟨B2, 2, none⟩ = some (.int .i64 0) at z2
    change wz.cell? ⟨B2, 3, none⟩ = some (.int .i64 0) at z3
    exact bodyPost_ret (v := .agg #[.int .i64 5, .int .i64 0, .int .i64 0, .int .i64 0]) (by simp [results, Tryd.results21, go_sem, z0, z1, z2, z3]) rfl ⟨by rw [HWr.out], HBz.out⟩
  have h2b : decide (16777216 < r.nodes) = false := decide_eq_false h2
  by_cases hX : (r.X.length : Int) = r.nodes
  case neg =>
    have hXb : ((r.X.length : Int) != r.nodes) = true := by simpa using hX
    have hwr : r.wrong = (6, 1, (0 : Int), 0) := first_shape (by omega) hX
    have HWr := Lib.hid hwr
    clear hwr
    have k2 := HK2.out.below HBel.out HK2.out.lt
    have e0 := k2.cell 0; have e1 := k2.cell 1; have e2 := k2.cell 2; have e3 := k2.cell 3
    simp only [List.getElem?_toArray, List.getElem?_cons_succ, List.getElem?_cons_zero] at e0 e1 e2 e3
    have fr := fun i => k2.free i (Or.inr (Nat.zero_le _))
    have f0 := fr 0; have f1 := fr 1; have f2 := fr 2; have f3 := fr 3
    have hkz := (((k2.set 0 (.int .i64 6)).set 1 (.int .i64 1)).set 2 (.int .i64 0)).set 3 (.int .i64 0)
    have hbz := (((((HB1.out.next' HBel.out).setCell (p := ⟨B2, 0, none⟩) HL2.out (.int .i64 6)).setCell (p := ⟨B2, 1, none⟩) HL2.out (.int .i64 1)).setCell (p := ⟨B2, 2, none⟩) HL2.out (.int .i64 0)).setCell (p := ⟨B2, 3, none⟩) HL2.out (.int .i64 0))
    have HZ := Lib.hid hkz; have HBz := Lib.hid hbz
    clear hkz hbz k2 fr
    go_wp2_with fail
    generalize (((w1.setCell ⟨B2, 0, none⟩ (.int .i64 6)).setCell ⟨B2, 1, none⟩ (.int .i64 1)).setCell ⟨B2, 2, none⟩ (.int .i64 0)).setCell ⟨B2, 3, none⟩ (.int .i64 0) = wz at *
    have z0 := HZ.out.cell 0; have z1 := HZ.out.cell 1; have z2 := HZ.out.cell 2; have z3 := HZ.out.cell 3
    change wz.cell? ⟨B2, 0, none⟩ = some (.int .i64 6) at z0
    change wz.cell? ⟨B2, 1, none⟩ = some (.int .i64 1) at z1
    change wz.cell? ⟨B2, 2, none⟩ = some (.int .i64 0) at z2
    change wz.cell? ⟨B2, 3, none⟩ = some (.int .i64 0) at z3
    exact bodyPost_ret (v := .agg #[.int .i64 6, .int .i64 1, .int .i64 0, .int .i64 0]) (by simp [results, Tryd.results21, go_sem, z0, z1, z2, z3]) rfl ⟨by rw [HWr.out], HBz.out⟩
  have hXb : ((r.X.length : Int) != r.nodes) = false := by simp [hX]
  have HhX := Lib.hid hX
  clear hX
  by_cases hY : (r.Y.length : Int) = r.nodes
  case neg =>
    have hYb : ((r.Y.length : Int) != r.nodes) = true := by simpa using hY
    have hwr : r.wrong = (6, 1, (0 : Int), 1) := first_shapeY (by omega) HhX.out hY
    have HWr := Lib.hid hwr
    clear hwr
    have k2 := HK2.out.below HBel.out HK2.out.lt
    have e0 := k2.cell 0; have e1 := k2.cell 1; have e2 := k2.cell 2; have e3 := k2.cell 3
    simp only [List.getElem?_toArray, List.getElem?_cons_succ, List.getElem?_cons_zero] at e0 e1 e2 e3
    have fr := fun i => k2.free i (Or.inr (Nat.zero_le _))
    have f0 := fr 0; have f1 := fr 1; have f2 := fr 2; have f3 := fr 3
    have hkz := (((k2.set 0 (.int .i64 6)).set 1 (.int .i64 1)).set 2 (.int .i64 0)).set 3 (.int .i64 1)
    have hbz := (((((HB1.out.next' HBel.out).setCell (p := ⟨B2, 0, none⟩) HL2.out (.int .i64 6)).setCell (p := ⟨B2, 1, none⟩) HL2.out (.int .i64 1)).setCell (p := ⟨B2, 2, none⟩) HL2.out (.int .i64 0)).setCell (p := ⟨B2, 3, none⟩) HL2.out (.int .i64 1))
    have HZ := Lib.hid hkz; have HBz := Lib.hid hbz
    clear hkz hbz k2 fr
    go_wp2_with fail
    generalize (((w1.setCell ⟨B2, 0, none⟩ (.int .i64 6)).setCell ⟨B2, 1, none⟩ (.int .i64 1)).setCell ⟨B2, 2, none⟩ (.int .i64 0)).setCell ⟨B2, 3, none⟩ (.int .i64 1) = wz at *
    have z0 := HZ.out.cell 0; have z1 := HZ.out.cell 1; have z2 := HZ.out.cell 2; have z3 := HZ.out.cell 3
    change wz.cell? ⟨B2, 0, none⟩ = some (.int .i64 6) at z0
    change wz.cell? ⟨B2, 1, none⟩ = some (.int .i64 1) at z1
    change wz.cell? ⟨B2, 2, none⟩ = some (.int .i64 0) at z2
    change wz.cell? ⟨B2, 3, none⟩ = some (.int .i64 1) at z3
    exact bodyPost_ret (v := .agg #[.int .i64 6, .int .i64 1, .int .i64 0, .int .i64 1]) (by simp [results, Tryd.results21, go_sem, z0, z1, z2, z3]) rfl ⟨by rw [HWr.out], HBz.out⟩
  have hYb : ((r.Y.length : Int) != r.nodes) = false := by simp [hY]
  have HhY := Lib.hid hY
  clear hY
  have HSz := Lib.hid (show r.sized from ⟨by omega, HhX.out, HhY.out⟩)
  have HNn := Lib.hid (show 1 ≤ r.nodes ∧ r.nodes ≤ 16777216 by omega)
  go_wp2_with fail
  clear c0 c1 c2 c3 h1b h2b hXb hYb
  go_loopw [3] (fun i wr => ∃ k : Nat, (k : Int) ≤ r.nodes ∧ i = .int .i64 k ∧ Hid (nodesOk r k) ∧ Hid (Below w1.heap.size w1 wr)) (fun i _ => (r.nodes - intOf i).toNat)
  case atStart => exact ⟨0, by omega, rfl, Lib.hid (fun _ h => by omega), HBel⟩
  clear HBel
  obtain ⟨k, hk, rfl, HOk, HBel⟩ := hrel
  have k1 := HK1.out.below HBel.out HK1.out.lt
  have c0 := k1.cell 0; have c1 := k1.cell 1; have c2 := k1.cell 2; have c3 := k1.cell 3
  change wr.cell? ⟨B1, 0, none⟩ = some (.int .i64 r.nodes) at c0
  change wr.cell? ⟨B1, 1, none⟩ = some (.slice xa r.X.length xc) at c1
  change wr.cell? ⟨B1, 2, none⟩ = some (.slice ya r.Y.length yc) at c2
  change wr.cell? ⟨B1, 3, none⟩ = some (.slice za r.arcs.length zc) at c3
  clear k1
  by_cases hkn : (k : Int) < r.nodes
  case pos =>
    have hkX : k < r.X.length := by have := HhX.out; omega
    have hkY : k < r.Y.length := by have := HhY.out; omega
    obtain ⟨bx, ox, rfl, dx⟩ := (HXv.out wr HBel.out).at k hkX
    obtain ⟨by_, oy, rfl, dy⟩ := (HYv.out wr HBel.out).at k hkY
    have hkb := decide_eq_true hkn
    have ik0 : (0 : Int) ≤ (k : Int) := by omega
    have ikX : (k : Int) < (r.X.length : Int) := by omega
    have ikY : (k : Int) < (r.Y.length : Int) := by omega
    have ik1 : IntKind.i64.wrap ((k : Int) + 1) = ((k + 1 : Nat) : Int) := by rw [IntKind.wrap_i64]; omega
    obtain ⟨x, hx⟩ : ∃ x, x = r.X[k] := ⟨_, rfl⟩
    obtain ⟨y, hy⟩ : ∃ y, y = r.Y[k] := ⟨_, rfl⟩
    rw [← hx] at dx; rw [← hy] at dy
    have HgX := Lib.hid (show r.X[k]?.getD 0 = x by rw [hx, List.getElem?_eq_getElem hkX]; rfl)
    have HgY := Lib.hid (show r.Y[k]?.getD 0 = y by rw [hy, List.getElem?_eq_getElem hkY]; rfl)
    clear hx hy
    by_cases a1 : x < -2147483648
    · have a1b : decide (x < -2147483648) = true := decide_eq_true a1
      have hwr : r.wrong = (7, 2, (k : Int), 0) := first_x HSz.out hkX HOk.out (by rw [HgX.out]; unfold coordOk; omega)
      have HWr := Lib.hid hwr
      clear hwr
      have k2 := HK2.out.below HBel.out HK2.out.lt
      have e0 := k2.cell 0; have e1 := k2.cell 1; have e2 := k2.cell 2; have e3 := k2.cell 3
      simp only [List.getElem?_toArray, List.getElem?_cons_succ, List.getElem?_cons_zero] at e0 e1 e2 e3
      have fr := fun i => k2.free i (Or.inr (Nat.zero_le _))
      have f0 := fr 0; have f1 := fr 1; have f2 := fr 2; have f3 := fr 3
      have hkz := (((k2.set 0 (.int .i64 7)).set 1 (.int .i64 2)).set 2 (.int .i64 k)).set 3 (.int .i64 0)
      have hbz := (((((HB1.out.next' HBel.out).setCell (p := ⟨B2, 0, none⟩) HL2.out (.int .i64 7)).setCell (p := ⟨B2, 1, none⟩) HL2.out (.int .i64 2)).setCell (p := ⟨B2, 2, none⟩) HL2.out (.int .i64 k)).setCell (p := ⟨B2, 3, none⟩) HL2.out (.int .i64 0))
      have HZ := Lib.hid hkz; have HBz := Lib.hid hbz
      clear hkz hbz k2 fr
      go_wp2_with fail
      generalize (((wr.setCell ⟨B2, 0, none⟩ (.int .i64 7)).setCell ⟨B2, 1, none⟩ (.int .i64 2)).setCell ⟨B2, 2, none⟩ (.int .i64 k)).setCell ⟨B2, 3, none⟩ (.int .i64 0) = wz at *
      have z0 := HZ.out.cell 0; have z1 := HZ.out.cell 1; have z2 := HZ.out.cell 2; have z3 := HZ.out.cell 3
      change wz.cell? ⟨B2, 0, none⟩ = some (.int .i64 7) at z0
      change wz.cell? ⟨B2, 1, none⟩ = some (.int .i64 2) at z1
      change wz.cell? ⟨B2, 2, none⟩ = some (.int .i64 k) at z2
      change wz.cell? ⟨B2, 3, none⟩ = some (.int .i64 0) at z3
      exact bodyPost_ret (v := .agg #[.int .i64 7, .int .i64 2, .int .i64 k, .int .i64 0]) (by simp [results, Tryd.results21, go_sem, z0, z1, z2, z3]) rfl ⟨by rw [HWr.out], HBz.out⟩
    have a1b : decide (x < -2147483648) = false := decide_eq_false a1
    by_cases a2 : 2147483647 < x
    · have a2b : decide (2147483647 < x) = true := decide_eq_true a2
      have hwr : r.wrong = (7, 2, (k : Int), 0) := first_x HSz.out hkX HOk.out (by rw [HgX.out]; unfold coordOk; omega)
      have HWr := Lib.hid hwr
      clear hwr
      have k2 := HK2.out.below HBel.out HK2.out.lt
      have e0 := k2.cell 0; have e1 := k2.cell 1; have e2 := k2.cell 2; have e3 := k2.cell 3
      simp only [List.getElem?_toArray, List.getElem?_cons_succ, List.getElem?_cons_zero] at e0 e1 e2 e3
      have fr := fun i => k2.free i (Or.inr (Nat.zero_le _))
      have f0 := fr 0; have f1 := fr 1; have f2 := fr 2; have f3 := fr 3
      have hkz := (((k2.set 0 (.int .i64 7)).set 1 (.int .i64 2)).set 2 (.int .i64 k)).set 3 (.int .i64 0)
      have hbz := (((((HB1.out.next' HBel.out).setCell (p := ⟨B2, 0, none⟩) HL2.out (.int .i64 7)).setCell (p := ⟨B2, 1, none⟩) HL2.out (.int .i64 2)).setCell (p := ⟨B2, 2, none⟩) HL2.out (.int .i64 k)).setCell (p := ⟨B2, 3, none⟩) HL2.out (.int .i64 0))
      have HZ := Lib.hid hkz; have HBz := Lib.hid hbz
      clear hkz hbz k2 fr
      go_wp2_with fail
      generalize (((wr.setCell ⟨B2, 0, none⟩ (.int .i64 7)).setCell ⟨B2, 1, none⟩ (.int .i64 2)).setCell ⟨B2, 2, none⟩ (.int .i64 k)).setCell ⟨B2, 3, none⟩ (.int .i64 0) = wz at *
      have z0 := HZ.out.cell 0; have z1 := HZ.out.cell 1; have z2 := HZ.out.cell 2; have z3 := HZ.out.cell 3
      change wz.cell? ⟨B2, 0, none⟩ = some (.int .i64 7) at z0
      change wz.cell? ⟨B2, 1, none⟩ = some (.int .i64 2) at z1
      change wz.cell? ⟨B2, 2, none⟩ = some (.int .i64 k) at z2
      change wz.cell? ⟨B2, 3, none⟩ = some (.int .i64 0) at z3
      exact bodyPost_ret (v := .agg #[.int .i64 7, .int .i64 2, .int .i64 k, .int .i64 0]) (by simp [results, Tryd.results21, go_sem, z0, z1, z2, z3]) rfl ⟨by rw [HWr.out], HBz.out⟩
    have a2b : decide (2147483647 < x) = false := decide_eq_false a2
    by_cases a3 : y < -2147483648
    · have a3b : decide (y < -2147483648) = true := decide_eq_true a3
      have hwr : r.wrong = (7, 2, (k : Int), 1) := first_y HSz.out hkX HOk.out (by rw [HgX.out]; unfold coordOk; omega) (by rw [HgY.out]; unfold coordOk; omega)
      have HWr := Lib.hid hwr
      clear hwr
      have k2 := HK2.out.below HBel.out HK2.out.lt
      have e0 := k2.cell 0; have e1 := k2.cell 1; have e2 := k2.cell 2; have e3 := k2.cell 3
      simp only [List.getElem?_toArray, List.getElem?_cons_succ, List.getElem?_cons_zero] at e0 e1 e2 e3
      have fr := fun i => k2.free i (Or.inr (Nat.zero_le _))
      have f0 := fr 0; have f1 := fr 1; have f2 := fr 2; have f3 := fr 3
      have hkz := (((k2.set 0 (.int .i64 7)).set 1 (.int .i64 2)).set 2 (.int .i64 k)).set 3 (.int .i64 1)
      have hbz := (((((HB1.out.next' HBel.out).setCell (p := ⟨B2, 0, none⟩) HL2.out (.int .i64 7)).setCell (p := ⟨B2, 1, none⟩) HL2.out (.int .i64 2)).setCell (p := ⟨B2, 2, none⟩) HL2.out (.int .i64 k)).setCell (p := ⟨B2, 3, none⟩) HL2.out (.int .i64 1))
      have HZ := Lib.hid hkz; have HBz := Lib.hid hbz
      clear hkz hbz k2 fr
      go_wp2_with fail
      generalize (((wr.setCell ⟨B2, 0, none⟩ (.int .i64 7)).setCell ⟨B2, 1, none⟩ (.int .i64 2)).setCell ⟨B2, 2, none⟩ (.int .i64 k)).setCell ⟨B2, 3, none⟩ (.int .i64 1) = wz at *
      have z0 := HZ.out.cell 0; have z1 := HZ.out.cell 1; have z2 := HZ.out.cell 2; have z3 := HZ.out.cell 3
      change wz.cell? ⟨B2, 0, none⟩ = some (.int .i64 7) at z0
      change wz.cell? ⟨B2, 1, none⟩ = some (.int .i64 2) at z1
      change wz.cell? ⟨B2, 2, none⟩ = some (.int .i64 k) at z2
      change wz.cell? ⟨B2, 3, none⟩ = some (.int .i64 1) at z3
      exact bodyPost_ret (v := .agg #[.int .i64 7, .int .i64 2, .int .i64 k, .int .i64 1]) (by simp [results, Tryd.results21, go_sem, z0, z1, z2, z3]) rfl ⟨by rw [HWr.out], HBz.out⟩
    have a3b : decide (y < -2147483648) = false := decide_eq_false a3
    by_cases a4 : 2147483647 < y
    · have a4b : decide (2147483647 < y) = true := decide_eq_true a4
      have hwr : r.wrong = (7, 2, (k : Int), 1) := first_y HSz.out hkX HOk.out (by rw [HgX.out]; unfold coordOk; omega) (by rw [HgY.out]; unfold coordOk; omega)
      have HWr := Lib.hid hwr
      clear hwr
      have k2 := HK2.out.below HBel.out HK2.out.lt
      have e0 := k2.cell 0; have e1 := k2.cell 1; have e2 := k2.cell 2; have e3 := k2.cell 3
      simp only [List.getElem?_toArray, List.getElem?_cons_succ, List.getElem?_cons_zero] at e0 e1 e2 e3
      have fr := fun i => k2.free i (Or.inr (Nat.zero_le _))
      have f0 := fr 0; have f1 := fr 1; have f2 := fr 2; have f3 := fr 3
      have hkz := (((k2.set 0 (.int .i64 7)).set 1 (.int .i64 2)).set 2 (.int .i64 k)).set 3 (.int .i64 1)
      have hbz := (((((HB1.out.next' HBel.out).setCell (p := ⟨B2, 0, none⟩) HL2.out (.int .i64 7)).setCell (p := ⟨B2, 1, none⟩) HL2.out (.int .i64 2)).setCell (p := ⟨B2, 2, none⟩) HL2.out (.int .i64 k)).setCell (p := ⟨B2, 3, none⟩) HL2.out (.int .i64 1))
      have HZ := Lib.hid hkz; have HBz := Lib.hid hbz
      clear hkz hbz k2 fr
      go_wp2_with fail
      generalize (((wr.setCell ⟨B2, 0, none⟩ (.int .i64 7)).setCell ⟨B2, 1, none⟩ (.int .i64 2)).setCell ⟨B2, 2, none⟩ (.int .i64 k)).setCell ⟨B2, 3, none⟩ (.int .i64 1) = wz at *
      have z0 := HZ.out.cell 0; have z1 := HZ.out.cell 1; have z2 := HZ.out.cell 2; have z3 := HZ.out.cell 3
      change wz.cell? ⟨B2, 0, none⟩ = some (.int .i64 7) at z0
      change wz.cell? ⟨B2, 1, none⟩ = some (.int .i64 2) at z1
      change wz.cell? ⟨B2, 2, none⟩ = some (.int .i64 k) at z2
      change wz.cell? ⟨B2, 3, none⟩ = some (.int .i64 1) at z3
      exact bodyPost_ret (v := .agg #[.int .i64 7, .int .i64 2, .int .i64 k, .int .i64 1]) (by simp [results, Tryd.results21, go_sem, z0, z1, z2, z3]) rfl ⟨by rw [HWr.out], HBz.out⟩
    have a4b : decide (2147483647 < y) = false := decide_eq_false a4
    have HOk1 := Lib.hid (show nodesOk r (k + 1) from fun j hj => by
      rcases Nat.lt_or_ge j k with h | h
      · exact HOk.out j h
      · obtain rfl : j = k := by omega
        rw [HgX.out, HgY.out]; exact ⟨by unfold coordOk; omega, by unfold coordOk; omega⟩)
    go_wp2_with fail
    go_roundw
    case rel => exact ⟨k + 1, by omega, by go_num, HOk1, HBel⟩
    case measure => simp [intOf]; omega
  case neg =>
  obtain rfl : k = r.X.length := by have := HhX.out; omega
  have hkb := decide_eq_false hkn
  by_cases h5 : 67108864 < r.arcs.length
  · have h5c : decide ((67108864 : Int) < (r.arcs.length : Int)) = true := decide_eq_true (by omega)
    have h5b : decide (67108864 < r.arcs.length) = true := decide_eq_true h5
    have hwr : r.wrong = (8, 3, (0 : Int), 0) := first_many HSz.out HOk.out (by omega)
    have HWr := Lib.hid hwr
    clear hwr
    have k2 := HK2.out.below HBel.out HK2.out.lt
    have e0 := k2.cell 0; have e1 := k2.cell 1; have e2 := k2.cell 2; have e3 := k2.cell 3
    simp only [List.getElem?_toArray, List.getElem?_cons_succ, List.getElem?_cons_zero] at e0 e1 e2 e3
    have fr := fun i => k2.free i (Or.inr (Nat.zero_le _))
    have f0 := fr 0; have f1 := fr 1; have f2 := fr 2; have f3 := fr 3
    have hkz := (((k2.set 0 (.int .i64 8)).set 1 (.int .i64 3)).set 2 (.int .i64 0)).set 3 (.int .i64 0)
    have hbz := (((((HB1.out.next' HBel.out).setCell (p := ⟨B2, 0, none⟩) HL2.out (.int .i64 8)).setCell (p := ⟨B2, 1, none⟩) HL2.out (.int .i64 3)).setCell (p := ⟨B2, 2, none⟩) HL2.out (.int .i64 0)).setCell (p := ⟨B2, 3, none⟩) HL2.out (.int .i64 0))
    have HZ := Lib.hid hkz; have HBz := Lib.hid hbz
    clear hkz hbz k2 fr
    go_wp2_with fail
    generalize (((wr.setCell ⟨B2, 0, none⟩ (.int .i64 8)).setCell ⟨B2, 1, none⟩ (.int .i64 3)).setCell ⟨B2, 2, none⟩ (.int .i64 0)).setCell ⟨B2, 3, none⟩ (.int .i64 0) = wz at *
    have z0 := HZ.out.cell 0; have z1 := HZ.out.cell 1; have z2 := HZ.out.cell 2; have z3 := HZ.out.cell 3
    change wz.cell? ⟨B2, 0, none⟩ = some (.int .i64 8) at z0
    change wz.cell? ⟨B2, 1, none⟩ = some (.int .i64 3) at z1
    change wz.cell? ⟨B2, 2, none⟩ = some (.int .i64 0) at z2
    change wz.cell? ⟨B2, 3, none⟩ = some (.int .i64 0) at z3
    exact bodyPost_ret (v := .agg #[.int .i64 8, .int .i64 3, .int .i64 0, .int .i64 0]) (by simp [results, Tryd.results21, go_sem, z0, z1, z2, z3]) rfl ⟨by rw [HWr.out], HBz.out⟩
  have h5c : decide ((67108864 : Int) < (r.arcs.length : Int)) = false := decide_eq_false (by omega)
  have h5b : decide (67108864 < r.arcs.length) = false := decide_eq_false h5
  obtain ⟨w2, hw2⟩ : ∃ q, q = wr := ⟨_, rfl⟩
  have HNo := HOk
  go_wp2_with fail
  go_loopw [4] (fun i wr => ∃ k : Nat, k ≤ r.arcs.length ∧ i = .int .i64 k ∧ Hid (arcsOk r k) ∧ Hid (Below w1.heap.size w1 wr)) (fun i _ => r.arcs.length - (intOf i).toNat)
  case atStart => exact ⟨0, by omega, rfl, Lib.hid (fun _ h => by omega), HBel⟩
  clear HBel HOk hkb c0 c1 c2 c3 hw2 hkn
  obtain ⟨k, hk, rfl, HOk, HBel⟩ := hrel
  have k1 := HK1.out.below HBel.out HK1.out.lt
  have c0 := k1.cell 0; have c3 := k1.cell 3
  change wr.cell? ⟨B1, 0, none⟩ = some (.int .i64 r.nodes) at c0
  change wr.cell? ⟨B1, 3, none⟩ = some (.slice za r.arcs.length zc) at c3
  by_cases hkn : k < r.arcs.length
  case pos =>
    obtain ⟨bz, oz, rfl, d0, d1, d2⟩ := (HAv.out wr HBel.out).at k hkn
    have ik0 : (0 : Int) ≤ (k : Int) := by omega
    have ikA : (k : Int) < (r.arcs.length : Int) := by omega
    have hkb := decide_eq_true ikA
    have ik1 : IntKind.i64.wrap ((k : Int) + 1) = ((k + 1 : Nat) : Int) := by rw [IntKind.wrap_i64]; omega
    obtain ⟨a, hae⟩ : ∃ a, a = r.arcs[k] := ⟨_, rfl⟩
    rw [← hae] at d0 d1 d2
    have HgA := Lib.hid (show r.arcs[k]?.getD (0, 0, 0) = a by rw [hae, List.getElem?_eq_getElem hkn]; rfl)
    clear hae
    obtain ⟨x0, x1, x2⟩ := a
    dsimp only at d0 d1 d2
    have n0 := (k1.alloc (.cells #[.int .i64 x0, .int .i64 x1, .int .i64 x2] 54)).cell 0
    change (wr.alloc (.cells #[.int .i64 x0, .int .i64 x1, .int .i64 x2] 54)).cell? ⟨B1, 0, none⟩ = some (.int .i64 r.nodes) at n0
    clear k1
    by_cases a1 : x0 < 0
    · have a1b : decide (x0 < 0) = true := decide_eq_true a1
      have hwr : r.wrong = (9, 4, (k : Int), 0) := first_from HSz.out HNo.out (by omega) hkn HOk.out (by rw [HgA.out]; dsimp only; omega)
      have HWr := Lib.hid hwr
      clear hwr
      have k2 := (HK2.out.below HBel.out HK2.out.lt).alloc (.cells #[.int .i64 x0, .int .i64 x1, .int .i64 x2] 54)
      have e0 := k2.cell 0; have e1 := k2.cell 1; have e2 := k2.cell 2; have e3 := k2.cell 3
      simp only [List.getElem?_toArray, List.getElem?_cons_succ, List.getElem?_cons_zero] at e0 e1 e2 e3
      have fr := fun i => k2.free i (Or.inr (Nat.zero_le _))
      have f0 := fr 0; have f1 := fr 1; have f2 := fr 2; have f3 := fr 3
      have hkz := (((k2.set 0 (.int .i64 9)).set 1 (.int .i64 4)).set 2 (.int .i64 k)).set 3 (.int .i64 0)
      have hbz := ((((((HB1.out.next' HBel.out).alloc (HB1.out.next' HBel.out).size (.cells #[.int .i64 x0, .int .i64 x1, .int .i64 x2] 54)).setCell (p := ⟨B2, 0, none⟩) HL2.out (.int .i64 9)).setCell (p := ⟨B2, 1, none⟩) HL2.out (.int .i64 4)).setCell (p := ⟨B2, 2, none⟩) HL2.out (.int .i64 k)).setCell (p := ⟨B2, 3, none⟩) HL2.out (.int .i64 0))
      have HZ := Lib.hid hkz; have HBz := Lib.hid hbz
      clear hkz hbz k2 fr
      go_wp2_with fail
      generalize ((((wr.alloc (.cells #[.int .i64 x0, .int .i64 x1, .int .i64 x2] 54)).setCell ⟨B2, 0, none⟩ (.int .i64 9)).setCell ⟨B2, 1, none⟩ (.int .i64 4)).setCell ⟨B2, 2, none⟩ (.int .i64 k)).setCell ⟨B2, 3, none⟩ (.int .i64 0) = wz at *
      have z0 := HZ.out.cell 0; have z1 := HZ.out.cell 1; have z2 := HZ.out.cell 2; have z3 := HZ.out.cell 3
      change wz.cell? ⟨B2, 0, none⟩ = some (.int .i64 9) at z0
      change wz.cell? ⟨B2, 1, none⟩ = some (.int .i64 4) at z1
      change wz.cell? ⟨B2, 2, none⟩ = some (.int .i64 k) at z2
      change wz.cell? ⟨B2, 3, none⟩ = some (.int .i64 0) at z3
      exact bodyPost_ret (v := .agg #[.int .i64 9, .int .i64 4, .int .i64 k, .int .i64 0]) (by simp [results, Tryd.results21, go_sem, z0, z1, z2, z3]) rfl ⟨by rw [HWr.out], HBz.out⟩
    have a1b : decide (x0 < 0) = false := decide_eq_false a1
    by_cases a2 : r.nodes ≤ x0
    · have a2b : decide (r.nodes ≤ x0) = true := decide_eq_true a2
      have hwr : r.wrong = (9, 4, (k : Int), 0) := first_from HSz.out HNo.out (by omega) hkn HOk.out (by rw [HgA.out]; dsimp only; omega)
      have HWr := Lib.hid hwr
      clear hwr
      have k2 := (HK2.out.below HBel.out HK2.out.lt).alloc (.cells #[.int .i64 x0, .int .i64 x1, .int .i64 x2] 54)
      have e0 := k2.cell 0; have e1 := k2.cell 1; have e2 := k2.cell 2; have e3 := k2.cell 3
      simp only [List.getElem?_toArray, List.getElem?_cons_succ, List.getElem?_cons_zero] at e0 e1 e2 e3
      have fr := fun i => k2.free i (Or.inr (Nat.zero_le _))
      have f0 := fr 0; have f1 := fr 1; have f2 := fr 2; have f3 := fr 3
      have hkz := (((k2.set 0 (.int .i64 9)).set 1 (.int .i64 4)).set 2 (.int .i64 k)).set 3 (.int .i64 0)
      have hbz := ((((((HB1.out.next' HBel.out).alloc (HB1.out.next' HBel.out).size (.cells #[.int .i64 x0, .int .i64 x1, .int .i64 x2] 54)).setCell (p := ⟨B2, 0, none⟩) HL2.out (.int .i64 9)).setCell (p := ⟨B2, 1, none⟩) HL2.out (.int .i64 4)).setCell (p := ⟨B2, 2, none⟩) HL2.out (.int .i64 k)).setCell (p := ⟨B2, 3, none⟩) HL2.out (.int .i64 0))
      have HZ := Lib.hid hkz; have HBz := Lib.hid hbz
      clear hkz hbz k2 fr
      go_wp2_with fail
      generalize ((((wr.alloc (.cells #[.int .i64 x0, .int .i64 x1, .int .i64 x2] 54)).setCell ⟨B2, 0, none⟩ (.int .i64 9)).setCell ⟨B2, 1, none⟩ (.int .i64 4)).setCell ⟨B2, 2, none⟩ (.int .i64 k)).setCell ⟨B2, 3, none⟩ (.int .i64 0) = wz at *
      have z0 := HZ.out.cell 0; have z1 := HZ.out.cell 1; have z2 := HZ.out.cell 2; have z3 := HZ.out.cell 3
      change wz.cell? ⟨B2, 0, none⟩ = some (.int .i64 9) at z0
      change wz.cell? ⟨B2, 1, none⟩ = some (.int .i64 4) at z1
      change wz.cell? ⟨B2, 2, none⟩ = some (.int .i64 k) at z2
      change wz.cell? ⟨B2, 3, none⟩ = some (.int .i64 0) at z3
      exact bodyPost_ret (v := .agg #[.int .i64 9, .int .i64 4, .int .i64 k, .int .i64 0]) (by simp [results, Tryd.results21, go_sem, z0, z1, z2, z3]) rfl ⟨by rw [HWr.out], HBz.out⟩
    have a2b : decide (r.nodes ≤ x0) = false := decide_eq_false a2
    by_cases a3 : x1 < 0
    · have a3b : decide (x1 < 0) = true := decide_eq_true a3
      have hwr : r.wrong = (9, 4, (k : Int), 1) := first_to HSz.out HNo.out (by omega) hkn HOk.out (by rw [HgA.out]; dsimp only; omega) (by rw [HgA.out]; dsimp only; omega)
      have HWr := Lib.hid hwr
      clear hwr
      have k2 := (HK2.out.below HBel.out HK2.out.lt).alloc (.cells #[.int .i64 x0, .int .i64 x1, .int .i64 x2] 54)
      have e0 := k2.cell 0; have e1 := k2.cell 1; have e2 := k2.cell 2; have e3 := k2.cell 3
      simp only [List.getElem?_toArray, List.getElem?_cons_succ, List.getElem?_cons_zero] at e0 e1 e2 e3
      have fr := fun i => k2.free i (Or.inr (Nat.zero_le _))
      have f0 := fr 0; have f1 := fr 1; have f2 := fr 2; have f3 := fr 3
      have hkz := (((k2.set 0 (.int .i64 9)).set 1 (.int .i64 4)).set 2 (.int .i64 k)).set 3 (.int .i64 1)
      have hbz := ((((((HB1.out.next' HBel.out).alloc (HB1.out.next' HBel.out).size (.cells #[.int .i64 x0, .int .i64 x1, .int .i64 x2] 54)).setCell (p := ⟨B2, 0, none⟩) HL2.out (.int .i64 9)).setCell (p := ⟨B2, 1, none⟩) HL2.out (.int .i64 4)).setCell (p := ⟨B2, 2, none⟩) HL2.out (.int .i64 k)).setCell (p := ⟨B2, 3, none⟩) HL2.out (.int .i64 1))
      have HZ := Lib.hid hkz; have HBz := Lib.hid hbz
      clear hkz hbz k2 fr
      go_wp2_with fail
      generalize ((((wr.alloc (.cells #[.int .i64 x0, .int .i64 x1, .int .i64 x2] 54)).setCell ⟨B2, 0, none⟩ (.int .i64 9)).setCell ⟨B2, 1, none⟩ (.int .i64 4)).setCell ⟨B2, 2, none⟩ (.int .i64 k)).setCell ⟨B2, 3, none⟩ (.int .i64 1) = wz at *
      have z0 := HZ.out.cell 0; have z1 := HZ.out.cell 1; have z2 := HZ.out.cell 2; have z3 := HZ.out.cell 3
      change wz.cell? ⟨B2, 0, none⟩ = some (.int .i64 9) at z0
      change wz.cell? ⟨B2, 1, none⟩ = some (.int .i64 4) at z1
      change wz.cell? ⟨B2, 2, none⟩ = some (.int .i64 k) at z2
      change wz.cell? ⟨B2, 3, none⟩ = some (.int .i64 1) at z3
      exact bodyPost_ret (v := .agg #[.int .i64 9, .int .i64 4, .int .i64 k, .int .i64 1]) (by simp [results, Tryd.results21, go_sem, z0, z1, z2, z3]) rfl ⟨by rw [HWr.out], HBz.out⟩
    have a3b : decide (x1 < 0) = false := decide_eq_false a3
    by_cases a4 : r.nodes ≤ x1
    · have a4b : decide (r.nodes ≤ x1) = true := decide_eq_true a4
      have hwr : r.wrong = (9, 4, (k : Int), 1) := first_to HSz.out HNo.out (by omega) hkn HOk.out (by rw [HgA.out]; dsimp only; omega) (by rw [HgA.out]; dsimp only; omega)
      have HWr := Lib.hid hwr
      clear hwr
      have k2 := (HK2.out.below HBel.out HK2.out.lt).alloc (.cells #[.int .i64 x0, .int .i64 x1, .int .i64 x2] 54)
      have e0 := k2.cell 0; have e1 := k2.cell 1; have e2 := k2.cell 2; have e3 := k2.cell 3
      simp only [List.getElem?_toArray, List.getElem?_cons_succ, List.getElem?_cons_zero] at e0 e1 e2 e3
      have fr := fun i => k2.free i (Or.inr (Nat.zero_le _))
      have f0 := fr 0; have f1 := fr 1; have f2 := fr 2; have f3 := fr 3
      have hkz := (((k2.set 0 (.int .i64 9)).set 1 (.int .i64 4)).set 2 (.int .i64 k)).set 3 (.int .i64 1)
      have hbz := ((((((HB1.out.next' HBel.out).alloc (HB1.out.next' HBel.out).size (.cells #[.int .i64 x0, .int .i64 x1, .int .i64 x2] 54)).setCell (p := ⟨B2, 0, none⟩) HL2.out (.int .i64 9)).setCell (p := ⟨B2, 1, none⟩) HL2.out (.int .i64 4)).setCell (p := ⟨B2, 2, none⟩) HL2.out (.int .i64 k)).setCell (p := ⟨B2, 3, none⟩) HL2.out (.int .i64 1))
      have HZ := Lib.hid hkz; have HBz := Lib.hid hbz
      clear hkz hbz k2 fr
      go_wp2_with fail
      generalize ((((wr.alloc (.cells #[.int .i64 x0, .int .i64 x1, .int .i64 x2] 54)).setCell ⟨B2, 0, none⟩ (.int .i64 9)).setCell ⟨B2, 1, none⟩ (.int .i64 4)).setCell ⟨B2, 2, none⟩ (.int .i64 k)).setCell ⟨B2, 3, none⟩ (.int .i64 1) = wz at *
      have z0 := HZ.out.cell 0; have z1 := HZ.out.cell 1; have z2 := HZ.out.cell 2; have z3 := HZ.out.cell 3
      change wz.cell? ⟨B2, 0, none⟩ = some (.int .i64 9) at z0
      change wz.cell? ⟨B2, 1, none⟩ = some (.int .i64 4) at z1
      change wz.cell? ⟨B2, 2, none⟩ = some (.int .i64 k) at z2
      change wz.cell? ⟨B2, 3, none⟩ = some (.int .i64 1) at z3
      exact bodyPost_ret (v := .agg #[.int .i64 9, .int .i64 4, .int .i64 k, .int .i64 1]) (by simp [results, Tryd.results21, go_sem, z0, z1, z2, z3]) rfl ⟨by rw [HWr.out], HBz.out⟩
    have a4b : decide (r.nodes ≤ x1) = false := decide_eq_false a4
    by_cases a5 : x2 < 0
    · have a5b : decide (x2 < 0) = true := decide_eq_true a5
      have hwr : r.wrong = (10, 4, (k : Int), 2) := first_weight HSz.out HNo.out (by omega) hkn HOk.out (by rw [HgA.out]; dsimp only; omega) (by rw [HgA.out]; dsimp only; omega) (by rw [HgA.out]; dsimp only; omega)
      have HWr := Lib.hid hwr
      clear hwr
      have k2 := (HK2.out.below HBel.out HK2.out.lt).alloc (.cells #[.int .i64 x0, .int .i64 x1, .int .i64 x2] 54)
      have e0 := k2.cell 0; have e1 := k2.cell 1; have e2 := k2.cell 2; have e3 := k2.cell 3
      simp only [List.getElem?_toArray, List.getElem?_cons_succ, List.getElem?_cons_zero] at e0 e1 e2 e3
      have fr := fun i => k2.free i (Or.inr (Nat.zero_le _))
      have f0 := fr 0; have f1 := fr 1; have f2 := fr 2; have f3 := fr 3
      have hkz := (((k2.set 0 (.int .i64 10)).set 1 (.int .i64 4)).set 2 (.int .i64 k)).set 3 (.int .i64 2)
      have hbz := ((((((HB1.out.next' HBel.out).alloc (HB1.out.next' HBel.out).size (.cells #[.int .i64 x0, .int .i64 x1, .int .i64 x2] 54)).setCell (p := ⟨B2, 0, none⟩) HL2.out (.int .i64 10)).setCell (p := ⟨B2, 1, none⟩) HL2.out (.int .i64 4)).setCell (p := ⟨B2, 2, none⟩) HL2.out (.int .i64 k)).setCell (p := ⟨B2, 3, none⟩) HL2.out (.int .i64 2))
      have HZ := Lib.hid hkz; have HBz := Lib.hid hbz
      clear hkz hbz k2 fr
      go_wp2_with fail
      generalize ((((wr.alloc (.cells #[.int .i64 x0, .int .i64 x1, .int .i64 x2] 54)).setCell ⟨B2, 0, none⟩ (.int .i64 10)).setCell ⟨B2, 1, none⟩ (.int .i64 4)).setCell ⟨B2, 2, none⟩ (.int .i64 k)).setCell ⟨B2, 3, none⟩ (.int .i64 2) = wz at *
      have z0 := HZ.out.cell 0; have z1 := HZ.out.cell 1; have z2 := HZ.out.cell 2; have z3 := HZ.out.cell 3
      change wz.cell? ⟨B2, 0, none⟩ = some (.int .i64 10) at z0
      change wz.cell? ⟨B2, 1, none⟩ = some (.int .i64 4) at z1
      change wz.cell? ⟨B2, 2, none⟩ = some (.int .i64 k) at z2
      change wz.cell? ⟨B2, 3, none⟩ = some (.int .i64 2) at z3
      exact bodyPost_ret (v := .agg #[.int .i64 10, .int .i64 4, .int .i64 k, .int .i64 2]) (by simp [results, Tryd.results21, go_sem, z0, z1, z2, z3]) rfl ⟨by rw [HWr.out], HBz.out⟩
    have a5b : decide (x2 < 0) = false := decide_eq_false a5
    by_cases a6 : 2147483647 < x2
    · have a6b : decide (2147483647 < x2) = true := decide_eq_true a6
      have hwr : r.wrong = (10, 4, (k : Int), 2) := first_weight HSz.out HNo.out (by omega) hkn HOk.out (by rw [HgA.out]; dsimp only; omega) (by rw [HgA.out]; dsimp only; omega) (by rw [HgA.out]; dsimp only; omega)
      have HWr := Lib.hid hwr
      clear hwr
      have k2 := (HK2.out.below HBel.out HK2.out.lt).alloc (.cells #[.int .i64 x0, .int .i64 x1, .int .i64 x2] 54)
      have e0 := k2.cell 0; have e1 := k2.cell 1; have e2 := k2.cell 2; have e3 := k2.cell 3
      simp only [List.getElem?_toArray, List.getElem?_cons_succ, List.getElem?_cons_zero] at e0 e1 e2 e3
      have fr := fun i => k2.free i (Or.inr (Nat.zero_le _))
      have f0 := fr 0; have f1 := fr 1; have f2 := fr 2; have f3 := fr 3
      have hkz := (((k2.set 0 (.int .i64 10)).set 1 (.int .i64 4)).set 2 (.int .i64 k)).set 3 (.int .i64 2)
      have hbz := ((((((HB1.out.next' HBel.out).alloc (HB1.out.next' HBel.out).size (.cells #[.int .i64 x0, .int .i64 x1, .int .i64 x2] 54)).setCell (p := ⟨B2, 0, none⟩) HL2.out (.int .i64 10)).setCell (p := ⟨B2, 1, none⟩) HL2.out (.int .i64 4)).setCell (p := ⟨B2, 2, none⟩) HL2.out (.int .i64 k)).setCell (p := ⟨B2, 3, none⟩) HL2.out (.int .i64 2))
      have HZ := Lib.hid hkz; have HBz := Lib.hid hbz
      clear hkz hbz k2 fr
      go_wp2_with fail
      generalize ((((wr.alloc (.cells #[.int .i64 x0, .int .i64 x1, .int .i64 x2] 54)).setCell ⟨B2, 0, none⟩ (.int .i64 10)).setCell ⟨B2, 1, none⟩ (.int .i64 4)).setCell ⟨B2, 2, none⟩ (.int .i64 k)).setCell ⟨B2, 3, none⟩ (.int .i64 2) = wz at *
      have z0 := HZ.out.cell 0; have z1 := HZ.out.cell 1; have z2 := HZ.out.cell 2; have z3 := HZ.out.cell 3
      change wz.cell? ⟨B2, 0, none⟩ = some (.int .i64 10) at z0
      change wz.cell? ⟨B2, 1, none⟩ = some (.int .i64 4) at z1
      change wz.cell? ⟨B2, 2, none⟩ = some (.int .i64 k) at z2
      change wz.cell? ⟨B2, 3, none⟩ = some (.int .i64 2) at z3
      exact bodyPost_ret (v := .agg #[.int .i64 10, .int .i64 4, .int .i64 k, .int .i64 2]) (by simp [results, Tryd.results21, go_sem, z0, z1, z2, z3]) rfl ⟨by rw [HWr.out], HBz.out⟩
    have a6b : decide (2147483647 < x2) = false := decide_eq_false a6
    have HOk1 := Lib.hid (show arcsOk r (k + 1) from fun j hj => by
      rcases Nat.lt_or_ge j k with h | h
      · exact HOk.out j h
      · obtain rfl : j = k := by omega
        rw [HgA.out]; exact ⟨by dsimp only; omega, by dsimp only; omega, by dsimp only; omega⟩)
    have HBel2 := Lib.hid (HBel.out.alloc HBel.out.size (.cells #[.int .i64 x0, .int .i64 x1, .int .i64 x2] 54))
    go_wp2_with fail
    go_roundw
    case rel => exact ⟨k + 1, by omega, by go_num, HOk1, HBel2⟩
    case measure => simp [intOf]; omega
  case neg =>
  obtain rfl : k = r.arcs.length := by omega
  have hkb : decide ((r.arcs.length : Int) < (r.arcs.length : Int)) = false := decide_eq_false (by omega)
  have hwr : r.wrong = (0, 0, (0 : Int), 0) := first_none HSz.out HNo.out (by omega) HOk.out
  have HWr := Lib.hid hwr
  clear hwr
  have k2 := HK2.out.below HBel.out HK2.out.lt
  have e0 := k2.cell 0; have e1 := k2.cell 1; have e2 := k2.cell 2; have e3 := k2.cell 3
  simp only [List.getElem?_toArray, List.getElem?_cons_succ, List.getElem?_cons_zero] at e0 e1 e2 e3
  have fr := fun i => k2.free i (Or.inr (Nat.zero_le _))
  have f0 := fr 0; have f1 := fr 1; have f2 := fr 2; have f3 := fr 3
  have hkz := (((k2.set 0 (.int .i64 0)).set 1 (.int .i64 0)).set 2 (.int .i64 0)).set 3 (.int .i64 0)
  have hbz := (((((HB1.out.next' HBel.out).setCell (p := ⟨B2, 0, none⟩) HL2.out (.int .i64 0)).setCell (p := ⟨B2, 1, none⟩) HL2.out (.int .i64 0)).setCell (p := ⟨B2, 2, none⟩) HL2.out (.int .i64 0)).setCell (p := ⟨B2, 3, none⟩) HL2.out (.int .i64 0))
  have HZ := Lib.hid hkz; have HBz := Lib.hid hbz
  clear hkz hbz k2 fr
  go_wp2_with fail
  generalize (((wr.setCell ⟨B2, 0, none⟩ (.int .i64 0)).setCell ⟨B2, 1, none⟩ (.int .i64 0)).setCell ⟨B2, 2, none⟩ (.int .i64 0)).setCell ⟨B2, 3, none⟩ (.int .i64 0) = wz at *
  have z0 := HZ.out.cell 0; have z1 := HZ.out.cell 1; have z2 := HZ.out.cell 2; have z3 := HZ.out.cell 3
  change wz.cell? ⟨B2, 0, none⟩ = some (.int .i64 0) at z0
  change wz.cell? ⟨B2, 1, none⟩ = some (.int .i64 0) at z1
  change wz.cell? ⟨B2, 2, none⟩ = some (.int .i64 0) at z2
  change wz.cell? ⟨B2, 3, none⟩ = some (.int .i64 0) at z3
  exact bodyPost_ret (v := .agg #[.int .i64 0, .int .i64 0, .int .i64 0, .int .i64 0]) (by simp [results, Tryd.results21, go_sem, z0, z1, z2, z3]) rfl ⟨by rw [HWr.out], HBz.out⟩
end Go.Proofs.YtnkcmlngoeofgaaDoor
/- graph.Same; the reference's Same. -/
namespace Go.Proofs.YtnkcmlngoeofgaaDoor
open Go.RowKit
/-- are both alike? -/
def sameB (a b : Raw) : Bool := decide (a.nodes = b.nodes ∧ a.X = b.X ∧ a.Y = b.Y ∧ a.arcs = b.arcs)
theorem sameB_iff (a b : Raw) : sameB a b = true ↔ a = b := by
  unfold sameB
  rw [decide_eq_true_iff]
  obtain ⟨n, x, y, l⟩ := a
  obtain ⟨n', x', y', l'⟩ := b
  simp
set_option maxHeartbeats 2000000 in
theorem same_any (va vb : Value) (a b : Raw) (w : World) (ha : RawV w va a) (hb : RawV w vb b) : Calls Tryd.prog 22 #[va, vb] w fun e w' => e = .returned (.bool (sameB a b)) ∧ Below w.heap.size w w' := by
  obtain ⟨ax, ay, aa, rfl, hax, hay, haa⟩ := ha
  obtain ⟨bx, by_, ba, rfl, hbx, hby, hba⟩ := hb
  have fx := hax.form; have fy := hay.form; have fa := haa.form
  have gx := hbx.form; have gy := hby.form; have ga := hba.form
  have hb0 := ((Below.refl w.heap.size w).alloc (Nat.le_refl _) (.cells #[.int .i64 a.nodes, ax, ay, aa] 25)).alloc (by simp) (.cells #[.int .i64 b.nodes, bx, by_, ba] 25)
  have k1 := (Blk.new w #[.int .i64 a.nodes, ax, ay, aa] 25 (0, 0)).alloc (.cells #[.int .i64 b.nodes, bx, by_, ba] 25)
  have k2 : Blk ((w.alloc (.cells #[.int .i64 a.nodes, ax, ay, aa] 25)).alloc (.cells #[.int .i64 b.nodes, bx, by_, ba] 25)) (w.heap.size + 1) #[.int .i64 b.nodes, bx, by_, ba] 25 (0, 0) := by
    have h := Blk.new (w.alloc (.cells #[.int .i64 a.nodes, ax, ay, aa] 25)) #[.int .i64 b.nodes, bx, by_, ba] 25 (0, 0)
    rwa [World.size_alloc] at h
  have CX := fun u hu => equalX _ _ _ _ u (hax.keep (KpC.of_below (W' := u) hu)) (hbx.keep (KpC.of_below hu))
  have CY := fun u hu => equalX _ _ _ _ u (hay.keep (KpC.of_below (W' := u) hu)) (hby.keep (KpC.of_below hu))
  have CA := fun u hu => equalA _ _ _ _ u (haa.keep (KpC.of_below (W' := u) hu)) (hba.keep (KpC.of_below hu))
  have HCX := Lib.hid CX; have HCY := Lib.hid CY; have HCA := Lib.hid CA
  have HB := Lib.hid hb0; have HK1 := Lib.hid k1; have HK2 := Lib.hid k2
  clear hax hay haa hbx hby hba hb0 k1 k2 CX CY CA
  obtain ⟨_, _, _, rfl⟩ := fx
  obtain ⟨_, _, _, rfl⟩ := fy
  obtain ⟨_, _, _, rfl⟩ := fa
  obtain ⟨_, _, _, rfl⟩ := gx
  obtain ⟨_, _, _, rfl⟩ := gy
  obtain ⟨_, _, _, rfl⟩ := ga
  by_cases h0 : a.nodes = b.nodes
  · have q0 : (a.nodes == b.nodes) = true := by simpa using h0
    have H0 := Lib.hid h0
    clear h0
    go_enter Tryd.func22, Tryd.ntmps22
    go_wp2_with fail
    refine (HCX.out _ HB.out).mono ?_
    rintro e w1 ⟨rfl, hb1⟩
    have e1 := HK1.out.below hb1 HK1.out.lt
    have e2 := HK2.out.below hb1 HK2.out.lt
    have a2 := e1.cell 2; have a3 := e1.cell 3; have b2 := e2.cell 2; have b3 := e2.cell 3
    simp only [List.getElem?_toArray, List.getElem?_cons_succ, List.getElem?_cons_zero] at a2 a3 b2 b3
    have HE1 := Lib.hid e1; have HE2 := Lib.hid e2; have HB1 := Lib.hid (HB.out.next' hb1)
    clear e1 e2 hb1
    by_cases h1 : a.X = b.X
    · rw [decide_eq_true h1]
      have H1 := Lib.hid h1
      clear h1
      go_wp2_with fail
      refine (HCY.out _ HB1.out).mono ?_
      rintro e w2 ⟨rfl, hb2⟩
      have e1 := HE1.out.below hb2 HE1.out.lt
      have e2 := HE2.out.below hb2 HE2.out.lt
      have a3 := e1.cell 3; have b3 := e2.cell 3
      simp only [List.getElem?_toArray, List.getElem?_cons_succ, List.getElem?_cons_zero] at a3 b3
      have HB2 := Lib.hid (HB1.out.next' hb2)
      clear e1 e2 hb2
      by_cases h2 : a.Y = b.Y
      · rw [decide_eq_true h2]
        have H2 := Lib.hid h2
        clear h2
        go_wp2_with fail
        refine (HCA.out _ HB2.out).mono ?_
        rintro e w3 ⟨rfl, hb3⟩
        have HB3 := Lib.hid (HB2.out.next' hb3)
        have hs : sameB a b = decide (a.arcs = b.arcs) := by unfold sameB; simp [H0.out, H1.out, H2.out]
        have HS := Lib.hid hs
        clear hb3 hs
        obtain ⟨q, hq⟩ : ∃ q, q = decide (a.arcs = b.arcs) := ⟨_, rfl⟩
        rw [← hq] at HS ⊢
        clear hq
        go_wp2_with fail
        go_ret
        exact ⟨by rw [HS.out]; first | done | rfl, HB3.out⟩
      · rw [decide_eq_false h2]
        have hs : sameB a b = false := by unfold sameB; simp [h2]
        have HS := Lib.hid hs
        clear h2 hs
        go_wp2_with fail
        go_ret
        exact ⟨by rw [HS.out]; first | done | rfl, HB2.out⟩
    · rw [decide_eq_false h1]
      have hs : sameB a b = false := by unfold sameB; simp [h1]
      have HS := Lib.hid hs
      clear h1 hs
      go_wp2_with fail
      go_ret
      exact ⟨by rw [HS.out]; first | done | rfl, HB1.out⟩
  · have q0 : (a.nodes == b.nodes) = false := by simpa using h0
    have hs : sameB a b = false := by unfold sameB; simp [h0]
    have HS := Lib.hid hs
    clear h0 hs
    go_enter Tryd.func22, Tryd.ntmps22
    go_wp2_with fail
    go_ret
    exact ⟨by rw [HS.out]; first | done | rfl, HB.out⟩
end Go.Proofs.YtnkcmlngoeofgaaDoor
/- GraphBack's plain law: turned twice, moved there and back. -/
namespace Go.Proofs.YtnkcmlngoeofgaaDoor
open Go.RowKit
theorem Raw.turned_twice (r : Raw) : r.turned.turned = r := by
  obtain ⟨n, X, Y, A⟩ := r
  show (⟨n, X, Y, (A.map turnA).map turnA⟩ : Raw) = _
  rw [List.map_map, show turnA ∘ turnA = id from rfl, List.map_id]
theorem Raw.turned_okB {g : Raw} (h : g.Ok) : g.turned.Ok := by
  refine ⟨h.nodes, h.lenX, h.lenY, h.x, h.y, ?_, ?_⟩
  · show (g.arcs.map turnA).length ≤ _
    rw [List.length_map]; exact h.arcs
  · intro a ha
    obtain ⟨b, hb, rfl⟩ := List.mem_map.1 ha
    obtain ⟨h1, h2, h3⟩ := h.arc b hb
    exact ⟨h2, h1, h3⟩
theorem mv_back {n b v : Int} (hn : 1 ≤ n) (hv : 0 ≤ v ∧ v < n) : mvI n (-(b.tmod n)) (mvI n b v) = v := by
  unfold mvI
  rw [Int.emod_add_emod, (tmod_bounds b n hn).2.2, show v + b + -(b - n * b.tdiv n) = v + n * b.tdiv n by omega, Int.add_mul_emod_self_left, Int.emod_eq_of_lt hv.1 hv.2]
theorem moved_back {r m q : Raw} {b : Int} (hk : r.Ok) (h1 : MovedTo b r m) (h2 : MovedTo (-(b.tmod r.nodes)) m q) : q = r := by
  have hn := hk.nodes
  have hr := fun (v : Nat) (h : (v : Int) < r.nodes) => mv_back (b := b) hn.1 ⟨Int.natCast_nonneg v, h⟩
  have hL : ∀ (L M Q : List Int), (L.length : Int) = r.nodes → Q.length = L.length → (∀ v : Nat, (v : Int) < r.nodes → M[(mvI r.nodes b v).toNat]? = L[v]?) → (∀ v : Nat, (v : Int) < r.nodes → Q[(mvI r.nodes (-(b.tmod r.nodes)) v).toNat]? = M[v]?) → Q = L := by
    intro L M Q l1 l2 e1 e2
    apply List.ext_getElem?
    intro i
    by_cases hi : (i : Int) < r.nodes
    · have e1 := e1 i hi
      have hu := mvI_range r.nodes b i hn.1
      have e2 := e2 (mvI r.nodes b i).toNat (by omega)
      rw [Int.toNat_of_nonneg hu.1, hr i hi, Int.toNat_natCast, e1] at e2
      exact e2
    · rw [List.getElem?_eq_none (by omega), List.getElem?_eq_none (by omega)]
  have hm := h1.nodes
  have hx : q.X = r.X := hL r.X m.X q.X hk.lenX (by rw [h2.lenX, h1.lenX]) h1.x (fun v hv => by have := h2.x v (by rw [hm]; exact hv); rwa [hm] at this)
  have hy : q.Y = r.Y := hL r.Y m.Y q.Y hk.lenY (by rw [h2.lenY, h1.lenY]) h1.y (fun v hv => by have := h2.y v (by rw [hm]; exact hv); rwa [hm] at this)
  have ha : q.arcs = r.arcs := by
    rw [h2.arcs, h1.arcs, List.map_map, hm]
    have : ∀ a ∈ r.arcs, ((fun a : Ar => (mvI r.nodes (-(b.tmod r.nodes)) a.1, mvI r.nodes (-(b.tmod r.nodes)) a.2.1, a.2.2)) ∘ (fun a : Ar => (mvI r.nodes b a.1, mvI r.nodes b a.2.1, a.2.2))) a = id a := fun a ha => by
      obtain ⟨i1, i2, _⟩ := hk.arc a ha
      simp only [Function.comp, mv_back hn.1 i1, mv_back hn.1 i2, id]
    rw [List.map_congr_left this, List.map_id]
  have hnn : q.nodes = r.nodes := by rw [h2.nodes, h1.nodes]
  obtain ⟨n, X, Y, A⟩ := q
  obtain ⟨n', X', Y', A'⟩ := r
  simp only at hx hy ha hnn
  subst hx hy ha hnn
  rfl
theorem moved_ok {r m : Raw} {b : Int} (hk : r.Ok) (h : MovedTo b r m) : m.Ok := by
  have hn := hk.nodes
  have inv : ∀ i : Nat, (i : Int) < r.nodes → ∃ v : Nat, (v : Int) < r.nodes ∧ (mvI r.nodes b v).toNat = i := fun i hi => by
    have hu := mvI_range r.nodes (-b) i hn.1
    refine ⟨(mvI r.nodes (-b) i).toNat, by omega, ?_⟩
    rw [Int.toNat_of_nonneg hu.1]
    unfold mvI
    rw [Int.emod_add_emod, show (i : Int) + -b + b = i by omega, Int.emod_eq_of_lt (by omega) hi]; simp
  have mem : ∀ (L M : List Int), (M.length : Int) = r.nodes → (∀ v : Nat, (v : Int) < r.nodes → M[(mvI r.nodes b v).toNat]? = L[v]?) → ∀ x ∈ M, x ∈ L := fun L M hl hm x hx => by
    obtain ⟨i, hi, rfl⟩ := List.mem_iff_getElem.1 hx
    obtain ⟨v, hv, e⟩ := inv i (by omega)
    have h2 := hm v hv
    rw [e, List.getElem?_eq_getElem hi] at h2
    exact List.mem_of_getElem? h2.symm
  have hl1 := hk.lenX; have hl2 := hk.lenY; have hm := h.nodes; have hx := h.lenX; have hy := h.lenY
  refine ⟨by rw [hm]; exact hn, by omega, by omega, fun x h' => hk.x x (mem r.X m.X (by omega) h.x x h'), fun y h' => hk.y y (mem r.Y m.Y (by omega) h.y y h'), ?_, ?_⟩
  · rw [h.arcs, List.length_map]; exact hk.arcs
  · intro a ha
    rw [h.arcs] at ha
    obtain ⟨c, hc, rfl⟩ := List.mem_map.1 ha
    obtain ⟨_, _, h3⟩ := hk.arc c hc
    rw [hm]
    exact ⟨mvI_range _ _ _ hn.1, mvI_range _ _ _ hn.1, h3⟩
/-- all X, all weights one more -/
def bumpX (x : Int) : Int := IntKind.i64.wrap (x + 1)
def bumpA (a : Ar) : Ar := (a.1, a.2.1, IntKind.i64.wrap (a.2.2 + 1))
def Raw.bumped (r : Raw) : Raw := { r with X := r.X.map bumpX, arcs := r.arcs.map bumpA }
theorem bump_ne (x : Int) : IntKind.i64.wrap (x + 1) ≠ x := by rw [IntKind.wrap_i64]; omega
theorem bumped_same (r : Raw) : sameB r.bumped r = decide (r.X.length + r.arcs.length = 0) := by
  unfold sameB Raw.bumped
  cases hX : r.X with
  | cons x X =>
    rw [decide_eq_false, decide_eq_false]
    · simp
    · rintro ⟨_, h, _⟩
      simp only [List.map_cons, List.cons.injEq] at h
      exact bump_ne x h.1
  | nil =>
    cases hA : r.arcs with
    | cons a A =>
      rw [decide_eq_false, decide_eq_false]
      · simp
      · rintro ⟨_, _, _, h⟩
        simp only [List.map_cons, List.cons.injEq] at h
        exact bump_ne a.2.2 (congrArg (fun a : Ar => a.2.2) h.1)
    | nil => simp
end Go.Proofs.YtnkcmlngoeofgaaDoor
