/- net: its getters. -/
import Derived.Test.YtnkcmlngoeofgaaDoorNetOne
namespace Go.Proofs.YtnkcmlngoeofgaaDoor
open Go.RowKit
def pv (p : Nat) : Value := .pointer (some ⟨p, 0, none⟩)
theorem NetAt.cells {w : World} {p : Nat} {g : Raw} (h : NetAt w p g) : ∃ xa xc ya yc aa ac oa oc ia ic on inn, w.cell? ⟨p, 0, none⟩ = some (.int .i64 g.nodes) ∧ w.cell? ⟨p, 1, none⟩ = some (.slice xa g.X.length xc) ∧ w.cell? ⟨p, 2, none⟩ = some (.slice ya g.Y.length yc) ∧ w.cell? ⟨p, 3, none⟩ = some (.slice aa g.arcs.length ac) ∧ w.cell? ⟨p, 4, none⟩ = some (.slice oa on oc) ∧ w.cell? ⟨p, 5, none⟩ = some (.slice ia inn ic) ∧ SlX w (.slice xa g.X.length xc) g.X ∧ SlX w (.slice ya g.Y.length yc) g.Y ∧ SlA w (.slice aa g.arcs.length ac) g.arcs ∧ SlR w (.slice oa on oc) (rowsOf endF g.arcs g.nodes.toNat) ∧ SlR w (.slice ia inn ic) (rowsOf endT g.arcs g.nodes.toNat) := by
  obtain ⟨vx, vy, va, vo, vi, h1, h2, h3, h4, h5, h6⟩ := h
  have q2 := h2; have q3 := h3; have q4 := h4; have q5 := h5; have q6 := h6
  obtain ⟨_, _, rfl, _⟩ := h2
  obtain ⟨_, _, rfl, _⟩ := h3
  obtain ⟨_, _, rfl, _⟩ := h4
  obtain ⟨_, _, rfl, _⟩ := h5
  obtain ⟨_, _, rfl, _⟩ := h6
  exact ⟨_, _, _, _, _, _, _, _, _, _, _, _, h1.cell 0, h1.cell 1, h1.cell 2, h1.cell 3, h1.cell 4, h1.cell 5, q2, q3, q4, q5, q6⟩
theorem nodes_any (p : Nat) (g : Raw) (w : World) (h : NetAt w p g) : Calls Tryd.prog 33 #[.pointer (some ⟨p, 0, none⟩)] w fun e w' => e = .returned (.int .i64 g.nodes) ∧ w' = w := by
  obtain ⟨xa, xc, ya, yc, aa, ac, oa, oc, ia, ic, on, inn, c0, c1, c2, c3, c4, c5, hx, hy, ha, ho, hi⟩ := h.cells
  clear h hx hy ha ho hi c1 c2 c3 c4 c5
  go_enter Tryd.func33, Tryd.ntmps33
  go_wp2_with fail
  go_ret
  exact ⟨rfl, rfl⟩
theorem arcs_any (p : Nat) (g : Raw) (w : World) (h : NetAt w p g) : Calls Tryd.prog 32 #[.pointer (some ⟨p, 0, none⟩)] w fun e w' => e = .returned (.int .i64 g.arcs.length) ∧ w' = w := by
  obtain ⟨xa, xc, ya, yc, aa, ac, oa, oc, ia, ic, on, inn, c0, c1, c2, c3, c4, c5, hx, hy, ha, ho, hi⟩ := h.cells
  clear h hx hy ha ho hi c0 c1 c2 c4 c5
  go_enter Tryd.func32, Tryd.ntmps32
  go_wp2_with fail
  go_ret
  exact ⟨rfl, rfl⟩
theorem nodes_nil (w : World) : Calls Tryd.prog 33 #[.pointer none] w fun e w' => e = .returned (.int .i64 0) ∧ w' = w := by
  go_enter Tryd.func33, Tryd.ntmps33
  go_wp2_with fail
  go_ret
  exact ⟨rfl, rfl⟩
theorem arcs_nil (w : World) : Calls Tryd.prog 32 #[.pointer none] w fun e w' => e = .returned (.int .i64 0) ∧ w' = w := by
  go_enter Tryd.func32, Tryd.ntmps32
  go_wp2_with fail
  go_ret
  exact ⟨rfl, rfl⟩
/-- a node's row, or none -/
def rowV (end' : Ar → Int) (g : Raw) (i : Int) : List Int := if 0 ≤ i ∧ i < (rowsOf end' g.arcs g.nodes.toNat).length then (rowsOf end' g.arcs g.nodes.toNat)[i.toNat]?.getD [] else []
theorem rowV_few (end' : Ar → Int) (g : Raw) (i : Int) (h : ∀ r ∈ rowsOf end' g.arcs g.nodes.toNat, r.length ≤ 1000000000000) : (rowV end' g i).length ≤ 1000000000000 := by
  unfold rowV
  split
  · rename_i hi
    have hn : i.toNat < (rowsOf end' g.arcs g.nodes.toNat).length := by omega
    rw [List.getElem?_eq_getElem hn]
    exact h _ (List.getElem_mem _)
  · simp
theorem out_any (p : Nat) (g : Raw) (i : Int) (w : World) (h : NetAt w p g) (hl : ∀ r ∈ rowsOf endF g.arcs g.nodes.toNat, r.length ≤ 1000000000000) : Calls Tryd.prog 34 #[.pointer (some ⟨p, 0, none⟩), .int .i64 i] w fun e w' => ∃ v', e = .returned v' ∧ w'.ownsRow w.heap.size 3 1 v' (rowV endF g i).length ((rowV endF g i).flatMap inC) ∧ Below w.heap.size w w' := by
  obtain ⟨xa, xc, ya, yc, aa, ac, oa, oc, ia, ic, on, inn, c0, c1, c2, c3, c4, c5, hx, hy, ha, ho, hi⟩ := h.cells
  have C := Lib.hid (oneR_any _ _ i w ho)
  have HL := Lib.hid (rowV_few endF g i hl)
  clear h hx hy ha ho hi hl c0 c1 c2 c3 c5
  go_enter Tryd.func34, Tryd.ntmps34
  go_wp2_with fail
  refine C.out.mono ?_
  rintro e w1 ⟨rv, rfl, hr, rfl⟩
  have C2 := Lib.hid (cloneI rv (rowV endF g i) w1 hr HL.out)
  have fr := hr.form
  obtain ⟨_, _, _, rfl⟩ := fr
  clear hr
  go_wp2_with fail
  refine C2.out.mono ?_
  rintro e w2 ⟨v', rfl, hown, hb⟩
  have HO := Lib.hid hown; have HB := Lib.hid hb
  have fv := hown.one'
  obtain ⟨_, _, _, rfl⟩ := fv
  clear hown hb
  go_wp2_with fail
  go_ret
  exact ⟨_, rfl, HO.out, HB.out⟩
theorem inn_any (p : Nat) (g : Raw) (i : Int) (w : World) (h : NetAt w p g) (hl : ∀ r ∈ rowsOf endT g.arcs g.nodes.toNat, r.length ≤ 1000000000000) : Calls Tryd.prog 35 #[.pointer (some ⟨p, 0, none⟩), .int .i64 i] w fun e w' => ∃ v', e = .returned v' ∧ w'.ownsRow w.heap.size 3 1 v' (rowV endT g i).length ((rowV endT g i).flatMap inC) ∧ Below w.heap.size w w' := by
  obtain ⟨xa, xc, ya, yc, aa, ac, oa, oc, ia, ic, on, inn, c0, c1, c2, c3, c4, c5, hx, hy, ha, ho, hi⟩ := h.cells
  have C := Lib.hid (oneR_any _ _ i w hi)
  have HL := Lib.hid (rowV_few endT g i hl)
  clear h hx hy ha ho hi hl c0 c1 c2 c3 c4
  go_enter Tryd.func35, Tryd.ntmps35
  go_wp2_with fail
  refine C.out.mono ?_
  rintro e w1 ⟨rv, rfl, hr, rfl⟩
  have C2 := Lib.hid (cloneI rv (rowV endT g i) w1 hr HL.out)
  have fr := hr.form
  obtain ⟨_, _, _, rfl⟩ := fr
  clear hr
  go_wp2_with fail
  refine C2.out.mono ?_
  rintro e w2 ⟨v', rfl, hown, hb⟩
  have HO := Lib.hid hown; have HB := Lib.hid hb
  have fv := hown.one'
  obtain ⟨_, _, _, rfl⟩ := fv
  clear hown hb
  go_wp2_with fail
  go_ret
  exact ⟨_, rfl, HO.out, HB.out⟩
theorem out_nil (i : Int) (w : World) : Calls Tryd.prog 34 #[.pointer none, .int .i64 i] w fun e w' => e = .returned (.slice none 0 0) ∧ w' = w := by
  go_enter Tryd.func34, Tryd.ntmps34
  go_wp2_with fail
  go_ret
  exact ⟨rfl, rfl⟩
theorem inn_nil (i : Int) (w : World) : Calls Tryd.prog 35 #[.pointer none, .int .i64 i] w fun e w' => e = .returned (.slice none 0 0) ∧ w' = w := by
  go_enter Tryd.func35, Tryd.ntmps35
  go_wp2_with fail
  go_ret
  exact ⟨rfl, rfl⟩
theorem arc_any (p : Nat) (g : Raw) (i : Int) (w : World) (h : NetAt w p g) : Calls Tryd.prog 36 #[.pointer (some ⟨p, 0, none⟩), .int .i64 i] w fun e w' => e = .returned (.tuple #[arV (if 0 ≤ i ∧ i < g.arcs.length then g.arcs[i.toNat]?.getD (0, 0, 0) else (0, 0, 0)), .bool (decide (0 ≤ i ∧ i < g.arcs.length))]) ∧ Below w.heap.size w w' := by
  obtain ⟨xa, xc, ya, yc, aa, ac, oa, oc, ia, ic, on, inn, c0, c1, c2, c3, c4, c5, hx, hy, ha, ho, hi⟩ := h.cells
  obtain ⟨w1, hw1⟩ : ∃ w1, w1 = w.alloc (.cells #[.int .i64 0, .int .i64 0, .int .i64 0] 54) := ⟨_, rfl⟩
  have hb1 : Below w.heap.size w w1 := by rw [hw1]; exact (Below.refl _ _).alloc (Nat.le_refl _) _
  have hbk : Blk w1 w.heap.size #[.int .i64 0, .int .i64 0, .int .i64 0] 54 (0, 0) := by rw [hw1]; exact Blk.new _ _ _ _
  have C := Lib.hid (oneA_any _ _ i w1 (ha.keep (KpC.of_below hb1)))
  obtain ⟨x, hx'⟩ : ∃ x, x = (if 0 ≤ i ∧ i < g.arcs.length then g.arcs[i.toNat]?.getD (0, 0, 0) else (0, 0, 0)) := ⟨_, rfl⟩
  obtain ⟨q, hq⟩ : ∃ q, q = decide (0 ≤ i ∧ i < (g.arcs.length : Int)) := ⟨_, rfl⟩
  rw [← hx', ← hq] at C ⊢
  obtain ⟨x0, x1, x2⟩ := x
  change Hid (Calls _ _ _ _ fun e w' => e = .returned (.tuple #[.agg #[.int .i64 x0, .int .i64 x1, .int .i64 x2], .bool q]) ∧ Below w1.heap.size w1 w') at C
  obtain ⟨B, hB⟩ : ∃ b, b = w.heap.size := ⟨_, rfl⟩
  rw [← hB] at hbk
  have e3 := cell_later ((Below.refl w.heap.size w).alloc (Nat.le_refl _) (.cells #[.int .i64 0, .int .i64 0, .int .i64 0] 54)) c3
  have H1 := Lib.hid hb1; have HK := Lib.hid hbk; have HW1 := Lib.hid hw1; have HBe := Lib.hid hB
  clear h hx hy ha ho hi hb1 hbk hw1 hx' hq c0 c1 c2 c4 c5
  go_enter Tryd.func36, Tryd.ntmps36
  go_wp2_with fail
  rw [← HW1.out, ← hB]
  clear hB
  refine C.out.mono ?_
  rintro e w2 ⟨rfl, hb2⟩
  have k2 := HK.out.below hb2 HK.out.lt
  have f0 := k2.free 0 (Or.inr (Nat.zero_le _)); have f1 := k2.free 1 (Or.inr (Nat.zero_le _)); have f2 := k2.free 2 (Or.inr (Nat.zero_le _))
  have d0 := k2.cell 0; have d1 := k2.cell 1; have d2 := k2.cell 2
  simp only [List.getElem?_toArray, List.getElem?_cons_succ, List.getElem?_cons_zero] at d0 d1 d2
  have hle : w.heap.size ≤ B := by have := HBe.out; omega
  have HF := Lib.hid (((((H1.out.next' hb2).setCell (p := ⟨B, 0, none⟩) hle (.int .i64 x0)).setCell (p := ⟨B, 1, none⟩) hle (.int .i64 x1))).setCell (p := ⟨B, 2, none⟩) hle (.int .i64 x2))
  have HK2 := Lib.hid k2
  clear hb2 k2 hle
  go_wp2_with fail
  have z0 := HK2.out.set 0 (.int .i64 x0)
  have z1 := z0.set 1 (.int .i64 x1)
  have z2 := z1.set 2 (.int .i64 x2)
  have r0 := z0.cell 0; have r1 := z1.cell 1; have r2 := z2.cell 2
  simp at r0 r1 r2
  exact bodyPost_ret (v := .tuple #[.agg #[.int .i64 x0, .int .i64 x1, .int .i64 x2], .bool q]) (by simp [results, Tryd.results36, go_sem, r0, r1, r2]) rfl ⟨rfl, HF.out⟩
theorem arc_nil (i : Int) (w : World) : Calls Tryd.prog 36 #[.pointer none, .int .i64 i] w fun e w' => e = .returned (.tuple #[arV (0, 0, 0), .bool false]) ∧ Below w.heap.size w w' := by
  go_enter Tryd.func36, Tryd.ntmps36
  go_wp2_with fail
  exact bodyPost_ret (v := .tuple #[.agg #[.int .i64 0, .int .i64 0, .int .i64 0], .bool false]) (by simp [results, Tryd.results36, go_sem]) rfl ⟨rfl, (Below.refl _ _).alloc (Nat.le_refl _) _⟩
def atI (L : List Int) (i : Int) : Int := if 0 ≤ i ∧ i < L.length then L[i.toNat]?.getD 0 else 0
theorem place_any (p : Nat) (g : Raw) (i : Int) (w : World) (h : NetAt w p g) : Calls Tryd.prog 44 #[.pointer (some ⟨p, 0, none⟩), .int .i64 i] w fun e w' => e = .returned (.tuple #[.int .i64 (atI g.X i), .int .i64 (atI g.Y i), .bool (decide (0 ≤ i ∧ i < g.Y.length))]) ∧ w' = w := by
  obtain ⟨xa, xc, ya, yc, aa, ac, oa, oc, ia, ic, on, inn, c0, c1, c2, c3, c4, c5, hx, hy, ha, ho, hi⟩ := h.cells
  have C := Lib.hid (oneX_any _ _ i w hx)
  have D := Lib.hid (oneX_any _ _ i w hy)
  obtain ⟨x, hx'⟩ : ∃ x, x = atI g.X i := ⟨_, rfl⟩
  obtain ⟨y, hy'⟩ : ∃ y, y = atI g.Y i := ⟨_, rfl⟩
  obtain ⟨q, hq⟩ : ∃ q, q = decide (0 ≤ i ∧ i < (g.Y.length : Int)) := ⟨_, rfl⟩
  obtain ⟨q2, hq2⟩ : ∃ q, q = decide (0 ≤ i ∧ i < (g.X.length : Int)) := ⟨_, rfl⟩
  change Hid (Calls _ _ _ _ fun e w' => e = .returned (.tuple #[.int .i64 (atI g.X i), _]) ∧ w' = w) at C
  change Hid (Calls _ _ _ _ fun e w' => e = .returned (.tuple #[.int .i64 (atI g.Y i), _]) ∧ w' = w) at D
  rw [← hx', ← hq2] at C
  rw [← hy', ← hq] at D
  rw [← hx', ← hy', ← hq]
  clear h hx hy ha ho hi c0 c3 c4 c5 hx' hy' hq hq2
  go_enter Tryd.func44, Tryd.ntmps44
  go_wp2_with fail
  refine C.out.mono ?_
  rintro e w2 ⟨rfl, rfl⟩
  go_wp2_with fail
  refine D.out.mono ?_
  rintro e w3 ⟨rfl, rfl⟩
  go_wp2_with fail
  go_ret3
  exact ⟨rfl, rfl⟩
theorem place_nil (i : Int) (w : World) : Calls Tryd.prog 44 #[.pointer none, .int .i64 i] w fun e w' => e = .returned (.tuple #[.int .i64 0, .int .i64 0, .bool false]) ∧ w' = w := by
  go_enter Tryd.func44, Tryd.ntmps44
  go_wp2_with fail
  go_ret3
  exact ⟨rfl, rfl⟩
end Go.Proofs.YtnkcmlngoeofgaaDoor
