/- Texts of the law GraphFirst, merged: NetDrawn. -/
import Derived.Test.YtnkcmlngoeofgaaDoorPGraphFirst12
/- the net laws' drawn: a graph that may be. -/
namespace Go.Proofs.YtnkcmlngoeofgaaDoor
open Go.RowKit
set_option maxRecDepth 100000 in
set_option maxHeartbeats 4000000 in
theorem drawn7_any (v : Value) (l : List Int) (w : World) (h : SlI w v .u8 l) :
    Calls Tryd.prog 30 #[v] w fun e w' => ∃ v' g, e = .returned v' ∧ RawO w.heap.size w' v' g ∧ g.Ok ∧ (g.nodes ≤ 12 ∧ g.arcs.length ≤ 84) ∧ Below w.heap.size w w' := by
  obtain ⟨a, cap, rfl, h1, h2, h3⟩ := h
  unfold maxLen at h2
  obtain ⟨m, hm⟩ : ∃ m : Nat, m = min l.length 60 := ⟨_, rfl⟩
  have f1 : (if (60 : Int) < (l.length : Int) then (60 : Int) else (l.length : Int)) = (m : Int) := by split <;> omega
  have hm1 : m ≤ cap := by omega
  have hm2 : (m : Int) ≤ (cap : Int) := by omega
  have hm0 : (0 : Int) ≤ (m : Int) := by omega
  obtain ⟨B2, hB2⟩ : ∃ b, b = w.heap.size := ⟨_, rfl⟩
  obtain ⟨p, hp⟩ : ∃ b, b = w.heap.size + 1 := ⟨_, rfl⟩
  obtain ⟨w1, hw1⟩ : ∃ w1, w1 = (w.alloc (.cells #[.int .i64 0, .slice none 0 0, .slice none 0 0, .slice none 0 0] 25)).alloc (.cells #[.slice a m cap, .int .i64 0] 92) := ⟨_, rfl⟩
  have hb1 : Below w.heap.size w w1 := by rw [hw1]; exact ((Below.refl _ _).alloc (Nat.le_refl _) _).alloc (by simp) _
  have K2 : Blk w1 B2 #[.int .i64 0, .slice none 0 0, .slice none 0 0, .slice none 0 0] 25 (0, 0) := by rw [hw1, hB2]; exact (Blk.new _ _ _ _).alloc _
  have Kp : Blk w1 p #[.slice a m cap, .int .i64 0] 92 (0, 0) := by
    rw [hw1, hp]
    have h := Blk.new (w.alloc (.cells #[.int .i64 0, .slice none 0 0, .slice none 0 0, .slice none 0 0] 25)) #[.slice a m cap, .int .i64 0] 92 (0, 0)
    rwa [World.size_alloc] at h
  have htl : (l.take m).length = m := by rw [List.length_take]; omega
  have hD : DrS w1 p ⟨w.heap.size, a, cap, l.take m⟩ 0 := by
    refine ⟨by dsimp only; rw [htl]; exact Kp, by dsimp only; omega, by omega, fun i hi => ?_⟩
    dsimp only at hi ⊢
    obtain ⟨b, off, ha, hc⟩ := h3 i (by omega)
    have hlt := block_lt_of_cell hc
    refine ⟨b, off, ha, by have := hlt; dsimp only at this; omega, hlt, ?_⟩
    rw [List.getElem_take]
    exact (World.cell?_of_block (hb1.block b hlt)).trans hc
  have C := Lib.hid (rawD_any p ⟨w.heap.size, a, cap, l.take m⟩ w1 hD hb1.size)
  have HB1 := Lib.hid hb1; have HK2 := Lib.hid K2; have HW1 := Lib.hid hw1; have HB2 := Lib.hid hB2; have HP := Lib.hid hp; have HM := Lib.hid hm
  clear hb1 K2 Kp hw1 hB2 hp htl hD h3
  go_enter Tryd.func30, Tryd.ntmps30
  go_wp2_with fail
  rw [← HM.out, ← HW1.out, ← HP.out, ← HB2.out]
  clear hm f1 hm1 hm2 hm0
  refine C.out.mono ?_
  rintro e w2 ⟨v, g, rfl, ⟨vx, vy, va, rfl, o1, o2, o3, o4⟩, hok, hgl, hkk⟩
  have fx := ownForm o1; have fy := ownForm o2; have fa := ownForm o3
  obtain ⟨xa, xc, rfl, _⟩ := fx
  obtain ⟨ya, yc, rfl, _⟩ := fy
  obtain ⟨za, zc, rfl, _⟩ := fa
  have hB2e := HB2.out; have hPe := HP.out
  have bC3 := hkk.blk HK2.out (by omega)
  have e0 := bC3.cell 0; have e1 := bC3.cell 1; have e2 := bC3.cell 2; have e3 := bC3.cell 3
  change w2.cell? ⟨B2, 0, none⟩ = some (.int .i64 0) at e0
  change w2.cell? ⟨B2, 1, none⟩ = some (.slice none 0 0) at e1
  change w2.cell? ⟨B2, 2, none⟩ = some (.slice none 0 0) at e2
  change w2.cell? ⟨B2, 3, none⟩ = some (.slice none 0 0) at e3
  have fr := fun i => bC3.free i (Or.inr (Nat.zero_le _))
  have f0 := fr 0; have f1 := fr 1; have f2 := fr 2; have f3 := fr 3
  have bZ := (((bC3.set 0 (.int .i64 g.nodes)).set 1 (.slice xa g.X.length xc)).set 2 (.slice ya g.Y.length yc)).set 3 (.slice za g.arcs.length zc)
  have hO : Own3 w1.heap.size w2 (.slice xa g.X.length xc) (.slice ya g.Y.length yc) (.slice za g.arcs.length zc) g := ⟨o1, o2, o3, o4⟩
  have R2 := (((hO.set (p := ⟨B2, 0, none⟩) bC3 (by decide) (by decide) (.int .i64 g.nodes)).set (p := ⟨B2, 1, none⟩) (bC3.set 0 (.int .i64 g.nodes)) (by decide) (by decide) (.slice xa g.X.length xc)).set (p := ⟨B2, 2, none⟩) ((bC3.set 0 (.int .i64 g.nodes)).set 1 (.slice xa g.X.length xc)) (by decide) (by decide) (.slice ya g.Y.length yc)).set (p := ⟨B2, 3, none⟩) (((bC3.set 0 (.int .i64 g.nodes)).set 1 (.slice xa g.X.length xc)).set 2 (.slice ya g.Y.length yc)) (by decide) (by decide) (.slice za g.arcs.length zc)
  have hle : w.heap.size ≤ B2 := by omega
  have hb2 : Below w.heap.size w w2 := below_of HB1.out hkk (by omega)
  have KZ := (((hb2.setCell (p := ⟨B2, 0, none⟩) hle (.int .i64 g.nodes)).setCell (p := ⟨B2, 1, none⟩) hle (.slice xa g.X.length xc)).setCell (p := ⟨B2, 2, none⟩) hle (.slice ya g.Y.length yc)).setCell (p := ⟨B2, 3, none⟩) hle (.slice za g.arcs.length zc)
  have hbase : w.heap.size ≤ w1.heap.size := HB1.out.size
  have HZ := Lib.hid bZ; have HR2 := Lib.hid R2; have HKZ := Lib.hid KZ; have HOk := Lib.hid hok; have HGl := Lib.hid hgl
  clear bZ R2 KZ bC3 fr hle hkk hO o1 o2 o3 o4 hok hgl hb2 C hB2e hPe
  go_wp2_with fail
  generalize (((w2.setCell ⟨B2, 0, none⟩ (.int .i64 g.nodes)).setCell ⟨B2, 1, none⟩ (.slice xa g.X.length xc)).setCell ⟨B2, 2, none⟩ (.slice ya g.Y.length yc)).setCell ⟨B2, 3, none⟩ (.slice za g.arcs.length zc) = wz at *
  have z0 := HZ.out.cell 0; have z1 := HZ.out.cell 1; have z2 := HZ.out.cell 2; have z3 := HZ.out.cell 3
  change wz.cell? ⟨B2, 0, none⟩ = some (.int .i64 g.nodes) at z0
  change wz.cell? ⟨B2, 1, none⟩ = some (.slice xa g.X.length xc) at z1
  change wz.cell? ⟨B2, 2, none⟩ = some (.slice ya g.Y.length yc) at z2
  change wz.cell? ⟨B2, 3, none⟩ = some (.slice za g.arcs.length zc) at z3
  exact bodyPost_ret (v := .agg #[.int .i64 g.nodes, .slice xa g.X.length xc, .slice ya g.Y.length yc, .slice za g.arcs.length zc]) (by simp [results, Tryd.results30, go_sem, z0, z1, z2, z3]) rfl ⟨_, g, rfl, ⟨_, _, _, rfl, ownsRow_le HR2.out.1 hbase, ownsRow_le HR2.out.2.1 hbase, ownsRow_le HR2.out.2.2.1 hbase, HR2.out.2.2.2⟩, HOk.out, HGl.out, HKZ.out⟩
end Go.Proofs.YtnkcmlngoeofgaaDoor
