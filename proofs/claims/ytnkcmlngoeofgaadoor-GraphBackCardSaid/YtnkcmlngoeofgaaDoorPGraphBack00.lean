/- Texts of the law GraphBack, merged: GrFewW. -/
import Derived.Test.YtnkcmlngoeofgaaDoorPGraphFirst15
/- the graph laws' few, once more: what it answers lies where its argument lay. -/
namespace Go.Proofs.YtnkcmlngoeofgaaDoor
open Go.RowKit
set_option maxRecDepth 100000 in
set_option maxHeartbeats 8000000 in
theorem few_anyW (v : Value) (r : Raw) (w : World) (h : RawV w v r) : Calls Tryd.prog 14 #[v] w fun e w' => ∃ v', e = .returned v' ∧ (∀ u, RawV u v r → RawV u v' (fewR r)) ∧ Below w.heap.size w w' := by
  obtain ⟨vx, vy, va, rfl, hx, hy, ha⟩ := h
  obtain ⟨xa, xc, rfl, hxc, hxm, _⟩ := id hx
  obtain ⟨ya, yc, rfl, hyc, hym, _⟩ := id hy
  obtain ⟨za, zc, rfl, hzc, hzm, _⟩ := id ha
  unfold maxLen at hxm hym hzm
  obtain ⟨B1, hB1⟩ : ∃ b, b = w.heap.size := ⟨_, rfl⟩
  obtain ⟨B2, hB2⟩ : ∃ b, b = w.heap.size + 1 := ⟨_, rfl⟩
  obtain ⟨w1, hw1⟩ : ∃ u, u = (w.alloc (.cells #[.int .i64 r.nodes, .slice xa r.X.length xc, .slice ya r.Y.length yc, .slice za r.arcs.length zc] 25)).alloc (.cells #[.int .i64 0, .slice none 0 0, .slice none 0 0, .slice none 0 0] 25) := ⟨_, rfl⟩
  have hb1 : Below w.heap.size w w1 := by rw [hw1]; exact ((Below.refl _ _).alloc (Nat.le_refl _) _).alloc (by simp) _
  have K1 : Blk w1 B1 #[.int .i64 r.nodes, .slice xa r.X.length xc, .slice ya r.Y.length yc, .slice za r.arcs.length zc] 25 (0, 0) := by rw [hw1, hB1]; exact (Blk.new _ _ _ _).alloc _
  have K2 : Blk w1 B2 #[.int .i64 0, .slice none 0 0, .slice none 0 0, .slice none 0 0] 25 (0, 0) := by
    rw [hw1, hB2]
    have h := Blk.new (w.alloc (.cells #[.int .i64 r.nodes, .slice xa r.X.length xc, .slice ya r.Y.length yc, .slice za r.arcs.length zc] 25)) #[.int .i64 0, .slice none 0 0, .slice none 0 0, .slice none 0 0] 25 (0, 0)
    rwa [World.size_alloc] at h
  have hne : B2 ≠ B1 := by omega
  have hle1 : w.heap.size ≤ B1 := by omega
  have hle2 : w.heap.size ≤ B2 := by omega
  have HC := Lib.hid (And.intro hne (And.intro hle1 hle2))
  have HB := Lib.hid hb1; have HK1 := Lib.hid K1; have HK2 := Lib.hid K2; have HW1 := Lib.hid hw1; have HE1 := Lib.hid hB1; have HE2 := Lib.hid hB2
  have g1 : (if (40 : Int) < (r.X.length : Int) then (40 : Int) else (r.X.length : Int)) = ((min r.X.length 40 : Nat) : Int) := by split <;> omega
  have g2 : (if (40 : Int) < (r.Y.length : Int) then (40 : Int) else (r.Y.length : Int)) = ((min r.Y.length 40 : Nat) : Int) := by split <;> omega
  have g3 : (if (60 : Int) < (r.arcs.length : Int) then (60 : Int) else (r.arcs.length : Int)) = ((min r.arcs.length 60 : Nat) : Int) := by split <;> omega
  have i1 : ((min r.X.length 40 : Nat) : Int) ≤ (xc : Int) := by omega
  have i2 : ((min r.Y.length 40 : Nat) : Int) ≤ (yc : Int) := by omega
  have i3 : ((min r.arcs.length 60 : Nat) : Int) ≤ (zc : Int) := by omega
  have j1 : min r.X.length 40 ≤ xc := by omega
  have j2 : min r.Y.length 40 ≤ yc := by omega
  have j3 : min r.arcs.length 60 ≤ zc := by omega
  clear hx hy ha hb1 K1 K2 hw1 hne hle1 hle2
  go_enter Tryd.func14, Tryd.ntmps14
  go_upto_region 1 with fail
  rw [← HW1.out, ← HE2.out, ← HE1.out]
  clear hB1 hB2 HW1 HE1 HE2
  have c := HK1.out.cell 1; have f := HK1.out.free 1 (Or.inr (Nat.zero_le _))
  change w1.cell? ⟨B1, 1, none⟩ = some (.slice xa r.X.length xc) at c
  go_upto_region 2 with fail
  have K1 := HK1.out.set 1 (.slice xa (min r.X.length 40) xc)
  have K2 := HK2.out.setOther ⟨B1, 1, none⟩ (.slice xa (min r.X.length 40) xc) HC.out.1
  have hb := HB.out.setCell (p := ⟨B1, 1, none⟩) HC.out.2.1 (.slice xa (min r.X.length 40) xc)
  have HK1' := Lib.hid K1; have HK2' := Lib.hid K2; have HB' := Lib.hid hb
  clear c f K1 K2 hb HK1 HK2 HB
  generalize w1.setCell ⟨B1, 1, none⟩ (.slice xa (min r.X.length 40) xc) = w2 at *
  have c := HK1'.out.cell 2; have f := HK1'.out.free 2 (Or.inr (Nat.zero_le _))
  change w2.cell? ⟨B1, 2, none⟩ = some (.slice ya r.Y.length yc) at c
  go_upto_region 3 with fail
  have K1 := HK1'.out.set 2 (.slice ya (min r.Y.length 40) yc)
  have K2 := HK2'.out.setOther ⟨B1, 2, none⟩ (.slice ya (min r.Y.length 40) yc) HC.out.1
  have hb := HB'.out.setCell (p := ⟨B1, 2, none⟩) HC.out.2.1 (.slice ya (min r.Y.length 40) yc)
  have HK1 := Lib.hid K1; have HK2 := Lib.hid K2; have HB := Lib.hid hb
  clear c f K1 K2 hb HK1' HK2' HB'
  generalize w2.setCell ⟨B1, 2, none⟩ (.slice ya (min r.Y.length 40) yc) = w3 at *
  have c := HK1.out.cell 3; have f := HK1.out.free 3 (Or.inr (Nat.zero_le _))
  change w3.cell? ⟨B1, 3, none⟩ = some (.slice za r.arcs.length zc) at c
  go_upto_region 4 with fail
  have K1 := HK1.out.set 3 (.slice za (min r.arcs.length 60) zc)
  have K2 := HK2.out.setOther ⟨B1, 3, none⟩ (.slice za (min r.arcs.length 60) zc) HC.out.1
  have hb := HB.out.setCell (p := ⟨B1, 3, none⟩) HC.out.2.1 (.slice za (min r.arcs.length 60) zc)
  have HK1' := Lib.hid K1; have HK2' := Lib.hid K2; have HB' := Lib.hid hb
  clear c f K1 K2 hb HK1 HK2 HB
  generalize w3.setCell ⟨B1, 3, none⟩ (.slice za (min r.arcs.length 60) zc) = w4 at *
  have c0 := HK1'.out.cell 0; have c1 := HK1'.out.cell 1; have c2 := HK1'.out.cell 2; have c3 := HK1'.out.cell 3
  change w4.cell? ⟨B1, 0, none⟩ = some (.int .i64 r.nodes) at c0
  change w4.cell? ⟨B1, 1, none⟩ = some (.slice xa (min r.X.length 40) xc) at c1
  change w4.cell? ⟨B1, 2, none⟩ = some (.slice ya (min r.Y.length 40) yc) at c2
  change w4.cell? ⟨B1, 3, none⟩ = some (.slice za (min r.arcs.length 60) zc) at c3
  have e0 := HK2'.out.cell 0; have e1 := HK2'.out.cell 1; have e2 := HK2'.out.cell 2; have e3 := HK2'.out.cell 3
  change w4.cell? ⟨B2, 0, none⟩ = some (.int .i64 0) at e0
  change w4.cell? ⟨B2, 1, none⟩ = some (.slice none 0 0) at e1
  change w4.cell? ⟨B2, 2, none⟩ = some (.slice none 0 0) at e2
  change w4.cell? ⟨B2, 3, none⟩ = some (.slice none 0 0) at e3
  have fr := fun i => HK2'.out.free i (Or.inr (Nat.zero_le _))
  have f0 := fr 0; have f1 := fr 1; have f2 := fr 2; have f3 := fr 3
  have bZ := (((HK2'.out.set 0 (.int .i64 r.nodes)).set 1 (.slice xa (min r.X.length 40) xc)).set 2 (.slice ya (min r.Y.length 40) yc)).set 3 (.slice za (min r.arcs.length 60) zc)
  have hbz := (((HB'.out.setCell (p := ⟨B2, 0, none⟩) HC.out.2.2 (.int .i64 r.nodes)).setCell (p := ⟨B2, 1, none⟩) HC.out.2.2 (.slice xa (min r.X.length 40) xc)).setCell (p := ⟨B2, 2, none⟩) HC.out.2.2 (.slice ya (min r.Y.length 40) yc)).setCell (p := ⟨B2, 3, none⟩) HC.out.2.2 (.slice za (min r.arcs.length 60) zc)
  have HZ := Lib.hid bZ; have HBz := Lib.hid hbz
  clear bZ hbz fr HK1' HK2' HB'
  go_wp2_with fail
  generalize (((w4.setCell ⟨B2, 0, none⟩ (.int .i64 r.nodes)).setCell ⟨B2, 1, none⟩ (.slice xa (min r.X.length 40) xc)).setCell ⟨B2, 2, none⟩ (.slice ya (min r.Y.length 40) yc)).setCell ⟨B2, 3, none⟩ (.slice za (min r.arcs.length 60) zc) = wz at *
  have z0 := HZ.out.cell 0; have z1 := HZ.out.cell 1; have z2 := HZ.out.cell 2; have z3 := HZ.out.cell 3
  change wz.cell? ⟨B2, 0, none⟩ = some (.int .i64 r.nodes) at z0
  change wz.cell? ⟨B2, 1, none⟩ = some (.slice xa (min r.X.length 40) xc) at z1
  change wz.cell? ⟨B2, 2, none⟩ = some (.slice ya (min r.Y.length 40) yc) at z2
  change wz.cell? ⟨B2, 3, none⟩ = some (.slice za (min r.arcs.length 60) zc) at z3
  exact bodyPost_ret (v := .agg #[.int .i64 r.nodes, .slice xa (min r.X.length 40) xc, .slice ya (min r.Y.length 40) yc, .slice za (min r.arcs.length 60) zc]) (by simp [results, Tryd.results14, go_sem, z0, z1, z2, z3]) rfl ⟨_, rfl, fun u hu => (by obtain ⟨_, _, _, e, h1, h2, h3⟩ := hu; cases e; exact ⟨_, _, _, rfl, h1.cut _ (by omega), h2.cut _ (by omega), h3.cut _ (by omega)⟩), HBz.out⟩
end Go.Proofs.YtnkcmlngoeofgaaDoor
