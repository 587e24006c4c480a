/- Texts of the law NetWrong, merged: NetWrong. -/
import Derived.Test.YtnkcmlngoeofgaaDoorPNetWrong00
import Derived.Deep.CutBlock
import Derived.Deep.Cut
import Derived.Deep.CutRange
/- NetWrong, its walk. -/
namespace Go.Proofs.YtnkcmlngoeofgaaDoor
open Go.RowKit
set_option maxRecDepth 100000 in
theorem fault_neq (c0 c1 c2 c3 : Int) (w : World) : (binOp .neq 47 (.agg #[.int .i64 c0, .int .i64 c1, .int .i64 c2, .int .i64 c3]) (.agg #[.int .i64 c0, .int .i64 c1, .int .i64 c2, .int .i64 c3])).run Tryd.prog w = .ok (.bool false) w := by
  rw [run_neq_struct, show (10000 : Nat) = 9999 + 1 from rfl, run_equalIn_agg w 9999 47 _ _ (by kernel_rfl) (by kernel_rfl)]
  simp [go_sem, Result.andThen]
set_option maxRecDepth 100000 in
set_option maxHeartbeats 32000000 in
theorem netWrong_any (v vr : Value) (l : List Int) (x0 x1 x2 : Int) (r : Raw) (w : World) (h : SlI w v .u8 l) (hr : RawV w vr r) (hg : HG w) : Calls Tryd.prog 9 #[v, .agg #[.int .i64 x0, .int .i64 x1, .int .i64 x2], vr] w fun e w' => e = .returned (.bool true) ∧ Below w.heap.size w w' := by
  have HSl := Lib.hid h
  have HG0 := Lib.hid hg
  have HVr := Lib.hid hr
  obtain ⟨rx, ry, rz, rfl, hx, hy, ha⟩ := hr
  obtain ⟨rxa, rxc, rfl, hxc, hxm, _⟩ := id hx
  obtain ⟨rya, ryc, rfl, hyc, hym, _⟩ := id hy
  obtain ⟨rza, rzc, rfl, hzc, hzm, _⟩ := id ha
  unfold maxLen at hxm hym hzm
  have HZa := Lib.hid ha; have HXa := Lib.hid hx; have HYa := Lib.hid hy
  obtain ⟨B4, hB4⟩ : ∃ b, b = w.heap.size := ⟨_, rfl⟩
  obtain ⟨B5, hB5⟩ : ∃ b, b = w.heap.size + 1 := ⟨_, rfl⟩
  obtain ⟨w1, hw1⟩ : ∃ u, u = (w.alloc (.cells #[.int .i64 x0, .int .i64 x1, .int .i64 x2] 71)).alloc (.cells #[.int .i64 r.nodes, .slice rxa r.X.length rxc, .slice rya r.Y.length ryc, .slice rza r.arcs.length rzc] 25) := ⟨_, rfl⟩
  have hb1 : Below w.heap.size w w1 := by rw [hw1]; exact ((Below.refl _ _).alloc (Nat.le_refl _) _).alloc (by simp) _
  have K4 : Blk w1 B4 #[.int .i64 x0, .int .i64 x1, .int .i64 x2] 71 (0, 0) := by rw [hw1, hB4]; exact (Blk.new _ _ _ _).alloc _
  have K5 : Blk w1 B5 #[.int .i64 r.nodes, .slice rxa r.X.length rxc, .slice rya r.Y.length ryc, .slice rza r.arcs.length rzc] 25 (0, 0) := by
    rw [hw1, hB5]
    have h := Blk.new (w.alloc (.cells #[.int .i64 x0, .int .i64 x1, .int .i64 x2] 71)) #[.int .i64 r.nodes, .slice rxa r.X.length rxc, .slice rya r.Y.length ryc, .slice rza r.arcs.length rzc] 25 (0, 0)
    rwa [World.size_alloc] at h
  have HB1 := Lib.hid hb1; have HK4 := Lib.hid K4; have HK5 := Lib.hid K5; have HW1 := Lib.hid hw1; have HE4 := Lib.hid hB4; have HE5 := Lib.hid hB5
  clear h hg hx hy ha hb1 K4 K5 hw1
  go_enter Tryd.func9, Tryd.ntmps9
  go_wp2_with fail
  rw [← HW1.out, ← HE5.out, ← HE4.out]
  clear hB4 hB5 HW1
  go_wp2_with fail
  refine (drawn7_any v l w1 (HSl.out.below HB1.out)).mono ?_
  rintro e w2 ⟨vg, g, rfl, hraw, hok, hgl, hb2⟩
  have HB2 := Lib.hid hb2
  have C := Lib.hid (copy7_any vg g w2 hraw.raw hok.few)
  obtain ⟨_, _, _, rfl, _⟩ := id hraw.raw
  have HOk := Lib.hid hok; have HGl := Lib.hid hgl
  clear hraw hb2 hok hgl
  go_wp2_with fail
  refine C.out.mono ?_
  rintro e w3 ⟨vc, rfl, ⟨cx, cy, ca, rfl, o1, o2, o3, o4⟩, hb3⟩
  obtain ⟨cxa, cxc, rfl, hcx⟩ := ownForm o1
  obtain ⟨cya, cyc, rfl, hcy⟩ := ownForm o2
  obtain ⟨cza, czc, rfl, _⟩ := ownForm o3
  obtain ⟨B7, hB7⟩ : ∃ b, b = w3.heap.size := ⟨_, rfl⟩
  obtain ⟨w4, hw4⟩ : ∃ u, u = w3.alloc (.cells #[.int .i64 g.nodes, .slice cxa g.X.length cxc, .slice cya g.Y.length cyc, .slice cza g.arcs.length czc] 25) := ⟨_, rfl⟩
  have hb4 : Below w3.heap.size w3 w4 := by rw [hw4]; exact (Below.refl _ _).alloc (Nat.le_refl _) _
  have K7 : Blk w4 B7 #[.int .i64 g.nodes, .slice cxa g.X.length cxc, .slice cya g.Y.length cyc, .slice cza g.arcs.length czc] 25 (0, 0) := by rw [hw4, hB7]; exact Blk.new _ _ _ _
  have hb24 := hb3.next' hb4
  have hI : OutI w2 B7 (.slice cxa g.X.length cxc) (.slice cya g.Y.length cyc) (.slice cza g.arcs.length czc) g w4 := ⟨K7, Own3.below ⟨o1, o2, o3, o4⟩ hb4, ⟨hb24.os, hb24.tape, hb24.output, hb24.size, fun k hk _ => hb24.block k hk⟩⟩
  have HI := Lib.hid hI
  have HB7 := Lib.hid (show w2.heap.size ≤ B7 by rw [hB7]; exact hb3.size)
  have HW4 := Lib.hid hw4; have HE7 := Lib.hid hB7
  have k4 := ((HK4.out.below HB2.out HK4.out.lt).below hb24 (HK4.out.below HB2.out HK4.out.lt).lt)
  have d0 := k4.cell 0; have d1 := k4.cell 1; have d2 := k4.cell 2
  simp only [List.getElem?_toArray, List.getElem?_cons_succ, List.getElem?_cons_zero] at d0 d1 d2
  rw [hw4] at d0 d1 d2
  obtain ⟨u0, hu0⟩ : ∃ u, u = x0 % 18446744073709551616 := ⟨_, rfl⟩
  have e0 : IntKind.u64.wrap x0 = u0 := by rw [hu0]; show x0 % 18446744073709551616 = _; rfl
  obtain ⟨at_, hat⟩ : ∃ m : Nat, (m : Int) = u0 % 1000 := ⟨(u0 % 1000).toNat, by omega⟩
  have hu0b : 0 ≤ u0 := by omega
  have r0 : u0.tmod 1000 = (at_ : Int) := by rw [hat, Int.tmod_eq_emod_of_nonneg hu0b]
  have r0' : u0 % 1000 = (at_ : Int) := hat.symm
  have hatb : at_ < 1000 := by omega
  have w0' : IntKind.u64.wrap (at_ : Int) = (at_ : Int) := by show (at_ : Int) % 18446744073709551616 = _; omega
  have w0i : IntKind.i64.wrap (at_ : Int) = (at_ : Int) := wrap_small _ (by omega) (by omega)
  have hn12 := HGl.out.1
  have hXl : g.X.length = g.Y.length := by have := HOk.out.lenX; have := HOk.out.lenY; omega
  have hXb : 1 ≤ g.Y.length ∧ g.Y.length ≤ 12 := by have := HOk.out.nodes; have := HOk.out.lenY; omega
  have hXb2 : g.X.length ≤ 12 := by omega
  have HXl := Lib.hid hXl
  clear hI o1 o2 o3 o4 hb3 hb4 K7 hb24 k4 hB7 hw4 C hu0 hat hu0b hn12 hXl
  go_upto_block 0 with fail
  rw [← HW4.out, ← HE7.out]
  clear d0 d1 d2 HW4 HE7
  generalize bits .and .i64 x1 7 = y
  have k4 := ((HK4.out.below HB2.out HK4.out.lt).below (HI.out.kept.below (Nat.le_refl _) (fun k h => by subst h; exact HB7.out)) (HK4.out.below HB2.out HK4.out.lt).lt)
  have d2 := k4.cell 2
  simp only [List.getElem?_toArray, List.getElem?_cons_succ, List.getElem?_cons_zero] at d2
  have o0 := HI.out.blk.cell 0; have o1 := HI.out.blk.cell 1; have o2 := HI.out.blk.cell 2; have o3 := HI.out.blk.cell 3
  change w4.cell? ⟨B7, 0, none⟩ = some (.int .i64 g.nodes) at o0
  change w4.cell? ⟨B7, 1, none⟩ = some (.slice cxa g.X.length cxc) at o1
  change w4.cell? ⟨B7, 2, none⟩ = some (.slice cya g.Y.length cyc) at o2
  change w4.cell? ⟨B7, 3, none⟩ = some (.slice cza g.arcs.length czc) at o3
  have fr := fun i => HI.out.blk.free i (Or.inr (Nat.zero_le _))
  have f0 := fr 0; have f1 := fr 1; have f2 := fr 2; have f3 := fr 3
  clear k4 fr
  go_cut [] from 14 (fun wx => ∃ (vx vy va : Value) (r7 : Raw), Hid (OutI w2 B7 vx vy va r7 wx ∧ r7.X.length ≤ 20 ∧ r7.Y.length ≤ 20 ∧ r7.arcs.length ≤ 100))
  case first =>
    have hc : y = 0 ∨ y = 1 ∨ y = 2 ∨ y = 3 ∨ y = 4 ∨ y = 5 ∨ y = 6 ∨ (y ≠ 0 ∧ y ≠ 1 ∧ y ≠ 2 ∧ y ≠ 3 ∧ y ≠ 4 ∧ y ≠ 5 ∧ y ≠ 6) := by omega
    rcases hc with rfl | rfl | rfl | rfl | rfl | rfl | rfl | hn
    · have hI0 := Lib.hid (HI.out.setN x2)
      go_wp2_with fail
      go_meet
      case rel => exact ⟨_, _, _, _, Lib.hid ⟨hI0.out, by show g.X.length ≤ _; omega, by show g.Y.length ≤ _; omega, by show g.arcs.length ≤ _; have := HGl.out.2; omega⟩⟩
    · obtain ⟨wa, hwa⟩ : ∃ wa, wa = w4.alloc (.cells #[.int .i64 x2] 2) := ⟨_, rfl⟩
      have hba : Below w4.heap.size w4 wa := by rw [hwa]; exact (Below.refl _ _).alloc (Nat.le_refl _) _
      have hBa : Blk wa w4.heap.size (inC x2).toArray 2 (0, 0) := by rw [hwa]; exact Blk.new _ _ _ _
      obtain ⟨v1, W1, hr1, ⟨a1, n1, c1, hv1⟩, hb1, hkg1, hI1⟩ := (HI.out.below hba).pushX hBa (by have := HGl.out.2; omega)
      subst hv1
      have p1 := hb1.cell 1; have pf1 := hb1.free 1 (Or.inr (Nat.zero_le _))
      simp only [List.getElem?_toArray, List.getElem?_cons_succ, List.getElem?_cons_zero] at p1
      have HR1 := Lib.hid hr1; have HI1 := Lib.hid hI1
      rw [hwa] at HR1
      clear hwa hba hBa hr1 hb1 hkg1 hI1
      go_wp2_with (at_builtin; refine wpList_append_run rfl _ _ _ _ rfl HR1.out ?_)
      go_meet
      case rel => exact ⟨_, _, _, _, Lib.hid ⟨HI1.out, by show (g.X ++ [x2]).length ≤ _; rw [List.length_append]; show g.X.length + 1 ≤ _; omega, by show g.Y.length ≤ _; omega, by show g.arcs.length ≤ _; have := HGl.out.2; omega⟩⟩
    · have hXl := HXl.out
      obtain ⟨gx, rfl⟩ := hcx (by omega)
      obtain ⟨gy, rfl⟩ := hcy (by omega)
      obtain ⟨m, hm⟩ : ∃ m, m = at_ % g.Y.length := ⟨_, rfl⟩
      have hmb : m < g.Y.length := by rw [hm]; exact Nat.mod_lt _ (by omega)
      have q0 : (at_ : Int).tmod (g.Y.length : Int) = (m : Int) := by rw [hm]; rfl
      have q1 : (at_ : Int) % (g.Y.length : Int) = (m : Int) := by rw [hm]; rfl
      have q2 : IntKind.i64.wrap (m : Int) = (m : Int) := wrap_small _ (by omega) (by omega)
      have q3 : ¬ (g.Y.length : Int) = 0 := by omega
      have q4 : ¬ g.Y.length = 0 := by omega
      have q5 : ((g.Y.length : Int) == 0) = false := by simpa using q3
      have q6 : (m : Int) < (g.Y.length : Int) := by omega
      have q7 : (0 : Int) ≤ (m : Int) := by omega
      rw [hXl] at o1
      have HIx := HI.out
      rw [hXl] at HIx
      have HXm := Lib.hid (show m < g.X.length by omega)
      have HSS : w4.drew.cell? ⟨B7, 2, none⟩ = some (.slice (some ⟨gy, 0, none⟩) g.Y.length cyc) := o2
      have hI1 := Lib.hid ((HIx.below (Below.refl _ w4).drew).takeY rfl m (by omega))
      have hmc : (m : Int) ≤ (cyc : Int) := by obtain ⟨_, h2⟩ := HIx.own.2.1; rcases h2 with ⟨e, _⟩ | ⟨g', cap', cur, ev, _, _, hnc, _⟩ <;> first | (cases e; done) | (simp only [Value.slice.injEq] at ev; omega)
      clear hm hXl HIx
      go_wp2_with fail
      refine wp_region_heldD (fun w' => w'.cell? ⟨B7, 2, none⟩ = some (.slice (some ⟨gy, 0, none⟩) g.Y.length cyc)) 9 rfl ?_
      change heldD _ _ _ _ _ _ _ 10 _ _ w4.drew
      have hS0 : w4.drew.cell? ⟨B7, 2, none⟩ = some (.slice (some ⟨gy, 0, none⟩) g.Y.length cyc) := HSS
      refine heldD_takeF (i := 0) (v := .pointer (some ⟨B7, 2, none⟩)) rfl rfl rfl (by kernel_rfl) (by kernel_rfl) (by kernel_rfl) (by kernel_rfl) (fun _ _ _ h => h) (by rfl) (fun w => ⟨by rfl, by go_simp⟩) (fun _ => hS0) ?_
      simp only [List.setIfInBounds_toArray, List.set_cons_zero, List.set_cons_succ]
      refine heldD_take (i := 1) (v := .slice (some ⟨gy, 0, none⟩) g.Y.length cyc) rfl rfl rfl (by kernel_rfl) (by kernel_rfl) (by kernel_rfl) (by kernel_rfl) (by kernel_rfl) (by kernel_rfl) (fun _ _ _ h => h) (by rfl) (fun w hS => ⟨by rfl, by obtain hS1 := hS; go_simp⟩) hS0 ?_
      simp only [List.setIfInBounds_toArray, List.set_cons_zero, List.set_cons_succ]
      refine heldD_takeF (i := 2) (v := .int .i64 (at_ : Nat)) rfl rfl rfl (by kernel_rfl) (by kernel_rfl) (by kernel_rfl) (by kernel_rfl) (fun _ _ _ h => h) (by rfl) (fun w => ⟨by rfl, by go_simp⟩) (fun _ => hS0) ?_
      simp only [List.setIfInBounds_toArray, List.set_cons_zero, List.set_cons_succ]
      refine heldD_takeF (i := 3) (v := .pointer (some ⟨B7, 2, none⟩)) rfl rfl rfl (by kernel_rfl) (by kernel_rfl) (by kernel_rfl) (by kernel_rfl) (fun _ _ _ h => h) (by rfl) (fun w => ⟨by rfl, by go_simp⟩) (fun _ => hS0) ?_
      simp only [List.setIfInBounds_toArray, List.set_cons_zero, List.set_cons_succ]
      refine heldD_take (i := 4) (v := .slice (some ⟨gy, 0, none⟩) g.Y.length cyc) rfl rfl rfl (by kernel_rfl) (by kernel_rfl) (by kernel_rfl) (by kernel_rfl) (by kernel_rfl) (by kernel_rfl) (fun _ _ _ h => h) (by rfl) (fun w hS => ⟨by rfl, by obtain hS1 := hS; go_simp⟩) hS0 ?_
      simp only [List.setIfInBounds_toArray, List.set_cons_zero, List.set_cons_succ]
      refine heldD_takeF (i := 5) (v := .int .i64 (g.Y.length : Nat)) rfl rfl rfl (by kernel_rfl) (by kernel_rfl) (by kernel_rfl) (by kernel_rfl) (fun _ _ _ h => h) (by rfl) (fun w => ⟨by rfl, by go_simp⟩) (fun _ => hS0) ?_
      simp only [List.setIfInBounds_toArray, List.set_cons_zero, List.set_cons_succ]
      refine heldD_takeF (i := 6) (v := .int .i64 (m : Nat)) rfl rfl rfl (by kernel_rfl) (by kernel_rfl) (by kernel_rfl) (by kernel_rfl) (fun _ _ _ h => h) (by rfl) (fun w => ⟨by rfl, by go_simp⟩) (fun _ => hS0) ?_
      simp only [List.setIfInBounds_toArray, List.set_cons_zero, List.set_cons_succ]
      refine heldD_takeF (i := 7) (v := .slice (some ⟨gy, 0, none⟩) m cyc) rfl rfl rfl (by kernel_rfl) (by kernel_rfl) (by kernel_rfl) (by kernel_rfl) (fun _ _ _ h => h) (by rfl) (fun w => ⟨by rfl, by go_simp⟩) (fun _ => hS0) ?_
      simp only [List.setIfInBounds_toArray, List.set_cons_zero, List.set_cons_succ]
      refine heldD_takeF (i := 8) (v := .pointer (some ⟨B7, 2, none⟩)) rfl rfl rfl (by kernel_rfl) (by kernel_rfl) (by kernel_rfl) (by kernel_rfl) (fun _ _ _ h => h) (by rfl) (fun w => ⟨by rfl, by go_simp⟩) (fun _ => hS0) ?_
      simp only [List.setIfInBounds_toArray, List.set_cons_zero, List.set_cons_succ]
      refine heldD_one (i := 9) (by kernel_rfl) ?_
      refine wpOpIn_skip (w' := w4.drew.setCell ⟨B7, 2, none⟩ (.slice (some ⟨gy, 0, none⟩) m cyc)) rfl rfl rfl (by rfl) (by rfl) (by go_simp) ?_
      refine ⟨fun h => (by cases h), ?_⟩
      refine heldD_done (by kernel_rfl) ?_ _
      go_wp2_with fail
      go_meet
      case rel => exact ⟨_, _, _, _, Lib.hid ⟨hI1.out, by show g.X.length ≤ _; omega, by show (g.Y.take m).length ≤ _; rw [List.length_take]; omega, by show g.arcs.length ≤ _; have := HGl.out.2; omega⟩⟩
    · have hXl := HXl.out
      obtain ⟨gx, rfl⟩ := hcx (by omega)
      obtain ⟨gy, rfl⟩ := hcy (by omega)
      obtain ⟨m, hm⟩ : ∃ m, m = at_ % g.Y.length := ⟨_, rfl⟩
      have hmb : m < g.Y.length := by rw [hm]; exact Nat.mod_lt _ (by omega)
      have q0 : (at_ : Int).tmod (g.Y.length : Int) = (m : Int) := by rw [hm]; rfl
      have q1 : (at_ : Int) % (g.Y.length : Int) = (m : Int) := by rw [hm]; rfl
      have q2 : IntKind.i64.wrap (m : Int) = (m : Int) := wrap_small _ (by omega) (by omega)
      have q3 : ¬ (g.Y.length : Int) = 0 := by omega
      have q4 : ¬ g.Y.length = 0 := by omega
      have q5 : ((g.Y.length : Int) == 0) = false := by simpa using q3
      have q6 : (m : Int) < (g.Y.length : Int) := by omega
      have q7 : (0 : Int) ≤ (m : Int) := by omega
      rw [hXl] at o1
      have HIx := HI.out
      rw [hXl] at HIx
      have HXm := Lib.hid (show m < g.X.length by omega)
      have HSS : w4.drew.cell? ⟨B7, 1, none⟩ = some (.slice (some ⟨gx, 0, none⟩) g.Y.length cxc) ∧ w4.drew.cell? ⟨B4, 2, none⟩ = some (.int .i64 x2) := ⟨o1, d2⟩
      have hI1 := Lib.hid ((HIx.below (Below.refl _ w4).drew).setX hXl m (HXm.out) x2)
      obtain ⟨⟨z0, e0'⟩, ff0⟩ := (HIx.below (Below.refl _ w4).drew).cellX hXl m (by omega)
      clear hm hXl HIx
      go_wp2_with fail
      refine wp_region_heldD (fun w' => w'.cell? ⟨B7, 1, none⟩ = some (.slice (some ⟨gx, 0, none⟩) g.Y.length cxc) ∧ w'.cell? ⟨B4, 2, none⟩ = some (.int .i64 x2)) 10 rfl ?_
      change heldD _ _ _ _ _ _ _ 11 _ _ w4.drew
      have hS0 : w4.drew.cell? ⟨B7, 1, none⟩ = some (.slice (some ⟨gx, 0, none⟩) g.Y.length cxc) ∧ w4.drew.cell? ⟨B4, 2, none⟩ = some (.int .i64 x2) := HSS
      refine heldD_takeF (i := 0) (v := .pointer (some ⟨B7, 1, none⟩)) rfl rfl rfl (by kernel_rfl) (by kernel_rfl) (by kernel_rfl) (by kernel_rfl) (fun _ _ _ h => h) (by rfl) (fun w => ⟨by rfl, by go_simp⟩) (fun _ => hS0) ?_
      simp only [List.setIfInBounds_toArray, List.set_cons_zero, List.set_cons_succ]
      refine heldD_take (i := 1) (v := .slice (some ⟨gx, 0, none⟩) g.Y.length cxc) rfl rfl rfl (by kernel_rfl) (by kernel_rfl) (by kernel_rfl) (by kernel_rfl) (by kernel_rfl) (by kernel_rfl) (fun _ _ _ h => h) (by rfl) (fun w hS => ⟨by rfl, by obtain ⟨hS1, hS2⟩ := hS; go_simp⟩) hS0 ?_
      simp only [List.setIfInBounds_toArray, List.set_cons_zero, List.set_cons_succ]
      refine heldD_takeF (i := 2) (v := .int .i64 (at_ : Nat)) rfl rfl rfl (by kernel_rfl) (by kernel_rfl) (by kernel_rfl) (by kernel_rfl) (fun _ _ _ h => h) (by rfl) (fun w => ⟨by rfl, by go_simp⟩) (fun _ => hS0) ?_
      simp only [List.setIfInBounds_toArray, List.set_cons_zero, List.set_cons_succ]
      refine heldD_takeF (i := 3) (v := .pointer (some ⟨B7, 1, none⟩)) rfl rfl rfl (by kernel_rfl) (by kernel_rfl) (by kernel_rfl) (by kernel_rfl) (fun _ _ _ h => h) (by rfl) (fun w => ⟨by rfl, by go_simp⟩) (fun _ => hS0) ?_
      simp only [List.setIfInBounds_toArray, List.set_cons_zero, List.set_cons_succ]
      refine heldD_take (i := 4) (v := .slice (some ⟨gx, 0, none⟩) g.Y.length cxc) rfl rfl rfl (by kernel_rfl) (by kernel_rfl) (by kernel_rfl) (by kernel_rfl) (by kernel_rfl) (by kernel_rfl) (fun _ _ _ h => h) (by rfl) (fun w hS => ⟨by rfl, by obtain ⟨hS1, hS2⟩ := hS; go_simp⟩) hS0 ?_
      simp only [List.setIfInBounds_toArray, List.set_cons_zero, List.set_cons_succ]
      refine heldD_takeF (i := 5) (v := .int .i64 (g.Y.length : Nat)) rfl rfl rfl (by kernel_rfl) (by kernel_rfl) (by kernel_rfl) (by kernel_rfl) (fun _ _ _ h => h) (by rfl) (fun w => ⟨by rfl, by go_simp⟩) (fun _ => hS0) ?_
      simp only [List.setIfInBounds_toArray, List.set_cons_zero, List.set_cons_succ]
      refine heldD_takeF (i := 6) (v := .int .i64 (m : Nat)) rfl rfl rfl (by kernel_rfl) (by kernel_rfl) (by kernel_rfl) (by kernel_rfl) (fun _ _ _ h => h) (by rfl) (fun w => ⟨by rfl, by go_simp⟩) (fun _ => hS0) ?_
      simp only [List.setIfInBounds_toArray, List.set_cons_zero, List.set_cons_succ]
      refine heldD_takeF (i := 7) (v := .pointer (some ⟨B4, 2, none⟩)) rfl rfl rfl (by kernel_rfl) (by kernel_rfl) (by kernel_rfl) (by kernel_rfl) (fun _ _ _ h => h) (by rfl) (fun w => ⟨by rfl, by go_simp⟩) (fun _ => hS0) ?_
      simp only [List.setIfInBounds_toArray, List.set_cons_zero, List.set_cons_succ]
      refine heldD_take (i := 8) (v := .int .i64 x2) rfl rfl rfl (by kernel_rfl) (by kernel_rfl) (by kernel_rfl) (by kernel_rfl) (by kernel_rfl) (by kernel_rfl) (fun _ _ _ h => h) (by rfl) (fun w hS => ⟨by rfl, by obtain ⟨hS1, hS2⟩ := hS; go_simp⟩) hS0 ?_
      simp only [List.setIfInBounds_toArray, List.set_cons_zero, List.set_cons_succ]
      refine heldD_takeF (i := 9) (v := .pointer (some ⟨gx, m, none⟩)) rfl rfl rfl (by kernel_rfl) (by kernel_rfl) (by kernel_rfl) (by kernel_rfl) (fun _ _ _ h => h) (by rfl) (fun w => ⟨by rfl, by go_simp⟩) (fun _ => hS0) ?_
      simp only [List.setIfInBounds_toArray, List.set_cons_zero, List.set_cons_succ]
      refine heldD_one (i := 10) (by kernel_rfl) ?_
      refine wpOpIn_skip (w' := w4.drew.setCell ⟨gx, m, none⟩ (.int .i64 x2)) rfl rfl rfl (by rfl) (by rfl) (by go_simp) ?_
      refine ⟨fun h => (by cases h), ?_⟩
      refine heldD_done (by kernel_rfl) ?_ _
      go_wp2_with fail
      go_meet
      case rel => exact ⟨_, _, _, _, Lib.hid ⟨hI1.out, by show (g.X.set m x2).length ≤ _; rw [List.length_set]; omega, by show g.Y.length ≤ _; omega, by show g.arcs.length ≤ _; have := HGl.out.2; omega⟩⟩
    · have hXl := HXl.out
      obtain ⟨gx, rfl⟩ := hcx (by omega)
      obtain ⟨gy, rfl⟩ := hcy (by omega)
      obtain ⟨m, hm⟩ : ∃ m, m = at_ % g.Y.length := ⟨_, rfl⟩
      have hmb : m < g.Y.length := by rw [hm]; exact Nat.mod_lt _ (by omega)
      have q0 : (at_ : Int).tmod (g.Y.length : Int) = (m : Int) := by rw [hm]; rfl
      have q1 : (at_ : Int) % (g.Y.length : Int) = (m : Int) := by rw [hm]; rfl
      have q2 : IntKind.i64.wrap (m : Int) = (m : Int) := wrap_small _ (by omega) (by omega)
      have q3 : ¬ (g.Y.length : Int) = 0 := by omega
      have q4 : ¬ g.Y.length = 0 := by omega
      have q5 : ((g.Y.length : Int) == 0) = false := by simpa using q3
      have q6 : (m : Int) < (g.Y.length : Int) := by omega
      have q7 : (0 : Int) ≤ (m : Int) := by omega
      rw [hXl] at o1
      have HIx := HI.out
      rw [hXl] at HIx
      have HXm := Lib.hid (show m < g.X.length by omega)
      have HSS : w4.drew.cell? ⟨B7, 2, none⟩ = some (.slice (some ⟨gy, 0, none⟩) g.Y.length cyc) ∧ w4.drew.cell? ⟨B4, 2, none⟩ = some (.int .i64 x2) := ⟨o2, d2⟩
      have hI1 := Lib.hid ((HIx.below (Below.refl _ w4).drew).setY rfl m (hmb) x2)
      obtain ⟨⟨z0, e0'⟩, ff0⟩ := (HIx.below (Below.refl _ w4).drew).cellY rfl m (by omega)
      clear hm hXl HIx
      go_wp2_with fail
      refine wp_region_heldD (fun w' => w'.cell? ⟨B7, 2, none⟩ = some (.slice (some ⟨gy, 0, none⟩) g.Y.length cyc) ∧ w'.cell? ⟨B4, 2, none⟩ = some (.int .i64 x2)) 10 rfl ?_
      change heldD _ _ _ _ _ _ _ 11 _ _ w4.drew
      have hS0 : w4.drew.cell? ⟨B7, 2, none⟩ = some (.slice (some ⟨gy, 0, none⟩) g.Y.length cyc) ∧ w4.drew.cell? ⟨B4, 2, none⟩ = some (.int .i64 x2) := HSS
      refine heldD_takeF (i := 0) (v := .pointer (some ⟨B7, 2, none⟩)) rfl rfl rfl (by kernel_rfl) (by kernel_rfl) (by kernel_rfl) (by kernel_rfl) (fun _ _ _ h => h) (by rfl) (fun w => ⟨by rfl, by go_simp⟩) (fun _ => hS0) ?_
      simp only [List.setIfInBounds_toArray, List.set_cons_zero, List.set_cons_succ]
      refine heldD_take (i := 1) (v := .slice (some ⟨gy, 0, none⟩) g.Y.length cyc) rfl rfl rfl (by kernel_rfl) (by kernel_rfl) (by kernel_rfl) (by kernel_rfl) (by kernel_rfl) (by kernel_rfl) (fun _ _ _ h => h) (by rfl) (fun w hS => ⟨by rfl, by obtain ⟨hS1, hS2⟩ := hS; go_simp⟩) hS0 ?_
      simp only [List.setIfInBounds_toArray, List.set_cons_zero, List.set_cons_succ]
      refine heldD_takeF (i := 2) (v := .int .i64 (at_ : Nat)) rfl rfl rfl (by kernel_rfl) (by kernel_rfl) (by kernel_rfl) (by kernel_rfl) (fun _ _ _ h => h) (by rfl) (fun w => ⟨by rfl, by go_simp⟩) (fun _ => hS0) ?_
      simp only [List.setIfInBounds_toArray, List.set_cons_zero, List.set_cons_succ]
      refine heldD_takeF (i := 3) (v := .pointer (some ⟨B7, 2, none⟩)) rfl rfl rfl (by kernel_rfl) (by kernel_rfl) (by kernel_rfl) (by kernel_rfl) (fun _ _ _ h => h) (by rfl) (fun w => ⟨by rfl, by go_simp⟩) (fun _ => hS0) ?_
      simp only [List.setIfInBounds_toArray, List.set_cons_zero, List.set_cons_succ]
      refine heldD_take (i := 4) (v := .slice (some ⟨gy, 0, none⟩) g.Y.length cyc) rfl rfl rfl (by kernel_rfl) (by kernel_rfl) (by kernel_rfl) (by kernel_rfl) (by kernel_rfl) (by kernel_rfl) (fun _ _ _ h => h) (by rfl) (fun w hS => ⟨by rfl, by obtain ⟨hS1, hS2⟩ := hS; go_simp⟩) hS0 ?_
      simp only [List.setIfInBounds_toArray, List.set_cons_zero, List.set_cons_succ]
      refine heldD_takeF (i := 5) (v := .int .i64 (g.Y.length : Nat)) rfl rfl rfl (by kernel_rfl) (by kernel_rfl) (by kernel_rfl) (by kernel_rfl) (fun _ _ _ h => h) (by rfl) (fun w => ⟨by rfl, by go_simp⟩) (fun _ => hS0) ?_
      simp only [List.setIfInBounds_toArray, List.set_cons_zero, List.set_cons_succ]
      refine heldD_takeF (i := 6) (v := .int .i64 (m : Nat)) rfl rfl rfl (by kernel_rfl) (by kernel_rfl) (by kernel_rfl) (by kernel_rfl) (fun _ _ _ h => h) (by rfl) (fun w => ⟨by rfl, by go_simp⟩) (fun _ => hS0) ?_
      simp only [List.setIfInBounds_toArray, List.set_cons_zero, List.set_cons_succ]
      refine heldD_takeF (i := 7) (v := .pointer (some ⟨B4, 2, none⟩)) rfl rfl rfl (by kernel_rfl) (by kernel_rfl) (by kernel_rfl) (by kernel_rfl) (fun _ _ _ h => h) (by rfl) (fun w => ⟨by rfl, by go_simp⟩) (fun _ => hS0) ?_
      simp only [List.setIfInBounds_toArray, List.set_cons_zero, List.set_cons_succ]
      refine heldD_take (i := 8) (v := .int .i64 x2) rfl rfl rfl (by kernel_rfl) (by kernel_rfl) (by kernel_rfl) (by kernel_rfl) (by kernel_rfl) (by kernel_rfl) (fun _ _ _ h => h) (by rfl) (fun w hS => ⟨by rfl, by obtain ⟨hS1, hS2⟩ := hS; go_simp⟩) hS0 ?_
      simp only [List.setIfInBounds_toArray, List.set_cons_zero, List.set_cons_succ]
      refine heldD_takeF (i := 9) (v := .pointer (some ⟨gy, m, none⟩)) rfl rfl rfl (by kernel_rfl) (by kernel_rfl) (by kernel_rfl) (by kernel_rfl) (fun _ _ _ h => h) (by rfl) (fun w => ⟨by rfl, by go_simp⟩) (fun _ => hS0) ?_
      simp only [List.setIfInBounds_toArray, List.set_cons_zero, List.set_cons_succ]
      refine heldD_one (i := 10) (by kernel_rfl) ?_
      refine wpOpIn_skip (w' := w4.drew.setCell ⟨gy, m, none⟩ (.int .i64 x2)) rfl rfl rfl (by rfl) (by rfl) (by go_simp) ?_
      refine ⟨fun h => (by cases h), ?_⟩
      refine heldD_done (by kernel_rfl) ?_ _
      go_wp2_with fail
      go_meet
      case rel => exact ⟨_, _, _, _, Lib.hid ⟨hI1.out, by show g.X.length ≤ _; omega, by show (g.Y.set m x2).length ≤ _; rw [List.length_set]; omega, by show g.arcs.length ≤ _; have := HGl.out.2; omega⟩⟩
    · obtain ⟨wa, hwa⟩ : ∃ wa, wa = w4.alloc (.cells #[.int .i64 x2, .int .i64 (at_ : Int), .int .i64 0] 54) := ⟨_, rfl⟩
      have hba : Below w4.heap.size w4 wa := by rw [hwa]; exact (Below.refl _ _).alloc (Nat.le_refl _) _
      have hBa : Blk wa w4.heap.size (arC ((x2, (at_ : Int), 0) : Ar)).toArray 54 (0, 0) := by rw [hwa]; exact Blk.new _ _ _ _
      obtain ⟨v1, W1, hr1, ⟨a1, n1, c1, hv1⟩, hb1, hkg1, hI1⟩ := (HI.out.below hba).pushA hBa (by have := HGl.out.2; omega)
      subst hv1
      have p1 := hb1.cell 3; have pf1 := hb1.free 3 (Or.inr (Nat.zero_le _))
      simp only [List.getElem?_toArray, List.getElem?_cons_succ, List.getElem?_cons_zero] at p1
      have HR1 := Lib.hid hr1; have HI1 := Lib.hid hI1
      rw [hwa] at HR1
      clear hwa hba hBa hr1 hb1 hkg1 hI1
      go_wp2_with (at_builtin; refine wpList_append_run rfl _ _ _ _ rfl HR1.out ?_)
      go_meet
      case rel => exact ⟨_, _, _, _, Lib.hid ⟨HI1.out, by show g.X.length ≤ _; omega, by show g.Y.length ≤ _; omega, by show (g.arcs ++ [_]).length ≤ _; rw [List.length_append]; have := HGl.out.2; show g.arcs.length + 1 ≤ _; omega⟩⟩
    · obtain ⟨wa, hwa⟩ : ∃ wa, wa = w4.alloc (.cells #[.int .i64 0, .int .i64 0, .int .i64 x2] 54) := ⟨_, rfl⟩
      have hba : Below w4.heap.size w4 wa := by rw [hwa]; exact (Below.refl _ _).alloc (Nat.le_refl _) _
      have hBa : Blk wa w4.heap.size (arC ((0, 0, x2) : Ar)).toArray 54 (0, 0) := by rw [hwa]; exact Blk.new _ _ _ _
      obtain ⟨v1, W1, hr1, ⟨a1, n1, c1, hv1⟩, hb1, hkg1, hI1⟩ := (HI.out.below hba).pushA hBa (by have := HGl.out.2; omega)
      subst hv1
      have p1 := hb1.cell 3; have pf1 := hb1.free 3 (Or.inr (Nat.zero_le _))
      simp only [List.getElem?_toArray, List.getElem?_cons_succ, List.getElem?_cons_zero] at p1
      have HR1 := Lib.hid hr1; have HI1 := Lib.hid hI1
      rw [hwa] at HR1
      clear hwa hba hBa hr1 hb1 hkg1 hI1
      go_wp2_with (at_builtin; refine wpList_append_run rfl _ _ _ _ rfl HR1.out ?_)
      go_meet
      case rel => exact ⟨_, _, _, _, Lib.hid ⟨HI1.out, by show g.X.length ≤ _; omega, by show g.Y.length ≤ _; omega, by show (g.arcs ++ [_]).length ≤ _; rw [List.length_append]; have := HGl.out.2; show g.arcs.length + 1 ≤ _; omega⟩⟩
    · have b0 : (y == 0) = false := by simp [hn]
      have b1 : (y == 1) = false := by simp [hn]
      have b2 : (y == 2) = false := by simp [hn]
      have b3 : (y == 3) = false := by simp [hn]
      have b4 : (y == 4) = false := by simp [hn]
      have b5 : (y == 5) = false := by simp [hn]
      have b6 : (y == 6) = false := by simp [hn]
      clear hn
      go_wp2_with fail
      go_meet
      case rel => exact ⟨_, _, _, _, Lib.hid ⟨HI.out, by omega, by omega, by have := HGl.out.2; omega⟩⟩
  clear o0 o1 o2 o3 f0 f1 f2 f3 d2 r0 r0' w0' w0i e0 hatb hcx hcy hXb hXb2 HXl HI
  obtain ⟨vx, vy, va, r7, hcut⟩ := hcut
  obtain ⟨x7a, x7c, rfl, _⟩ := ownForm hcut.out.1.own.1
  obtain ⟨y7a, y7c, rfl, _⟩ := ownForm hcut.out.1.own.2.1
  obtain ⟨z7a, z7c, rfl, _⟩ := ownForm hcut.out.1.own.2.2.1
  have hI7 := hcut.out.1
  have hbw := hI7.kept.below (Nat.le_refl _) (fun k h => by subst h; exact HB7.out)
  have HL7 := Lib.hid hcut.out.2.2.2
  have hE5 := HE5.out
  have hs1 := HB1.out.size; have hs2 := HB2.out.size
  have hk5 := HK5.out.lt
  have hB75 : B7 ≠ B5 := by have := HB7.out; omega
  have hwle : w.heap.size ≤ B5 := by omega
  have b5 := (HK5.out.below HB2.out hk5).below hbw (by omega)
  obtain ⟨W5, hW5⟩ : ∃ W, W = wc.setCell ⟨B5, 3, none⟩ (.slice rza (min r.arcs.length 20) rzc) := ⟨_, rfl⟩
  have hBw : Below w.heap.size w wc := (HB1.out.next' HB2.out).next' hbw
  have hBw5 : Below w.heap.size w W5 := by rw [hW5]; exact hBw.setCell (p := ⟨B5, 3, none⟩) hwle _
  have b5z := b5.set 3 (.slice rza (min r.arcs.length 20) rzc)
  have b7z := hI7.blk.setOther ⟨B5, 3, none⟩ (.slice rza (min r.arcs.length 20) rzc) hB75
  have f5 := b5.free 3 (Or.inr (Nat.zero_le _))
  have a3 := b5.cell 3
  simp only [List.getElem?_toArray, List.getElem?_cons_succ, List.getElem?_cons_zero] at a3
  have z50 := b5z.cell 0; have z51 := b5z.cell 1; have z52 := b5z.cell 2; have z53 := b5z.cell 3
  have z70 := b7z.cell 0; have z71 := b7z.cell 1; have z72 := b7z.cell 2; have z73 := b7z.cell 3
  change World.cell? _ _ = some (.int .i64 r.nodes) at z50
  change World.cell? _ _ = some (.slice rxa r.X.length rxc) at z51
  change World.cell? _ _ = some (.slice rya r.Y.length ryc) at z52
  change World.cell? _ _ = some (.slice rza (min r.arcs.length 20) rzc) at z53
  change World.cell? _ _ = some (.int .i64 r7.nodes) at z70
  change World.cell? _ _ = some (.slice x7a r7.X.length x7c) at z71
  change World.cell? _ _ = some (.slice y7a r7.Y.length y7c) at z72
  change World.cell? _ _ = some (.slice z7a r7.arcs.length z7c) at z73
  have g1 : (if (20 : Int) < (r.arcs.length : Int) then (20 : Int) else (r.arcs.length : Int)) = ((min r.arcs.length 20 : Nat) : Int) := by split <;> omega
  have g2 : min r.arcs.length 20 ≤ rzc := by omega
  have g3 : ((min r.arcs.length 20 : Nat) : Int) ≤ (rzc : Int) := by omega
  have g4 : (0 : Int) ≤ ((min r.arcs.length 20 : Nat) : Int) := by omega
  have HV7 := Lib.hid (show ∀ u, Below W5.heap.size W5 u → RawV u (.agg #[.int .i64 r7.nodes, .slice x7a r7.X.length x7c, .slice y7a r7.Y.length y7c, .slice z7a r7.arcs.length z7c]) r7 from fun u hu => by
    have agr : ∀ {e : TypeId} {size : Nat} {x : Value} {n : Nat} {xs : List Value}, wc.ownsRow w2.heap.size e size x n xs → W5.ownsRow w2.heap.size e size x n xs := fun hr => by
      rw [hW5]
      exact ownsRow_agree' hr fun c hc => heap_setCell_other _ _ _ _ (fun e : c = B5 => by have := (ownsRow_blk' hr hc).1; omega)
    exact RawV.below ⟨_, _, _, rfl, slX_own rfl (agr hI7.own.1), slX_own rfl (agr hI7.own.2.1), slA_own rfl (agr hI7.own.2.2.1)⟩ hu)
  have HV5 := Lib.hid (show ∀ u, Below W5.heap.size W5 u → RawV u (.agg #[.int .i64 r.nodes, .slice rxa r.X.length rxc, .slice rya r.Y.length ryc, .slice rza (min r.arcs.length 20) rzc]) { r with arcs := r.arcs.take (min r.arcs.length 20) } from fun u hu => by
    have k := (KpC.of_below hBw5).trans (KpC.of_below hu)
    exact ⟨_, _, _, rfl, HXa.out.keep k, HYa.out.keep k, (HZa.out.cut _ (by omega)).keep k⟩)
  have HBw5 := Lib.hid hBw5; have HW5 := Lib.hid hW5
  clear hI7 hbw hE5 hs1 hs2 hk5 hB75 hwle b5 hBw hBw5 b5z b7z hcut hW5 HXa HYa HZa HVr
  go_wp2_with fail
  rw [← HW5.out]
  clear z50 z51 z52 z53 z70 z71 z72 z73 g1 g2 g3 g4 a3 f5 HW5
  go_loopw [106] (fun i wr => ∃ (k : Nat), k ≤ 2 ∧ i = .int .i64 k ∧ Hid (Below W5.heap.size W5 wr)) (fun i _ => 2 - (intOf i).toNat)
  case atStart => exact ⟨0, by omega, rfl, Lib.hid (Below.refl _ _)⟩
  obtain ⟨k, hk, rfl, hrel⟩ := hrel
  have HR := hrel
  clear hrel
  by_cases hk2 : k < 2
  case pos =>
    go_upto_region 21 with fail
    go_cut [10, 106] from 106 to 147 (fun s10 s106 wx => ∃ (B10 : Nat) (vx vy va : Value) (h : Raw), s10 = .pointer (some ⟨B10, 0, none⟩) ∧ s106 = .int .i64 k ∧ Hid (Below W5.heap.size W5 wx ∧ Blk wx B10 #[.int .i64 h.nodes, vx, vy, va] 25 (0, 0) ∧ RawV wx (.agg #[.int .i64 h.nodes, vx, vy, va]) h ∧ h.arcs.length ≤ 100))
    case first =>
      have hc : k = 0 ∨ k = 1 := by omega
      rcases hc with rfl | rfl
      · have hidx : ∀ w, (Instr.index 52 (.agg #[.int .i64 r7.nodes, .slice x7a r7.X.length x7c, .slice y7a r7.Y.length y7c, .slice z7a r7.arcs.length z7c, .int .i64 r.nodes, .slice rxa r.X.length rxc, .slice rya r.Y.length ryc, .slice rza (min r.arcs.length 20) rzc]) (.int .i64 0)).run Tryd.prog w = .ok (.agg #[.int .i64 r7.nodes, .slice x7a r7.X.length x7c, .slice y7a r7.Y.length y7c, .slice z7a r7.arcs.length z7c]) w := fun _ => by kernel_rfl
        go_wp2_with fail
        have hb : Below wr.heap.size wr (wr.alloc (.cells #[.int .i64 r7.nodes, .slice x7a r7.X.length x7c, .slice y7a r7.Y.length y7c, .slice z7a r7.arcs.length z7c] 25)) := (Below.refl _ _).alloc (Nat.le_refl _) _
        go_meet
        case rel => exact ⟨wr.heap.size, _, _, _, r7, rfl, by rfl, Lib.hid ⟨HR.out.next' hb, Blk.new _ _ _ _, HV7.out _ (HR.out.next' hb), HL7.out⟩⟩
      · have hidx : ∀ w, (Instr.index 52 (.agg #[.int .i64 r7.nodes, .slice x7a r7.X.length x7c, .slice y7a r7.Y.length y7c, .slice z7a r7.arcs.length z7c, .int .i64 r.nodes, .slice rxa r.X.length rxc, .slice rya r.Y.length ryc, .slice rza (min r.arcs.length 20) rzc]) (.int .i64 1)).run Tryd.prog w = .ok (.agg #[.int .i64 r.nodes, .slice rxa r.X.length rxc, .slice rya r.Y.length ryc, .slice rza (min r.arcs.length 20) rzc]) w := fun _ => by kernel_rfl
        go_wp2_with fail
        have hb : Below wr.heap.size wr (wr.alloc (.cells #[.int .i64 r.nodes, .slice rxa r.X.length rxc, .slice rya r.Y.length ryc, .slice rza (min r.arcs.length 20) rzc] 25)) := (Below.refl _ _).alloc (Nat.le_refl _) _
        go_meet
        case rel => exact ⟨wr.heap.size, _, _, _, { r with arcs := r.arcs.take (min r.arcs.length 20) }, rfl, by rfl, Lib.hid ⟨HR.out.next' hb, Blk.new _ _ _ _, HV5.out _ (HR.out.next' hb), by show (r.arcs.take _).length ≤ _; rw [List.length_take]; omega⟩⟩
    case rest =>
    clear HR
    obtain ⟨B10, vx, vy, va, h, rfl, rfl, hcut⟩ := hcut
    have HR := Lib.hid hcut.out.1; have HK10 := Lib.hid hcut.out.2.1; have HVh := Lib.hid hcut.out.2.2.1; have HLh := Lib.hid hcut.out.2.2.2
    clear hcut
    have HGc := Lib.hid (HG0.out.later (HBw5.out.next' HR.out))
    have c0 := HK10.out.cell 0; have c1 := HK10.out.cell 1; have c2 := HK10.out.cell 2; have c3 := HK10.out.cell 3
    simp only [List.getElem?_toArray, List.getElem?_cons_succ, List.getElem?_cons_zero] at c0 c1 c2 c3
    have C := Lib.hid (check_raw _ h wc HVh.out)
    by_cases hok : h.ok
    case pos =>
      have hwz := Raw.ok_wrong hok
      rw [hwz] at C
      have Hok := Lib.hid hok
      clear hok hwz
      go_wp2_with fail
      refine C.out.mono ?_
      rintro e u1 ⟨u, rfl, hi, hb⟩
      have CT := Lib.hid (told_is u1 u 0 0 0 0 (HGc.out.later hb) hi)
      have H1 := Lib.hid hb
      clear hb C hi c0 c1 c2 c3
      go_wp2_with fail
      refine CT.out.mono ?_
      rintro e u2 ⟨rfl, hb⟩
      obtain ⟨B11, hB11⟩ : ∃ b, b = u2.heap.size := ⟨_, rfl⟩
      obtain ⟨u3, hu3⟩ : ∃ u, u = u2.alloc (.cells #[.int .i64 0, .int .i64 0, .int .i64 0, .int .i64 0] 47) := ⟨_, rfl⟩
      have hb3 : Below u2.heap.size u2 u3 := by rw [hu3]; exact (Below.refl _ _).alloc (Nat.le_refl _) _
      have K11 : Blk u3 B11 #[.int .i64 0, .int .i64 0, .int .i64 0, .int .i64 0] 47 (0, 0) := by rw [hu3, hB11]; exact Blk.new _ _ _ _
      have H3 := Lib.hid ((H1.out.next' hb).next' hb3)
      have k10 := HK10.out.below H3.out HK10.out.lt
      have c0 := k10.cell 0; have c1 := k10.cell 1; have c2 := k10.cell 2; have c3 := k10.cell 3
      simp only [List.getElem?_toArray, List.getElem?_cons_succ, List.getElem?_cons_zero] at c0 c1 c2 c3
      rw [hu3] at c0 c1 c2 c3
      have HK11 := Lib.hid K11; have HU3 := Lib.hid hu3; have HE11 := Lib.hid hB11
      have CN := Lib.hid (new_anyB _ h u3 (HGc.out.later H3.out) (HVh.out.below H3.out) (fun hk => ((Raw.ok_iff h).1 hk).few))
      clear hb hb3 K11 hu3 hB11 k10 CT H1
      go_wp2_with fail
      rw [← HU3.out, ← HE11.out]
      clear HU3 HE11
      go_wp2_with fail
      refine CN.out.mono ?_
      rintro e u4 ⟨hcs, hb⟩
      rcases hcs with hcs | ⟨_, p, rfl, hn⟩
      · exact absurd Hok.out hcs.1
      have HN := Lib.hid hn.all
      clear hn
      have H4 := Lib.hid (H3.out.next' hb)
      have HS := Lib.hid (show ∀ u, Below u4.heap.size u4 u → (u.cell? ⟨B10, 0, none⟩ = some (.int .i64 h.nodes) ∧ u.cell? ⟨B10, 1, none⟩ = some (vx) ∧ u.cell? ⟨B10, 2, none⟩ = some (vy) ∧ u.cell? ⟨B10, 3, none⟩ = some (va) ∧ u.cell? ⟨B11, 0, none⟩ = some (.int .i64 0) ∧ u.cell? ⟨B11, 1, none⟩ = some (.int .i64 0) ∧ u.cell? ⟨B11, 2, none⟩ = some (.int .i64 0) ∧ u.cell? ⟨B11, 3, none⟩ = some (.int .i64 0)) from fun u hu => by
        have k10 := HK10.out.below (H4.out.next' hu) HK10.out.lt
        have k11 := HK11.out.below (hb.next' hu) HK11.out.lt
        exact ⟨k10.cell 0, k10.cell 1, k10.cell 2, k10.cell 3, k11.cell 0, k11.cell 1, k11.cell 2, k11.cell 3⟩)
      have HBel := Lib.hid (Below.refl u4.heap.size u4)
      have hfq := fault_neq 0 0 0 0
      clear hb c0 c1 c2 c3 CN
      go_wp2_with fail
      refine wp_region_held (S := fun w' => w'.cell? ⟨B10, 0, none⟩ = some (.int .i64 h.nodes) ∧ w'.cell? ⟨B10, 1, none⟩ = some (vx) ∧ w'.cell? ⟨B10, 2, none⟩ = some (vy) ∧ w'.cell? ⟨B10, 3, none⟩ = some (va) ∧ w'.cell? ⟨B11, 0, none⟩ = some (.int .i64 0) ∧ w'.cell? ⟨B11, 1, none⟩ = some (.int .i64 0) ∧ w'.cell? ⟨B11, 2, none⟩ = some (.int .i64 0) ∧ w'.cell? ⟨B11, 3, none⟩ = some (.int .i64 0)) rfl ?_
      have hS0 := HS.out u4.drew (HBel.out.drew)
      change wpAnyH _ _ _ _ _ 30 _ _ u4.drew
      have HBe := Lib.hid (HBel.out.drew)
      refine heldA_take (i := 0) (v := .nilIface) rfl rfl (by kernel_rfl) (by kernel_rfl) (by kernel_rfl) (fun _ _ _ h => h) (by rfl) (fun w hS => by obtain ⟨hS1, hS2, hS3, hS4, hS5, hS6, hS7, hS8⟩ := hS; go_simp) hS0 ?_
      simp only [List.setIfInBounds_toArray, List.set_cons_zero, List.set_cons_succ]
      refine heldA_take (i := 1) (v := .bool false) rfl rfl (by kernel_rfl) (by kernel_rfl) (by kernel_rfl) (fun _ _ _ h => h) (by rfl) (fun w hS => by obtain ⟨hS1, hS2, hS3, hS4, hS5, hS6, hS7, hS8⟩ := hS; go_simp) hS0 ?_
      simp only [List.setIfInBounds_toArray, List.set_cons_zero, List.set_cons_succ]
      refine heldA_take (i := 2) (v := .pointer (some ⟨B11, 0, none⟩)) rfl rfl (by kernel_rfl) (by kernel_rfl) (by kernel_rfl) (fun _ _ _ h => h) (by rfl) (fun w hS => by obtain ⟨hS1, hS2, hS3, hS4, hS5, hS6, hS7, hS8⟩ := hS; go_simp) hS0 ?_
      simp only [List.setIfInBounds_toArray, List.set_cons_zero, List.set_cons_succ]
      refine heldA_take (i := 3) (v := .int .i64 0) rfl rfl (by kernel_rfl) (by kernel_rfl) (by kernel_rfl) (fun _ _ _ h => h) (by rfl) (fun w hS => by obtain ⟨hS1, hS2, hS3, hS4, hS5, hS6, hS7, hS8⟩ := hS; go_simp) hS0 ?_
      simp only [List.setIfInBounds_toArray, List.set_cons_zero, List.set_cons_succ]
      refine heldA_take (i := 4) (v := .bool false) rfl rfl (by kernel_rfl) (by kernel_rfl) (by kernel_rfl) (fun _ _ _ h => h) (by rfl) (fun w hS => by obtain ⟨hS1, hS2, hS3, hS4, hS5, hS6, hS7, hS8⟩ := hS; go_simp) hS0 ?_
      simp only [List.setIfInBounds_toArray, List.set_cons_zero, List.set_cons_succ]
      refine heldA_take (i := 5) (v := .bool false) rfl rfl (by kernel_rfl) (by kernel_rfl) (by kernel_rfl) (fun _ _ _ h => h) (by rfl) (fun w hS => by obtain ⟨hS1, hS2, hS3, hS4, hS5, hS6, hS7, hS8⟩ := hS; go_simp) hS0 ?_
      simp only [List.setIfInBounds_toArray, List.set_cons_zero, List.set_cons_succ]
      refine heldA_take (i := 6) (v := .bool false) rfl rfl (by kernel_rfl) (by kernel_rfl) (by kernel_rfl) (fun _ _ _ h => h) (by rfl) (fun w hS => by obtain ⟨hS1, hS2, hS3, hS4, hS5, hS6, hS7, hS8⟩ := hS; go_simp) hS0 ?_
      simp only [List.setIfInBounds_toArray, List.set_cons_zero, List.set_cons_succ]
      refine heldA_take (i := 7) (v := .nilIface) rfl rfl (by kernel_rfl) (by kernel_rfl) (by kernel_rfl) (fun _ _ _ h => h) (by rfl) (fun w hS => by obtain ⟨hS1, hS2, hS3, hS4, hS5, hS6, hS7, hS8⟩ := hS; go_simp) hS0 ?_
      simp only [List.setIfInBounds_toArray, List.set_cons_zero, List.set_cons_succ]
      refine heldA_take (i := 9) (v := .agg #[.int .i64 0, .int .i64 0, .int .i64 0, .int .i64 0]) rfl rfl (by kernel_rfl) (by kernel_rfl) (by kernel_rfl) (fun _ _ _ h => h) (by rfl) (fun w hS => by obtain ⟨hS1, hS2, hS3, hS4, hS5, hS6, hS7, hS8⟩ := hS; go_simp) hS0 ?_
      simp only [List.setIfInBounds_toArray, List.set_cons_zero, List.set_cons_succ]
      refine heldA_one (i := 8) (by kernel_rfl) ?_
      refine wpOp_calls (f := 43) rfl rfl (by rfl) (by go_simp) (told_is u4.drew _ 0 0 0 0 (HGc.out.later (H4.out.next' HBe.out)) (.inl ⟨rfl, rfl, rfl, rfl, rfl⟩)) ?_ (by rintro _ _ ⟨h, _⟩; cases h) (by rintro _ ⟨h, _⟩; cases h)
      rintro _ u5 ⟨⟨rfl⟩, hb⟩
      have HBn := Lib.hid (HBe.out.trans (hb.mono HBe.out.size))
      replace HBe := HBn
      clear HBn hb hS0
      have hS0 := HS.out u5 HBe.out
      refine ⟨hS0, ?_⟩
      simp only [List.setIfInBounds_toArray, List.set_cons_zero, List.set_cons_succ]
      refine heldA_take (i := 10) (v := .bool false) rfl rfl (by kernel_rfl) (by kernel_rfl) (by kernel_rfl) (fun _ _ _ h => h) (by rfl) (fun w hS => by obtain ⟨hS1, hS2, hS3, hS4, hS5, hS6, hS7, hS8⟩ := hS; go_simp) hS0 ?_
      simp only [List.setIfInBounds_toArray, List.set_cons_zero, List.set_cons_succ]
      refine heldA_take (i := 11) (v := .bool false) rfl rfl (by kernel_rfl) (by kernel_rfl) (by kernel_rfl) (fun _ _ _ h => h) (by rfl) (fun w hS => by obtain ⟨hS1, hS2, hS3, hS4, hS5, hS6, hS7, hS8⟩ := hS; go_simp) hS0 ?_
      simp only [List.setIfInBounds_toArray, List.set_cons_zero, List.set_cons_succ]
      refine heldA_take (i := 12) (v := .bool false) rfl rfl (by kernel_rfl) (by kernel_rfl) (by kernel_rfl) (fun _ _ _ h => h) (by rfl) (fun w hS => by obtain ⟨hS1, hS2, hS3, hS4, hS5, hS6, hS7, hS8⟩ := hS; go_simp) hS0 ?_
      simp only [List.setIfInBounds_toArray, List.set_cons_zero, List.set_cons_succ]
      refine heldA_take (i := 13) (v := .nilIface) rfl rfl (by kernel_rfl) (by kernel_rfl) (by kernel_rfl) (fun _ _ _ h => h) (by rfl) (fun w hS => by obtain ⟨hS1, hS2, hS3, hS4, hS5, hS6, hS7, hS8⟩ := hS; go_simp) hS0 ?_
      simp only [List.setIfInBounds_toArray, List.set_cons_zero, List.set_cons_succ]
      refine heldA_take (i := 14) (v := .bool false) rfl rfl (by kernel_rfl) (by kernel_rfl) (by kernel_rfl) (fun _ _ _ h => h) (by rfl) (fun w hS => by obtain ⟨hS1, hS2, hS3, hS4, hS5, hS6, hS7, hS8⟩ := hS; go_simp) hS0 ?_
      simp only [List.setIfInBounds_toArray, List.set_cons_zero, List.set_cons_succ]
      refine heldA_take (i := 15) (v := .bool false) rfl rfl (by kernel_rfl) (by kernel_rfl) (by kernel_rfl) (fun _ _ _ h => h) (by rfl) (fun w hS => by obtain ⟨hS1, hS2, hS3, hS4, hS5, hS6, hS7, hS8⟩ := hS; go_simp) hS0 ?_
      simp only [List.setIfInBounds_toArray, List.set_cons_zero, List.set_cons_succ]
      refine heldA_skip (i := 16) rfl rfl (by kernel_rfl) (by kernel_rfl) (by kernel_rfl) (fun _ _ _ h => h) (by rfl) hS0 ?_
      simp only [List.setIfInBounds_toArray, List.set_cons_zero, List.set_cons_succ]
      refine heldA_skip (i := 17) rfl rfl (by kernel_rfl) (by kernel_rfl) (by kernel_rfl) (fun _ _ _ h => h) (by rfl) hS0 ?_
      simp only [List.setIfInBounds_toArray, List.set_cons_zero, List.set_cons_succ]
      refine heldA_take (i := 18) (v := .bool false) rfl rfl (by kernel_rfl) (by kernel_rfl) (by kernel_rfl) (fun _ _ _ h => h) (by rfl) (fun w hS => by obtain ⟨hS1, hS2, hS3, hS4, hS5, hS6, hS7, hS8⟩ := hS; go_simp) hS0 ?_
      simp only [List.setIfInBounds_toArray, List.set_cons_zero, List.set_cons_succ]
      refine heldA_take (i := 19) (v := .bool false) rfl rfl (by kernel_rfl) (by kernel_rfl) (by kernel_rfl) (fun _ _ _ h => h) (by rfl) (fun w hS => by obtain ⟨hS1, hS2, hS3, hS4, hS5, hS6, hS7, hS8⟩ := hS; go_simp) hS0 ?_
      simp only [List.setIfInBounds_toArray, List.set_cons_zero, List.set_cons_succ]
      refine heldA_take (i := 20) (v := .bool false) rfl rfl (by kernel_rfl) (by kernel_rfl) (by kernel_rfl) (fun _ _ _ h => h) (by rfl) (fun w hS => by obtain ⟨hS1, hS2, hS3, hS4, hS5, hS6, hS7, hS8⟩ := hS; go_simp) hS0 ?_
      simp only [List.setIfInBounds_toArray, List.set_cons_zero, List.set_cons_succ]
      refine heldA_take (i := 21) (v := .nilIface) rfl rfl (by kernel_rfl) (by kernel_rfl) (by kernel_rfl) (fun _ _ _ h => h) (by rfl) (fun w hS => by obtain ⟨hS1, hS2, hS3, hS4, hS5, hS6, hS7, hS8⟩ := hS; go_simp) hS0 ?_
      simp only [List.setIfInBounds_toArray, List.set_cons_zero, List.set_cons_succ]
      refine heldA_take (i := 22) (v := .bool true) rfl rfl (by kernel_rfl) (by kernel_rfl) (by kernel_rfl) (fun _ _ _ h => h) (by rfl) (fun w hS => by obtain ⟨hS1, hS2, hS3, hS4, hS5, hS6, hS7, hS8⟩ := hS; go_simp) hS0 ?_
      simp only [List.setIfInBounds_toArray, List.set_cons_zero, List.set_cons_succ]
      refine heldA_take (i := 23) (v := .bool true) rfl rfl (by kernel_rfl) (by kernel_rfl) (by kernel_rfl) (fun _ _ _ h => h) (by rfl) (fun w hS => by obtain ⟨hS1, hS2, hS3, hS4, hS5, hS6, hS7, hS8⟩ := hS; go_simp) hS0 ?_
      simp only [List.setIfInBounds_toArray, List.set_cons_zero, List.set_cons_succ]
      refine heldA_take (i := 24) (v := .pointer (some ⟨p, 0, none⟩)) rfl rfl (by kernel_rfl) (by kernel_rfl) (by kernel_rfl) (fun _ _ _ h => h) (by rfl) (fun w hS => by obtain ⟨hS1, hS2, hS3, hS4, hS5, hS6, hS7, hS8⟩ := hS; go_simp) hS0 ?_
      simp only [List.setIfInBounds_toArray, List.set_cons_zero, List.set_cons_succ]
      refine heldA_take (i := 25) (v := .agg #[.int .i64 h.nodes, vx, vy, va]) rfl rfl (by kernel_rfl) (by kernel_rfl) (by kernel_rfl) (fun _ _ _ h => h) (by rfl) (fun w hS => by obtain ⟨hS1, hS2, hS3, hS4, hS5, hS6, hS7, hS8⟩ := hS; go_simp) hS0 ?_
      simp only [List.setIfInBounds_toArray, List.set_cons_zero, List.set_cons_succ]
      refine heldA_one (i := 26) (by kernel_rfl) ?_
      refine wpOp_calls (f := 40) rfl rfl (by rfl) (by go_simp) (is7_any p _ h u5 (HN.out _ HBe.out) (HVh.out.below (H4.out.next' HBe.out)) ((Raw.ok_iff h).1 Hok.out) (by have := HLh.out; omega)) ?_ (by rintro _ _ ⟨h, _⟩; cases h) (by rintro _ ⟨h, _⟩; cases h)
      rintro _ u6 ⟨⟨rfl⟩, hb⟩
      have HBn := Lib.hid (HBe.out.trans (hb.mono HBe.out.size))
      replace HBe := HBn
      clear HBn hb hS0
      have hS0 := HS.out u6 HBe.out
      refine ⟨hS0, ?_⟩
      simp only [List.setIfInBounds_toArray, List.set_cons_zero, List.set_cons_succ]
      refine heldA_take (i := 27) (v := .bool false) rfl rfl (by kernel_rfl) (by kernel_rfl) (by kernel_rfl) (fun _ _ _ h => h) (by rfl) (fun w hS => by obtain ⟨hS1, hS2, hS3, hS4, hS5, hS6, hS7, hS8⟩ := hS; go_simp) hS0 ?_
      simp only [List.setIfInBounds_toArray, List.set_cons_zero, List.set_cons_succ]
      refine heldA_take (i := 28) (v := .bool false) rfl rfl (by kernel_rfl) (by kernel_rfl) (by kernel_rfl) (fun _ _ _ h => h) (by rfl) (fun w hS => by obtain ⟨hS1, hS2, hS3, hS4, hS5, hS6, hS7, hS8⟩ := hS; go_simp) hS0 ?_
      simp only [List.setIfInBounds_toArray, List.set_cons_zero, List.set_cons_succ]
      refine heldA_take (i := 29) (v := .bool false) rfl rfl (by kernel_rfl) (by kernel_rfl) (by kernel_rfl) (fun _ _ _ h => h) (by rfl) (fun w hS => by obtain ⟨hS1, hS2, hS3, hS4, hS5, hS6, hS7, hS8⟩ := hS; go_simp) hS0 ?_
      simp only [List.setIfInBounds_toArray, List.set_cons_zero, List.set_cons_succ]
      refine wpAnyH_done (by kernel_rfl) ?_ _
      have HZ := Lib.hid (HR.out.next' (H4.out.next' HBe.out))
      clear hS0 hfq HBe HBel
      go_wp2_with fail
      go_roundw
      case rel => exact ⟨k + 1, by omega, by go_num, HZ⟩
      case measure => simp [intOf]; omega
    case neg =>
      have hz : h.wrong.1 ≠ 0 := fun e => hok (h.wrong_zero.1 e)
      obtain ⟨c, hc⟩ : ∃ c, c = h.wrong := ⟨_, rfl⟩
      have HCw := Lib.hid hc
      rw [← hc] at C hz
      obtain ⟨c0', c1', c2', c3'⟩ := c
      clear hc
      have Hz := Lib.hid hz
      clear hz
      have Hok := Lib.hid hok
      clear hok
      go_wp2_with fail
      refine C.out.mono ?_
      rintro e u1 ⟨u, rfl, hi, hb⟩
      have CT := Lib.hid (told_is u1 u c0' c1' c2' c3' (HGc.out.later hb) hi)
      have H1 := Lib.hid hb
      clear hb C hi c0 c1 c2 c3
      go_wp2_with fail
      refine CT.out.mono ?_
      rintro e u2 ⟨rfl, hb⟩
      obtain ⟨B11, hB11⟩ : ∃ b, b = u2.heap.size := ⟨_, rfl⟩
      obtain ⟨u3, hu3⟩ : ∃ u, u = u2.alloc (.cells #[.int .i64 c0', .int .i64 c1', .int .i64 c2', .int .i64 c3'] 47) := ⟨_, rfl⟩
      have hb3 : Below u2.heap.size u2 u3 := by rw [hu3]; exact (Below.refl _ _).alloc (Nat.le_refl _) _
      have K11 : Blk u3 B11 #[.int .i64 c0', .int .i64 c1', .int .i64 c2', .int .i64 c3'] 47 (0, 0) := by rw [hu3, hB11]; exact Blk.new _ _ _ _
      have H3 := Lib.hid ((H1.out.next' hb).next' hb3)
      have k10 := HK10.out.below H3.out HK10.out.lt
      have c0 := k10.cell 0; have c1 := k10.cell 1; have c2 := k10.cell 2; have c3 := k10.cell 3
      simp only [List.getElem?_toArray, List.getElem?_cons_succ, List.getElem?_cons_zero] at c0 c1 c2 c3
      rw [hu3] at c0 c1 c2 c3
      have HK11 := Lib.hid K11; have HU3 := Lib.hid hu3; have HE11 := Lib.hid hB11
      have CN := Lib.hid (new_anyB _ h u3 (HGc.out.later H3.out) (HVh.out.below H3.out) (fun hk => ((Raw.ok_iff h).1 hk).few))
      clear hb hb3 K11 hu3 hB11 k10 CT H1
      go_wp2_with fail
      rw [← HU3.out, ← HE11.out]
      clear HU3 HE11
      go_wp2_with fail
      refine CN.out.mono ?_
      rintro e u4 ⟨hcs, hb⟩
      rcases hcs with ⟨_, un, rfl, hun⟩ | hcs
      case inr => exact absurd hcs.1 Hok.out
      rw [← HCw.out] at hun
      rcases hun.form with ⟨_, hz⟩ | ⟨⟨ty, xv, rfl⟩, _⟩
      · exact absurd hz Hz.out
      have HUn := Lib.hid hun
      have hcz : (c0' != 0) = true := by rw [bne_iff_ne]; exact Hz.out
      clear hun
      have H4 := Lib.hid (H3.out.next' hb)
      have HS := Lib.hid (show ∀ u, Below u4.heap.size u4 u → (u.cell? ⟨B10, 0, none⟩ = some (.int .i64 h.nodes) ∧ u.cell? ⟨B10, 1, none⟩ = some (vx) ∧ u.cell? ⟨B10, 2, none⟩ = some (vy) ∧ u.cell? ⟨B10, 3, none⟩ = some (va) ∧ u.cell? ⟨B11, 0, none⟩ = some (.int .i64 c0') ∧ u.cell? ⟨B11, 1, none⟩ = some (.int .i64 c1') ∧ u.cell? ⟨B11, 2, none⟩ = some (.int .i64 c2') ∧ u.cell? ⟨B11, 3, none⟩ = some (.int .i64 c3')) from fun u hu => by
        have k10 := HK10.out.below (H4.out.next' hu) HK10.out.lt
        have k11 := HK11.out.below (hb.next' hu) HK11.out.lt
        exact ⟨k10.cell 0, k10.cell 1, k10.cell 2, k10.cell 3, k11.cell 0, k11.cell 1, k11.cell 2, k11.cell 3⟩)
      have HBel := Lib.hid (Below.refl u4.heap.size u4)
      have hfq := fault_neq c0' c1' c2' c3'
      clear hb c0 c1 c2 c3 CN
      go_wp2_with fail
      refine wp_region_held (S := fun w' => w'.cell? ⟨B10, 0, none⟩ = some (.int .i64 h.nodes) ∧ w'.cell? ⟨B10, 1, none⟩ = some (vx) ∧ w'.cell? ⟨B10, 2, none⟩ = some (vy) ∧ w'.cell? ⟨B10, 3, none⟩ = some (va) ∧ w'.cell? ⟨B11, 0, none⟩ = some (.int .i64 c0') ∧ w'.cell? ⟨B11, 1, none⟩ = some (.int .i64 c1') ∧ w'.cell? ⟨B11, 2, none⟩ = some (.int .i64 c2') ∧ w'.cell? ⟨B11, 3, none⟩ = some (.int .i64 c3')) rfl ?_
      have hS0 := HS.out u4.drew (HBel.out.drew)
      change wpAnyH _ _ _ _ _ 30 _ _ u4.drew
      have HBe := Lib.hid (HBel.out.drew)
      refine heldA_take (i := 0) (v := .iface ty xv) rfl rfl (by kernel_rfl) (by kernel_rfl) (by kernel_rfl) (fun _ _ _ h => h) (by rfl) (fun w hS => by obtain ⟨hS1, hS2, hS3, hS4, hS5, hS6, hS7, hS8⟩ := hS; go_simp) hS0 ?_
      simp only [List.setIfInBounds_toArray, List.set_cons_zero, List.set_cons_succ]
      refine heldA_take (i := 1) (v := .bool true) rfl rfl (by kernel_rfl) (by kernel_rfl) (by kernel_rfl) (fun _ _ _ h => h) (by rfl) (fun w hS => by obtain ⟨hS1, hS2, hS3, hS4, hS5, hS6, hS7, hS8⟩ := hS; go_simp) hS0 ?_
      simp only [List.setIfInBounds_toArray, List.set_cons_zero, List.set_cons_succ]
      refine heldA_take (i := 2) (v := .pointer (some ⟨B11, 0, none⟩)) rfl rfl (by kernel_rfl) (by kernel_rfl) (by kernel_rfl) (fun _ _ _ h => h) (by rfl) (fun w hS => by obtain ⟨hS1, hS2, hS3, hS4, hS5, hS6, hS7, hS8⟩ := hS; go_simp) hS0 ?_
      simp only [List.setIfInBounds_toArray, List.set_cons_zero, List.set_cons_succ]
      refine heldA_take (i := 3) (v := .int .i64 c0') rfl rfl (by kernel_rfl) (by kernel_rfl) (by kernel_rfl) (fun _ _ _ h => h) (by rfl) (fun w hS => by obtain ⟨hS1, hS2, hS3, hS4, hS5, hS6, hS7, hS8⟩ := hS; go_simp) hS0 ?_
      simp only [List.setIfInBounds_toArray, List.set_cons_zero, List.set_cons_succ]
      refine heldA_take (i := 4) (v := .bool true) rfl rfl (by kernel_rfl) (by kernel_rfl) (by kernel_rfl) (fun _ _ _ h => h) (by rfl) (fun w hS => by obtain ⟨hS1, hS2, hS3, hS4, hS5, hS6, hS7, hS8⟩ := hS; go_simp) hS0 ?_
      simp only [List.setIfInBounds_toArray, List.set_cons_zero, List.set_cons_succ]
      refine heldA_take (i := 5) (v := .bool false) rfl rfl (by kernel_rfl) (by kernel_rfl) (by kernel_rfl) (fun _ _ _ h => h) (by rfl) (fun w hS => by obtain ⟨hS1, hS2, hS3, hS4, hS5, hS6, hS7, hS8⟩ := hS; go_simp) hS0 ?_
      simp only [List.setIfInBounds_toArray, List.set_cons_zero, List.set_cons_succ]
      refine heldA_take (i := 6) (v := .bool false) rfl rfl (by kernel_rfl) (by kernel_rfl) (by kernel_rfl) (fun _ _ _ h => h) (by rfl) (fun w hS => by obtain ⟨hS1, hS2, hS3, hS4, hS5, hS6, hS7, hS8⟩ := hS; go_simp) hS0 ?_
      simp only [List.setIfInBounds_toArray, List.set_cons_zero, List.set_cons_succ]
      refine heldA_take (i := 7) (v := .iface ty xv) rfl rfl (by kernel_rfl) (by kernel_rfl) (by kernel_rfl) (fun _ _ _ h => h) (by rfl) (fun w hS => by obtain ⟨hS1, hS2, hS3, hS4, hS5, hS6, hS7, hS8⟩ := hS; go_simp) hS0 ?_
      simp only [List.setIfInBounds_toArray, List.set_cons_zero, List.set_cons_succ]
      refine heldA_take (i := 9) (v := .agg #[.int .i64 c0', .int .i64 c1', .int .i64 c2', .int .i64 c3']) rfl rfl (by kernel_rfl) (by kernel_rfl) (by kernel_rfl) (fun _ _ _ h => h) (by rfl) (fun w hS => by obtain ⟨hS1, hS2, hS3, hS4, hS5, hS6, hS7, hS8⟩ := hS; go_simp) hS0 ?_
      simp only [List.setIfInBounds_toArray, List.set_cons_zero, List.set_cons_succ]
      refine heldA_one (i := 8) (by kernel_rfl) ?_
      refine wpOp_calls (f := 43) rfl rfl (by rfl) (by go_simp) (told_is u4.drew _ c0' c1' c2' c3' (HGc.out.later (H4.out.next' HBe.out)) (HUn.out.later HBe.out)) ?_ (by rintro _ _ ⟨h, _⟩; cases h) (by rintro _ ⟨h, _⟩; cases h)
      rintro _ u5 ⟨⟨rfl⟩, hb⟩
      have HBn := Lib.hid (HBe.out.trans (hb.mono HBe.out.size))
      replace HBe := HBn
      clear HBn hb hS0
      have hS0 := HS.out u5 HBe.out
      refine ⟨hS0, ?_⟩
      simp only [List.setIfInBounds_toArray, List.set_cons_zero, List.set_cons_succ]
      refine heldA_take (i := 10) (v := .bool false) rfl rfl (by kernel_rfl) (by kernel_rfl) (by kernel_rfl) (fun _ _ _ h => h) (by rfl) (fun w hS => by obtain ⟨hS1, hS2, hS3, hS4, hS5, hS6, hS7, hS8⟩ := hS; go_simp) hS0 ?_
      simp only [List.setIfInBounds_toArray, List.set_cons_zero, List.set_cons_succ]
      refine heldA_take (i := 11) (v := .bool false) rfl rfl (by kernel_rfl) (by kernel_rfl) (by kernel_rfl) (fun _ _ _ h => h) (by rfl) (fun w hS => by obtain ⟨hS1, hS2, hS3, hS4, hS5, hS6, hS7, hS8⟩ := hS; go_simp) hS0 ?_
      simp only [List.setIfInBounds_toArray, List.set_cons_zero, List.set_cons_succ]
      refine heldA_take (i := 12) (v := .bool false) rfl rfl (by kernel_rfl) (by kernel_rfl) (by kernel_rfl) (fun _ _ _ h => h) (by rfl) (fun w hS => by obtain ⟨hS1, hS2, hS3, hS4, hS5, hS6, hS7, hS8⟩ := hS; go_simp) hS0 ?_
      simp only [List.setIfInBounds_toArray, List.set_cons_zero, List.set_cons_succ]
      refine heldA_take (i := 13) (v := .iface ty xv) rfl rfl (by kernel_rfl) (by kernel_rfl) (by kernel_rfl) (fun _ _ _ h => h) (by rfl) (fun w hS => by obtain ⟨hS1, hS2, hS3, hS4, hS5, hS6, hS7, hS8⟩ := hS; go_simp) hS0 ?_
      simp only [List.setIfInBounds_toArray, List.set_cons_zero, List.set_cons_succ]
      refine heldA_take (i := 14) (v := .bool true) rfl rfl (by kernel_rfl) (by kernel_rfl) (by kernel_rfl) (fun _ _ _ h => h) (by rfl) (fun w hS => by obtain ⟨hS1, hS2, hS3, hS4, hS5, hS6, hS7, hS8⟩ := hS; go_simp) hS0 ?_
      simp only [List.setIfInBounds_toArray, List.set_cons_zero, List.set_cons_succ]
      refine heldA_take (i := 15) (v := .bool true) rfl rfl (by kernel_rfl) (by kernel_rfl) (by kernel_rfl) (fun _ _ _ h => h) (by rfl) (fun w hS => by obtain ⟨hS1, hS2, hS3, hS4, hS5, hS6, hS7, hS8⟩ := hS; go_simp) hS0 ?_
      simp only [List.setIfInBounds_toArray, List.set_cons_zero, List.set_cons_succ]
      refine heldA_take (i := 16) (v := .pointer none) rfl rfl (by kernel_rfl) (by kernel_rfl) (by kernel_rfl) (fun _ _ _ h => h) (by rfl) (fun w hS => by obtain ⟨hS1, hS2, hS3, hS4, hS5, hS6, hS7, hS8⟩ := hS; go_simp) hS0 ?_
      simp only [List.setIfInBounds_toArray, List.set_cons_zero, List.set_cons_succ]
      refine heldA_take (i := 17) (v := .bool false) rfl rfl (by kernel_rfl) (by kernel_rfl) (by kernel_rfl) (fun _ _ _ h => h) (by rfl) (fun w hS => by obtain ⟨hS1, hS2, hS3, hS4, hS5, hS6, hS7, hS8⟩ := hS; go_simp) hS0 ?_
      simp only [List.setIfInBounds_toArray, List.set_cons_zero, List.set_cons_succ]
      refine heldA_take (i := 18) (v := .bool false) rfl rfl (by kernel_rfl) (by kernel_rfl) (by kernel_rfl) (fun _ _ _ h => h) (by rfl) (fun w hS => by obtain ⟨hS1, hS2, hS3, hS4, hS5, hS6, hS7, hS8⟩ := hS; go_simp) hS0 ?_
      simp only [List.setIfInBounds_toArray, List.set_cons_zero, List.set_cons_succ]
      refine heldA_take (i := 19) (v := .bool false) rfl rfl (by kernel_rfl) (by kernel_rfl) (by kernel_rfl) (fun _ _ _ h => h) (by rfl) (fun w hS => by obtain ⟨hS1, hS2, hS3, hS4, hS5, hS6, hS7, hS8⟩ := hS; go_simp) hS0 ?_
      simp only [List.setIfInBounds_toArray, List.set_cons_zero, List.set_cons_succ]
      refine heldA_take (i := 20) (v := .bool false) rfl rfl (by kernel_rfl) (by kernel_rfl) (by kernel_rfl) (fun _ _ _ h => h) (by rfl) (fun w hS => by obtain ⟨hS1, hS2, hS3, hS4, hS5, hS6, hS7, hS8⟩ := hS; go_simp) hS0 ?_
      simp only [List.setIfInBounds_toArray, List.set_cons_zero, List.set_cons_succ]
      refine heldA_take (i := 21) (v := .iface ty xv) rfl rfl (by kernel_rfl) (by kernel_rfl) (by kernel_rfl) (fun _ _ _ h => h) (by rfl) (fun w hS => by obtain ⟨hS1, hS2, hS3, hS4, hS5, hS6, hS7, hS8⟩ := hS; go_simp) hS0 ?_
      simp only [List.setIfInBounds_toArray, List.set_cons_zero, List.set_cons_succ]
      refine heldA_take (i := 22) (v := .bool false) rfl rfl (by kernel_rfl) (by kernel_rfl) (by kernel_rfl) (fun _ _ _ h => h) (by rfl) (fun w hS => by obtain ⟨hS1, hS2, hS3, hS4, hS5, hS6, hS7, hS8⟩ := hS; go_simp) hS0 ?_
      simp only [List.setIfInBounds_toArray, List.set_cons_zero, List.set_cons_succ]
      refine heldA_take (i := 23) (v := .bool false) rfl rfl (by kernel_rfl) (by kernel_rfl) (by kernel_rfl) (fun _ _ _ h => h) (by rfl) (fun w hS => by obtain ⟨hS1, hS2, hS3, hS4, hS5, hS6, hS7, hS8⟩ := hS; go_simp) hS0 ?_
      simp only [List.setIfInBounds_toArray, List.set_cons_zero, List.set_cons_succ]
      refine heldA_skip (i := 24) rfl rfl (by kernel_rfl) (by kernel_rfl) (by kernel_rfl) (fun _ _ _ h => h) (by rfl) hS0 ?_
      simp only [List.setIfInBounds_toArray, List.set_cons_zero, List.set_cons_succ]
      refine heldA_skip (i := 25) rfl rfl (by kernel_rfl) (by kernel_rfl) (by kernel_rfl) (fun _ _ _ h => h) (by rfl) hS0 ?_
      simp only [List.setIfInBounds_toArray, List.set_cons_zero, List.set_cons_succ]
      refine heldA_skip (i := 26) rfl rfl (by kernel_rfl) (by kernel_rfl) (by kernel_rfl) (fun _ _ _ h => h) (by rfl) hS0 ?_
      simp only [List.setIfInBounds_toArray, List.set_cons_zero, List.set_cons_succ]
      refine heldA_skip (i := 27) rfl rfl (by kernel_rfl) (by kernel_rfl) (by kernel_rfl) (fun _ _ _ h => h) (by rfl) hS0 ?_
      simp only [List.setIfInBounds_toArray, List.set_cons_zero, List.set_cons_succ]
      refine heldA_take (i := 28) (v := .bool false) rfl rfl (by kernel_rfl) (by kernel_rfl) (by kernel_rfl) (fun _ _ _ h => h) (by rfl) (fun w hS => by obtain ⟨hS1, hS2, hS3, hS4, hS5, hS6, hS7, hS8⟩ := hS; go_simp) hS0 ?_
      simp only [List.setIfInBounds_toArray, List.set_cons_zero, List.set_cons_succ]
      refine heldA_take (i := 29) (v := .bool false) rfl rfl (by kernel_rfl) (by kernel_rfl) (by kernel_rfl) (fun _ _ _ h => h) (by rfl) (fun w hS => by obtain ⟨hS1, hS2, hS3, hS4, hS5, hS6, hS7, hS8⟩ := hS; go_simp) hS0 ?_
      simp only [List.setIfInBounds_toArray, List.set_cons_zero, List.set_cons_succ]
      refine wpAnyH_done (by kernel_rfl) ?_ _
      have HZ := Lib.hid (HR.out.next' (H4.out.next' HBe.out))
      clear hS0 hfq HBe HBel hcz
      go_wp2_with fail
      go_roundw
      case rel => exact ⟨k + 1, by omega, by go_num, HZ⟩
      case measure => simp [intOf]; omega
  obtain rfl : k = 2 := by omega
  go_wp2_with fail
  refine (works7_any wr (HG0.out.later (HBw5.out.next' HR.out))).mono ?_
  rintro e u ⟨rfl, hb⟩
  have HE := Lib.hid (HBw5.out.next' (HR.out.next' hb))
  clear hb
  go_wp2_with fail
  go_ret
  exact ⟨rfl, HE.out⟩
theorem netWrong_rd (v : Value) (cs1 cs2 : Array Value) (W : World) (R0 : Rd Tryd.prog W 56 [v]) (R1 : Rd Tryd.prog W 71 cs1.toList) (R2 : Rd Tryd.prog W 25 cs2.toList) (hg : HG W) : Calls Tryd.prog 9 #[v, .agg cs1, .agg cs2] W fun e w' => e = .returned (.bool true) ∧ Below W.heap.size W w' := by
  obtain ⟨l, h, _⟩ := Rd.ints Tryd.underlying56 Tryd.underlying5 (by kernel_rfl) R0
  obtain ⟨r, hr⟩ := Rd.raw R2
  obtain ⟨es⟩ := cs1
  obtain ⟨hl, _⟩ := Rd.array Tryd.underlying71 R1
  obtain ⟨e0, e1, e2, rfl⟩ := three_of (hl.trans (show Tryd.prog.cellsOf 71 = 3 by kernel_rfl))
  clear hl
  obtain ⟨n0, h0, _⟩ := Rd.int (k := .i64) Tryd.underlying2 (Rd.elem (e := 2) (c := e0) Tryd.underlying71 R1 0 (by omega) (by kernel_rfl) rfl)
  obtain ⟨n1, h1, _⟩ := Rd.int (k := .i64) Tryd.underlying2 (Rd.elem (e := 2) (c := e1) Tryd.underlying71 R1 1 (by omega) (by kernel_rfl) rfl)
  obtain ⟨n2, h2, _⟩ := Rd.int (k := .i64) Tryd.underlying2 (Rd.elem (e := 2) (c := e2) Tryd.underlying71 R1 2 (by omega) (by kernel_rfl) rfl)
  cases h0; cases h1; cases h2
  exact netWrong_any v (.agg cs2) l n0 n1 n2 r W h hr hg
end Go.Proofs.YtnkcmlngoeofgaaDoor
