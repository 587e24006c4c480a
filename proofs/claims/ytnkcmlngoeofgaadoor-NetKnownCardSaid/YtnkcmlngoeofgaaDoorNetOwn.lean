/- net.own: a graph with lists of its own. -/
import Derived.Test.YtnkcmlngoeofgaaDoorGrCopied
namespace Go.Proofs.YtnkcmlngoeofgaaDoor
open Go.RowKit
set_option maxRecDepth 100000 in
set_option maxHeartbeats 4000000 in
theorem own_any (v : Value) (r : Raw) (w : World) (h : RawV w v r) (hl : r.few) :
    Calls Tryd.prog 54 #[v] w fun e w' => ∃ v', e = .returned v' ∧ RawO w.heap.size w' v' r ∧ Below w.heap.size w w' := by
  obtain ⟨vx, vy, va, rfl, hx, hy, ha⟩ := h
  have fx := hx.form; have fy := hy.form; have fa := ha.form
  obtain ⟨B, hB⟩ : ∃ b, b = w.heap.size := ⟨_, rfl⟩
  have b2 := (Blk.new w #[.int .i64 r.nodes, vx, vy, va] 25 (0, 0)).alloc (.cells #[.int .i64 0, .slice none 0 0, .slice none 0 0, .slice none 0 0] 25)
  have c2 : Blk ((w.alloc (.cells #[.int .i64 r.nodes, vx, vy, va] 25)).alloc (.cells #[.int .i64 0, .slice none 0 0, .slice none 0 0, .slice none 0 0] 25)) (w.heap.size + 1) #[.int .i64 0, .slice none 0 0, .slice none 0 0, .slice none 0 0] 25 (0, 0) := by
    have h := Blk.new (w.alloc (.cells #[.int .i64 r.nodes, vx, vy, va] 25)) #[.int .i64 0, .slice none 0 0, .slice none 0 0, .slice none 0 0] 25 (0, 0)
    rwa [World.size_alloc] at h
  have hb0 := ((Below.refl w.heap.size w).alloc (Nat.le_refl _) (.cells #[.int .i64 r.nodes, vx, vy, va] 25)).alloc (by simp) (.cells #[.int .i64 0, .slice none 0 0, .slice none 0 0, .slice none 0 0] 25)
  have hk0 := KpC.of_below hb0
  have HX := Lib.hid (hx.keep hk0); have HY := Lib.hid (hy.keep hk0); have HA := Lib.hid (ha.keep hk0); have HB0 := Lib.hid hb0; have HB2 := Lib.hid b2; have HC2 := Lib.hid c2; have HL := Lib.hid hl
  rw [← hB] at HB2 HC2
  have HBl : Hid (B = w.heap.size) := Lib.hid hB
  clear hx hy ha b2 c2 hb0 hl hk0
  obtain ⟨ax, nx, cx, rfl⟩ := fx
  obtain ⟨ay, ny, cy, rfl⟩ := fy
  obtain ⟨aa, na, ca, rfl⟩ := fa
  obtain ⟨Bs, hBs⟩ : ∃ b, b = B + 1 := ⟨_, rfl⟩
  rw [← hBs] at HC2
  have HBs : Hid (Bs = B + 1) := Lib.hid hBs
  go_enter Tryd.func54, Tryd.ntmps54
  go_wp2_with fail
  rw [show w.heap.size + 1 = Bs by rw [hBs, hB], ← hB]
  clear hB hBs
  generalize ((w.alloc (.cells #[.int .i64 r.nodes, .slice ax nx cx, .slice ay ny cy, .slice aa na ca] 25)).alloc (.cells #[.int .i64 0, .slice none 0 0, .slice none 0 0, .slice none 0 0] 25)) = w1 at *
  refine wp_region_heldD (fun w' => w'.cell? ⟨B, 1, none⟩ = some (.slice ax nx cx) ∧ w'.cell? ⟨B, 2, none⟩ = some (.slice ay ny cy) ∧ w'.cell? ⟨B, 3, none⟩ = some (.slice aa na ca)) 10 rfl ?_
  change heldD _ _ _ _ _ _ _ 15 _ _ w1.drew
  have hS0 : w1.drew.cell? ⟨B, 1, none⟩ = some (.slice ax nx cx) ∧ w1.drew.cell? ⟨B, 2, none⟩ = some (.slice ay ny cy) ∧ w1.drew.cell? ⟨B, 3, none⟩ = some (.slice aa na ca) := ⟨HB2.out.cell 1, HB2.out.cell 2, HB2.out.cell 3⟩
  refine heldD_take (i := 0) (v := .pointer (some ⟨B, 1, none⟩)) rfl rfl rfl (by kernel_rfl) (by kernel_rfl) (by kernel_rfl) (by kernel_rfl) (by kernel_rfl) (by kernel_rfl) (fun _ _ _ h => h) (by rfl) (fun w hS => ⟨by rfl, by obtain ⟨hS1, hS2, hS3⟩ := hS; go_simp⟩) hS0 ?_
  simp only [List.setIfInBounds_toArray, List.set_cons_zero, List.set_cons_succ]
  refine heldD_take (i := 1) (v := .slice ax nx cx) rfl rfl rfl (by kernel_rfl) (by kernel_rfl) (by kernel_rfl) (by kernel_rfl) (by kernel_rfl) (by kernel_rfl) (fun _ _ _ h => h) (by rfl) (fun w hS => ⟨by rfl, by obtain ⟨hS1, hS2, hS3⟩ := hS; go_simp⟩) hS0 ?_
  simp only [List.setIfInBounds_toArray, List.set_cons_zero, List.set_cons_succ]
  refine heldD_take (i := 3) (v := .pointer (some ⟨B, 2, none⟩)) rfl rfl rfl (by kernel_rfl) (by kernel_rfl) (by kernel_rfl) (by kernel_rfl) (by kernel_rfl) (by kernel_rfl) (fun _ _ _ h => h) (by rfl) (fun w hS => ⟨by rfl, by obtain ⟨hS1, hS2, hS3⟩ := hS; go_simp⟩) hS0 ?_
  simp only [List.setIfInBounds_toArray, List.set_cons_zero, List.set_cons_succ]
  refine heldD_take (i := 4) (v := .slice ay ny cy) rfl rfl rfl (by kernel_rfl) (by kernel_rfl) (by kernel_rfl) (by kernel_rfl) (by kernel_rfl) (by kernel_rfl) (fun _ _ _ h => h) (by rfl) (fun w hS => ⟨by rfl, by obtain ⟨hS1, hS2, hS3⟩ := hS; go_simp⟩) hS0 ?_
  simp only [List.setIfInBounds_toArray, List.set_cons_zero, List.set_cons_succ]
  refine heldD_take (i := 6) (v := .pointer (some ⟨B, 3, none⟩)) rfl rfl rfl (by kernel_rfl) (by kernel_rfl) (by kernel_rfl) (by kernel_rfl) (by kernel_rfl) (by kernel_rfl) (fun _ _ _ h => h) (by rfl) (fun w hS => ⟨by rfl, by obtain ⟨hS1, hS2, hS3⟩ := hS; go_simp⟩) hS0 ?_
  simp only [List.setIfInBounds_toArray, List.set_cons_zero, List.set_cons_succ]
  refine heldD_take (i := 7) (v := .slice aa na ca) rfl rfl rfl (by kernel_rfl) (by kernel_rfl) (by kernel_rfl) (by kernel_rfl) (by kernel_rfl) (by kernel_rfl) (fun _ _ _ h => h) (by rfl) (fun w hS => ⟨by rfl, by obtain ⟨hS1, hS2, hS3⟩ := hS; go_simp⟩) hS0 ?_
  simp only [List.setIfInBounds_toArray, List.set_cons_zero, List.set_cons_succ]
  clear hS0
  have hd := (Below.refl w1.heap.size w1).drew
  refine heldD_one (i := 2) (by kernel_rfl) ?_
  refine wpOpIn_calls' (f := 72) (args := #[.slice ax nx cx]) rfl rfl (by rfl) (by go_simp) (cloneX _ r.X w1.drew (HX.out.keep (KpC.of_below hd)) HL.out.1) ?_
  rintro e w2 ⟨v1, rfl, ho1, hb1⟩
  refine ⟨_, rfl, ?_⟩
  replace hb1 := hd.next' hb1
  have bA := HB2.out.below hb1 HB2.out.lt
  have hS1 : w2.cell? ⟨B, 1, none⟩ = some (.slice ax nx cx) ∧ w2.cell? ⟨B, 2, none⟩ = some (.slice ay ny cy) ∧ w2.cell? ⟨B, 3, none⟩ = some (.slice aa na ca) := ⟨bA.cell 1, bA.cell 2, bA.cell 3⟩
  refine ⟨fun _ => hS1, ?_⟩
  simp only [List.setIfInBounds_toArray, List.set_cons_zero, List.set_cons_succ]
  refine heldD_takeF (i := 9) (v := .pointer (some ⟨B, 1, none⟩)) rfl rfl rfl (by kernel_rfl) (by kernel_rfl) (by kernel_rfl) (by kernel_rfl) (fun _ _ _ h => h) (by rfl) (fun w => ⟨by rfl, by go_simp⟩) (fun _ => hS1) ?_
  simp only [List.setIfInBounds_toArray, List.set_cons_zero, List.set_cons_succ]
  clear hS1
  refine heldD_one (i := 5) (by kernel_rfl) ?_
  refine wpOpIn_calls' (f := 72) (args := #[.slice ay ny cy]) rfl rfl (by rfl) (by go_simp) (cloneX _ r.Y w2 (HY.out.keep (KpC.of_below hb1)) HL.out.2.1) ?_
  rintro e w3 ⟨v2, rfl, ho2, hb2⟩
  refine ⟨_, rfl, ?_⟩
  have hb3 := hb1.next' hb2
  have bA := HB2.out.below hb3 HB2.out.lt
  refine ⟨fun _ => ⟨bA.cell 1, bA.cell 2, bA.cell 3⟩, ?_⟩
  simp only [List.setIfInBounds_toArray, List.set_cons_zero, List.set_cons_succ]
  refine heldD_one (i := 8) (by kernel_rfl) ?_
  refine wpOpIn_calls' (f := 73) (args := #[.slice aa na ca]) rfl rfl (by rfl) (by go_simp) (cloneA _ r.arcs w3 (HA.out.keep (KpC.of_below hb3)) HL.out.2.2) ?_
  rintro e w4 ⟨v3, rfl, ho3, hb4⟩
  refine ⟨_, rfl, ?_⟩
  have hb5 := hb3.next' hb4
  have bA := HB2.out.below hb5 HB2.out.lt
  have bC := HC2.out.below hb5 HC2.out.lt
  have hS0 : w4.cell? ⟨B, 1, none⟩ = some (.slice ax nx cx) ∧ w4.cell? ⟨B, 2, none⟩ = some (.slice ay ny cy) ∧ w4.cell? ⟨B, 3, none⟩ = some (.slice aa na ca) := ⟨bA.cell 1, bA.cell 2, bA.cell 3⟩
  refine ⟨fun _ => hS0, ?_⟩
  simp only [List.setIfInBounds_toArray, List.set_cons_zero, List.set_cons_succ]
  have o1 := ownsRow_below ho1 (hb2.next' hb4)
  have o2 := ownsRow_below ho2 hb4
  have l1 : ∀ b, v1.ownBlock = some b → b < w2.heap.size := fun b hb => (ownsRow_blk' ho1 hb).2.choose_spec.lt
  have l2 : ∀ b, v2.ownBlock = some b → w2.heap.size ≤ b := fun b hb => (ownsRow_blk' ho2 hb).1
  have hs1 := hb1.size; have hs3 := hb3.size
  have R := rawO_mk (base := w.heap.size) (r := r) (ownsRow_le o1 HB0.out.size) (ownsRow_le o2 (Nat.le_trans HB0.out.size hs1)) (ownsRow_le ho3 (Nat.le_trans HB0.out.size hs3)) (fun b h1 h2 => by have := l1 b h1; have := l2 b h2; omega)
  have HR := Lib.hid R; have HbA := Lib.hid bA; have HbC := Lib.hid bC; have Hb5 := Lib.hid (HB0.out.next' hb5)
  have g1 := ho1.one' ; have g2 := ho2.one'; have g3 := ho3.one'
  obtain ⟨a1, n1, k1, rfl⟩ := g1
  obtain ⟨a2, n2, k2, rfl⟩ := g2
  obtain ⟨a3, n3, k3, rfl⟩ := g3
  clear R hb1 hb2 hb3 hb4 hb5 o1 o2 ho1 ho2 ho3 l1 l2 hs1 hs3 HX HY HA HB0 HB2 HC2 HL hd
  have c1 := HbA.out.cell 1; have f1 := HbA.out.free 1 (Or.inr (Nat.zero_le _))
  change w4.cell? ⟨B, 1, none⟩ = some (.slice ax nx cx) at c1
  refine heldD_one (i := 10) (by kernel_rfl) ?_
  refine wpOpIn_skip (w' := w4.setCell ⟨B, 1, none⟩ (.slice a1 n1 k1)) rfl rfl rfl (by rfl) (by rfl) (by go_simp) ?_
  refine ⟨fun h => (by cases h), ?_⟩
  have bA1 := HbA.out.set 1 (.slice a1 n1 k1)
  have c2 := bA1.cell 2; have f2 := bA1.free 2 (Or.inr (Nat.zero_le _))
  change (w4.setCell ⟨B, 1, none⟩ (.slice a1 n1 k1)).cell? ⟨B, 2, none⟩ = some (.slice ay ny cy) at c2
  refine heldD_takeF (i := 11) (v := .pointer (some ⟨B, 2, none⟩)) rfl rfl rfl (by kernel_rfl) (by kernel_rfl) (by kernel_rfl) (by kernel_rfl) (fun _ _ _ h => h) (by rfl) (fun w => ⟨by rfl, by go_simp⟩) (fun h => by cases h) ?_
  simp only [List.setIfInBounds_toArray, List.set_cons_zero, List.set_cons_succ]
  refine heldD_one (i := 12) (by kernel_rfl) ?_
  refine wpOpIn_skip (w' := (w4.setCell ⟨B, 1, none⟩ (.slice a1 n1 k1)).setCell ⟨B, 2, none⟩ (.slice a2 n2 k2)) rfl rfl rfl (by rfl) (by rfl) (by go_simp) ?_
  refine ⟨fun h => (by cases h), ?_⟩
  have bA2 := bA1.set 2 (.slice a2 n2 k2)
  have c3 := bA2.cell 3; have f3 := bA2.free 3 (Or.inr (Nat.zero_le _))
  change ((w4.setCell ⟨B, 1, none⟩ (.slice a1 n1 k1)).setCell ⟨B, 2, none⟩ (.slice a2 n2 k2)).cell? ⟨B, 3, none⟩ = some (.slice aa na ca) at c3
  refine heldD_takeF (i := 13) (v := .pointer (some ⟨B, 3, none⟩)) rfl rfl rfl (by kernel_rfl) (by kernel_rfl) (by kernel_rfl) (by kernel_rfl) (fun _ _ _ h => h) (by rfl) (fun w => ⟨by rfl, by go_simp⟩) (fun h => by cases h) ?_
  simp only [List.setIfInBounds_toArray, List.set_cons_zero, List.set_cons_succ]
  refine heldD_one (i := 14) (by kernel_rfl) ?_
  refine wpOpIn_skip (w' := ((w4.setCell ⟨B, 1, none⟩ (.slice a1 n1 k1)).setCell ⟨B, 2, none⟩ (.slice a2 n2 k2)).setCell ⟨B, 3, none⟩ (.slice a3 n3 k3)) rfl rfl rfl (by rfl) (by rfl) (by go_simp) ?_
  refine ⟨fun h => (by cases h), ?_⟩
  refine heldD_done (by kernel_rfl) ?_ _
  change Exit.then _ _ Exit.normal _ _
  have bA3 := bA2.set 3 (.slice a3 n3 k3)
  have R1 := ((HR.out.set (p := ⟨B, 1, none⟩) HbA.out (by decide) (by decide) (.slice a1 n1 k1)).set (p := ⟨B, 2, none⟩) bA1 (by decide) (by decide) (.slice a2 n2 k2)).set (p := ⟨B, 3, none⟩) bA2 (by decide) (by decide) (.slice a3 n3 k3)
  have hle : w.heap.size ≤ B := by rw [HBl.out]; exact Nat.le_refl _
  have B1 := ((Hb5.out.setCell (p := ⟨B, 1, none⟩) hle (.slice a1 n1 k1)).setCell (p := ⟨B, 2, none⟩) hle (.slice a2 n2 k2)).setCell (p := ⟨B, 3, none⟩) hle (.slice a3 n3 k3)
  have bC3 := ((HbC.out.setOther ⟨B, 1, none⟩ (.slice a1 n1 k1) (by simp [HBs.out])).setOther ⟨B, 2, none⟩ (.slice a2 n2 k2) (by simp [HBs.out])).setOther ⟨B, 3, none⟩ (.slice a3 n3 k3) (by simp [HBs.out])
  clear c1 c2 c3 f1 f2 f3 hS0 bA1 bA2 bA bC HR HbA HbC Hb5 hle
  generalize ((w4.setCell ⟨B, 1, none⟩ (.slice a1 n1 k1)).setCell ⟨B, 2, none⟩ (.slice a2 n2 k2)).setCell ⟨B, 3, none⟩ (.slice a3 n3 k3) = w5 at *
  replace bA3 : Blk w5 B #[.int .i64 r.nodes, .slice a1 n1 k1, .slice a2 n2 k2, .slice a3 n3 k3] 25 (0, 0) := bA3
  have c0 := bA3.cell 0; have c1 := bA3.cell 1; have c2 := bA3.cell 2; have c3 := bA3.cell 3
  change w5.cell? ⟨B, 0, none⟩ = some (.int .i64 r.nodes) at c0
  change w5.cell? ⟨B, 1, none⟩ = some (.slice a1 n1 k1) at c1
  change w5.cell? ⟨B, 2, none⟩ = some (.slice a2 n2 k2) at c2
  change w5.cell? ⟨B, 3, none⟩ = some (.slice a3 n3 k3) at c3
  have e0 := bC3.cell 0; have e1 := bC3.cell 1; have e2 := bC3.cell 2; have e3 := bC3.cell 3
  change w5.cell? ⟨Bs, 0, none⟩ = some (.int .i64 0) at e0
  change w5.cell? ⟨Bs, 1, none⟩ = some (.slice none 0 0) at e1
  change w5.cell? ⟨Bs, 2, none⟩ = some (.slice none 0 0) at e2
  change w5.cell? ⟨Bs, 3, none⟩ = some (.slice none 0 0) at e3
  have fr := fun i => bC3.free i (Or.inr (Nat.zero_le _))
  have f0 := fr 0; have f1 := fr 1; have f2 := fr 2; have f3 := fr 3
  have hle : w.heap.size ≤ Bs := by rw [HBs.out, HBl.out]; omega
  have bZ := (((bC3.set 0 (.int .i64 r.nodes)).set 1 (.slice a1 n1 k1)).set 2 (.slice a2 n2 k2)).set 3 (.slice a3 n3 k3)
  have R2 := (((R1.set (p := ⟨Bs, 0, none⟩) bC3 (by decide) (by decide) (.int .i64 r.nodes)).set (p := ⟨Bs, 1, none⟩) (bC3.set 0 (.int .i64 r.nodes)) (by decide) (by decide) (.slice a1 n1 k1)).set (p := ⟨Bs, 2, none⟩) ((bC3.set 0 (.int .i64 r.nodes)).set 1 (.slice a1 n1 k1)) (by decide) (by decide) (.slice a2 n2 k2)).set (p := ⟨Bs, 3, none⟩) (((bC3.set 0 (.int .i64 r.nodes)).set 1 (.slice a1 n1 k1)).set 2 (.slice a2 n2 k2)) (by decide) (by decide) (.slice a3 n3 k3)
  have B2 := (((B1.setCell (p := ⟨Bs, 0, none⟩) hle (.int .i64 r.nodes)).setCell (p := ⟨Bs, 1, none⟩) hle (.slice a1 n1 k1)).setCell (p := ⟨Bs, 2, none⟩) hle (.slice a2 n2 k2)).setCell (p := ⟨Bs, 3, none⟩) hle (.slice a3 n3 k3)
  have HZ := Lib.hid bZ; have HR2 := Lib.hid R2; have HB2 := Lib.hid B2
  clear bZ R2 B2 R1 B1 bC3 bA3 fr hle
  go_wp2_with fail
  generalize (((w5.setCell ⟨Bs, 0, none⟩ (.int .i64 r.nodes)).setCell ⟨Bs, 1, none⟩ (.slice a1 n1 k1)).setCell ⟨Bs, 2, none⟩ (.slice a2 n2 k2)).setCell ⟨Bs, 3, none⟩ (.slice a3 n3 k3) = wz at *
  have z0 := HZ.out.cell 0; have z1 := HZ.out.cell 1; have z2 := HZ.out.cell 2; have z3 := HZ.out.cell 3
  change wz.cell? ⟨Bs, 0, none⟩ = some (.int .i64 r.nodes) at z0
  change wz.cell? ⟨Bs, 1, none⟩ = some (.slice a1 n1 k1) at z1
  change wz.cell? ⟨Bs, 2, none⟩ = some (.slice a2 n2 k2) at z2
  change wz.cell? ⟨Bs, 3, none⟩ = some (.slice a3 n3 k3) at z3
  exact bodyPost_ret (v := .agg #[.int .i64 r.nodes, .slice a1 n1 k1, .slice a2 n2 k2, .slice a3 n3 k3]) (by simp [results, Tryd.results54, go_sem, z0, z1, z2, z3]) rfl ⟨_, rfl, ⟨_, _, _, rfl, HR2.out.1, HR2.out.2.1, HR2.out.2.2.1, HR2.out.2.2.2⟩, HB2.out⟩
end Go.Proofs.YtnkcmlngoeofgaaDoor
