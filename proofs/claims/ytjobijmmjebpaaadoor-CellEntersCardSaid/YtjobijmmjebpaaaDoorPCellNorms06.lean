/- Texts of the law CellNorms, merged: NetOwn, NetOf, ErrWrapN, NetNew, NetOneA, NetGetC, WalkIt, PushInt. -/
import Derived.Test.YtjobijmmjebpaaaDoorPCellNorms02
import Derived.Test.YtjobijmmjebpaaaDoorPCellNorms05
import Derived.Test.YtjobijmmjebpaaaDoorPCellNorms04
import Derived.BigQuiet
import Derived.Deep.QuietTactic
import Derived.WalkSmall
import Derived.Test.YtjobijmmjebpaaaDoorPCellNorms00
import Derived.Maps.AppendAt
import Derived.RangeFuncBox
/- net.own: a graph with lists of its own. -/
namespace Go.Proofs.YtjobijmmjebpaaaDoor
open Go.RowKit
set_option maxRecDepth 100000 in
set_option maxHeartbeats 4000000 in
theorem own_any (v : Value) (r : Raw) (w : World) (h : RawV w v r) (hl : r.few) :
    Calls Tryd.prog 48 #[v] w fun e w' => ∃ v', e = .returned v' ∧ RawO w.heap.size w' v' r ∧ Below w.heap.size w w' := by
  obtain ⟨vx, vy, va, rfl, hx, hy, ha⟩ := h
  have fx := hx.form; have fy := hy.form; have fa := ha.form
  obtain ⟨B, hB⟩ : ∃ b, b = w.heap.size := ⟨_, rfl⟩
  have b2 := (Blk.new w #[.int .i64 r.nodes, vx, vy, va] 26 (0, 0)).alloc (.cells #[.int .i64 0, .slice none 0 0, .slice none 0 0, .slice none 0 0] 26)
  have c2 : Blk ((w.alloc (.cells #[.int .i64 r.nodes, vx, vy, va] 26)).alloc (.cells #[.int .i64 0, .slice none 0 0, .slice none 0 0, .slice none 0 0] 26)) (w.heap.size + 1) #[.int .i64 0, .slice none 0 0, .slice none 0 0, .slice none 0 0] 26 (0, 0) := by
    have h := Blk.new (w.alloc (.cells #[.int .i64 r.nodes, vx, vy, va] 26)) #[.int .i64 0, .slice none 0 0, .slice none 0 0, .slice none 0 0] 26 (0, 0)
    rwa [World.size_alloc] at h
  have hb0 := ((Below.refl w.heap.size w).alloc (Nat.le_refl _) (.cells #[.int .i64 r.nodes, vx, vy, va] 26)).alloc (by simp) (.cells #[.int .i64 0, .slice none 0 0, .slice none 0 0, .slice none 0 0] 26)
  have hk0 := KpC.of_below hb0
  have HX := Lib.hid (hx.keep hk0); have HY := Lib.hid (hy.keep hk0); have HA := Lib.hid (ha.keep hk0); have HB0 := Lib.hid hb0; have HB2 := Lib.hid b2; have HC2 := Lib.hid c2; have HL := Lib.hid hl
  rw [← hB] at HB2 HC2
  have HBl : Hid (B = w.heap.size) := Lib.hid hB
  clear hx hy ha b2 c2 hb0 hl hk0
  obtain ⟨ax, nx, cx, rfl⟩ := fx
  obtain ⟨ay, ny, cy, rfl⟩ := fy
  obtain ⟨aa, na, ca, rfl⟩ := fa
  obtain ⟨Bs, hBs⟩ : ∃ b, b = B + 1 := ⟨_, rfl⟩
  rw [← hBs] at HC2
  have HBs : Hid (Bs = B + 1) := Lib.hid hBs
  go_enter Tryd.func48, Tryd.ntmps48
  go_wp2_with fail
  rw [show w.heap.size + 1 = Bs by rw [hBs, hB], ← hB]
  clear hB hBs
  generalize ((w.alloc (.cells #[.int .i64 r.nodes, .slice ax nx cx, .slice ay ny cy, .slice aa na ca] 26)).alloc (.cells #[.int .i64 0, .slice none 0 0, .slice none 0 0, .slice none 0 0] 26)) = w1 at *
  refine wp_region_heldD (fun w' => w'.cell? ⟨B, 1, none⟩ = some (.slice ax nx cx) ∧ w'.cell? ⟨B, 2, none⟩ = some (.slice ay ny cy) ∧ w'.cell? ⟨B, 3, none⟩ = some (.slice aa na ca)) 10 rfl ?_
  change heldD _ _ _ _ _ _ _ 15 _ _ w1.drew
  have hS0 : w1.drew.cell? ⟨B, 1, none⟩ = some (.slice ax nx cx) ∧ w1.drew.cell? ⟨B, 2, none⟩ = some (.slice ay ny cy) ∧ w1.drew.cell? ⟨B, 3, none⟩ = some (.slice aa na ca) := ⟨HB2.out.cell 1, HB2.out.cell 2, HB2.out.cell 3⟩
  refine heldD_take (i := 0) (v := .pointer (some ⟨B, 1, none⟩)) rfl rfl rfl (by kernel_rfl) (by kernel_rfl) (by kernel_rfl) (by kernel_rfl) (by kernel_rfl) (by kernel_rfl) (fun _ _ _ h => h) (by rfl) (fun w hS => ⟨by rfl, by obtain ⟨hS1, hS2, hS3⟩ := hS; go_simp⟩) hS0 ?_
  simp only [List.setIfInBounds_toArray, List.set_cons_zero, List.set_cons_succ]
  refine heldD_take (i := 1) (v := .slice ax nx cx) rfl rfl rfl (by kernel_rfl) (by kernel_rfl) (by kernel_rfl) (by kernel_rfl) (by kernel_rfl) (by kernel_rfl) (fun _ _ _ h => h) (by rfl) (fun w hS => ⟨by rfl, by obtain ⟨hS1, hS2, hS3⟩ := hS; go_simp⟩) hS0 ?_
  simp only [List.setIfInBounds_toArray, List.set_cons_zero, List.set_cons_succ]
  refine heldD_take (i := 3) (v := .pointer (some ⟨B, 2, none⟩)) rfl rfl rfl (by kernel_rfl) (by kernel_rfl) (by kernel_rfl) (by kernel_rfl) (by kernel_rfl) (by kernel_rfl) (fun _ _ _ h => h) (by rfl) (fun w hS => ⟨by rfl, by obtain ⟨hS1, hS2, hS3⟩ := hS; go_simp⟩) hS0 ?_
  simp only [List.setIfInBounds_toArray, List.set_cons_zero, List.set_cons_succ]
  refine heldD_take (i := 4) (v := .slice ay ny cy) rfl rfl rfl (by kernel_rfl) (by kernel_rfl) (by kernel_rfl) (by kernel_rfl) (by kernel_rfl) (by kernel_rfl) (fun _ _ _ h => h) (by rfl) (fun w hS => ⟨by rfl, by obtain ⟨hS1, hS2, hS3⟩ := hS; go_simp⟩) hS0 ?_
  simp only [List.setIfInBounds_toArray, List.set_cons_zero, List.set_cons_succ]
  refine heldD_take (i := 6) (v := .pointer (some ⟨B, 3, none⟩)) rfl rfl rfl (by kernel_rfl) (by kernel_rfl) (by kernel_rfl) (by kernel_rfl) (by kernel_rfl) (by kernel_rfl) (fun _ _ _ h => h) (by rfl) (fun w hS => ⟨by rfl, by obtain ⟨hS1, hS2, hS3⟩ := hS; go_simp⟩) hS0 ?_
  simp only [List.setIfInBounds_toArray, List.set_cons_zero, List.set_cons_succ]
  refine heldD_take (i := 7) (v := .slice aa na ca) rfl rfl rfl (by kernel_rfl) (by kernel_rfl) (by kernel_rfl) (by kernel_rfl) (by kernel_rfl) (by kernel_rfl) (fun _ _ _ h => h) (by rfl) (fun w hS => ⟨by rfl, by obtain ⟨hS1, hS2, hS3⟩ := hS; go_simp⟩) hS0 ?_
  simp only [List.setIfInBounds_toArray, List.set_cons_zero, List.set_cons_succ]
  clear hS0
  have hd := (Below.refl w1.heap.size w1).drew
  refine heldD_one (i := 2) (by kernel_rfl) ?_
  refine wpOpIn_calls' (f := 61) (args := #[.slice ax nx cx]) rfl rfl (by rfl) (by go_simp) (cloneX _ r.X w1.drew (HX.out.keep (KpC.of_below hd)) HL.out.1) ?_
  rintro e w2 ⟨v1, rfl, ho1, hb1⟩
  refine ⟨_, rfl, ?_⟩
  replace hb1 := hd.next' hb1
  have bA := HB2.out.below hb1 HB2.out.lt
  have hS1 : w2.cell? ⟨B, 1, none⟩ = some (.slice ax nx cx) ∧ w2.cell? ⟨B, 2, none⟩ = some (.slice ay ny cy) ∧ w2.cell? ⟨B, 3, none⟩ = some (.slice aa na ca) := ⟨bA.cell 1, bA.cell 2, bA.cell 3⟩
  refine ⟨fun _ => hS1, ?_⟩
  simp only [List.setIfInBounds_toArray, List.set_cons_zero, List.set_cons_succ]
  refine heldD_takeF (i := 9) (v := .pointer (some ⟨B, 1, none⟩)) rfl rfl rfl (by kernel_rfl) (by kernel_rfl) (by kernel_rfl) (by kernel_rfl) (fun _ _ _ h => h) (by rfl) (fun w => ⟨by rfl, by go_simp⟩) (fun _ => hS1) ?_
  simp only [List.setIfInBounds_toArray, List.set_cons_zero, List.set_cons_succ]
  clear hS1
  refine heldD_one (i := 5) (by kernel_rfl) ?_
  refine wpOpIn_calls' (f := 61) (args := #[.slice ay ny cy]) rfl rfl (by rfl) (by go_simp) (cloneX _ r.Y w2 (HY.out.keep (KpC.of_below hb1)) HL.out.2.1) ?_
  rintro e w3 ⟨v2, rfl, ho2, hb2⟩
  refine ⟨_, rfl, ?_⟩
  have hb3 := hb1.next' hb2
  have bA := HB2.out.below hb3 HB2.out.lt
  refine ⟨fun _ => ⟨bA.cell 1, bA.cell 2, bA.cell 3⟩, ?_⟩
  simp only [List.setIfInBounds_toArray, List.set_cons_zero, List.set_cons_succ]
  refine heldD_one (i := 8) (by kernel_rfl) ?_
  refine wpOpIn_calls' (f := 62) (args := #[.slice aa na ca]) rfl rfl (by rfl) (by go_simp) (cloneA _ r.arcs w3 (HA.out.keep (KpC.of_below hb3)) HL.out.2.2) ?_
  rintro e w4 ⟨v3, rfl, ho3, hb4⟩
  refine ⟨_, rfl, ?_⟩
  have hb5 := hb3.next' hb4
  have bA := HB2.out.below hb5 HB2.out.lt
  have bC := HC2.out.below hb5 HC2.out.lt
  have hS0 : w4.cell? ⟨B, 1, none⟩ = some (.slice ax nx cx) ∧ w4.cell? ⟨B, 2, none⟩ = some (.slice ay ny cy) ∧ w4.cell? ⟨B, 3, none⟩ = some (.slice aa na ca) := ⟨bA.cell 1, bA.cell 2, bA.cell 3⟩
  refine ⟨fun _ => hS0, ?_⟩
  simp only [List.setIfInBounds_toArray, List.set_cons_zero, List.set_cons_succ]
  have o1 := ownsRow_below ho1 (hb2.next' hb4)
  have o2 := ownsRow_below ho2 hb4
  have l1 : ∀ b, v1.ownBlock = some b → b < w2.heap.size := fun b hb => (ownsRow_blk' ho1 hb).2.choose_spec.lt
  have l2 : ∀ b, v2.ownBlock = some b → w2.heap.size ≤ b := fun b hb => (ownsRow_blk' ho2 hb).1
  have hs1 := hb1.size; have hs3 := hb3.size
  have R := rawO_mk (base := w.heap.size) (r := r) (ownsRow_le o1 HB0.out.size) (ownsRow_le o2 (Nat.le_trans HB0.out.size hs1)) (ownsRow_le ho3 (Nat.le_trans HB0.out.size hs3)) (fun b h1 h2 => by have := l1 b h1; have := l2 b h2; omega)
  have HR := Lib.hid R; have HbA := Lib.hid bA; have HbC := Lib.hid bC; have Hb5 := Lib.hid (HB0.out.next' hb5)
  have g1 := ho1.one' ; have g2 := ho2.one'; have g3 := ho3.one'
  obtain ⟨a1, n1, k1, rfl⟩ := g1
  obtain ⟨a2, n2, k2, rfl⟩ := g2
  obtain ⟨a3, n3, k3, rfl⟩ := g3
  clear R hb1 hb2 hb3 hb4 hb5 o1 o2 ho1 ho2 ho3 l1 l2 hs1 hs3 HX HY HA HB0 HB2 HC2 HL hd
  have c1 := HbA.out.cell 1; have f1 := HbA.out.free 1 (Or.inr (Nat.zero_le _))
  change w4.cell? ⟨B, 1, none⟩ = some (.slice ax nx cx) at c1
  refine heldD_one (i := 10) (by kernel_rfl) ?_
  refine wpOpIn_skip (w' := w4.setCell ⟨B, 1, none⟩ (.slice a1 n1 k1)) rfl rfl rfl (by rfl) (by rfl) (by go_simp) ?_
  refine ⟨fun h => (by cases h), ?_⟩
  have bA1 := HbA.out.set 1 (.slice a1 n1 k1)
  have c2 := bA1.cell 2; have f2 := bA1.free 2 (Or.inr (Nat.zero_le _))
  change (w4.setCell ⟨B, 1, none⟩ (.slice a1 n1 k1)).cell? ⟨B, 2, none⟩ = some (.slice ay ny cy) at c2
  refine heldD_takeF (i := 11) (v := .pointer (some ⟨B, 2, none⟩)) rfl rfl rfl (by kernel_rfl) (by kernel_rfl) (by kernel_rfl) (by kernel_rfl) (fun _ _ _ h => h) (by rfl) (fun w => ⟨by rfl, by go_simp⟩) (fun h => by cases h) ?_
  simp only [List.setIfInBounds_toArray, List.set_cons_zero, List.set_cons_succ]
  refine heldD_one (i := 12) (by kernel_rfl) ?_
  refine wpOpIn_skip (w' := (w4.setCell ⟨B, 1, none⟩ (.slice a1 n1 k1)).setCell ⟨B, 2, none⟩ (.slice a2 n2 k2)) rfl rfl rfl (by rfl) (by rfl) (by go_simp) ?_
  refine ⟨fun h => (by cases h), ?_⟩
  have bA2 := bA1.set 2 (.slice a2 n2 k2)
  have c3 := bA2.cell 3; have f3 := bA2.free 3 (Or.inr (Nat.zero_le _))
  change ((w4.setCell ⟨B, 1, none⟩ (.slice a1 n1 k1)).setCell ⟨B, 2, none⟩ (.slice a2 n2 k2)).cell? ⟨B, 3, none⟩ = some (.slice aa na ca) at c3
  refine heldD_takeF (i := 13) (v := .pointer (some ⟨B, 3, none⟩)) rfl rfl rfl (by kernel_rfl) (by kernel_rfl) (by kernel_rfl) (by kernel_rfl) (fun _ _ _ h => h) (by rfl) (fun w => ⟨by rfl, by go_simp⟩) (fun h => by cases h) ?_
  simp only [List.setIfInBounds_toArray, List.set_cons_zero, List.set_cons_succ]
  refine heldD_one (i := 14) (by kernel_rfl) ?_
  refine wpOpIn_skip (w' := ((w4.setCell ⟨B, 1, none⟩ (.slice a1 n1 k1)).setCell ⟨B, 2, none⟩ (.slice a2 n2 k2)).setCell ⟨B, 3, none⟩ (.slice a3 n3 k3)) rfl rfl rfl (by rfl) (by rfl) (by go_simp) ?_
  refine ⟨fun h => (by cases h), ?_⟩
  refine heldD_done (by kernel_rfl) ?_ _
  change Exit.then _ _ Exit.normal _ _
  have bA3 := bA2.set 3 (.slice a3 n3 k3)
  have R1 := ((HR.out.set (p := ⟨B, 1, none⟩) HbA.out (by decide) (by decide) (.slice a1 n1 k1)).set (p := ⟨B, 2, none⟩) bA1 (by decide) (by decide) (.slice a2 n2 k2)).set (p := ⟨B, 3, none⟩) bA2 (by decide) (by decide) (.slice a3 n3 k3)
  have hle : w.heap.size ≤ B := by rw [HBl.out]; exact Nat.le_refl _
  have B1 := ((Hb5.out.setCell (p := ⟨B, 1, none⟩) hle (.slice a1 n1 k1)).setCell (p := ⟨B, 2, none⟩) hle (.slice a2 n2 k2)).setCell (p := ⟨B, 3, none⟩) hle (.slice a3 n3 k3)
  have bC3 := ((HbC.out.setOther ⟨B, 1, none⟩ (.slice a1 n1 k1) (by simp [HBs.out])).setOther ⟨B, 2, none⟩ (.slice a2 n2 k2) (by simp [HBs.out])).setOther ⟨B, 3, none⟩ (.slice a3 n3 k3) (by simp [HBs.out])
  clear c1 c2 c3 f1 f2 f3 hS0 bA1 bA2 bA bC HR HbA HbC Hb5 hle
  generalize ((w4.setCell ⟨B, 1, none⟩ (.slice a1 n1 k1)).setCell ⟨B, 2, none⟩ (.slice a2 n2 k2)).setCell ⟨B, 3, none⟩ (.slice a3 n3 k3) = w5 at *
  replace bA3 : Blk w5 B #[.int .i64 r.nodes, .slice a1 n1 k1, .slice a2 n2 k2, .slice a3 n3 k3] 26 (0, 0) := bA3
  have c0 := bA3.cell 0; have c1 := bA3.cell 1; have c2 := bA3.cell 2; have c3 := bA3.cell 3
  change w5.cell? ⟨B, 0, none⟩ = some (.int .i64 r.nodes) at c0
  change w5.cell? ⟨B, 1, none⟩ = some (.slice a1 n1 k1) at c1
  change w5.cell? ⟨B, 2, none⟩ = some (.slice a2 n2 k2) at c2
  change w5.cell? ⟨B, 3, none⟩ = some (.slice a3 n3 k3) at c3
  have e0 := bC3.cell 0; have e1 := bC3.cell 1; have e2 := bC3.cell 2; have e3 := bC3.cell 3
  change w5.cell? ⟨Bs, 0, none⟩ = some (.int .i64 0) at e0
  change w5.cell? ⟨Bs, 1, none⟩ = some (.slice none 0 0) at e1
  change w5.cell? ⟨Bs, 2, none⟩ = some (.slice none 0 0) at e2
  change w5.cell? ⟨Bs, 3, none⟩ = some (.slice none 0 0) at e3
  have fr := fun i => bC3.free i (Or.inr (Nat.zero_le _))
  have f0 := fr 0; have f1 := fr 1; have f2 := fr 2; have f3 := fr 3
  have hle : w.heap.size ≤ Bs := by rw [HBs.out, HBl.out]; omega
  have bZ := (((bC3.set 0 (.int .i64 r.nodes)).set 1 (.slice a1 n1 k1)).set 2 (.slice a2 n2 k2)).set 3 (.slice a3 n3 k3)
  have R2 := (((R1.set (p := ⟨Bs, 0, none⟩) bC3 (by decide) (by decide) (.int .i64 r.nodes)).set (p := ⟨Bs, 1, none⟩) (bC3.set 0 (.int .i64 r.nodes)) (by decide) (by decide) (.slice a1 n1 k1)).set (p := ⟨Bs, 2, none⟩) ((bC3.set 0 (.int .i64 r.nodes)).set 1 (.slice a1 n1 k1)) (by decide) (by decide) (.slice a2 n2 k2)).set (p := ⟨Bs, 3, none⟩) (((bC3.set 0 (.int .i64 r.nodes)).set 1 (.slice a1 n1 k1)).set 2 (.slice a2 n2 k2)) (by decide) (by decide) (.slice a3 n3 k3)
  have B2 := (((B1.setCell (p := ⟨Bs, 0, none⟩) hle (.int .i64 r.nodes)).setCell (p := ⟨Bs, 1, none⟩) hle (.slice a1 n1 k1)).setCell (p := ⟨Bs, 2, none⟩) hle (.slice a2 n2 k2)).setCell (p := ⟨Bs, 3, none⟩) hle (.slice a3 n3 k3)
  have HZ := Lib.hid bZ; have HR2 := Lib.hid R2; have HB2 := Lib.hid B2
  clear bZ R2 B2 R1 B1 bC3 bA3 fr hle
  go_wp2_with fail
  generalize (((w5.setCell ⟨Bs, 0, none⟩ (.int .i64 r.nodes)).setCell ⟨Bs, 1, none⟩ (.slice a1 n1 k1)).setCell ⟨Bs, 2, none⟩ (.slice a2 n2 k2)).setCell ⟨Bs, 3, none⟩ (.slice a3 n3 k3) = wz at *
  have z0 := HZ.out.cell 0; have z1 := HZ.out.cell 1; have z2 := HZ.out.cell 2; have z3 := HZ.out.cell 3
  change wz.cell? ⟨Bs, 0, none⟩ = some (.int .i64 r.nodes) at z0
  change wz.cell? ⟨Bs, 1, none⟩ = some (.slice a1 n1 k1) at z1
  change wz.cell? ⟨Bs, 2, none⟩ = some (.slice a2 n2 k2) at z2
  change wz.cell? ⟨Bs, 3, none⟩ = some (.slice a3 n3 k3) at z3
  exact bodyPost_ret (v := .agg #[.int .i64 r.nodes, .slice a1 n1 k1, .slice a2 n2 k2, .slice a3 n3 k3]) (by simp [results, Tryd.results48, go_sem, z0, z1, z2, z3]) rfl ⟨_, rfl, ⟨_, _, _, rfl, HR2.out.1, HR2.out.2.1, HR2.out.2.2.1, HR2.out.2.2.2⟩, HB2.out⟩
end Go.Proofs.YtjobijmmjebpaaaDoor
/- net.of: a net of a graph that is right. -/
namespace Go.Proofs.YtjobijmmjebpaaaDoor
open Go.RowKit
theorem endF_fn : EndFn 59 endF := by
  refine ⟨enters_of Tryd.func59 (by kernel_rfl) rfl, fun a u => ?_⟩
  obtain ⟨a0, a1, a2⟩ := a
  go_enter Tryd.func59, Tryd.ntmps59
  go_wp2_with fail
  go_ret
  exact ⟨rfl, (Below.refl _ _).alloc (Nat.le_refl _) _⟩
theorem endT_fn : EndFn 60 endT := by
  refine ⟨enters_of Tryd.func60 (by kernel_rfl) rfl, fun a u => ?_⟩
  obtain ⟨a0, a1, a2⟩ := a
  go_enter Tryd.func60, Tryd.ntmps60
  go_wp2_with fail
  go_ret
  exact ⟨rfl, (Below.refl _ _).alloc (Nat.le_refl _) _⟩
/-- the net of g lies at p -/
def NetAt (w : World) (p : Nat) (g : Raw) : Prop :=
  ∃ vx vy va vo vi, Blk w p #[.int .i64 g.nodes, vx, vy, va, vo, vi] 74 (0, 0) ∧ SlX w vx g.X ∧ SlX w vy g.Y ∧ SlA w va g.arcs ∧ SlR w vo (rowsOf endF g.arcs g.nodes.toNat) ∧ SlR w vi (rowsOf endT g.arcs g.nodes.toNat)
theorem NetAt.keep {w w' : World} {p : Nat} {g : Raw} (h : NetAt w p g) (hk : KpC w w') : NetAt w' p g := by
  obtain ⟨vx, vy, va, vo, vi, h1, h2, h3, h4, h5, h6⟩ := h
  exact ⟨vx, vy, va, vo, vi, hk.blk h1, h2.keep hk, h3.keep hk, h4.keep hk, h5.keep hk, h6.keep hk⟩
/-- and all of it lies from lo on -/
def NetB (lo : Nat) (w : World) (p : Nat) (g : Raw) : Prop := ∀ w'', w.heap.size ≤ w''.heap.size → (∀ k, lo ≤ k → k < w.heap.size → w''.heap[k]? = w.heap[k]?) → NetAt w'' p g
theorem NetB.at {lo : Nat} {w : World} {p : Nat} {g : Raw} (h : NetB lo w p g) : NetAt w p g := h w (Nat.le_refl _) fun _ _ _ => rfl
theorem NetB.below {lo : Nat} {w w' : World} {p : Nat} {g : Raw} (h : NetB lo w p g) (hb : Below w.heap.size w w') : NetB lo w' p g := fun w'' hs hk =>
  h w'' (Nat.le_trans hb.size hs) fun k h1 h2 => (hk k h1 (Nat.lt_of_lt_of_le h2 hb.size)).trans (hb.block k h2)
set_option maxRecDepth 100000 in
set_option maxHeartbeats 4000000 in
theorem of_any (v : Value) (r : Raw) (lo : Nat) (w : World) (h : RawO lo w v r) (hok : r.Ok) (hlo : lo ≤ w.heap.size) :
    Calls Tryd.prog 47 #[v] w fun e w' => ∃ p, e = .returned (.pointer (some ⟨p, 0, none⟩)) ∧ NetB lo w' p r ∧ Below w.heap.size w w' := by
  obtain ⟨vx, vy, va, rfl, o1, o2, o3, o4⟩ := h
  have ha : SlA w va r.arcs := slA_own rfl o3
  have fx := o1.one'; have fy := o2.one'; have fa := o3.one'
  obtain ⟨N, hN⟩ : ∃ N : Nat, (N : Int) = r.nodes := ⟨r.nodes.toNat, by have := hok.nodes; omega⟩
  have hNb : N ≤ 16777216 := by have := hok.nodes; omega
  have hends := ends_ok hok hN
  have hmf : ∀ (fn : Fn) (first cap : Array Value) (w : World), (Instr.makeFunc fn first cap).run Tryd.prog w = .ok (.func fn first cap) w := fun _ _ _ _ => rfl
  obtain ⟨B1, hB1⟩ : ∃ b, b = w.heap.size := ⟨_, rfl⟩
  obtain ⟨B2, hB2⟩ : ∃ b, b = w.heap.size + 1 := ⟨_, rfl⟩
  obtain ⟨w1, hw1⟩ : ∃ w1, w1 = (w.alloc (.cells #[.int .i64 r.nodes, vx, vy, va] 26)).alloc (.cells #[.int .i64 r.nodes, vx, vy, va, .slice none 0 0, .slice none 0 0] 74) := ⟨_, rfl⟩
  have hb1 : Below w.heap.size w w1 := by rw [hw1]; exact ((Below.refl _ _).alloc (Nat.le_refl _) _).alloc (by simp) _
  have K1 : Blk w1 B1 #[.int .i64 r.nodes, vx, vy, va] 26 (0, 0) := by rw [hw1, hB1]; exact (Blk.new _ _ _ _).alloc _
  have K2 : Blk w1 B2 #[.int .i64 r.nodes, vx, vy, va, .slice none 0 0, .slice none 0 0] 74 (0, 0) := by
    rw [hw1, hB2]
    have h := Blk.new (w.alloc (.cells #[.int .i64 r.nodes, vx, vy, va] 26)) #[.int .i64 r.nodes, vx, vy, va, .slice none 0 0, .slice none 0 0] 74 (0, 0)
    rwa [World.size_alloc] at h
  have CF := by_any _ endF endF_fn r.nodes vx vy va r.arcs N hN hNb hok.arcs hends.1 B1 w1 K1 (ha.keep (KpC.of_below hb1))
  have CT := fun u (hu : Below w1.heap.size w1 u) => by_any _ endT endT_fn r.nodes vx vy va r.arcs N hN hNb hok.arcs hends.2 B1 u (K1.below hu K1.lt) ((ha.keep (KpC.of_below hb1)).keep (KpC.of_below hu))
  have HCF := Lib.hid CF; have HCT := Lib.hid CT; have HK2 := Lib.hid K2; have HW1 := Lib.hid hw1; have Hb1 := Lib.hid hb1
  have HO := Lib.hid (And.intro o1 (And.intro o2 o3)); have HB2 := Lib.hid hB2
  have HN := Lib.hid hN
  clear CF CT K1 K2 hw1 hb1 o1 o2 o3 o4 ha hends hN
  obtain ⟨xa, xn, xc, rfl⟩ := fx
  obtain ⟨ya, yn, yc, rfl⟩ := fy
  obtain ⟨za, zn, zc, rfl⟩ := fa
  go_enter Tryd.func47, Tryd.ntmps47
  go_wp2_with fail
  rw [← HW1.out, ← HB2.out, ← hB1]
  clear hB1 hB2
  refine HCF.out.mono ?_
  rintro e w2 ⟨vo, rfl, hvo, hb2⟩
  have HVo := Lib.hid hvo; have Hb2 := Lib.hid hb2
  have C2 := Lib.hid (HCT.out w2 hb2)
  clear hvo hb2 HCF HCT
  have hvoF : ∃ a n c, vo = .slice a n c := by
    obtain ⟨a, c, e, _⟩ := HVo.out w2 (Nat.le_refl _) fun _ _ _ => rfl
    exact ⟨_, _, _, e⟩
  obtain ⟨oa, on, oc, rfl⟩ := hvoF
  go_wp2_with fail
  refine C2.out.mono ?_
  rintro e w3 ⟨vi, rfl, hvi, hb3⟩
  have hviF : ∃ a n c, vi = .slice a n c := by
    obtain ⟨a, c, e, _⟩ := hvi w3 (Nat.le_refl _) fun _ _ _ => rfl
    exact ⟨_, _, _, e⟩
  obtain ⟨ia, inn, ic, rfl⟩ := hviF
  have hb13 := Hb2.out.next' hb3
  have K3 := HK2.out.below hb13 HK2.out.lt
  have c4 := K3.cell 4; have c5 := K3.cell 5
  change w3.cell? ⟨B2, 4, none⟩ = some (.slice none 0 0) at c4
  change w3.cell? ⟨B2, 5, none⟩ = some (.slice none 0 0) at c5
  have fr := fun i => K3.free i (Or.inr (Nat.zero_le _))
  have f4 := fr 4; have f5 := fr 5
  have K4 := (K3.set 4 (.slice oa on oc)).set 5 (.slice ia inn ic)
  have hbw3 := Hb1.out.next' hb13
  have hle2 : w.heap.size ≤ B2 := by rw [HB2.out]; omega
  have hbz := (hbw3.setCell (p := ⟨B2, 4, none⟩) hle2 (.slice oa on oc)).setCell (p := ⟨B2, 5, none⟩) hle2 (.slice ia inn ic)
  have hB2l : B2 < w1.heap.size := HK2.out.lt
  have hs2 := Hb2.out.size; have hs3 := hb3.size; have hs1 := Hb1.out.size
  have hnet : NetB lo ((w3.setCell ⟨B2, 4, none⟩ (.slice oa on oc)).setCell ⟨B2, 5, none⟩ (.slice ia inn ic)) B2 r := fun w'' hs hk => by
    have hsz : ((w3.setCell ⟨B2, 4, none⟩ (.slice oa on oc)).setCell ⟨B2, 5, none⟩ (.slice ia inn ic)).heap.size = w3.heap.size := by simp
    rw [hsz] at hs hk
    have hkk : ∀ k, lo ≤ k → k < w3.heap.size → k ≠ B2 → w''.heap[k]? = w3.heap[k]? := fun k h1 h2 h3 => (hk k h1 h2).trans ((heap_setCell_other _ _ _ _ h3).trans (heap_setCell_other _ _ _ _ h3))
    have hold : ∀ k, lo ≤ k → k < w.heap.size → w''.heap[k]? = w.heap[k]? := fun k h1 h2 => (hkk k h1 (by omega) (by omega)).trans (hbw3.block k h2)
    have hX := slX_own rfl (ownsRow_agree' (w' := w'') HO.out.1 fun k hk => hold k (ownsRow_blk' HO.out.1 hk).1 (ownsRow_blk' HO.out.1 hk).2.choose_spec.lt)
    have hY := slX_own rfl (ownsRow_agree' (w' := w'') HO.out.2.1 fun k hk => hold k (ownsRow_blk' HO.out.2.1 hk).1 (ownsRow_blk' HO.out.2.1 hk).2.choose_spec.lt)
    have hA := slA_own rfl (ownsRow_agree' (w' := w'') HO.out.2.2 fun k hk => hold k (ownsRow_blk' HO.out.2.2 hk).1 (ownsRow_blk' HO.out.2.2 hk).2.choose_spec.lt)
    have hNt : r.nodes.toNat = N := by have := HN.out; omega
    refine ⟨_, _, _, _, _, (hk B2 (by omega) (by omega)).trans K4, hX, hY, hA, ?_, ?_⟩
    · rw [hNt]
      exact HVo.out w'' (by omega) fun k h1 h2 => (hkk k (by omega) (by omega) (by omega)).trans (hb3.block k h2)
    · rw [hNt]
      exact hvi w'' (by omega) fun k h1 h2 => hkk k (by omega) h2 (by omega)
  have HNet := Lib.hid hnet; have HBz := Lib.hid hbz
  clear hvi hb3 hb13 K3 fr K4 hbw3 hle2 hbz hB2l hs2 hs3 hs1 hnet HO
  go_wp2_with fail
  go_ret
  exact ⟨_, rfl, HNet.out, HBz.out⟩
end Go.Proofs.YtjobijmmjebpaaaDoor
/- errors.As by its contracts: an error that wraps a fault (net's trouble). -/
namespace Go.Proofs.YtjobijmmjebpaaaDoor
open Go.RowKit Go.Extern.Stop Go.Stop Go.Extern
theorem as_typeOfN (v : Value) (w : World) : (ReflectliteType.typeOf #[.iface 87 v]).run Tryd.prog w = .ok (.iface 129 (.agg #[.pointer (some ⟨1, 87, none⟩)])) w := by kernel_rfl
theorem as_assignableN (w : World) : (ReflectliteType.relation "AssignableTo" ReflectliteType.assignableTo #[.agg #[.pointer (some ⟨1, 87, none⟩)], .iface 129 (.agg #[.pointer (some ⟨1, 85, none⟩)])]).run Tryd.prog w = .ok (.bool false) w := by kernel_rfl
theorem as_notAsN (v : Value) (w : World) : (Instr.typeAssert (.iface 87 v) 55 134 true).run Tryd.prog w = .ok (.tuple #[.nilIface, .bool false]) w :=
  run_typeAssert_lacksB Tryd.underlying134 (by kernel_rfl) (by kernel_rfl) v _ w
theorem as_isUnwrapN (v : Value) (w : World) : (Instr.typeAssert (.iface 87 v) 55 137 true).run Tryd.prog w = .ok (.tuple #[.iface 87 v, .bool true]) w := by kernel_rfl
theorem as_methodUnwrapN (n : Nat) (v : Value) (w : World) : (Go.method (n + 1) 87 v "Unwrap").run Tryd.prog w = .ok (104, v) w := by kernel_rfl
set_option maxHeartbeats 4000000 in
theorem as_wrapN (e t : Addr) (old : Value) (w : World) (hg : w.cell? ⟨0, 0, none⟩ = some (.iface 129 (.agg #[.pointer (some ⟨1, 55, none⟩)]))) (ht0 : w.cell? t = some old) (hf0 : w.frozen? t = false) :
    Calls Tryd.prog 57 #[.iface 87 (.agg #[.pointer (some e)]), .iface 99 (.pointer (some t))] w fun ev w' => ev = .returned (.bool true) ∧ w' = (((((w.alloc (.cells #[.pointer (some t)] 99)).alloc (.cells #[.pointer (some ⟨1, 99, none⟩), .pointer (some ⟨w.heap.size, 0, none⟩), .int .u64 150] 116)).alloc (.cells #[.pointer (some ⟨1, 99, none⟩), .pointer (some ⟨w.heap.size, 0, none⟩), .int .u64 150] 116)).alloc (.cells #[.pointer (some e)] 87)).alloc (.cells #[.pointer (some e)] 85)).setCell t (.pointer (some e)) := by
  have h6 := @run_callFunc_extern Tryd.prog 72 _ (fun args => ReflectliteValue.unpack (args.getD 0 (.tuple #[]))) Tryd.func72 (by kernel_rfl) (by kernel_rfl) (by kernel_rfl) (by kernel_rfl)
  have h7 := @run_callFunc_extern Tryd.prog 73 _ (ReflectliteValue.methodAny (ReflectliteValue.valueError "reflectlite.Value.Type" 0) (fun t _ _ _ => ReflectliteType.toType t)) Tryd.func73 (by kernel_rfl) (by kernel_rfl) (by kernel_rfl) (by kernel_rfl)
  have h8 := @run_callFunc_extern Tryd.prog 74 _ (ReflectliteValue.method (ReflectliteValue.valueError "reflectlite.Value.IsNil" 0) ReflectliteValue.isNil) Tryd.func74 (by kernel_rfl) (by kernel_rfl) (by kernel_rfl) (by kernel_rfl)
  have h27 := @run_callFunc_extern Tryd.prog 97 _ (ReflectliteType.abiMethod fun t => do pure (.int .u8 (← Rtype.kind t))) Tryd.func97 (by kernel_rfl) (by kernel_rfl) (by kernel_rfl) (by kernel_rfl)
  have h37 := @run_callFunc_extern Tryd.prog 112 _ (ReflectliteType.method ReflectliteType.elem) Tryd.func112 (by kernel_rfl) (by kernel_rfl) (by kernel_rfl) (by kernel_rfl)
  have h38 := @run_callFunc_extern Tryd.prog 113 _ (ReflectliteType.relation "Implements" ReflectliteType.implements_) Tryd.func113 (by kernel_rfl) (by kernel_rfl) (by kernel_rfl) (by kernel_rfl)
  have h10 := @run_callFunc_extern Tryd.prog 79 _ ReflectliteType.typeOf Tryd.func79 (by kernel_rfl) (by kernel_rfl) (by kernel_rfl) (by kernel_rfl)
  have h35 := @run_callFunc_extern Tryd.prog 110 _ (ReflectliteType.relation "AssignableTo" ReflectliteType.assignableTo) Tryd.func110 (by kernel_rfl) (by kernel_rfl) (by kernel_rfl) (by kernel_rfl)
  have h11 := @run_callFunc_extern Tryd.prog 80 _ (ReflectliteValue.method (ReflectliteValue.valueError "reflectlite.Value.Elem" 0) ReflectliteValue.elem) Tryd.func80 (by kernel_rfl) (by kernel_rfl) (by kernel_rfl) (by kernel_rfl)
  have h12 := @run_callFunc_extern Tryd.prog 81 _ ReflectliteValue.set Tryd.func81 (by kernel_rfl) (by kernel_rfl) (by kernel_rfl) (by kernel_rfl)
  have tO := as_typeOf25
  have tOw := as_typeOfN
  have aW := as_assignableN
  have tA := as_notAsN
  have tU := as_isUnwrapN
  have mU := as_methodUnwrapN
  have mA := as_methodAssignableTo
  have a25 := as_assignable25
  have v25 := as_valueOf25
  have f6 := as_valueOf27
  have f7 := as_type27
  have mK := as_methodKind
  have mE := as_methodElem
  have mI := as_methodImplements
  have k27 := as_kind27
  have k25 := as_kind25
  have e27 := as_elem27
  have i25 := as_implements25
  have n8 := as_isNil27 ⟨w.heap.size, 0, none⟩ t ((w.alloc (.cells #[.pointer (some t)] 99)).alloc (.cells #[.pointer (some ⟨1, 99, none⟩), .pointer (some ⟨w.heap.size, 0, none⟩), .int .u64 150] 116)) (by simp)
  have hlt : 0 < w.heap.size := by
    rcases Nat.eq_zero_or_pos w.heap.size with h0 | h
    · simp [World.cell?, h0] at hg
    · exact h
  have hg2 : ((w.alloc (.cells #[.pointer (some t)] 99)).alloc (.cells #[.pointer (some ⟨1, 99, none⟩), .pointer (some ⟨w.heap.size, 0, none⟩), .int .u64 150] 116)).cell? ⟨0, 0, none⟩ = some (.iface 129 (.agg #[.pointer (some ⟨1, 55, none⟩)])) := by
    rw [World.cell?_alloc_lt _ _ ⟨0, 0, none⟩ (by simp), World.cell?_alloc_lt _ _ ⟨0, 0, none⟩ hlt]; exact hg
  have htl : t.block < w.heap.size := by
    rcases Nat.lt_or_ge t.block w.heap.size with h | h
    · exact h
    · simp [World.cell?, Array.getElem?_eq_none h] at ht0
  have el := as_elemV27 ⟨w.heap.size, 0, none⟩ t ((((w.alloc (.cells #[.pointer (some t)] 99)).alloc (.cells #[.pointer (some ⟨1, 99, none⟩), .pointer (some ⟨w.heap.size, 0, none⟩), .int .u64 150] 116)).alloc (.cells #[.pointer (some ⟨1, 99, none⟩), .pointer (some ⟨w.heap.size, 0, none⟩), .int .u64 150] 116)).alloc (.cells #[.pointer (some e)] 87)) (by rw [World.cell?_alloc_lt _ _ ⟨w.heap.size, 0, none⟩ (by simp; omega), World.cell?_alloc_lt _ _ ⟨w.heap.size, 0, none⟩ (by simp; omega)]; simp)
  have st := as_set25 t ⟨w.heap.size + 1 + 1 + 1 + 1, 0, none⟩ e old (((((w.alloc (.cells #[.pointer (some t)] 99)).alloc (.cells #[.pointer (some ⟨1, 99, none⟩), .pointer (some ⟨w.heap.size, 0, none⟩), .int .u64 150] 116)).alloc (.cells #[.pointer (some ⟨1, 99, none⟩), .pointer (some ⟨w.heap.size, 0, none⟩), .int .u64 150] 116)).alloc (.cells #[.pointer (some e)] 87)).alloc (.cells #[.pointer (some e)] 85))
    (by rw [World.cell?_alloc_at _ _ _ _ (by simp)]; rfl)
    (by rw [World.cell?_alloc_lt _ _ t (by simp; omega), World.cell?_alloc_lt _ _ t (by simp; omega), World.cell?_alloc_lt _ _ t (by simp; omega), World.cell?_alloc_lt _ _ t (by simp; omega), World.cell?_alloc_lt _ _ t htl]; exact ht0)
    (by rw [World.frozen?_alloc_old _ _ t (by simp; omega), World.frozen?_alloc_old _ _ t (by simp; omega), World.frozen?_alloc_old _ _ t (by simp; omega), World.frozen?_alloc_old _ _ t (by simp; omega), World.frozen?_alloc_old _ _ t (Nat.ne_of_lt htl)]; exact hf0)
  go_enter Tryd.func57, Tryd.ntmps57
  go_wp2
  refine wp_loop_rounds 2 ?_
  rw [rounds_succ]
  go_wp2
  rw [rounds_succ]
  go_wp2
  go_ret
  exact ⟨rfl, rfl⟩
theorem asTo_netTrouble (b : Nat) (cs : Array Value) : AsTo (.iface 87 (.agg #[.pointer (some ⟨b, 0, none⟩)])) b cs := by
  refine ⟨⟨_, _, rfl⟩, fun t u hg ht _ => ?_⟩
  have hc := ht.cell 0
  change u.cell? ⟨t, 0, none⟩ = some (.pointer none) at hc
  refine (as_wrapN ⟨b, 0, none⟩ ⟨t, 0, none⟩ _ u hg hc (ht.free 0 (Or.inr (Nat.zero_le _)))).mono ?_
  rintro e w' ⟨rfl, rfl⟩
  refine ⟨rfl, (((((Kept.refl (· = t) u).alloc _).alloc _).alloc _).alloc _ |>.alloc _).setCell (p := ⟨t, 0, none⟩) rfl _, ?_⟩
  exact (((((ht.alloc _).alloc _).alloc _).alloc _).alloc _).set 0 (.pointer (some ⟨b, 0, none⟩))
end Go.Proofs.YtjobijmmjebpaaaDoor
/- net.New. -/
namespace Go.Proofs.YtjobijmmjebpaaaDoor
open Go.RowKit
set_option maxRecDepth 100000 in
set_option maxHeartbeats 4000000 in
theorem new_any (v : Value) (r : Raw) (w : World) (hg : HG w) (h : RawV w v r) (hl : r.few) : Calls Tryd.prog 25 #[v] w fun e w' =>
    ((¬ r.ok ∧ ∃ u, e = .returned (.tuple #[.pointer none, u]) ∧ ErrIs w' u r.wrong.1 r.wrong.2.1 r.wrong.2.2.1 r.wrong.2.2.2) ∨ (r.ok ∧ ∃ p, e = .returned (.tuple #[.pointer (some ⟨p, 0, none⟩), .nilIface]) ∧ NetB w.heap.size w' p r)) ∧ Below w.heap.size w w' := by
  have hV := h
  obtain ⟨vx, vy, va, rfl, hx, hy, ha⟩ := h
  have fx := hx.form; have fy := hy.form; have fa := ha.form
  obtain ⟨w1, hw1⟩ : ∃ w1, w1 = w.alloc (.cells #[.int .i64 r.nodes, vx, vy, va] 26) := ⟨_, rfl⟩
  obtain ⟨B1, hB1⟩ : ∃ b, b = w.heap.size := ⟨_, rfl⟩
  have hb1 : Below w.heap.size w w1 := by rw [hw1]; exact (Below.refl _ _).alloc (Nat.le_refl _) _
  have K1 : Blk w1 B1 #[.int .i64 r.nodes, vx, vy, va] 26 (0, 0) := by rw [hw1, hB1]; exact Blk.new _ _ _ _
  have C := Lib.hid (check_raw _ _ _ (hV.below hb1))
  have CO := Lib.hid (fun u (hu : Below w1.heap.size w1 u) => own_any _ r u ((hV.below hb1).below hu) hl)
  have HG1 := Lib.hid (hg.later hb1)
  have HB := Lib.hid hb1; have HK1 := Lib.hid K1; have HW1 := Lib.hid hw1; have HB1 := Lib.hid hB1
  have hw := r.wrong_zero
  clear hV hx hy ha hb1 K1 hw1 hg hl
  obtain ⟨_, _, _, rfl⟩ := fx
  obtain ⟨_, _, _, rfl⟩ := fy
  obtain ⟨_, _, _, rfl⟩ := fa
  go_enter Tryd.func25, Tryd.ntmps25
  go_wp2_with fail
  rw [← HW1.out, ← hB1]
  clear hB1
  refine C.out.mono ?_
  rintro e w2 ⟨u, rfl, hi, hb2⟩
  have HB2 := Lib.hid (HB.out.next' hb2); have Hb2 := Lib.hid hb2
  rcases hi.form with ⟨rfl, hz⟩ | ⟨⟨ty, xv, rfl⟩, hz⟩
  · have hok := hw.1 hz
    have Hok := Lib.hid hok
    have k2 := HK1.out.below hb2 HK1.out.lt
    have c0 := k2.cell 0; have c1 := k2.cell 1; have c2 := k2.cell 2; have c3 := k2.cell 3
    simp only [List.getElem?_toArray, List.getElem?_cons_succ, List.getElem?_cons_zero] at c0 c1 c2 c3
    have C3 := Lib.hid (CO.out w2 hb2)
    clear hi hb2 hok hz k2 hw
    go_wp2_with fail
    refine C3.out.mono ?_
    rintro e w3 ⟨v3, rfl, ho, hb3⟩
    have HB3 := Lib.hid (HB2.out.next' hb3)
    have C4 := Lib.hid (of_any v3 r w2.heap.size w3 ho (r.ok_iff.1 Hok.out) hb3.size)
    have hv3 : ∃ a b c d, v3 = .agg #[a, b, c, d] := by obtain ⟨a, b, c, e, _⟩ := ho; exact ⟨_, _, _, _, e⟩
    obtain ⟨_, _, _, _, rfl⟩ := hv3
    clear ho hb3 c0 c1 c2 c3
    go_wp2_with fail
    refine C4.out.mono ?_
    rintro e w4 ⟨p, rfl, hn, hb4⟩
    have HN : Hid (NetB w.heap.size w4 p r) := Lib.hid (fun w'' hs hk => hn w'' hs fun k h1 h2 => hk k (Nat.le_trans HB2.out.size h1) h2)
    have HB4 := Lib.hid (HB3.out.next' hb4)
    clear hn hb4
    go_wp2_with fail
    go_ret2
    exact ⟨.inr ⟨Hok.out, _, rfl, HN.out⟩, HB4.out⟩
  · have hnok : ¬ r.ok := fun h => hz (hw.2 h)
    have Hnok := Lib.hid hnok
    have C3 := Lib.hid (told_is w2 _ _ _ _ _ (HG1.out.later hb2) hi)
    have Hz := Lib.hid hz
    clear hi hb2 hnok hz hw
    obtain ⟨c, hc⟩ : ∃ c, c = r.wrong := ⟨_, rfl⟩
    rw [← hc] at C3 Hz
    obtain ⟨c0, c1, c2, c3⟩ := c
    have Hc := Lib.hid hc
    clear hc
    go_wp2_with fail
    refine C3.out.mono ?_
    rintro e w3 ⟨rfl, hb3⟩
    have HB3 := Lib.hid (HB2.out.next' hb3)
    have hal := (Below.refl w3.heap.size w3).alloc (Nat.le_refl _) (.cells #[.int .i64 c0, .int .i64 c1, .int .i64 c2, .int .i64 c3] 83)
    have HB4 := Lib.hid (HB3.out.next' hal)
    have HBl := Lib.hid (Blk.new w3 #[.int .i64 c0, .int .i64 c1, .int .i64 c2, .int .i64 c3] 83 (0, 0))
    clear hb3 hal
    go_wp2_with fail
    go_ret2
    exact ⟨.inl ⟨Hnok.out, _, rfl, by rw [← Hc.out]; exact .inr ⟨Hz.out, _, asTo_netTrouble _ _, HBl.out⟩⟩, HB4.out⟩
end Go.Proofs.YtjobijmmjebpaaaDoor
/- net's one, of arcs -/
namespace Go.Proofs.YtjobijmmjebpaaaDoor
open Go.RowKit
def arV (a : Ar) : Value := .agg #[.int .i64 a.1, .int .i64 a.2.1, .int .i64 a.2.2]
theorem oneA_any (v : Value) (L : List Ar) (i : Int) (w : World) (h : SlA w v L) : Calls Tryd.prog 49 #[v, .int .i64 i] w fun e w' => e = .returned (.tuple #[arV (if 0 ≤ i ∧ i < L.length then L[i.toNat]?.getD (0, 0, 0) else (0, 0, 0)), .bool (decide (0 ≤ i ∧ i < L.length))]) ∧ Below w.heap.size w w' := by
  have h0 := h
  obtain ⟨a, cap, rfl, _, _, _⟩ := h
  by_cases h1 : i < 0
  · rw [if_neg (by omega), decide_eq_false (by omega)]
    clear h0
    go_enter Tryd.func49, Tryd.ntmps49
    go_wp2_with fail
    exact bodyPost_ret (v := .tuple #[.agg #[.int .i64 0, .int .i64 0, .int .i64 0], .bool false]) (by simp [results, Tryd.results49, go_sem]) rfl ⟨rfl, (Below.refl _ _).alloc (Nat.le_refl _) _⟩
  · by_cases h2 : (L.length : Int) ≤ i
    · rw [if_neg (by omega), decide_eq_false (by omega)]
      clear h0
      go_enter Tryd.func49, Tryd.ntmps49
      go_wp2_with fail
      exact bodyPost_ret (v := .tuple #[.agg #[.int .i64 0, .int .i64 0, .int .i64 0], .bool false]) (by simp [results, Tryd.results49, go_sem]) rfl ⟨rfl, (Below.refl _ _).alloc (Nat.le_refl _) _⟩
    · obtain ⟨n, rfl⟩ := Int.eq_ofNat_of_zero_le (show 0 ≤ i by omega)
      obtain ⟨b, o, rfl, d0, d1, d2⟩ := h0.at n (by omega)
      have i1 : (0 : Int) ≤ (n : Int) := by omega
      have i2 : (n : Int) < (L.length : Int) := by omega
      rw [if_pos ⟨i1, i2⟩, decide_eq_true ⟨i1, i2⟩, Int.toNat_natCast, List.getElem?_eq_getElem (by omega)]
      obtain ⟨x, hx⟩ : ∃ x, x = L[n]'(by omega) := ⟨_, rfl⟩
      rw [← hx] at d0 d1 d2 ⊢
      clear h0 hx
      obtain ⟨x0, x1, x2⟩ := x
      simp only at d0 d1 d2
      have hal := (Below.refl w.heap.size w).alloc (Nat.le_refl _) (.cells #[.int .i64 0, .int .i64 0, .int .i64 0] 45)
      have e0 := cell_later hal d0; have e1 := cell_later hal d1; have e2 := cell_later hal d2
      clear hal
      go_enter Tryd.func49, Tryd.ntmps49
      go_wp2_with fail
      exact bodyPost_ret (v := .tuple #[.agg #[.int .i64 x0, .int .i64 x1, .int .i64 x2], .bool true]) (by simp [results, Tryd.results49, go_sem]) rfl ⟨rfl, (Below.refl _ _).alloc (Nat.le_refl _) _⟩
end Go.Proofs.YtjobijmmjebpaaaDoor
/- what a net tells of its graph: nodes, an arc -/
namespace Go.Proofs.YtjobijmmjebpaaaDoor
open Go.RowKit
def pv (p : Nat) : Value := .pointer (some ⟨p, 0, none⟩)
theorem NetAt.cells {w : World} {p : Nat} {g : Raw} (h : NetAt w p g) : ∃ xa xc ya yc aa ac oa oc ia ic on inn, w.cell? ⟨p, 0, none⟩ = some (.int .i64 g.nodes) ∧ w.cell? ⟨p, 1, none⟩ = some (.slice xa g.X.length xc) ∧ w.cell? ⟨p, 2, none⟩ = some (.slice ya g.Y.length yc) ∧ w.cell? ⟨p, 3, none⟩ = some (.slice aa g.arcs.length ac) ∧ w.cell? ⟨p, 4, none⟩ = some (.slice oa on oc) ∧ w.cell? ⟨p, 5, none⟩ = some (.slice ia inn ic) ∧ SlX w (.slice xa g.X.length xc) g.X ∧ SlX w (.slice ya g.Y.length yc) g.Y ∧ SlA w (.slice aa g.arcs.length ac) g.arcs ∧ SlR w (.slice oa on oc) (rowsOf endF g.arcs g.nodes.toNat) ∧ SlR w (.slice ia inn ic) (rowsOf endT g.arcs g.nodes.toNat) := by
  obtain ⟨vx, vy, va, vo, vi, h1, h2, h3, h4, h5, h6⟩ := h
  have q2 := h2; have q3 := h3; have q4 := h4; have q5 := h5; have q6 := h6
  obtain ⟨_, _, rfl, _⟩ := h2
  obtain ⟨_, _, rfl, _⟩ := h3
  obtain ⟨_, _, rfl, _⟩ := h4
  obtain ⟨_, _, rfl, _⟩ := h5
  obtain ⟨_, _, rfl, _⟩ := h6
  exact ⟨_, _, _, _, _, _, _, _, _, _, _, _, h1.cell 0, h1.cell 1, h1.cell 2, h1.cell 3, h1.cell 4, h1.cell 5, q2, q3, q4, q5, q6⟩
theorem nodes_any (p : Nat) (g : Raw) (w : World) (h : NetAt w p g) : Calls Tryd.prog 29 #[.pointer (some ⟨p, 0, none⟩)] w fun e w' => e = .returned (.int .i64 g.nodes) ∧ w' = w := by
  obtain ⟨xa, xc, ya, yc, aa, ac, oa, oc, ia, ic, on, inn, c0, c1, c2, c3, c4, c5, hx, hy, ha, ho, hi⟩ := h.cells
  clear h hx hy ha ho hi c1 c2 c3 c4 c5
  go_enter Tryd.func29, Tryd.ntmps29
  go_wp2_with fail
  go_ret
  exact ⟨rfl, rfl⟩
theorem nodes_nil (w : World) : Calls Tryd.prog 29 #[.pointer none] w fun e w' => e = .returned (.int .i64 0) ∧ w' = w := by
  go_enter Tryd.func29, Tryd.ntmps29
  go_wp2_with fail
  go_ret
  exact ⟨rfl, rfl⟩
theorem arc_any (p : Nat) (g : Raw) (i : Int) (w : World) (h : NetAt w p g) : Calls Tryd.prog 31 #[.pointer (some ⟨p, 0, none⟩), .int .i64 i] w fun e w' => e = .returned (.tuple #[arV (if 0 ≤ i ∧ i < g.arcs.length then g.arcs[i.toNat]?.getD (0, 0, 0) else (0, 0, 0)), .bool (decide (0 ≤ i ∧ i < g.arcs.length))]) ∧ Below w.heap.size w w' := by
  obtain ⟨xa, xc, ya, yc, aa, ac, oa, oc, ia, ic, on, inn, c0, c1, c2, c3, c4, c5, hx, hy, ha, ho, hi⟩ := h.cells
  obtain ⟨w1, hw1⟩ : ∃ w1, w1 = w.alloc (.cells #[.int .i64 0, .int .i64 0, .int .i64 0] 45) := ⟨_, rfl⟩
  have hb1 : Below w.heap.size w w1 := by rw [hw1]; exact (Below.refl _ _).alloc (Nat.le_refl _) _
  have hbk : Blk w1 w.heap.size #[.int .i64 0, .int .i64 0, .int .i64 0] 45 (0, 0) := by rw [hw1]; exact Blk.new _ _ _ _
  have C := Lib.hid (oneA_any _ _ i w1 (ha.keep (KpC.of_below hb1)))
  obtain ⟨x, hx'⟩ : ∃ x, x = (if 0 ≤ i ∧ i < g.arcs.length then g.arcs[i.toNat]?.getD (0, 0, 0) else (0, 0, 0)) := ⟨_, rfl⟩
  obtain ⟨q, hq⟩ : ∃ q, q = decide (0 ≤ i ∧ i < (g.arcs.length : Int)) := ⟨_, rfl⟩
  rw [← hx', ← hq] at C ⊢
  obtain ⟨x0, x1, x2⟩ := x
  change Hid (Calls _ _ _ _ fun e w' => e = .returned (.tuple #[.agg #[.int .i64 x0, .int .i64 x1, .int .i64 x2], .bool q]) ∧ Below w1.heap.size w1 w') at C
  obtain ⟨B, hB⟩ : ∃ b, b = w.heap.size := ⟨_, rfl⟩
  rw [← hB] at hbk
  have e3 := cell_later ((Below.refl w.heap.size w).alloc (Nat.le_refl _) (.cells #[.int .i64 0, .int .i64 0, .int .i64 0] 45)) c3
  have H1 := Lib.hid hb1; have HK := Lib.hid hbk; have HW1 := Lib.hid hw1; have HBe := Lib.hid hB
  clear h hx hy ha ho hi hb1 hbk hw1 hx' hq c0 c1 c2 c4 c5
  go_enter Tryd.func31, Tryd.ntmps31
  go_wp2_with fail
  rw [← HW1.out, ← hB]
  clear hB
  refine C.out.mono ?_
  rintro e w2 ⟨rfl, hb2⟩
  have k2 := HK.out.below hb2 HK.out.lt
  have f0 := k2.free 0 (Or.inr (Nat.zero_le _)); have f1 := k2.free 1 (Or.inr (Nat.zero_le _)); have f2 := k2.free 2 (Or.inr (Nat.zero_le _))
  have d0 := k2.cell 0; have d1 := k2.cell 1; have d2 := k2.cell 2
  simp only [List.getElem?_toArray, List.getElem?_cons_succ, List.getElem?_cons_zero] at d0 d1 d2
  have hle : w.heap.size ≤ B := by have := HBe.out; omega
  have HF := Lib.hid (((((H1.out.next' hb2).setCell (p := ⟨B, 0, none⟩) hle (.int .i64 x0)).setCell (p := ⟨B, 1, none⟩) hle (.int .i64 x1))).setCell (p := ⟨B, 2, none⟩) hle (.int .i64 x2))
  have HK2 := Lib.hid k2
  clear hb2 k2 hle
  go_wp2_with fail
  have z0 := HK2.out.set 0 (.int .i64 x0)
  have z1 := z0.set 1 (.int .i64 x1)
  have z2 := z1.set 2 (.int .i64 x2)
  have r0 := z0.cell 0; have r1 := z1.cell 1; have r2 := z2.cell 2
  simp at r0 r1 r2
  exact bodyPost_ret (v := .tuple #[.agg #[.int .i64 x0, .int .i64 x1, .int .i64 x2], .bool q]) (by simp [results, Tryd.results31, go_sem, r0, r1, r2]) rfl ⟨rfl, HF.out⟩
theorem arc_nil (i : Int) (w : World) : Calls Tryd.prog 31 #[.pointer none, .int .i64 i] w fun e w' => e = .returned (.tuple #[arV (0, 0, 0), .bool false]) ∧ Below w.heap.size w w' := by
  go_enter Tryd.func31, Tryd.ntmps31
  go_wp2_with fail
  exact bodyPost_ret (v := .tuple #[.agg #[.int .i64 0, .int .i64 0, .int .i64 0], .bool false]) (by simp [results, Tryd.results31, go_sem]) rfl ⟨rfl, (Below.refl _ _).alloc (Nat.le_refl _) _⟩
end Go.Proofs.YtjobijmmjebpaaaDoor
/- walk.steps: the arcs of a row, as an iterator that keeps where the walk stands. -/
namespace Go.Proofs.YtjobijmmjebpaaaDoor
open Go.RowKit Go.Shelf
attribute [local go_sem] Oper.semAt_some
/-- what a round keeps -/
structure KpW (lo Ba Bn Bs : Nat) (W W' : World) : Prop where
  below : Below lo W W'
  box : ∀ b, b = Ba ∨ b = Bn ∨ b = Bs → W'.heap[b]? = W.heap[b]?
  arcs : ∀ k cs fr, Blk W k cs 45 fr → Blk W' k cs 45 fr
theorem KpW.trans {lo Ba Bn Bs : Nat} {A B C : World} (h : KpW lo Ba Bn Bs A B) (k : KpW lo Ba Bn Bs B C) : KpW lo Ba Bn Bs A C :=
  ⟨h.below.trans k.below, fun b hb => (k.box b hb).trans (h.box b hb), fun i cs fr hi => k.arcs i cs fr (h.arcs i cs fr hi)⟩
theorem KpW.put {lo Ba Bn Bs : Nat} {w : World} (hlo : lo ≤ w.heap.size) (hb : Ba < w.heap.size ∧ Bn < w.heap.size ∧ Bs < w.heap.size) (W : World) (l : Nat) (o o' : Obj) (hl : w.heap.size ≤ l) (h : W.heap[l]? = some o) (h1 : o.isCells = false) : KpW lo Ba Bn Bs W (W.putObj l o') :=
  ⟨(Below.refl lo W).grown (grownBy_putObj' W l o') (by have := (Array.getElem?_eq_some_iff.1 h).1; omega) (fun k e => by cases e; omega), fun b hb' => World.putObj_heap_other (by omega), fun k cs fr hk => (World.putObj_heap_other (fun e => by
    subst e
    rw [show W.heap[k]? = _ from hk] at h
    obtain rfl := Option.some.inj h
    cases h1)).trans hk⟩
theorem KpW.of_below {lo Ba Bn Bs : Nat} {W W' : World} (h : Below W.heap.size W W') (hlo : lo ≤ W.heap.size) (hb : Ba < W.heap.size ∧ Bn < W.heap.size ∧ Bs < W.heap.size) : KpW lo Ba Bn Bs W W' :=
  ⟨h.mono hlo, fun b hb' => h.block b (by omega), fun k cs fr hk => hk.below h hk.lt⟩
theorem arc_anyI (p : Nat) (g : Raw) (i : Int) (w : World) (h : NetAt w p g) : Calls Tryd.prog 31 #[.pointer (some ⟨p, 0, none⟩), .int .i64 i] w fun e w' => e = .returned (.tuple #[arV ((arcI g i).getD (0, 0, 0)), .bool (arcI g i).isSome]) ∧ Below w.heap.size w w' := by
  have e1 : (if 0 ≤ i ∧ i < (g.arcs.length : Int) then g.arcs[i.toNat]?.getD (0, 0, 0) else (0, 0, 0)) = (arcI g i).getD (0, 0, 0) := by unfold arcI; split <;> rfl
  have e2 : decide (0 ≤ i ∧ i < (g.arcs.length : Int)) = (arcI g i).isSome := by
    unfold arcI
    split
    · rename_i h; rw [decide_eq_true h, List.getElem?_eq_getElem (by omega)]; rfl
    · rename_i h; rw [decide_eq_false h]; rfl
  have := arc_any p g i w h
  rw [e1, e2] at this
  exact this
theorem steps_in (k : Nat) (p : Option Addr) (s : Int) (va : Value) (ha : va.oneCell' = true) (w : World) :
    CallsIn Fence.wide k Tryd.prog 42 #[.pointer p, .int .i64 s, va] w fun e w' => e = .returned (.func (.func 54) #[] #[.pointer (some ⟨w.heap.size + 1 + 1, 0, none⟩), .pointer (some ⟨w.heap.size, 0, none⟩), .pointer (some ⟨w.heap.size + 1, 0, none⟩)]) ∧
      w' = ((w.alloc (.cells #[.pointer p] 28)).alloc (.cells #[.int .i64 s] 3)).alloc (.cells #[va] 30) := by
  refine callsIn_of_wp Tryd.func42 rfl trivial ?_ rfl
  simp only [Tryd.ntmps42, List.size_toArray, List.length_cons, List.length_nil, Nat.reduceAdd, Nat.reduceSub, Array.replicate_succ, Array.replicate_zero, List.push_toArray, List.append_toArray, List.nil_append, List.cons_append]
  gi_wp2
  go_ret
  exact ⟨rfl, rfl⟩
def encS (x : Ar × Bool) : Array Value := #[arV x.1, .bool x.2]
set_option maxRecDepth 100000 in
set_option maxHeartbeats 4000000 in
theorem steps1_in (m : Nat) (hm : 1 ≤ m) (l Ba Bn Bs lo : Nat) (W0 : World) (p : Nat) (g : Raw) (va : Value) (L : List Int) (s : Int) (hNt : ∀ u, Below lo W0 u → NetAt u p g) (hA : ∀ u, Below lo W0 u → SlX u va L) (hlo : lo ≤ Ba ∧ lo ≤ Bn ∧ lo ≤ Bs) (hne : Ba ≠ Bs ∧ Bn ≠ Bs) (J Jx : List (Ar × Bool) → World → Prop)
    (hJ : ∀ x A B, J x A → Kept (fun k => k = Bs) A B → J x B)
    (hY : ∀ pre x W, J pre W → pre.length < L.length → YieldAt Fence.wide (m - 1) Tryd.prog l (encS x) W fun e W' =>
      (e = .returned (.bool true) ∧ J (pre ++ [x]) W' ∧ KpW lo Ba Bn Bs W W') ∨ (e = .returned (.bool false) ∧ Jx (pre ++ [x]) W'))
    (W : World) (hW : Below lo W0 W) (hsz : lo ≤ W.heap.size) (kA : Blk W Ba #[va] 30 (0, 0)) (kN : Blk W Bn #[.pointer (some ⟨p, 0, none⟩)] 28 (0, 0)) (kS : Blk W Bs #[.int .i64 s] 3 (0, 0)) (h0 : J [] W) :
    CallsIn Fence.wide m Tryd.prog 54 #[.func (.yield l) #[] #[], .pointer (some ⟨Ba, 0, none⟩), .pointer (some ⟨Bn, 0, none⟩), .pointer (some ⟨Bs, 0, none⟩)] W fun e W' => (∃ v, e = .returned v) ∧
      ((∃ ys, ys = stepsV g s L ∧ J ys W') ∨ (∃ pre, pre <+: stepsV g s L ∧ Jx pre W')) := by
  have c1 := kA.cell 0
  change W.cell? ⟨Ba, 0, none⟩ = some va at c1
  obtain ⟨a, cap, rfl, hcap, hmax, _⟩ := id (hA W hW)
  unfold maxLen at hmax
  have HA := Lib.hid kA; have HN := Lib.hid kN; have HS := Lib.hid kS; have HW := Lib.hid hW; have H0 := Lib.hid h0
  have HSl := Lib.hid hA; have HNt := Lib.hid hNt; have HLo := Lib.hid hlo; have HSz := Lib.hid hsz
  clear kA kN kS hW h0 hA hNt hlo hsz
  refine callsIn_of_wp Tryd.func54 rfl trivial ?_ rfl
  simp only [Tryd.ntmps54, List.size_toArray, List.length_cons, List.length_nil, Nat.reduceAdd, Nat.reduceSub, Array.replicate_succ, Array.replicate_zero, List.push_toArray, List.append_toArray, List.nil_append, List.cons_append]
  gi_wp2_with fail
  gi_loopw [11] (fun i wr => ∃ (k : Nat), k ≤ L.length ∧ i = .int .i64 k ∧ Hid (Below lo W0 wr ∧ lo ≤ wr.heap.size) ∧ Hid (Blk wr Ba #[.slice a L.length cap] 30 (0, 0)) ∧ Hid (Blk wr Bn #[.pointer (some ⟨p, 0, none⟩)] 28 (0, 0)) ∧ Hid (Blk wr Bs #[.int .i64 (atS g s (L.take k))] 3 (0, 0)) ∧ Hid (J (stepsV g s (L.take k)) wr)) (fun i _ => L.length - (intOf i).toNat)
  case atStart => exact ⟨0, Nat.zero_le _, rfl, Lib.hid ⟨HW.out, HSz.out⟩, HA, HN, HS, H0⟩
  case round =>
    obtain ⟨k, hk, rfl, HWr, HAr, HNr, HSr, HJr⟩ := hrel
    by_cases hlt : k < L.length
    · have hltI : (k : Int) < (L.length : Int) := by omega
      have i1 : (0 : Int) ≤ (k : Int) := by omega
      obtain ⟨ba, oa, rfl, d0⟩ := (HSl.out wr HWr.out.1).at k hlt
      obtain ⟨i, hi⟩ : ∃ x, x = L[k] := ⟨_, rfl⟩
      rw [← hi] at d0
      have d2 := HNr.out.cell 0
      change wr.cell? ⟨Bn, 0, none⟩ = some (.pointer (some ⟨p, 0, none⟩)) at d2
      have CA := Lib.hid (arc_anyI p g i wr (HNt.out wr HWr.out.1))
      obtain ⟨cur, hcur⟩ : ∃ c, c = atS g s (L.take k) := ⟨_, rfl⟩
      rw [← hcur] at HSr
      obtain ⟨x, hx⟩ : ∃ x, x = (arcI g i).getD (0, 0, 0) := ⟨_, rfl⟩
      obtain ⟨q, hq⟩ : ∃ q, q = (arcI g i).isSome := ⟨_, rfl⟩
      rw [← hx, ← hq] at CA
      have htk : L.take (k + 1) = L.take k ++ [i] := by rw [hi]; exact List.take_succ_eq_append_getElem hlt
      have hst : stepsV g s (L.take (k + 1)) = stepsV g s (L.take k) ++ [(x, q && decide (x.1 = cur))] := by rw [htk, stepsV_append, ← hcur, stepsV, ← hx, ← hq]; rfl
      have hat : atS g s (L.take (k + 1)) = x.2.1 := by rw [htk, atS_append, atS, ← hx]; rfl
      have hpf : stepsV g s (L.take k) ++ [(x, q && decide (x.1 = cur))] <+: stepsV g s L := by
        rw [← hst]
        refine ⟨stepsV g (atS g s (L.take (k + 1))) (L.drop (k + 1)), ?_⟩
        rw [← stepsV_append, List.take_append_drop]
      have HSt := Lib.hid hst; have HAt := Lib.hid hat; have HPf := Lib.hid hpf; have HLn := Lib.hid (show (stepsV g s (L.take k)).length < L.length by rw [stepsV_len, List.length_take]; omega)
      clear hi hcur hx hq htk hst hat hpf
      obtain ⟨x0, x1, x2⟩ := x
      change Hid (Calls _ _ _ _ fun e w' => e = .returned (.tuple #[.agg #[.int .i64 x0, .int .i64 x1, .int .i64 x2], .bool q]) ∧ Below wr.heap.size wr w') at CA
      gi_wp2_with fail
      refine ⟨trivial, ?_⟩
      refine (callsIn_wide.2 CA.out).mono ?_
      rintro e w2 ⟨rfl, hb2⟩
      obtain ⟨w3, hw3⟩ : ∃ u, u = w2.alloc (.cells #[.int .i64 x0, .int .i64 x1, .int .i64 x2] 45) := ⟨_, rfl⟩
      have hb3 : Below w2.heap.size w2 w3 := by rw [hw3]; exact (Below.refl _ _).alloc (Nat.le_refl _) _
      have k7 : Blk w3 w2.heap.size #[.int .i64 x0, .int .i64 x1, .int .i64 x2] 45 (0, 0) := by rw [hw3]; exact Blk.new _ _ _ _
      have hb13 := hb2.next' hb3
      have kS := HSr.out.below hb13 HSr.out.lt
      have eS := kS.cell 0
      simp only [List.getElem?_toArray, List.getElem?_cons_zero] at eS
      rw [hw3] at eS
      have HW3 := Lib.hid hw3; have H13 := Lib.hid hb13; have HK7 := Lib.hid k7; have HKS := Lib.hid kS
      have HJ3 := Lib.hid (hJ _ _ _ HJr.out (Kept.of_below hb13))
      clear hw3 hb2 hb3 k7 hb13 kS d0 d2 CA
      obtain ⟨bb, hbb⟩ : ∃ b, b = (q && decide (x0 = cur)) := ⟨_, rfl⟩
      change Hid (stepsV g s (L.take (k + 1)) = stepsV g s (L.take k) ++ [((x0, x1, x2), q && decide (x0 = cur))]) at HSt
      change Hid (stepsV g s (L.take k) ++ [((x0, x1, x2), q && decide (x0 = cur))] <+: stepsV g s L) at HPf
      rw [← hbb] at HSt HPf
      obtain ⟨fn, tmps, assign, body, hy, hR⟩ := hY (stepsV g s (L.take k)) ((x0, x1, x2), bb) w3 HJ3.out HLn.out
      dsimp only [encS, arV] at hy
      rw [HW3.out] at hy hR
      have HR := Lib.hid hR
      have fin : ∀ (e : Ending) (W3 : World), ((e = .returned (.bool true) ∧ J (stepsV g s (L.take k) ++ [((x0, x1, x2), bb)]) W3 ∧ KpW lo Ba Bn Bs w3 W3) ∨ (e = .returned (.bool false) ∧ Jx (stepsV g s (L.take k) ++ [((x0, x1, x2), bb)]) W3)) →
          (e = .returned (.bool true) ∧ Blk W3 w2.heap.size #[.int .i64 x0, .int .i64 x1, .int .i64 x2] 45 (0, 0) ∧ Blk W3 Bs #[.int .i64 cur] 3 (0, 0) ∧ (Below lo W0 (W3.setCell ⟨Bs, 0, none⟩ (.int .i64 x1)) ∧ lo ≤ (W3.setCell ⟨Bs, 0, none⟩ (.int .i64 x1)).heap.size) ∧ Blk (W3.setCell ⟨Bs, 0, none⟩ (.int .i64 x1)) Ba #[.slice (some ⟨ba, oa, none⟩) L.length cap] 30 (0, 0) ∧ Blk (W3.setCell ⟨Bs, 0, none⟩ (.int .i64 x1)) Bn #[.pointer (some ⟨p, 0, none⟩)] 28 (0, 0) ∧ Blk (W3.setCell ⟨Bs, 0, none⟩ (.int .i64 x1)) Bs #[.int .i64 (atS g s (L.take (k + 1)))] 3 (0, 0) ∧ J (stepsV g s (L.take (k + 1))) (W3.setCell ⟨Bs, 0, none⟩ (.int .i64 x1))) ∨ (e = .returned (.bool false) ∧ Jx (stepsV g s (L.take k) ++ [((x0, x1, x2), bb)]) W3) := by
        rintro e W3 (⟨rfl, hj, hkp⟩ | ⟨rfl, hj⟩)
        · have hl := HLo.out
          have kSs : Blk W3 Bs #[.int .i64 cur] 3 (0, 0) := (hkp.box Bs (Or.inr (Or.inr rfl))).trans HKS.out
          have hbel : Below lo W0 W3 := (HWr.out.1.trans (H13.out.mono HWr.out.2)).trans hkp.below
          have hsz : lo ≤ W3.heap.size := Nat.le_trans (Nat.le_trans HWr.out.2 H13.out.size) hkp.below.size
          refine .inl ⟨rfl, hkp.arcs _ _ _ HK7.out, kSs, ⟨hbel.setCell (p := ⟨Bs, 0, none⟩) hl.2.2 _, by simp; omega⟩, ?_, ?_, ?_, ?_⟩
          · exact Blk.setOther ((hkp.box Ba (Or.inl rfl)).trans (HAr.out.below H13.out HAr.out.lt)) _ _ hne.1
          · exact Blk.setOther ((hkp.box Bn (Or.inr (Or.inl rfl))).trans (HNr.out.below H13.out HNr.out.lt)) _ _ hne.2
          · rw [HAt.out]; exact kSs.set 0 _
          · rw [HSt.out]; exact hJ _ _ _ hj ((Kept.refl (fun k => k = Bs) _).setCell (p := ⟨Bs, 0, none⟩) rfl _)
        · exact .inr ⟨rfl, hj⟩
      have HFin := Lib.hid fin
      clear hR fin
      have e10 : q = true → (x0 == cur) = bb := fun h => by rw [hbb, h, Bool.true_and]; rfl
      have e11 : q = false → bb = false := fun h => by rw [hbb, h]; rfl
      have HE10 := Lib.hid (And.intro e10 e11)
      clear hbb e10 e11
      cases q with
      | false =>
        obtain rfl := HE10.out.2 rfl
        gi_wp2_with fail
        refine HR.out.mono ?_
        intro e W3 h
        rw [← HW3.out] at h
        rcases HFin.out e W3 h with ⟨rfl, g1, g2, g3, g4, g5, g6, g7⟩ | ⟨rfl, g1⟩
        · have f1 := g1.cell 1; have f2 := g2.cell 0
          simp only [List.getElem?_toArray, List.getElem?_cons_succ, List.getElem?_cons_zero] at f1 f2
          have fz := g2.free 0 (Or.inr (Nat.zero_le _))
          have HG := Lib.hid (And.intro g3 (And.intro g4 (And.intro g5 (And.intro g6 g7))))
          clear h g1 g2 g3 g4 g5 g6 g7
          gi_wp2_with fail
          go_roundw
          case rel => exact ⟨k + 1, by omega, by go_num, Lib.hid HG.out.1, Lib.hid HG.out.2.1, Lib.hid HG.out.2.2.1, Lib.hid HG.out.2.2.2.1, Lib.hid HG.out.2.2.2.2⟩
          case measure => simp [intOf]; omega
        · clear h
          gi_wp2_with fail
          refine bodyPost_ret (results_none rfl _ _ _) rfl ?_
          exact ⟨⟨_, rfl⟩, .inr ⟨_, HPf.out, g1⟩⟩
      | true =>
        have e10 := HE10.out.1 rfl
        gi_wp2_with fail
        refine HR.out.mono ?_
        intro e W3 h
        rw [← HW3.out] at h
        rcases HFin.out e W3 h with ⟨rfl, g1, g2, g3, g4, g5, g6, g7⟩ | ⟨rfl, g1⟩
        · have f1 := g1.cell 1; have f2 := g2.cell 0
          simp only [List.getElem?_toArray, List.getElem?_cons_succ, List.getElem?_cons_zero] at f1 f2
          have fz := g2.free 0 (Or.inr (Nat.zero_le _))
          have HG := Lib.hid (And.intro g3 (And.intro g4 (And.intro g5 (And.intro g6 g7))))
          clear h g1 g2 g3 g4 g5 g6 g7
          gi_wp2_with fail
          go_roundw
          case rel => exact ⟨k + 1, by omega, by go_num, Lib.hid HG.out.1, Lib.hid HG.out.2.1, Lib.hid HG.out.2.2.1, Lib.hid HG.out.2.2.2.1, Lib.hid HG.out.2.2.2.2⟩
          case measure => simp [intOf]; omega
        · clear h
          gi_wp2_with fail
          refine bodyPost_ret (results_none rfl _ _ _) rfl ?_
          exact ⟨⟨_, rfl⟩, .inr ⟨_, HPf.out, g1⟩⟩
    · obtain rfl : k = L.length := by omega
      gi_wp2
      go_end0
      exact ⟨⟨_, rfl⟩, .inl ⟨_, rfl, by have h := HJr.out; rwa [List.take_length] at h⟩⟩
end Go.Proofs.YtjobijmmjebpaaaDoor
/- append of one number onto a row of ours. -/
namespace Go.Proofs.YtjobijmmjebpaaaDoor
open Go.RowKit
theorem push_intG (base : Nat) (v : Value) (L : List Int) (x : Int) (u : World) (B : Nat) {fr : Nat × Nat} (hown : u.ownsRow base 3 1 v L.length (L.flatMap inC)) (hB : Blk u B #[.int .i64 x] 3 fr) (hl : L.length ≤ 1000000) (hbase : base ≤ u.heap.size) :
    ∃ a n c w', (Builtin.append_ #[30, 30] 30 #[v, .slice (some ⟨B, 0, none⟩) 1 1]).run Tryd.prog u = .ok (.slice a n c) w' ∧ w'.ownsRow base 3 1 (.slice a n c) (L ++ [x]).length ((L ++ [x]).flatMap inC) ∧ u.grownBy w' v.ownBlock ∧ ((Value.slice a n c).ownBlock = v.ownBlock ∨ (Value.slice a n c).ownBlock = some u.heap.size) := by
  obtain ⟨i0, hi, hz0, hz1, hz2⟩ := info_parts infoInt
  have hs : SlF 1 u (.slice (some ⟨B, 0, none⟩) 1 1) 1 (inC x) := ⟨inC_len x, fun u hu => by simp only [inC, List.mem_cons, List.not_mem_nil, or_false] at hu; rw [hu]; rfl, _, 1, rfl, Nat.le_refl _, by unfold maxLen; omega, fun j q hq => ⟨B, 0, rfl, by rw [Nat.zero_add, hB.cell, List.getElem?_toArray]; exact hq⟩⟩
  obtain ⟨v', w', hr, ho, hg, hat, _⟩ := run_append_row (P := Tryd.prog) base 30 30 3 i0 _ 1 8 Tryd.underlying30 hi hz0 hz1 hz2 rfl (by omega) v L.length _ hown _ 1 _ hs (by unfold maxLen; omega) (by omega) hbase
  obtain ⟨a, n, c, rfl⟩ := ho.one'
  exact ⟨a, n, c, w', hr, by rw [List.length_append, List.flatMap_append]; simpa using ho, hg, hat⟩
/-- the blocks of another type are kept by an append -/
theorem grown_blk {base : Nat} {v : Value} {n size : Nat} {xs : List Value} {e : TypeId} {u w' : World} (hown : u.ownsRow base e size v n xs) (hg : u.grownBy w' v.ownBlock) {b : Nat} {cs : Array Value} {t : TypeId} {fr : Nat × Nat} (hb : Blk u b cs t fr) (ht : t ≠ e) : Blk w' b cs t fr :=
  (hg.block b hb.lt (fun e' => by obtain ⟨_, _, hq⟩ := ownsRow_blk' hown e'.symm; exact ht (blk_type hb hq))).trans hb
end Go.Proofs.YtjobijmmjebpaaaDoor
