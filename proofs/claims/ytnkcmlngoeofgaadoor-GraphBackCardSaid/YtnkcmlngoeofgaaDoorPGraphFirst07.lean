/- Texts of the law GraphFirst, merged: NetOwn, NetOf, ErrWrapN, NetNew, NetOne, NetGet, NetTurned. -/
import Derived.Test.YtnkcmlngoeofgaaDoorPGraphFirst02
import Derived.Test.YtnkcmlngoeofgaaDoorPGraphFirst06
import Derived.Test.YtnkcmlngoeofgaaDoorPGraphFirst04
import Derived.BigQuiet
import Derived.Deep.QuietTactic
import Derived.WalkSmall
import Derived.Test.YtnkcmlngoeofgaaDoorPGraphFirst03
/- net.own: a graph with lists of its own. -/
namespace Go.Proofs.YtnkcmlngoeofgaaDoor
open Go.RowKit
set_option maxRecDepth 100000 in
set_option maxHeartbeats 4000000 in
theorem own_any (v : Value) (r : Raw) (w : World) (h : RawV w v r) (hl : r.few) :
    Calls Tryd.prog 54 #[v] w fun e w' => ∃ v', e = .returned v' ∧ RawO w.heap.size w' v' r ∧ Below w.heap.size w w' := by
  obtain ⟨vx, vy, va, rfl, hx, hy, ha⟩ := h
  have fx := hx.form; have fy := hy.form; have fa := ha.form
  obtain ⟨B, hB⟩ : ∃ b, b = w.heap.size := ⟨_, rfl⟩
  have b2 := (Blk.new w #[.int .i64 r.nodes, vx, vy, va] 25 (0, 0)).alloc (.cells #[.int .i64 0, .slice none 0 0, .slice none 0 0, .slice none 0 0] 25)
  have c2 : Blk ((w.alloc (.cells #[.int .i64 r.nodes, vx, vy, va] 25)).alloc (.cells #[.int .i64 0, .slice none 0 0, .slice none 0 0, .slice none 0 0] 25)) (w.heap.size + 1) #[.int .i64 0, .slice none 0 0, .slice none 0 0, .slice none 0 0] 25 (0, 0) := by
    have h := Blk.new (w.alloc (.cells #[.int .i64 r.nodes, vx, vy, va] 25)) #[.int .i64 0, .slice none 0 0, .slice none 0 0, .slice none 0 0] 25 (0, 0)
    rwa [World.size_alloc] at h
  have hb0 := ((Below.refl w.heap.size w).alloc (Nat.le_refl _) (.cells #[.int .i64 r.nodes, vx, vy, va] 25)).alloc (by simp) (.cells #[.int .i64 0, .slice none 0 0, .slice none 0 0, .slice none 0 0] 25)
  have hk0 := KpC.of_below hb0
  have HX := Lib.hid (hx.keep hk0); have HY := Lib.hid (hy.keep hk0); have HA := Lib.hid (ha.keep hk0); have HB0 := Lib.hid hb0; have HB2 := Lib.hid b2; have HC2 := Lib.hid c2; have HL := Lib.hid hl
  rw [← hB] at HB2 HC2
  have HBl : Hid (B = w.heap.size) := Lib.hid hB
  clear hx hy ha b2 c2 hb0 hl hk0
  obtain ⟨ax, nx, cx, rfl⟩ := fx
  obtain ⟨ay, ny, cy, rfl⟩ := fy
  obtain ⟨aa, na, ca, rfl⟩ := fa
  obtain ⟨Bs, hBs⟩ : ∃ b, b = B + 1 := ⟨_, rfl⟩
  rw [← hBs] at HC2
  have HBs : Hid (Bs = B + 1) := Lib.hid hBs
  go_enter Tryd.func54, Tryd.ntmps54
  go_wp2_with fail
  rw [show w.heap.size + 1 = Bs by rw [hBs, hB], ← hB]
  clear hB hBs
  generalize ((w.alloc (.cells #[.int .i64 r.nodes, .slice ax nx cx, .slice ay ny cy, .slice aa na ca] 25)).alloc (.cells #[.int .i64 0, .slice none 0 0, .slice none 0 0, .slice none 0 0] 25)) = w1 at *
  refine wp_region_heldD (fun w' => w'.cell? ⟨B, 1, none⟩ = some (.slice ax nx cx) ∧ w'.cell? ⟨B, 2, none⟩ = some (.slice ay ny cy) ∧ w'.cell? ⟨B, 3, none⟩ = some (.slice aa na ca)) 10 rfl ?_
  change heldD _ _ _ _ _ _ _ 15 _ _ w1.drew
  have hS0 : w1.drew.cell? ⟨B, 1, none⟩ = some (.slice ax nx cx) ∧ w1.drew.cell? ⟨B, 2, none⟩ = some (.slice ay ny cy) ∧ w1.drew.cell? ⟨B, 3, none⟩ = some (.slice aa na ca) := ⟨HB2.out.cell 1, HB2.out.cell 2, HB2.out.cell 3⟩
  refine heldD_take (i := 0) (v := .pointer (some ⟨B, 1, none⟩)) rfl rfl rfl (by kernel_rfl) (by kernel_rfl) (by kernel_rfl) (by kernel_rfl) (by kernel_rfl) (by kernel_rfl) (fun _ _ _ h => h) (by rfl) (fun w hS => ⟨by rfl, by obtain ⟨hS1, hS2, hS3⟩ := hS; go_simp⟩) hS0 ?_
  simp only [List.setIfInBounds_toArray, List.set_cons_zero, List.set_cons_succ]
  refine heldD_take (i := 1) (v := .slice ax nx cx) rfl rfl rfl (by kernel_rfl) (by kernel_rfl) (by kernel_rfl) (by kernel_rfl) (by kernel_rfl) (by kernel_rfl) (fun _ _ _ h => h) (by rfl) (fun w hS => ⟨by rfl, by obtain ⟨hS1, hS2, hS3⟩ := hS; go_simp⟩) hS0 ?_
  simp only [List.setIfInBounds_toArray, List.set_cons_zero, List.set_cons_succ]
  refine heldD_take (i := 3) (v := .pointer (some ⟨B, 2, none⟩)) rfl rfl rfl (by kernel_rfl) (by kernel_rfl) (by kernel_rfl) (by kernel_rfl) (by kernel_rfl) (by kernel_rfl) (fun _ _ _ h => h) (by rfl) (fun w hS => ⟨by rfl, by obtain ⟨hS1, hS2, hS3⟩ := hS; go_simp⟩) hS0 ?_
  simp only [List.setIfInBounds_toArray, List.set_cons_zero, List.set_cons_succ]
  refine heldD_take (i := 4) (v := .slice ay ny cy) rfl rfl rfl (by kernel_rfl) (by kernel_rfl) (by kernel_rfl) (by kernel_rfl) (by kernel_rfl) (by kernel_rfl) (fun _ _ _ h => h) (by rfl) (fun w hS => ⟨by rfl, by obtain ⟨hS1, hS2, hS3⟩ := hS; go_simp⟩) hS0 ?_
  simp only [List.setIfInBounds_toArray, List.set_cons_zero, List.set_cons_succ]
  refine heldD_take (i := 6) (v := .pointer (some ⟨B, 3, none⟩)) rfl rfl rfl (by kernel_rfl) (by kernel_rfl) (by kernel_rfl) (by kernel_rfl) (by kernel_rfl) (by kernel_rfl) (fun _ _ _ h => h) (by rfl) (fun w hS => ⟨by rfl, by obtain ⟨hS1, hS2, hS3⟩ := hS; go_simp⟩) hS0 ?_
  simp only [List.setIfInBounds_toArray, List.set_cons_zero, List.set_cons_succ]
  refine heldD_take (i := 7) (v := .slice aa na ca) rfl rfl rfl (by kernel_rfl) (by kernel_rfl) (by kernel_rfl) (by kernel_rfl) (by kernel_rfl) (by kernel_rfl) (fun _ _ _ h => h) (by rfl) (fun w hS => ⟨by rfl, by obtain ⟨hS1, hS2, hS3⟩ := hS; go_simp⟩) hS0 ?_
  simp only [List.setIfInBounds_toArray, List.set_cons_zero, List.set_cons_succ]
  clear hS0
  have hd := (Below.refl w1.heap.size w1).drew
  refine heldD_one (i := 2) (by kernel_rfl) ?_
  refine wpOpIn_calls' (f := 72) (args := #[.slice ax nx cx]) rfl rfl (by rfl) (by go_simp) (cloneX _ r.X w1.drew (HX.out.keep (KpC.of_below hd)) HL.out.1) ?_
  rintro e w2 ⟨v1, rfl, ho1, hb1⟩
  refine ⟨_, rfl, ?_⟩
  replace hb1 := hd.next' hb1
  have bA := HB2.out.below hb1 HB2.out.lt
  have hS1 : w2.cell? ⟨B, 1, none⟩ = some (.slice ax nx cx) ∧ w2.cell? ⟨B, 2, none⟩ = some (.slice ay ny cy) ∧ w2.cell? ⟨B, 3, none⟩ = some (.slice aa na ca) := ⟨bA.cell 1, bA.cell 2, bA.cell 3⟩
  refine ⟨fun _ => hS1, ?_⟩
  simp only [List.setIfInBounds_toArray, List.set_cons_zero, List.set_cons_succ]
  refine heldD_takeF (i := 9) (v := .pointer (some ⟨B, 1, none⟩)) rfl rfl rfl (by kernel_rfl) (by kernel_rfl) (by kernel_rfl) (by kernel_rfl) (fun _ _ _ h => h) (by rfl) (fun w => ⟨by rfl, by go_simp⟩) (fun _ => hS1) ?_
  simp only [List.setIfInBounds_toArray, List.set_cons_zero, List.set_cons_succ]
  clear hS1
  refine heldD_one (i := 5) (by kernel_rfl) ?_
  refine wpOpIn_calls' (f := 72) (args := #[.slice ay ny cy]) rfl rfl (by rfl) (by go_simp) (cloneX _ r.Y w2 (HY.out.keep (KpC.of_below hb1)) HL.out.2.1) ?_
  rintro e w3 ⟨v2, rfl, ho2, hb2⟩
  refine ⟨_, rfl, ?_⟩
  have hb3 := hb1.next' hb2
  have bA := HB2.out.below hb3 HB2.out.lt
  refine ⟨fun _ => ⟨bA.cell 1, bA.cell 2, bA.cell 3⟩, ?_⟩
  simp only [List.setIfInBounds_toArray, List.set_cons_zero, List.set_cons_succ]
  refine heldD_one (i := 8) (by kernel_rfl) ?_
  refine wpOpIn_calls' (f := 73) (args := #[.slice aa na ca]) rfl rfl (by rfl) (by go_simp) (cloneA _ r.arcs w3 (HA.out.keep (KpC.of_below hb3)) HL.out.2.2) ?_
  rintro e w4 ⟨v3, rfl, ho3, hb4⟩
  refine ⟨_, rfl, ?_⟩
  have hb5 := hb3.next' hb4
  have bA := HB2.out.below hb5 HB2.out.lt
  have bC := HC2.out.below hb5 HC2.out.lt
  have hS0 : w4.cell? ⟨B, 1, none⟩ = some (.slice ax nx cx) ∧ w4.cell? ⟨B, 2, none⟩ = some (.slice ay ny cy) ∧ w4.cell? ⟨B, 3, none⟩ = some (.slice aa na ca) := ⟨bA.cell 1, bA.cell 2, bA.cell 3⟩
  refine ⟨fun _ => hS0, ?_⟩
  simp only [List.setIfInBounds_toArray, List.set_cons_zero, List.set_cons_succ]
  have o1 := ownsRow_below ho1 (hb2.next' hb4)
  have o2 := ownsRow_below ho2 hb4
  have l1 : ∀ b, v1.ownBlock = some b → b < w2.heap.size := fun b hb => (ownsRow_blk' ho1 hb).2.choose_spec.lt
  have l2 : ∀ b, v2.ownBlock = some b → w2.heap.size ≤ b := fun b hb => (ownsRow_blk' ho2 hb).1
  have hs1 := hb1.size; have hs3 := hb3.size
  have R := rawO_mk (base := w.heap.size) (r := r) (ownsRow_le o1 HB0.out.size) (ownsRow_le o2 (Nat.le_trans HB0.out.size hs1)) (ownsRow_le ho3 (Nat.le_trans HB0.out.size hs3)) (fun b h1 h2 => by have := l1 b h1; have := l2 b h2; omega)
  have HR := Lib.hid R; have HbA := Lib.hid bA; have HbC := Lib.hid bC; have Hb5 := Lib.hid (HB0.out.next' hb5)
  have g1 := ho1.one' ; have g2 := ho2.one'; have g3 := ho3.one'
  obtain ⟨a1, n1, k1, rfl⟩ := g1
  obtain ⟨a2, n2, k2, rfl⟩ := g2
  obtain ⟨a3, n3, k3, rfl⟩ := g3
  clear R hb1 hb2 hb3 hb4 hb5 o1 o2 ho1 ho2 ho3 l1 l2 hs1 hs3 HX HY HA HB0 HB2 HC2 HL hd
  have c1 := HbA.out.cell 1; have f1 := HbA.out.free 1 (Or.inr (Nat.zero_le _))
  change w4.cell? ⟨B, 1, none⟩ = some (.slice ax nx cx) at c1
  refine heldD_one (i := 10) (by kernel_rfl) ?_
  refine wpOpIn_skip (w' := w4.setCell ⟨B, 1, none⟩ (.slice a1 n1 k1)) rfl rfl rfl (by rfl) (by rfl) (by go_simp) ?_
  refine ⟨fun h => (by cases h), ?_⟩
  have bA1 := HbA.out.set 1 (.slice a1 n1 k1)
  have c2 := bA1.cell 2; have f2 := bA1.free 2 (Or.inr (Nat.zero_le _))
  change (w4.setCell ⟨B, 1, none⟩ (.slice a1 n1 k1)).cell? ⟨B, 2, none⟩ = some (.slice ay ny cy) at c2
  refine heldD_takeF (i := 11) (v := .pointer (some ⟨B, 2, none⟩)) rfl rfl rfl (by kernel_rfl) (by kernel_rfl) (by kernel_rfl) (by kernel_rfl) (fun _ _ _ h => h) (by rfl) (fun w => ⟨by rfl, by go_simp⟩) (fun h => by cases h) ?_
  simp only [List.setIfInBounds_toArray, List.set_cons_zero, List.set_cons_succ]
  refine heldD_one (i := 12) (by kernel_rfl) ?_
  refine wpOpIn_skip (w' := (w4.setCell ⟨B, 1, none⟩ (.slice a1 n1 k1)).setCell ⟨B, 2, none⟩ (.slice a2 n2 k2)) rfl rfl rfl (by rfl) (by rfl) (by go_simp) ?_
  refine ⟨fun h => (by cases h), ?_⟩
  have bA2 := bA1.set 2 (.slice a2 n2 k2)
  have c3 := bA2.cell 3; have f3 := bA2.free 3 (Or.inr (Nat.zero_le _))
  change ((w4.setCell ⟨B, 1, none⟩ (.slice a1 n1 k1)).setCell ⟨B, 2, none⟩ (.slice a2 n2 k2)).cell? ⟨B, 3, none⟩ = some (.slice aa na ca) at c3
  refine heldD_takeF (i := 13) (v := .pointer (some ⟨B, 3, none⟩)) rfl rfl rfl (by kernel_rfl) (by kernel_rfl) (by kernel_rfl) (by kernel_rfl) (fun _ _ _ h => h) (by rfl) (fun w => ⟨by rfl, by go_simp⟩) (fun h => by cases h) ?_
  simp only [List.setIfInBounds_toArray, List.set_cons_zero, List.set_cons_succ]
  refine heldD_one (i := 14) (by kernel_rfl) ?_
  refine wpOpIn_skip (w' := ((w4.setCell ⟨B, 1, none⟩ (.slice a1 n1 k1)).setCell ⟨B, 2, none⟩ (.slice a2 n2 k2)).setCell ⟨B, 3, none⟩ (.slice a3 n3 k3)) rfl rfl rfl (by rfl) (by rfl) (by go_simp) ?_
  refine ⟨fun h => (by cases h), ?_⟩
  refine heldD_done (by kernel_rfl) ?_ _
  change Exit.then _ _ Exit.normal _ _
  have bA3 := bA2.set 3 (.slice a3 n3 k3)
  have R1 := ((HR.out.set (p := ⟨B, 1, none⟩) HbA.out (by decide) (by decide) (.slice a1 n1 k1)).set (p := ⟨B, 2, none⟩) bA1 (by decide) (by decide) (.slice a2 n2 k2)).set (p := ⟨B, 3, none⟩) bA2 (by decide) (by decide) (.slice a3 n3 k3)
  have hle : w.heap.size ≤ B := by rw [HBl.out]; exact Nat.le_refl _
  have B1 := ((Hb5.out.setCell (p := ⟨B, 1, none⟩) hle (.slice a1 n1 k1)).setCell (p := ⟨B, 2, none⟩) hle (.slice a2 n2 k2)).setCell (p := ⟨B, 3, none⟩) hle (.slice a3 n3 k3)
  have bC3 := ((HbC.out.setOther ⟨B, 1, none⟩ (.slice a1 n1 k1) (by simp [HBs.out])).setOther ⟨B, 2, none⟩ (.slice a2 n2 k2) (by simp [HBs.out])).setOther ⟨B, 3, none⟩ (.slice a3 n3 k3) (by simp [HBs.out])
  clear c1 c2 c3 f1 f2 f3 hS0 bA1 bA2 bA bC HR HbA HbC Hb5 hle
  generalize ((w4.setCell ⟨B, 1, none⟩ (.slice a1 n1 k1)).setCell ⟨B, 2, none⟩ (.slice a2 n2 k2)).setCell ⟨B, 3, none⟩ (.slice a3 n3 k3) = w5 at *
  replace bA3 : Blk w5 B #[.int .i64 r.nodes, .slice a1 n1 k1, .slice a2 n2 k2, .slice a3 n3 k3] 25 (0, 0) := bA3
  have c0 := bA3.cell 0; have c1 := bA3.cell 1; have c2 := bA3.cell 2; have c3 := bA3.cell 3
  change w5.cell? ⟨B, 0, none⟩ = some (.int .i64 r.nodes) at c0
  change w5.cell? ⟨B, 1, none⟩ = some (.slice a1 n1 k1) at c1
  change w5.cell? ⟨B, 2, none⟩ = some (.slice a2 n2 k2) at c2
  change w5.cell? ⟨B, 3, none⟩ = some (.slice a3 n3 k3) at c3
  have e0 := bC3.cell 0; have e1 := bC3.cell 1; have e2 := bC3.cell 2; have e3 := bC3.cell 3
  change w5.cell? ⟨Bs, 0, none⟩ = some (.int .i64 0) at e0
  change w5.cell? ⟨Bs, 1, none⟩ = some (.slice none 0 0) at e1
  change w5.cell? ⟨Bs, 2, none⟩ = some (.slice none 0 0) at e2
  change w5.cell? ⟨Bs, 3, none⟩ = some (.slice none 0 0) at e3
  have fr := fun i => bC3.free i (Or.inr (Nat.zero_le _))
  have f0 := fr 0; have f1 := fr 1; have f2 := fr 2; have f3 := fr 3
  have hle : w.heap.size ≤ Bs := by rw [HBs.out, HBl.out]; omega
  have bZ := (((bC3.set 0 (.int .i64 r.nodes)).set 1 (.slice a1 n1 k1)).set 2 (.slice a2 n2 k2)).set 3 (.slice a3 n3 k3)
  have R2 := (((R1.set (p := ⟨Bs, 0, none⟩) bC3 (by decide) (by decide) (.int .i64 r.nodes)).set (p := ⟨Bs, 1, none⟩) (bC3.set 0 (.int .i64 r.nodes)) (by decide) (by decide) (.slice a1 n1 k1)).set (p := ⟨Bs, 2, none⟩) ((bC3.set 0 (.int .i64 r.nodes)).set 1 (.slice a1 n1 k1)) (by decide) (by decide) (.slice a2 n2 k2)).set (p := ⟨Bs, 3, none⟩) (((bC3.set 0 (.int .i64 r.nodes)).set 1 (.slice a1 n1 k1)).set 2 (.slice a2 n2 k2)) (by decide) (by decide) (.slice a3 n3 k3)
  have B2 := (((B1.setCell (p := ⟨Bs, 0, none⟩) hle (.int .i64 r.nodes)).setCell (p := ⟨Bs, 1, none⟩) hle (.slice a1 n1 k1)).setCell (p := ⟨Bs, 2, none⟩) hle (.slice a2 n2 k2)).setCell (p := ⟨Bs, 3, none⟩) hle (.slice a3 n3 k3)
  have HZ := Lib.hid bZ; have HR2 := Lib.hid R2; have HB2 := Lib.hid B2
  clear bZ R2 B2 R1 B1 bC3 bA3 fr hle
  go_wp2_with fail
  generalize (((w5.setCell ⟨Bs, 0, none⟩ (.int .i64 r.nodes)).setCell ⟨Bs, 1, none⟩ (.slice a1 n1 k1)).setCell ⟨Bs, 2, none⟩ (.slice a2 n2 k2)).setCell ⟨Bs, 3, none⟩ (.slice a3 n3 k3) = wz at *
  have z0 := HZ.out.cell 0; have z1 := HZ.out.cell 1; have z2 := HZ.out.cell 2; have z3 := HZ.out.cell 3
  change wz.cell? ⟨Bs, 0, none⟩ = some (.int .i64 r.nodes) at z0
  change wz.cell? ⟨Bs, 1, none⟩ = some (.slice a1 n1 k1) at z1
  change wz.cell? ⟨Bs, 2, none⟩ = some (.slice a2 n2 k2) at z2
  change wz.cell? ⟨Bs, 3, none⟩ = some (.slice a3 n3 k3) at z3
  exact bodyPost_ret (v := .agg #[.int .i64 r.nodes, .slice a1 n1 k1, .slice a2 n2 k2, .slice a3 n3 k3]) (by simp [results, Tryd.results54, go_sem, z0, z1, z2, z3]) rfl ⟨_, rfl, ⟨_, _, _, rfl, HR2.out.1, HR2.out.2.1, HR2.out.2.2.1, HR2.out.2.2.2⟩, HB2.out⟩
end Go.Proofs.YtnkcmlngoeofgaaDoor
/- net.of: a net of a graph that is right. -/
namespace Go.Proofs.YtnkcmlngoeofgaaDoor
open Go.RowKit
theorem endF_fn : EndFn 75 endF := by
  refine ⟨enters_of Tryd.func75 (by kernel_rfl) rfl, fun a u => ?_⟩
  obtain ⟨a0, a1, a2⟩ := a
  go_enter Tryd.func75, Tryd.ntmps75
  go_wp2_with fail
  go_ret
  exact ⟨rfl, (Below.refl _ _).alloc (Nat.le_refl _) _⟩
theorem endT_fn : EndFn 76 endT := by
  refine ⟨enters_of Tryd.func76 (by kernel_rfl) rfl, fun a u => ?_⟩
  obtain ⟨a0, a1, a2⟩ := a
  go_enter Tryd.func76, Tryd.ntmps76
  go_wp2_with fail
  go_ret
  exact ⟨rfl, (Below.refl _ _).alloc (Nat.le_refl _) _⟩
/-- the net of g lies at p -/
def NetAt (w : World) (p : Nat) (g : Raw) : Prop :=
  ∃ vx vy va vo vi, Blk w p #[.int .i64 g.nodes, vx, vy, va, vo, vi] 95 (0, 0) ∧ SlX w vx g.X ∧ SlX w vy g.Y ∧ SlA w va g.arcs ∧ SlR w vo (rowsOf endF g.arcs g.nodes.toNat) ∧ SlR w vi (rowsOf endT g.arcs g.nodes.toNat)
theorem NetAt.keep {w w' : World} {p : Nat} {g : Raw} (h : NetAt w p g) (hk : KpC w w') : NetAt w' p g := by
  obtain ⟨vx, vy, va, vo, vi, h1, h2, h3, h4, h5, h6⟩ := h
  exact ⟨vx, vy, va, vo, vi, hk.blk h1, h2.keep hk, h3.keep hk, h4.keep hk, h5.keep hk, h6.keep hk⟩
/-- and all of it lies from lo on -/
def NetB (lo : Nat) (w : World) (p : Nat) (g : Raw) : Prop := ∀ w'', w.heap.size ≤ w''.heap.size → (∀ k, lo ≤ k → k < w.heap.size → w''.heap[k]? = w.heap[k]?) → NetAt w'' p g
theorem NetB.at {lo : Nat} {w : World} {p : Nat} {g : Raw} (h : NetB lo w p g) : NetAt w p g := h w (Nat.le_refl _) fun _ _ _ => rfl
theorem NetB.below {lo : Nat} {w w' : World} {p : Nat} {g : Raw} (h : NetB lo w p g) (hb : Below w.heap.size w w') : NetB lo w' p g := fun w'' hs hk =>
  h w'' (Nat.le_trans hb.size hs) fun k h1 h2 => (hk k h1 (Nat.lt_of_lt_of_le h2 hb.size)).trans (hb.block k h2)
set_option maxRecDepth 100000 in
set_option maxHeartbeats 4000000 in
theorem of_any (v : Value) (r : Raw) (lo : Nat) (w : World) (h : RawO lo w v r) (hok : r.Ok) (hlo : lo ≤ w.heap.size) :
    Calls Tryd.prog 53 #[v] w fun e w' => ∃ p, e = .returned (.pointer (some ⟨p, 0, none⟩)) ∧ NetB lo w' p r ∧ Below w.heap.size w w' := by
  obtain ⟨vx, vy, va, rfl, o1, o2, o3, o4⟩ := h
  have ha : SlA w va r.arcs := slA_own rfl o3
  have fx := o1.one'; have fy := o2.one'; have fa := o3.one'
  obtain ⟨N, hN⟩ : ∃ N : Nat, (N : Int) = r.nodes := ⟨r.nodes.toNat, by have := hok.nodes; omega⟩
  have hNb : N ≤ 16777216 := by have := hok.nodes; omega
  have hends := ends_ok hok hN
  have hmf : ∀ (fn : Fn) (first cap : Array Value) (w : World), (Instr.makeFunc fn first cap).run Tryd.prog w = .ok (.func fn first cap) w := fun _ _ _ _ => rfl
  obtain ⟨B1, hB1⟩ : ∃ b, b = w.heap.size := ⟨_, rfl⟩
  obtain ⟨B2, hB2⟩ : ∃ b, b = w.heap.size + 1 := ⟨_, rfl⟩
  obtain ⟨w1, hw1⟩ : ∃ w1, w1 = (w.alloc (.cells #[.int .i64 r.nodes, vx, vy, va] 25)).alloc (.cells #[.int .i64 r.nodes, vx, vy, va, .slice none 0 0, .slice none 0 0] 95) := ⟨_, rfl⟩
  have hb1 : Below w.heap.size w w1 := by rw [hw1]; exact ((Below.refl _ _).alloc (Nat.le_refl _) _).alloc (by simp) _
  have K1 : Blk w1 B1 #[.int .i64 r.nodes, vx, vy, va] 25 (0, 0) := by rw [hw1, hB1]; exact (Blk.new _ _ _ _).alloc _
  have K2 : Blk w1 B2 #[.int .i64 r.nodes, vx, vy, va, .slice none 0 0, .slice none 0 0] 95 (0, 0) := by
    rw [hw1, hB2]
    have h := Blk.new (w.alloc (.cells #[.int .i64 r.nodes, vx, vy, va] 25)) #[.int .i64 r.nodes, vx, vy, va, .slice none 0 0, .slice none 0 0] 95 (0, 0)
    rwa [World.size_alloc] at h
  have CF := by_any _ endF endF_fn r.nodes vx vy va r.arcs N hN hNb hok.arcs hends.1 B1 w1 K1 (ha.keep (KpC.of_below hb1))
  have CT := fun u (hu : Below w1.heap.size w1 u) => by_any _ endT endT_fn r.nodes vx vy va r.arcs N hN hNb hok.arcs hends.2 B1 u (K1.below hu K1.lt) ((ha.keep (KpC.of_below hb1)).keep (KpC.of_below hu))
  have HCF := Lib.hid CF; have HCT := Lib.hid CT; have HK2 := Lib.hid K2; have HW1 := Lib.hid hw1; have Hb1 := Lib.hid hb1
  have HO := Lib.hid (And.intro o1 (And.intro o2 o3)); have HB2 := Lib.hid hB2
  have HN := Lib.hid hN
  clear CF CT K1 K2 hw1 hb1 o1 o2 o3 o4 ha hends hN
  obtain ⟨xa, xn, xc, rfl⟩ := fx
  obtain ⟨ya, yn, yc, rfl⟩ := fy
  obtain ⟨za, zn, zc, rfl⟩ := fa
  go_enter Tryd.func53, Tryd.ntmps53
  go_wp2_with fail
  rw [← HW1.out, ← HB2.out, ← hB1]
  clear hB1 hB2
  refine HCF.out.mono ?_
  rintro e w2 ⟨vo, rfl, hvo, hb2⟩
  have HVo := Lib.hid hvo; have Hb2 := Lib.hid hb2
  have C2 := Lib.hid (HCT.out w2 hb2)
  clear hvo hb2 HCF HCT
  have hvoF : ∃ a n c, vo = .slice a n c := by
    obtain ⟨a, c, e, _⟩ := HVo.out w2 (Nat.le_refl _) fun _ _ _ => rfl
    exact ⟨_, _, _, e⟩
  obtain ⟨oa, on, oc, rfl⟩ := hvoF
  go_wp2_with fail
  refine C2.out.mono ?_
  rintro e w3 ⟨vi, rfl, hvi, hb3⟩
  have hviF : ∃ a n c, vi = .slice a n c := by
    obtain ⟨a, c, e, _⟩ := hvi w3 (Nat.le_refl _) fun _ _ _ => rfl
    exact ⟨_, _, _, e⟩
  obtain ⟨ia, inn, ic, rfl⟩ := hviF
  have hb13 := Hb2.out.next' hb3
  have K3 := HK2.out.below hb13 HK2.out.lt
  have c4 := K3.cell 4; have c5 := K3.cell 5
  change w3.cell? ⟨B2, 4, none⟩ = some (.slice none 0 0) at c4
  change w3.cell? ⟨B2, 5, none⟩ = some (.slice none 0 0) at c5
  have fr := fun i => K3.free i (Or.inr (Nat.zero_le _))
  have f4 := fr 4; have f5 := fr 5
  have K4 := (K3.set 4 (.slice oa on oc)).set 5 (.slice ia inn ic)
  have hbw3 := Hb1.out.next' hb13
  have hle2 : w.heap.size ≤ B2 := by rw [HB2.out]; omega
  have hbz := (hbw3.setCell (p := ⟨B2, 4, none⟩) hle2 (.slice oa on oc)).setCell (p := ⟨B2, 5, none⟩) hle2 (.slice ia inn ic)
  have hB2l : B2 < w1.heap.size := HK2.out.lt
  have hs2 := Hb2.out.size; have hs3 := hb3.size; have hs1 := Hb1.out.size
  have hnet : NetB lo ((w3.setCell ⟨B2, 4, none⟩ (.slice oa on oc)).setCell ⟨B2, 5, none⟩ (.slice ia inn ic)) B2 r := fun w'' hs hk => by
    have hsz : ((w3.setCell ⟨B2, 4, none⟩ (.slice oa on oc)).setCell ⟨B2, 5, none⟩ (.slice ia inn ic)).heap.size = w3.heap.size := by simp
    rw [hsz] at hs hk
    have hkk : ∀ k, lo ≤ k → k < w3.heap.size → k ≠ B2 → w''.heap[k]? = w3.heap[k]? := fun k h1 h2 h3 => (hk k h1 h2).trans ((heap_setCell_other _ _ _ _ h3).trans (heap_setCell_other _ _ _ _ h3))
    have hold : ∀ k, lo ≤ k → k < w.heap.size → w''.heap[k]? = w.heap[k]? := fun k h1 h2 => (hkk k h1 (by omega) (by omega)).trans (hbw3.block k h2)
    have hX := slX_own rfl (ownsRow_agree' (w' := w'') HO.out.1 fun k hk => hold k (ownsRow_blk' HO.out.1 hk).1 (ownsRow_blk' HO.out.1 hk).2.choose_spec.lt)
    have hY := slX_own rfl (ownsRow_agree' (w' := w'') HO.out.2.1 fun k hk => hold k (ownsRow_blk' HO.out.2.1 hk).1 (ownsRow_blk' HO.out.2.1 hk).2.choose_spec.lt)
    have hA := slA_own rfl (ownsRow_agree' (w' := w'') HO.out.2.2 fun k hk => hold k (ownsRow_blk' HO.out.2.2 hk).1 (ownsRow_blk' HO.out.2.2 hk).2.choose_spec.lt)
    have hNt : r.nodes.toNat = N := by have := HN.out; omega
    refine ⟨_, _, _, _, _, (hk B2 (by omega) (by omega)).trans K4, hX, hY, hA, ?_, ?_⟩
    · rw [hNt]
      exact HVo.out w'' (by omega) fun k h1 h2 => (hkk k (by omega) (by omega) (by omega)).trans (hb3.block k h2)
    · rw [hNt]
      exact hvi w'' (by omega) fun k h1 h2 => hkk k (by omega) h2 (by omega)
  have HNet := Lib.hid hnet; have HBz := Lib.hid hbz
  clear hvi hb3 hb13 K3 fr K4 hbw3 hle2 hbz hB2l hs2 hs3 hs1 hnet HO
  go_wp2_with fail
  go_ret
  exact ⟨_, rfl, HNet.out, HBz.out⟩
end Go.Proofs.YtnkcmlngoeofgaaDoor
/- errors.As by its contracts: an error that wraps a fault (net's trouble). -/
namespace Go.Proofs.YtnkcmlngoeofgaaDoor
open Go.RowKit Go.Extern.Stop Go.Stop Go.Extern
theorem as_typeOfN (v : Value) (w : World) : (ReflectliteType.typeOf #[.iface 88 v]).run Tryd.prog w = .ok (.iface 135 (.agg #[.pointer (some ⟨1, 88, none⟩)])) w := by kernel_rfl
theorem as_assignableN (w : World) : (ReflectliteType.relation "AssignableTo" ReflectliteType.assignableTo #[.agg #[.pointer (some ⟨1, 88, none⟩)], .iface 135 (.agg #[.pointer (some ⟨1, 80, none⟩)])]).run Tryd.prog w = .ok (.bool false) w := by kernel_rfl
theorem as_notAsN (v : Value) (w : World) : (Instr.typeAssert (.iface 88 v) 31 140 true).run Tryd.prog w = .ok (.tuple #[.nilIface, .bool false]) w :=
  run_typeAssert_lacksB Tryd.underlying140 (by kernel_rfl) (by kernel_rfl) v _ w
theorem as_isUnwrapN (v : Value) (w : World) : (Instr.typeAssert (.iface 88 v) 31 143 true).run Tryd.prog w = .ok (.tuple #[.iface 88 v, .bool true]) w := by kernel_rfl
theorem as_methodUnwrapN (n : Nat) (v : Value) (w : World) : (Go.method (n + 1) 88 v "Unwrap").run Tryd.prog w = .ok (111, v) w := by kernel_rfl
set_option maxHeartbeats 4000000 in
theorem as_wrapN (e t : Addr) (old : Value) (w : World) (hg : w.cell? ⟨0, 0, none⟩ = some (.iface 135 (.agg #[.pointer (some ⟨1, 31, none⟩)]))) (ht0 : w.cell? t = some old) (hf0 : w.frozen? t = false) :
    Calls Tryd.prog 61 #[.iface 88 (.agg #[.pointer (some e)]), .iface 102 (.pointer (some t))] w fun ev w' => ev = .returned (.bool true) ∧ w' = (((((w.alloc (.cells #[.pointer (some t)] 102)).alloc (.cells #[.pointer (some ⟨1, 102, none⟩), .pointer (some ⟨w.heap.size, 0, none⟩), .int .u64 150] 122)).alloc (.cells #[.pointer (some ⟨1, 102, none⟩), .pointer (some ⟨w.heap.size, 0, none⟩), .int .u64 150] 122)).alloc (.cells #[.pointer (some e)] 88)).alloc (.cells #[.pointer (some e)] 80)).setCell t (.pointer (some e)) := by
  have h6 := @run_callFunc_extern Tryd.prog 79 _ (fun args => ReflectliteValue.unpack (args.getD 0 (.tuple #[]))) Tryd.func79 (by kernel_rfl) (by kernel_rfl) (by kernel_rfl) (by kernel_rfl)
  have h7 := @run_callFunc_extern Tryd.prog 80 _ (ReflectliteValue.methodAny (ReflectliteValue.valueError "reflectlite.Value.Type" 0) (fun t _ _ _ => ReflectliteType.toType t)) Tryd.func80 (by kernel_rfl) (by kernel_rfl) (by kernel_rfl) (by kernel_rfl)
  have h8 := @run_callFunc_extern Tryd.prog 81 _ (ReflectliteValue.method (ReflectliteValue.valueError "reflectlite.Value.IsNil" 0) ReflectliteValue.isNil) Tryd.func81 (by kernel_rfl) (by kernel_rfl) (by kernel_rfl) (by kernel_rfl)
  have h27 := @run_callFunc_extern Tryd.prog 104 _ (ReflectliteType.abiMethod fun t => do pure (.int .u8 (← Rtype.kind t))) Tryd.func104 (by kernel_rfl) (by kernel_rfl) (by kernel_rfl) (by kernel_rfl)
  have h37 := @run_callFunc_extern Tryd.prog 118 _ (ReflectliteType.method ReflectliteType.elem) Tryd.func118 (by kernel_rfl) (by kernel_rfl) (by kernel_rfl) (by kernel_rfl)
  have h38 := @run_callFunc_extern Tryd.prog 119 _ (ReflectliteType.relation "Implements" ReflectliteType.implements_) Tryd.func119 (by kernel_rfl) (by kernel_rfl) (by kernel_rfl) (by kernel_rfl)
  have h10 := @run_callFunc_extern Tryd.prog 86 _ ReflectliteType.typeOf Tryd.func86 (by kernel_rfl) (by kernel_rfl) (by kernel_rfl) (by kernel_rfl)
  have h35 := @run_callFunc_extern Tryd.prog 116 _ (ReflectliteType.relation "AssignableTo" ReflectliteType.assignableTo) Tryd.func116 (by kernel_rfl) (by kernel_rfl) (by kernel_rfl) (by kernel_rfl)
  have h11 := @run_callFunc_extern Tryd.prog 87 _ (ReflectliteValue.method (ReflectliteValue.valueError "reflectlite.Value.Elem" 0) ReflectliteValue.elem) Tryd.func87 (by kernel_rfl) (by kernel_rfl) (by kernel_rfl) (by kernel_rfl)
  have h12 := @run_callFunc_extern Tryd.prog 88 _ ReflectliteValue.set Tryd.func88 (by kernel_rfl) (by kernel_rfl) (by kernel_rfl) (by kernel_rfl)
  have tO := as_typeOf25
  have tOw := as_typeOfN
  have aW := as_assignableN
  have tA := as_notAsN
  have tU := as_isUnwrapN
  have mU := as_methodUnwrapN
  have mA := as_methodAssignableTo
  have a25 := as_assignable25
  have v25 := as_valueOf25
  have f6 := as_valueOf27
  have f7 := as_type27
  have mK := as_methodKind
  have mE := as_methodElem
  have mI := as_methodImplements
  have k27 := as_kind27
  have k25 := as_kind25
  have e27 := as_elem27
  have i25 := as_implements25
  have n8 := as_isNil27 ⟨w.heap.size, 0, none⟩ t ((w.alloc (.cells #[.pointer (some t)] 102)).alloc (.cells #[.pointer (some ⟨1, 102, none⟩), .pointer (some ⟨w.heap.size, 0, none⟩), .int .u64 150] 122)) (by simp)
  have hlt : 0 < w.heap.size := by
    rcases Nat.eq_zero_or_pos w.heap.size with h0 | h
    · simp [World.cell?, h0] at hg
    · exact h
  have hg2 : ((w.alloc (.cells #[.pointer (some t)] 102)).alloc (.cells #[.pointer (some ⟨1, 102, none⟩), .pointer (some ⟨w.heap.size, 0, none⟩), .int .u64 150] 122)).cell? ⟨0, 0, none⟩ = some (.iface 135 (.agg #[.pointer (some ⟨1, 31, none⟩)])) := by
    rw [World.cell?_alloc_lt _ _ ⟨0, 0, none⟩ (by simp), World.cell?_alloc_lt _ _ ⟨0, 0, none⟩ hlt]; exact hg
  have htl : t.block < w.heap.size := by
    rcases Nat.lt_or_ge t.block w.heap.size with h | h
    · exact h
    · simp [World.cell?, Array.getElem?_eq_none h] at ht0
  have el := as_elemV27 ⟨w.heap.size, 0, none⟩ t ((((w.alloc (.cells #[.pointer (some t)] 102)).alloc (.cells #[.pointer (some ⟨1, 102, none⟩), .pointer (some ⟨w.heap.size, 0, none⟩), .int .u64 150] 122)).alloc (.cells #[.pointer (some ⟨1, 102, none⟩), .pointer (some ⟨w.heap.size, 0, none⟩), .int .u64 150] 122)).alloc (.cells #[.pointer (some e)] 88)) (by rw [World.cell?_alloc_lt _ _ ⟨w.heap.size, 0, none⟩ (by simp; omega), World.cell?_alloc_lt _ _ ⟨w.heap.size, 0, none⟩ (by simp; omega)]; simp)
  have st := as_set25 t ⟨w.heap.size + 1 + 1 + 1 + 1, 0, none⟩ e old (((((w.alloc (.cells #[.pointer (some t)] 102)).alloc (.cells #[.pointer (some ⟨1, 102, none⟩), .pointer (some ⟨w.heap.size, 0, none⟩), .int .u64 150] 122)).alloc (.cells #[.pointer (some ⟨1, 102, none⟩), .pointer (some ⟨w.heap.size, 0, none⟩), .int .u64 150] 122)).alloc (.cells #[.pointer (some e)] 88)).alloc (.cells #[.pointer (some e)] 80))
    (by rw [World.cell?_alloc_at _ _ _ _ (by simp)]; rfl)
    (by rw [World.cell?_alloc_lt _ _ t (by simp; omega), World.cell?_alloc_lt _ _ t (by simp; omega), World.cell?_alloc_lt _ _ t (by simp; omega), World.cell?_alloc_lt _ _ t (by simp; omega), World.cell?_alloc_lt _ _ t htl]; exact ht0)
    (by rw [World.frozen?_alloc_old _ _ t (by simp; omega), World.frozen?_alloc_old _ _ t (by simp; omega), World.frozen?_alloc_old _ _ t (by simp; omega), World.frozen?_alloc_old _ _ t (by simp; omega), World.frozen?_alloc_old _ _ t (Nat.ne_of_lt htl)]; exact hf0)
  go_enter Tryd.func61, Tryd.ntmps61
  go_wp2
  refine wp_loop_rounds 2 ?_
  rw [rounds_succ]
  go_wp2
  rw [rounds_succ]
  go_wp2
  go_ret
  exact ⟨rfl, rfl⟩
theorem asTo_netTrouble (b : Nat) (cs : Array Value) : AsTo (.iface 88 (.agg #[.pointer (some ⟨b, 0, none⟩)])) b cs := by
  refine ⟨⟨_, _, rfl⟩, fun t u hg ht _ => ?_⟩
  have hc := ht.cell 0
  change u.cell? ⟨t, 0, none⟩ = some (.pointer none) at hc
  refine (as_wrapN ⟨b, 0, none⟩ ⟨t, 0, none⟩ _ u hg hc (ht.free 0 (Or.inr (Nat.zero_le _)))).mono ?_
  rintro e w' ⟨rfl, rfl⟩
  refine ⟨rfl, (((((Kept.refl (· = t) u).alloc _).alloc _).alloc _).alloc _ |>.alloc _).setCell (p := ⟨t, 0, none⟩) rfl _, ?_⟩
  exact (((((ht.alloc _).alloc _).alloc _).alloc _).alloc _).set 0 (.pointer (some ⟨b, 0, none⟩))
end Go.Proofs.YtnkcmlngoeofgaaDoor
/- net.New. -/
namespace Go.Proofs.YtnkcmlngoeofgaaDoor
open Go.RowKit
set_option maxRecDepth 100000 in
set_option maxHeartbeats 4000000 in
theorem new_any (v : Value) (r : Raw) (w : World) (hg : HG w) (h : RawV w v r) (hl : r.few) : Calls Tryd.prog 29 #[v] w fun e w' =>
    ((¬ r.ok ∧ ∃ u, e = .returned (.tuple #[.pointer none, u]) ∧ ErrIs w' u r.wrong.1 r.wrong.2.1 r.wrong.2.2.1 r.wrong.2.2.2) ∨ (r.ok ∧ ∃ p, e = .returned (.tuple #[.pointer (some ⟨p, 0, none⟩), .nilIface]) ∧ NetB w.heap.size w' p r)) ∧ Below w.heap.size w w' := by
  have hV := h
  obtain ⟨vx, vy, va, rfl, hx, hy, ha⟩ := h
  have fx := hx.form; have fy := hy.form; have fa := ha.form
  obtain ⟨w1, hw1⟩ : ∃ w1, w1 = w.alloc (.cells #[.int .i64 r.nodes, vx, vy, va] 25) := ⟨_, rfl⟩
  obtain ⟨B1, hB1⟩ : ∃ b, b = w.heap.size := ⟨_, rfl⟩
  have hb1 : Below w.heap.size w w1 := by rw [hw1]; exact (Below.refl _ _).alloc (Nat.le_refl _) _
  have K1 : Blk w1 B1 #[.int .i64 r.nodes, vx, vy, va] 25 (0, 0) := by rw [hw1, hB1]; exact Blk.new _ _ _ _
  have C := Lib.hid (check_raw _ _ _ (hV.below hb1))
  have CO := Lib.hid (fun u (hu : Below w1.heap.size w1 u) => own_any _ r u ((hV.below hb1).below hu) hl)
  have HG1 := Lib.hid (hg.later hb1)
  have HB := Lib.hid hb1; have HK1 := Lib.hid K1; have HW1 := Lib.hid hw1; have HB1 := Lib.hid hB1
  have hw := r.wrong_zero
  clear hV hx hy ha hb1 K1 hw1 hg hl
  obtain ⟨_, _, _, rfl⟩ := fx
  obtain ⟨_, _, _, rfl⟩ := fy
  obtain ⟨_, _, _, rfl⟩ := fa
  go_enter Tryd.func29, Tryd.ntmps29
  go_wp2_with fail
  rw [← HW1.out, ← hB1]
  clear hB1
  refine C.out.mono ?_
  rintro e w2 ⟨u, rfl, hi, hb2⟩
  have HB2 := Lib.hid (HB.out.next' hb2); have Hb2 := Lib.hid hb2
  rcases hi.form with ⟨rfl, hz⟩ | ⟨⟨ty, xv, rfl⟩, hz⟩
  · have hok := hw.1 hz
    have Hok := Lib.hid hok
    have k2 := HK1.out.below hb2 HK1.out.lt
    have c0 := k2.cell 0; have c1 := k2.cell 1; have c2 := k2.cell 2; have c3 := k2.cell 3
    simp only [List.getElem?_toArray, List.getElem?_cons_succ, List.getElem?_cons_zero] at c0 c1 c2 c3
    have C3 := Lib.hid (CO.out w2 hb2)
    clear hi hb2 hok hz k2 hw
    go_wp2_with fail
    refine C3.out.mono ?_
    rintro e w3 ⟨v3, rfl, ho, hb3⟩
    have HB3 := Lib.hid (HB2.out.next' hb3)
    have C4 := Lib.hid (of_any v3 r w2.heap.size w3 ho (r.ok_iff.1 Hok.out) hb3.size)
    have hv3 : ∃ a b c d, v3 = .agg #[a, b, c, d] := by obtain ⟨a, b, c, e, _⟩ := ho; exact ⟨_, _, _, _, e⟩
    obtain ⟨_, _, _, _, rfl⟩ := hv3
    clear ho hb3 c0 c1 c2 c3
    go_wp2_with fail
    refine C4.out.mono ?_
    rintro e w4 ⟨p, rfl, hn, hb4⟩
    have HN : Hid (NetB w.heap.size w4 p r) := Lib.hid (fun w'' hs hk => hn w'' hs fun k h1 h2 => hk k (Nat.le_trans HB2.out.size h1) h2)
    have HB4 := Lib.hid (HB3.out.next' hb4)
    clear hn hb4
    go_wp2_with fail
    go_ret2
    exact ⟨.inr ⟨Hok.out, _, rfl, HN.out⟩, HB4.out⟩
  · have hnok : ¬ r.ok := fun h => hz (hw.2 h)
    have Hnok := Lib.hid hnok
    have C3 := Lib.hid (told_is w2 _ _ _ _ _ (HG1.out.later hb2) hi)
    have Hz := Lib.hid hz
    clear hi hb2 hnok hz hw
    obtain ⟨c, hc⟩ : ∃ c, c = r.wrong := ⟨_, rfl⟩
    rw [← hc] at C3 Hz
    obtain ⟨c0, c1, c2, c3⟩ := c
    have Hc := Lib.hid hc
    clear hc
    go_wp2_with fail
    refine C3.out.mono ?_
    rintro e w3 ⟨rfl, hb3⟩
    have HB3 := Lib.hid (HB2.out.next' hb3)
    have hal := (Below.refl w3.heap.size w3).alloc (Nat.le_refl _) (.cells #[.int .i64 c0, .int .i64 c1, .int .i64 c2, .int .i64 c3] 47)
    have HB4 := Lib.hid (HB3.out.next' hal)
    have HBl := Lib.hid (Blk.new w3 #[.int .i64 c0, .int .i64 c1, .int .i64 c2, .int .i64 c3] 47 (0, 0))
    clear hb3 hal
    go_wp2_with fail
    go_ret2
    exact ⟨.inl ⟨Hnok.out, _, rfl, by rw [← Hc.out]; exact .inr ⟨Hz.out, _, asTo_netTrouble _ _, HBl.out⟩⟩, HB4.out⟩
end Go.Proofs.YtnkcmlngoeofgaaDoor
/- net: what it tells. -/
namespace Go.Proofs.YtnkcmlngoeofgaaDoor
open Go.RowKit
theorem cloneI (v : Value) (L : List Int) (w : World) (h : SlX w v L) (hl : L.length ≤ 1000000000000) : Calls Tryd.prog 57 #[v] w fun e w' => ∃ v', e = .returned v' ∧ w'.ownsRow w.heap.size 3 1 v' L.length (L.flatMap inC) ∧ Below w.heap.size w w' := by
  obtain ⟨i0, hi, hz0, hz1, hz2⟩ := info_parts infoInt
  have hs := h.row
  obtain ⟨a, cap, rfl, hc1, hc2, h3⟩ := h
  cases a with
  | none =>
    have h0 : L = [] := by
      cases L with
      | nil => rfl
      | cons x L => obtain ⟨_, _, _, _, _, e, _⟩ := h3 0 (by simp); cases e
    subst h0
    have hn := fun w => Lib.run_eql_slice_nil (P := Tryd.prog) w 62 3 none 0 cap 0 0 Tryd.underlying62
    simp only [List.length_nil]
    clear hs h3
    go_enter Tryd.func57, Tryd.ntmps57
    go_wp2
    go_ret
    exact ⟨_, rfl, World.ownsRow_nil _ _ _ _, Below.refl _ _⟩
  | some ad =>
    have hn := fun w => Lib.run_eql_slice_nil (P := Tryd.prog) w 62 3 (some ad) L.length cap 0 0 Tryd.underlying62
    have hb := (Below.refl w.heap.size w).alloc (Nat.le_refl _) (.cells #[] 3)
    have hs1 : SlF 1 (w.alloc (.cells #[] 3)) (.slice (some ad) L.length cap) L.length (L.flatMap inC) := by
      obtain ⟨q1, q2, a, c, e, q3, q4, q5⟩ := hs
      refine ⟨q1, q2, a, c, e, q3, q4, fun j u hu => ?_⟩
      obtain ⟨b, off, ea, hc⟩ := q5 j u hu
      exact ⟨b, off, ea, cell_later hb hc⟩
    obtain ⟨v', w', hr, hown, hg, _⟩ := run_append_row (P := Tryd.prog) w.heap.size 62 62 3 i0 _ 1 8 Tryd.underlying62 hi hz0 hz1 hz2 rfl (by omega) _ 0 [] (ownsRow_zero w w.heap.size 3 1 (Nat.le_refl _)) _ L.length _ hs1 (by unfold maxLen; omega) (by omega) (by simp)
    have hb' : Below w.heap.size w w' := ⟨hg.os, hg.tape, hg.output, by have := hg.size; simp at this; omega, fun k hk => (hg.block k (by simp; omega) (by simp [Value.ownBlock]; omega)).trans (Below.heap_alloc w _ k hk)⟩
    have HB := Lib.hid hb'; have HO := Lib.hid hown; have HR := Lib.hid hr
    clear hs h3 hb hs1 hown hg hb' hr
    go_enter Tryd.func57, Tryd.ntmps57
    go_wp2_with (at_builtin; refine wpList_append_run rfl _ _ _ _ rfl HR.out ?_)
    go_ret
    exact ⟨_, rfl, by simpa using HO.out, HB.out⟩


set_option maxHeartbeats 1000000 in
theorem ints_any (va vb : Value) (A B : List Int) (w : World) (ha : SlX w va A) (hb : SlX w vb B) : Calls Tryd.prog 37 #[va, vb] w fun e w' => e = .returned (.bool (decide (A = B))) ∧ Below w.heap.size w w' := by
  have haw := ha; have hbw := hb
  obtain ⟨aa, ca, rfl, hca, hma, _⟩ := ha
  obtain ⟨ab, cb, rfl, hcb, hmb, _⟩ := hb
  unfold maxLen at hma hmb
  by_cases hlen : A.length = B.length
  · have hl2 : (B.length : Int) = A.length := by omega
    rw [show B.length = A.length from hlen.symm] at hbw
    rw [← hlen] at hcb
    have HAW := Lib.hid haw; have HBW := Lib.hid hbw
    have HLen := Lib.hid hlen
    have hBl : ∀ k, k < A.length → k < B.length := fun k h => by omega
    have HBl := Lib.hid hBl
    rw [show B.length = A.length from hlen.symm]
    clear haw hbw hlen hl2 hBl
    go_enter Tryd.func37, Tryd.ntmps37
    go_wp2_with fail
    go_loopw [5] (fun i wr => ∃ (k : Nat), k ≤ A.length ∧ i = .int .i64 k ∧ Hid (A.take k = B.take k) ∧ Hid (Below w.heap.size w wr)) (fun i _ => A.length - (intOf i).toNat)
    case atStart => exact ⟨0, Nat.zero_le _, rfl, Lib.hid rfl, Lib.hid (Below.refl _ _)⟩
    case round =>
      obtain ⟨k, hk, rfl, hpre, hbel⟩ := hrel
      by_cases hlt : k < A.length
      · have hkw := KpC.of_below hbel.out
        obtain ⟨ba, oa, rfl, da⟩ := (HAW.out.keep hkw).at k hlt
        obtain ⟨bb, ob, rfl, db⟩ := (HBW.out.keep hkw).at k (HBl.out k hlt)
        have hBd := Lib.hid (hbel.out.drew)
        have i1 : (0 : Int) ≤ (k : Int) := by omega
        have i2 : (k : Int) < (A.length : Int) := by omega
        have hA1 : Hid (A.take (k + 1) = A.take k ++ [A[k]]) := Lib.hid (List.take_succ_eq_append_getElem hlt)
        have hB1 : Hid (B.take (k + 1) = B.take k ++ [B[k]'(HBl.out k hlt)]) := Lib.hid (List.take_succ_eq_append_getElem (HBl.out k hlt))
        obtain ⟨x, hx⟩ : ∃ x, x = A[k] := ⟨_, rfl⟩
        obtain ⟨y, hy⟩ : ∃ y, y = B[k]'(HBl.out k hlt) := ⟨_, rfl⟩
        rw [← hx] at da; rw [← hy] at db
        have HX := Lib.hid hx.symm; have HY := Lib.hid hy.symm
        clear hx hy
        clear hkw
        go_wp2_with fail
        go_quiet (fail)
        generalize hwd : wr.drewN _ = wd at *
        by_cases hxy : x = y
        · subst hxy
          have hbq : (x == x) = true := by simp
          go_wp2_with fail
          go_roundw
          case rel =>
            refine ⟨k + 1, by omega, by go_num, Lib.hid ?_, Lib.hid ?_⟩
            · rw [hA1.out, hB1.out, hpre.out, HX.out, HY.out]
            · rw [← hwd]; exact below_drewN hbel.out _
          case measure => simp [intOf]; omega
        · have hne : Hid (A ≠ B) := Lib.hid (fun e => hxy (by rw [← HX.out, ← HY.out]; simp [e]))
          have hbq : (x == y) = false := by simpa using hxy
          go_wp2_with fail
          go_ret
          refine ⟨?_, by rw [← hwd]; exact below_drewN hbel.out _⟩
          rw [decide_eq_false hne.out]; rfl
      · obtain rfl : k = A.length := by omega
        go_wp2_with fail
        go_ret
        refine ⟨?_, hbel.out⟩
        have h := hpre.out
        rw [List.take_length, HLen.out, List.take_length] at h
        rw [decide_eq_true h]; rfl
  · have hne : A ≠ B := fun h => hlen (by rw [h])
    have hn : ¬ (A.length : Int) = (B.length : Int) := by omega
    have hn2 : ((A.length : Int) == (B.length : Int)) = false := by simpa using hn
    rw [decide_eq_false hne]
    clear haw hbw hne hn
    go_enter Tryd.func37, Tryd.ntmps37
    go_wp2_with fail
    go_ret
    exact ⟨rfl, Below.refl _ _⟩

/- one of some -/
theorem oneX_any (v : Value) (L : List Int) (i : Int) (w : World) (h : SlX w v L) : Calls Tryd.prog 62 #[v, .int .i64 i] w fun e w' => e = .returned (.tuple #[.int .i64 (if 0 ≤ i ∧ i < L.length then L[i.toNat]?.getD 0 else 0), .bool (decide (0 ≤ i ∧ i < L.length))]) ∧ w' = w := by
  have h0 := h
  obtain ⟨a, cap, rfl, _, _, _⟩ := h
  by_cases h1 : i < 0
  · rw [if_neg (by omega), decide_eq_false (by omega)]
    clear h0
    go_enter Tryd.func62, Tryd.ntmps62
    go_wp2_with fail
    go_ret2
    exact ⟨rfl, rfl⟩
  · by_cases h2 : (L.length : Int) ≤ i
    · rw [if_neg (by omega), decide_eq_false (by omega)]
      clear h0
      go_enter Tryd.func62, Tryd.ntmps62
      go_wp2_with fail
      go_ret2
      exact ⟨rfl, rfl⟩
    · obtain ⟨n, rfl⟩ := Int.eq_ofNat_of_zero_le (show 0 ≤ i by omega)
      obtain ⟨b, o, rfl, hc⟩ := h0.at n (by omega)
      have i1 : (0 : Int) ≤ (n : Int) := by omega
      have i2 : (n : Int) < (L.length : Int) := by omega
      rw [if_pos ⟨i1, i2⟩, decide_eq_true ⟨i1, i2⟩, Int.toNat_natCast, List.getElem?_eq_getElem (by omega)]
      obtain ⟨x, hx⟩ : ∃ x, x = L[n]'(by omega) := ⟨_, rfl⟩
      rw [← hx] at hc ⊢
      clear h0 hx
      go_enter Tryd.func62, Tryd.ntmps62
      go_wp2_with fail
      go_ret2
      exact ⟨rfl, rfl⟩
theorem oneR_any (v : Value) (L : List (List Int)) (i : Int) (w : World) (h : SlR w v L) : Calls Tryd.prog 56 #[v, .int .i64 i] w fun e w' => ∃ rv, e = .returned (.tuple #[rv, .bool (decide (0 ≤ i ∧ i < L.length))]) ∧ SlX w rv (if 0 ≤ i ∧ i < L.length then L[i.toNat]?.getD [] else []) ∧ w' = w := by
  have h0 := h
  obtain ⟨a, cap, rfl, _, _, _⟩ := h
  by_cases h1 : i < 0
  · rw [if_neg (by omega), decide_eq_false (by omega)]
    clear h0
    go_enter Tryd.func56, Tryd.ntmps56
    go_wp2_with fail
    go_ret2
    exact ⟨_, rfl, ⟨none, 0, rfl, Nat.le_refl _, Nat.zero_le _, fun i hi => by cases hi⟩, rfl⟩
  · by_cases h2 : (L.length : Int) ≤ i
    · rw [if_neg (by omega), decide_eq_false (by omega)]
      clear h0
      go_enter Tryd.func56, Tryd.ntmps56
      go_wp2_with fail
      go_ret2
      exact ⟨_, rfl, ⟨none, 0, rfl, Nat.le_refl _, Nat.zero_le _, fun i hi => by cases hi⟩, rfl⟩
    · obtain ⟨n, rfl⟩ := Int.eq_ofNat_of_zero_le (show 0 ≤ i by omega)
      obtain ⟨a', cap', e, _, _, h3⟩ := id h0
      obtain ⟨b, off, cs, t, fr, rv, ea, hb, hc, hr⟩ := h3 n (by omega)
      obtain rfl : a = some ⟨b, off, none⟩ := (Value.slice.inj e).1.trans ea
      have q : w.cell? ⟨b, off + n, none⟩ = some rv := by rw [hb.cell]; exact hc
      have i1 : (0 : Int) ≤ (n : Int) := by omega
      have i2 : (n : Int) < (L.length : Int) := by omega
      rw [if_pos ⟨i1, i2⟩, decide_eq_true ⟨i1, i2⟩, Int.toNat_natCast, List.getElem?_eq_getElem (by omega), Option.getD_some]
      have HR := Lib.hid hr
      have hf := hr.form
      obtain ⟨_, _, _, rfl⟩ := hf
      clear h0 e h3 hb hc hr ea
      go_enter Tryd.func56, Tryd.ntmps56
      go_wp2_with fail
      go_ret2
      exact ⟨_, rfl, HR.out, rfl⟩
def arV (a : Ar) : Value := .agg #[.int .i64 a.1, .int .i64 a.2.1, .int .i64 a.2.2]
theorem oneA_any (v : Value) (L : List Ar) (i : Int) (w : World) (h : SlA w v L) : Calls Tryd.prog 58 #[v, .int .i64 i] w fun e w' => e = .returned (.tuple #[arV (if 0 ≤ i ∧ i < L.length then L[i.toNat]?.getD (0, 0, 0) else (0, 0, 0)), .bool (decide (0 ≤ i ∧ i < L.length))]) ∧ Below w.heap.size w w' := by
  have h0 := h
  obtain ⟨a, cap, rfl, _, _, _⟩ := h
  by_cases h1 : i < 0
  · rw [if_neg (by omega), decide_eq_false (by omega)]
    clear h0
    go_enter Tryd.func58, Tryd.ntmps58
    go_wp2_with fail
    exact bodyPost_ret (v := .tuple #[.agg #[.int .i64 0, .int .i64 0, .int .i64 0], .bool false]) (by simp [results, Tryd.results58, go_sem]) rfl ⟨rfl, (Below.refl _ _).alloc (Nat.le_refl _) _⟩
  · by_cases h2 : (L.length : Int) ≤ i
    · rw [if_neg (by omega), decide_eq_false (by omega)]
      clear h0
      go_enter Tryd.func58, Tryd.ntmps58
      go_wp2_with fail
      exact bodyPost_ret (v := .tuple #[.agg #[.int .i64 0, .int .i64 0, .int .i64 0], .bool false]) (by simp [results, Tryd.results58, go_sem]) rfl ⟨rfl, (Below.refl _ _).alloc (Nat.le_refl _) _⟩
    · obtain ⟨n, rfl⟩ := Int.eq_ofNat_of_zero_le (show 0 ≤ i by omega)
      obtain ⟨b, o, rfl, d0, d1, d2⟩ := h0.at n (by omega)
      have i1 : (0 : Int) ≤ (n : Int) := by omega
      have i2 : (n : Int) < (L.length : Int) := by omega
      rw [if_pos ⟨i1, i2⟩, decide_eq_true ⟨i1, i2⟩, Int.toNat_natCast, List.getElem?_eq_getElem (by omega)]
      obtain ⟨x, hx⟩ : ∃ x, x = L[n]'(by omega) := ⟨_, rfl⟩
      rw [← hx] at d0 d1 d2 ⊢
      clear h0 hx
      obtain ⟨x0, x1, x2⟩ := x
      simp only at d0 d1 d2
      have hal := (Below.refl w.heap.size w).alloc (Nat.le_refl _) (.cells #[.int .i64 0, .int .i64 0, .int .i64 0] 54)
      have e0 := cell_later hal d0; have e1 := cell_later hal d1; have e2 := cell_later hal d2
      clear hal
      go_enter Tryd.func58, Tryd.ntmps58
      go_wp2_with fail
      exact bodyPost_ret (v := .tuple #[.agg #[.int .i64 x0, .int .i64 x1, .int .i64 x2], .bool true]) (by simp [results, Tryd.results58, go_sem]) rfl ⟨rfl, (Below.refl _ _).alloc (Nat.le_refl _) _⟩
end Go.Proofs.YtnkcmlngoeofgaaDoor
/- net: its getters. -/
namespace Go.Proofs.YtnkcmlngoeofgaaDoor
open Go.RowKit
def pv (p : Nat) : Value := .pointer (some ⟨p, 0, none⟩)
theorem NetAt.cells {w : World} {p : Nat} {g : Raw} (h : NetAt w p g) : ∃ xa xc ya yc aa ac oa oc ia ic on inn, w.cell? ⟨p, 0, none⟩ = some (.int .i64 g.nodes) ∧ w.cell? ⟨p, 1, none⟩ = some (.slice xa g.X.length xc) ∧ w.cell? ⟨p, 2, none⟩ = some (.slice ya g.Y.length yc) ∧ w.cell? ⟨p, 3, none⟩ = some (.slice aa g.arcs.length ac) ∧ w.cell? ⟨p, 4, none⟩ = some (.slice oa on oc) ∧ w.cell? ⟨p, 5, none⟩ = some (.slice ia inn ic) ∧ SlX w (.slice xa g.X.length xc) g.X ∧ SlX w (.slice ya g.Y.length yc) g.Y ∧ SlA w (.slice aa g.arcs.length ac) g.arcs ∧ SlR w (.slice oa on oc) (rowsOf endF g.arcs g.nodes.toNat) ∧ SlR w (.slice ia inn ic) (rowsOf endT g.arcs g.nodes.toNat) := by
  obtain ⟨vx, vy, va, vo, vi, h1, h2, h3, h4, h5, h6⟩ := h
  have q2 := h2; have q3 := h3; have q4 := h4; have q5 := h5; have q6 := h6
  obtain ⟨_, _, rfl, _⟩ := h2
  obtain ⟨_, _, rfl, _⟩ := h3
  obtain ⟨_, _, rfl, _⟩ := h4
  obtain ⟨_, _, rfl, _⟩ := h5
  obtain ⟨_, _, rfl, _⟩ := h6
  exact ⟨_, _, _, _, _, _, _, _, _, _, _, _, h1.cell 0, h1.cell 1, h1.cell 2, h1.cell 3, h1.cell 4, h1.cell 5, q2, q3, q4, q5, q6⟩
theorem nodes_any (p : Nat) (g : Raw) (w : World) (h : NetAt w p g) : Calls Tryd.prog 33 #[.pointer (some ⟨p, 0, none⟩)] w fun e w' => e = .returned (.int .i64 g.nodes) ∧ w' = w := by
  obtain ⟨xa, xc, ya, yc, aa, ac, oa, oc, ia, ic, on, inn, c0, c1, c2, c3, c4, c5, hx, hy, ha, ho, hi⟩ := h.cells
  clear h hx hy ha ho hi c1 c2 c3 c4 c5
  go_enter Tryd.func33, Tryd.ntmps33
  go_wp2_with fail
  go_ret
  exact ⟨rfl, rfl⟩
theorem arcs_any (p : Nat) (g : Raw) (w : World) (h : NetAt w p g) : Calls Tryd.prog 32 #[.pointer (some ⟨p, 0, none⟩)] w fun e w' => e = .returned (.int .i64 g.arcs.length) ∧ w' = w := by
  obtain ⟨xa, xc, ya, yc, aa, ac, oa, oc, ia, ic, on, inn, c0, c1, c2, c3, c4, c5, hx, hy, ha, ho, hi⟩ := h.cells
  clear h hx hy ha ho hi c0 c1 c2 c4 c5
  go_enter Tryd.func32, Tryd.ntmps32
  go_wp2_with fail
  go_ret
  exact ⟨rfl, rfl⟩
theorem nodes_nil (w : World) : Calls Tryd.prog 33 #[.pointer none] w fun e w' => e = .returned (.int .i64 0) ∧ w' = w := by
  go_enter Tryd.func33, Tryd.ntmps33
  go_wp2_with fail
  go_ret
  exact ⟨rfl, rfl⟩
theorem arcs_nil (w : World) : Calls Tryd.prog 32 #[.pointer none] w fun e w' => e = .returned (.int .i64 0) ∧ w' = w := by
  go_enter Tryd.func32, Tryd.ntmps32
  go_wp2_with fail
  go_ret
  exact ⟨rfl, rfl⟩
/-- a node's row, or none -/
def rowV (end' : Ar → Int) (g : Raw) (i : Int) : List Int := if 0 ≤ i ∧ i < (rowsOf end' g.arcs g.nodes.toNat).length then (rowsOf end' g.arcs g.nodes.toNat)[i.toNat]?.getD [] else []
theorem rowV_few (end' : Ar → Int) (g : Raw) (i : Int) (h : ∀ r ∈ rowsOf end' g.arcs g.nodes.toNat, r.length ≤ 1000000000000) : (rowV end' g i).length ≤ 1000000000000 := by
  unfold rowV
  split
  · rename_i hi
    have hn : i.toNat < (rowsOf end' g.arcs g.nodes.toNat).length := by omega
    rw [List.getElem?_eq_getElem hn]
    exact h _ (List.getElem_mem _)
  · simp
theorem out_any (p : Nat) (g : Raw) (i : Int) (w : World) (h : NetAt w p g) (hl : ∀ r ∈ rowsOf endF g.arcs g.nodes.toNat, r.length ≤ 1000000000000) : Calls Tryd.prog 34 #[.pointer (some ⟨p, 0, none⟩), .int .i64 i] w fun e w' => ∃ v', e = .returned v' ∧ w'.ownsRow w.heap.size 3 1 v' (rowV endF g i).length ((rowV endF g i).flatMap inC) ∧ Below w.heap.size w w' := by
  obtain ⟨xa, xc, ya, yc, aa, ac, oa, oc, ia, ic, on, inn, c0, c1, c2, c3, c4, c5, hx, hy, ha, ho, hi⟩ := h.cells
  have C := Lib.hid (oneR_any _ _ i w ho)
  have HL := Lib.hid (rowV_few endF g i hl)
  clear h hx hy ha ho hi hl c0 c1 c2 c3 c5
  go_enter Tryd.func34, Tryd.ntmps34
  go_wp2_with fail
  refine C.out.mono ?_
  rintro e w1 ⟨rv, rfl, hr, rfl⟩
  have C2 := Lib.hid (cloneI rv (rowV endF g i) w1 hr HL.out)
  have fr := hr.form
  obtain ⟨_, _, _, rfl⟩ := fr
  clear hr
  go_wp2_with fail
  refine C2.out.mono ?_
  rintro e w2 ⟨v', rfl, hown, hb⟩
  have HO := Lib.hid hown; have HB := Lib.hid hb
  have fv := hown.one'
  obtain ⟨_, _, _, rfl⟩ := fv
  clear hown hb
  go_wp2_with fail
  go_ret
  exact ⟨_, rfl, HO.out, HB.out⟩
theorem inn_any (p : Nat) (g : Raw) (i : Int) (w : World) (h : NetAt w p g) (hl : ∀ r ∈ rowsOf endT g.arcs g.nodes.toNat, r.length ≤ 1000000000000) : Calls Tryd.prog 35 #[.pointer (some ⟨p, 0, none⟩), .int .i64 i] w fun e w' => ∃ v', e = .returned v' ∧ w'.ownsRow w.heap.size 3 1 v' (rowV endT g i).length ((rowV endT g i).flatMap inC) ∧ Below w.heap.size w w' := by
  obtain ⟨xa, xc, ya, yc, aa, ac, oa, oc, ia, ic, on, inn, c0, c1, c2, c3, c4, c5, hx, hy, ha, ho, hi⟩ := h.cells
  have C := Lib.hid (oneR_any _ _ i w hi)
  have HL := Lib.hid (rowV_few endT g i hl)
  clear h hx hy ha ho hi hl c0 c1 c2 c3 c4
  go_enter Tryd.func35, Tryd.ntmps35
  go_wp2_with fail
  refine C.out.mono ?_
  rintro e w1 ⟨rv, rfl, hr, rfl⟩
  have C2 := Lib.hid (cloneI rv (rowV endT g i) w1 hr HL.out)
  have fr := hr.form
  obtain ⟨_, _, _, rfl⟩ := fr
  clear hr
  go_wp2_with fail
  refine C2.out.mono ?_
  rintro e w2 ⟨v', rfl, hown, hb⟩
  have HO := Lib.hid hown; have HB := Lib.hid hb
  have fv := hown.one'
  obtain ⟨_, _, _, rfl⟩ := fv
  clear hown hb
  go_wp2_with fail
  go_ret
  exact ⟨_, rfl, HO.out, HB.out⟩
theorem out_nil (i : Int) (w : World) : Calls Tryd.prog 34 #[.pointer none, .int .i64 i] w fun e w' => e = .returned (.slice none 0 0) ∧ w' = w := by
  go_enter Tryd.func34, Tryd.ntmps34
  go_wp2_with fail
  go_ret
  exact ⟨rfl, rfl⟩
theorem inn_nil (i : Int) (w : World) : Calls Tryd.prog 35 #[.pointer none, .int .i64 i] w fun e w' => e = .returned (.slice none 0 0) ∧ w' = w := by
  go_enter Tryd.func35, Tryd.ntmps35
  go_wp2_with fail
  go_ret
  exact ⟨rfl, rfl⟩
theorem arc_any (p : Nat) (g : Raw) (i : Int) (w : World) (h : NetAt w p g) : Calls Tryd.prog 36 #[.pointer (some ⟨p, 0, none⟩), .int .i64 i] w fun e w' => e = .returned (.tuple #[arV (if 0 ≤ i ∧ i < g.arcs.length then g.arcs[i.toNat]?.getD (0, 0, 0) else (0, 0, 0)), .bool (decide (0 ≤ i ∧ i < g.arcs.length))]) ∧ Below w.heap.size w w' := by
  obtain ⟨xa, xc, ya, yc, aa, ac, oa, oc, ia, ic, on, inn, c0, c1, c2, c3, c4, c5, hx, hy, ha, ho, hi⟩ := h.cells
  obtain ⟨w1, hw1⟩ : ∃ w1, w1 = w.alloc (.cells #[.int .i64 0, .int .i64 0, .int .i64 0] 54) := ⟨_, rfl⟩
  have hb1 : Below w.heap.size w w1 := by rw [hw1]; exact (Below.refl _ _).alloc (Nat.le_refl _) _
  have hbk : Blk w1 w.heap.size #[.int .i64 0, .int .i64 0, .int .i64 0] 54 (0, 0) := by rw [hw1]; exact Blk.new _ _ _ _
  have C := Lib.hid (oneA_any _ _ i w1 (ha.keep (KpC.of_below hb1)))
  obtain ⟨x, hx'⟩ : ∃ x, x = (if 0 ≤ i ∧ i < g.arcs.length then g.arcs[i.toNat]?.getD (0, 0, 0) else (0, 0, 0)) := ⟨_, rfl⟩
  obtain ⟨q, hq⟩ : ∃ q, q = decide (0 ≤ i ∧ i < (g.arcs.length : Int)) := ⟨_, rfl⟩
  rw [← hx', ← hq] at C ⊢
  obtain ⟨x0, x1, x2⟩ := x
  change Hid (Calls _ _ _ _ fun e w' => e = .returned (.tuple #[.agg #[.int .i64 x0, .int .i64 x1, .int .i64 x2], .bool q]) ∧ Below w1.heap.size w1 w') at C
  obtain ⟨B, hB⟩ : ∃ b, b = w.heap.size := ⟨_, rfl⟩
  rw [← hB] at hbk
  have e3 := cell_later ((Below.refl w.heap.size w).alloc (Nat.le_refl _) (.cells #[.int .i64 0, .int .i64 0, .int .i64 0] 54)) c3
  have H1 := Lib.hid hb1; have HK := Lib.hid hbk; have HW1 := Lib.hid hw1; have HBe := Lib.hid hB
  clear h hx hy ha ho hi hb1 hbk hw1 hx' hq c0 c1 c2 c4 c5
  go_enter Tryd.func36, Tryd.ntmps36
  go_wp2_with fail
  rw [← HW1.out, ← hB]
  clear hB
  refine C.out.mono ?_
  rintro e w2 ⟨rfl, hb2⟩
  have k2 := HK.out.below hb2 HK.out.lt
  have f0 := k2.free 0 (Or.inr (Nat.zero_le _)); have f1 := k2.free 1 (Or.inr (Nat.zero_le _)); have f2 := k2.free 2 (Or.inr (Nat.zero_le _))
  have d0 := k2.cell 0; have d1 := k2.cell 1; have d2 := k2.cell 2
  simp only [List.getElem?_toArray, List.getElem?_cons_succ, List.getElem?_cons_zero] at d0 d1 d2
  have hle : w.heap.size ≤ B := by have := HBe.out; omega
  have HF := Lib.hid (((((H1.out.next' hb2).setCell (p := ⟨B, 0, none⟩) hle (.int .i64 x0)).setCell (p := ⟨B, 1, none⟩) hle (.int .i64 x1))).setCell (p := ⟨B, 2, none⟩) hle (.int .i64 x2))
  have HK2 := Lib.hid k2
  clear hb2 k2 hle
  go_wp2_with fail
  have z0 := HK2.out.set 0 (.int .i64 x0)
  have z1 := z0.set 1 (.int .i64 x1)
  have z2 := z1.set 2 (.int .i64 x2)
  have r0 := z0.cell 0; have r1 := z1.cell 1; have r2 := z2.cell 2
  simp at r0 r1 r2
  exact bodyPost_ret (v := .tuple #[.agg #[.int .i64 x0, .int .i64 x1, .int .i64 x2], .bool q]) (by simp [results, Tryd.results36, go_sem, r0, r1, r2]) rfl ⟨rfl, HF.out⟩
theorem arc_nil (i : Int) (w : World) : Calls Tryd.prog 36 #[.pointer none, .int .i64 i] w fun e w' => e = .returned (.tuple #[arV (0, 0, 0), .bool false]) ∧ Below w.heap.size w w' := by
  go_enter Tryd.func36, Tryd.ntmps36
  go_wp2_with fail
  exact bodyPost_ret (v := .tuple #[.agg #[.int .i64 0, .int .i64 0, .int .i64 0], .bool false]) (by simp [results, Tryd.results36, go_sem]) rfl ⟨rfl, (Below.refl _ _).alloc (Nat.le_refl _) _⟩
def atI (L : List Int) (i : Int) : Int := if 0 ≤ i ∧ i < L.length then L[i.toNat]?.getD 0 else 0
theorem place_any (p : Nat) (g : Raw) (i : Int) (w : World) (h : NetAt w p g) : Calls Tryd.prog 44 #[.pointer (some ⟨p, 0, none⟩), .int .i64 i] w fun e w' => e = .returned (.tuple #[.int .i64 (atI g.X i), .int .i64 (atI g.Y i), .bool (decide (0 ≤ i ∧ i < g.Y.length))]) ∧ w' = w := by
  obtain ⟨xa, xc, ya, yc, aa, ac, oa, oc, ia, ic, on, inn, c0, c1, c2, c3, c4, c5, hx, hy, ha, ho, hi⟩ := h.cells
  have C := Lib.hid (oneX_any _ _ i w hx)
  have D := Lib.hid (oneX_any _ _ i w hy)
  obtain ⟨x, hx'⟩ : ∃ x, x = atI g.X i := ⟨_, rfl⟩
  obtain ⟨y, hy'⟩ : ∃ y, y = atI g.Y i := ⟨_, rfl⟩
  obtain ⟨q, hq⟩ : ∃ q, q = decide (0 ≤ i ∧ i < (g.Y.length : Int)) := ⟨_, rfl⟩
  obtain ⟨q2, hq2⟩ : ∃ q, q = decide (0 ≤ i ∧ i < (g.X.length : Int)) := ⟨_, rfl⟩
  change Hid (Calls _ _ _ _ fun e w' => e = .returned (.tuple #[.int .i64 (atI g.X i), _]) ∧ w' = w) at C
  change Hid (Calls _ _ _ _ fun e w' => e = .returned (.tuple #[.int .i64 (atI g.Y i), _]) ∧ w' = w) at D
  rw [← hx', ← hq2] at C
  rw [← hy', ← hq] at D
  rw [← hx', ← hy', ← hq]
  clear h hx hy ha ho hi c0 c3 c4 c5 hx' hy' hq hq2
  go_enter Tryd.func44, Tryd.ntmps44
  go_wp2_with fail
  refine C.out.mono ?_
  rintro e w2 ⟨rfl, rfl⟩
  go_wp2_with fail
  refine D.out.mono ?_
  rintro e w3 ⟨rfl, rfl⟩
  go_wp2_with fail
  go_ret3
  exact ⟨rfl, rfl⟩
theorem place_nil (i : Int) (w : World) : Calls Tryd.prog 44 #[.pointer none, .int .i64 i] w fun e w' => e = .returned (.tuple #[.int .i64 0, .int .i64 0, .bool false]) ∧ w' = w := by
  go_enter Tryd.func44, Tryd.ntmps44
  go_wp2_with fail
  go_ret3
  exact ⟨rfl, rfl⟩
end Go.Proofs.YtnkcmlngoeofgaaDoor
/- net: Raw and Turned. -/
namespace Go.Proofs.YtnkcmlngoeofgaaDoor
open Go.RowKit
set_option maxRecDepth 100000 in
set_option maxHeartbeats 4000000 in
theorem raw_any (p : Nat) (g : Raw) (w : World) (h : NetAt w p g) (hl : g.few) : Calls Tryd.prog 39 #[.pointer (some ⟨p, 0, none⟩)] w fun e w' => ∃ v', e = .returned v' ∧ RawO w.heap.size w' v' g ∧ Below w.heap.size w w' := by
  obtain ⟨xa, xc, ya, yc, aa, ac, oa, oc, ia, ic, on, inn, c0, c1, c2, c3, c4, c5, hx, hy, ha, ho, hi⟩ := h.cells
  obtain ⟨w1, hw1⟩ : ∃ w1, w1 = w.alloc (.cells #[.int .i64 0, .slice none 0 0, .slice none 0 0, .slice none 0 0] 25) := ⟨_, rfl⟩
  have hb0 := (Below.refl w.heap.size w).alloc (Nat.le_refl _) (.cells #[.int .i64 0, .slice none 0 0, .slice none 0 0, .slice none 0 0] 25)
  have hb1 : Below w.heap.size w w1 := by rw [hw1]; exact hb0
  obtain ⟨B, hB⟩ : ∃ b, b = w.heap.size := ⟨_, rfl⟩
  have hbk : Blk w1 B #[.int .i64 0, .slice none 0 0, .slice none 0 0, .slice none 0 0] 25 (0, 0) := by rw [hw1, hB]; exact Blk.new _ _ _ _
  have hV : RawV w1 (.agg #[.int .i64 g.nodes, .slice xa g.X.length xc, .slice ya g.Y.length yc, .slice aa g.arcs.length ac]) g := ⟨_, _, _, rfl, hx.keep (KpC.of_below hb1), hy.keep (KpC.of_below hb1), ha.keep (KpC.of_below hb1)⟩
  have C := Lib.hid (own_any _ g w1 hV hl)
  have e0 := cell_later hb0 c0; have e1 := cell_later hb0 c1; have e2 := cell_later hb0 c2; have e3 := cell_later hb0 c3
  have H1 := Lib.hid hb1; have HK := Lib.hid hbk; have HW1 := Lib.hid hw1; have HBe := Lib.hid hB
  clear h hx hy ha ho hi hb1 hbk hw1 c4 c5 hb0 hV
  go_enter Tryd.func39, Tryd.ntmps39
  go_wp2_with fail
  rw [← HW1.out, ← hB]
  clear hB
  refine C.out.mono ?_
  rintro e w2 ⟨v2, rfl, ⟨vx, vy, va, rfl, o1, o2, o3, o4⟩, hb2⟩
  have bT := HK.out.below hb2 HK.out.lt
  have b0 := bT.cell 0; have b1 := bT.cell 1; have b2 := bT.cell 2; have b3 := bT.cell 3
  simp only [List.getElem?_toArray, List.getElem?_cons_succ, List.getElem?_cons_zero] at b0 b1 b2 b3
  have fr := fun i => bT.free i (Or.inr (Nat.zero_le _))
  have f0 := fr 0; have f1 := fr 1; have f2 := fr 2; have f3 := fr 3
  have hO : Own3 w1.heap.size w2 vx vy va g := ⟨o1, o2, o3, o4⟩
  have fx := o1.one'; have fy := o2.one'; have fa := o3.one'
  obtain ⟨xa, xn, xc, rfl⟩ := fx
  obtain ⟨ya, yn, yc, rfl⟩ := fy
  obtain ⟨za, zn, zc, rfl⟩ := fa
  have bZ := (((bT.set 0 (.int .i64 g.nodes)).set 1 (.slice xa xn xc)).set 2 (.slice ya yn yc)).set 3 (.slice za zn zc)
  have R2 := (((hO.set (p := ⟨B, 0, none⟩) bT (by decide) (by decide) (.int .i64 g.nodes)).set (p := ⟨B, 1, none⟩) (bT.set 0 (.int .i64 g.nodes)) (by decide) (by decide) (.slice xa xn xc)).set (p := ⟨B, 2, none⟩) ((bT.set 0 (.int .i64 g.nodes)).set 1 (.slice xa xn xc)) (by decide) (by decide) (.slice ya yn yc)).set (p := ⟨B, 3, none⟩) (((bT.set 0 (.int .i64 g.nodes)).set 1 (.slice xa xn xc)).set 2 (.slice ya yn yc)) (by decide) (by decide) (.slice za zn zc)
  have hle : w.heap.size ≤ B := by have := HBe.out; omega
  have B2 := ((((H1.out.next' hb2).setCell (p := ⟨B, 0, none⟩) hle (.int .i64 g.nodes)).setCell (p := ⟨B, 1, none⟩) hle (.slice xa xn xc)).setCell (p := ⟨B, 2, none⟩) hle (.slice ya yn yc)).setCell (p := ⟨B, 3, none⟩) hle (.slice za zn zc)
  have hsz1 := H1.out.size
  have HZ := Lib.hid bZ; have HR2 := Lib.hid R2; have HB2 := Lib.hid B2
  clear bZ R2 B2 bT hO o1 o2 o3 o4 hb2 fr C hle
  go_wp2_with fail
  generalize (((w2.setCell ⟨B, 0, none⟩ (.int .i64 g.nodes)).setCell ⟨B, 1, none⟩ (.slice xa xn xc)).setCell ⟨B, 2, none⟩ (.slice ya yn yc)).setCell ⟨B, 3, none⟩ (.slice za zn zc) = wz at *
  have z0 := HZ.out.cell 0; have z1 := HZ.out.cell 1; have z2 := HZ.out.cell 2; have z3 := HZ.out.cell 3
  change wz.cell? ⟨B, 0, none⟩ = some (.int .i64 g.nodes) at z0
  change wz.cell? ⟨B, 1, none⟩ = some (.slice xa xn xc) at z1
  change wz.cell? ⟨B, 2, none⟩ = some (.slice ya yn yc) at z2
  change wz.cell? ⟨B, 3, none⟩ = some (.slice za zn zc) at z3
  exact bodyPost_ret (v := .agg #[.int .i64 g.nodes, .slice xa xn xc, .slice ya yn yc, .slice za zn zc]) (by simp [results, Tryd.results39, go_sem, z0, z1, z2, z3]) rfl ⟨_, rfl, ⟨_, _, _, rfl, ownsRow_le HR2.out.1 hsz1, ownsRow_le HR2.out.2.1 hsz1, ownsRow_le HR2.out.2.2.1 hsz1, HR2.out.2.2.2⟩, HB2.out⟩
theorem raw_nil (w : World) : Calls Tryd.prog 39 #[.pointer none] w fun e w' => e = .returned (.agg #[.int .i64 0, .slice none 0 0, .slice none 0 0, .slice none 0 0]) ∧ Below w.heap.size w w' := by
  go_enter Tryd.func39, Tryd.ntmps39
  go_wp2_with fail
  exact bodyPost_ret (v := .agg #[.int .i64 0, .slice none 0 0, .slice none 0 0, .slice none 0 0]) (by simp [results, Tryd.results39, go_sem]) rfl ⟨rfl, (Below.refl _ _).alloc (Nat.le_refl _) _⟩
theorem turnedN_nil (w : World) : Calls Tryd.prog 31 #[.pointer none] w fun e w' => e = .returned (.pointer none) ∧ w' = w := by
  go_enter Tryd.func31, Tryd.ntmps31
  go_wp2_with fail
  go_ret
  exact ⟨rfl, rfl⟩
theorem Raw.turned_ok {g : Raw} (h : g.Ok) : g.turned.Ok := by
  refine ⟨h.nodes, h.lenX, h.lenY, h.x, h.y, by show (g.arcs.map turnA).length ≤ _; rw [List.length_map]; exact h.arcs, fun a ha => ?_⟩
  obtain ⟨b, hb, rfl⟩ := List.mem_map.1 (show a ∈ g.arcs.map turnA from ha)
  have k := h.arc b hb
  unfold arcOk at k ⊢
  unfold turnA
  simp only [] at k ⊢
  exact ⟨k.2.1, k.1, k.2.2⟩
theorem turn_step3 (L : List Ar) (k : Nat) (hk : k < L.length) : ((((L.take k).map turnA ++ L.drop k).set k (setArc 0 L[k].2.1 L[k])).set k (setArc 1 L[k].1 (setArc 0 L[k].2.1 L[k]))).set k (setArc 2 L[k].2.2 (setArc 1 L[k].1 (setArc 0 L[k].2.1 L[k]))) = (L.take (k + 1)).map turnA ++ L.drop (k + 1) := by
  rw [List.set_set, ← turn_step L k hk, List.set_set, List.set_set]
  rfl
set_option maxRecDepth 100000 in
set_option maxHeartbeats 8000000 in
theorem turnedN_any (p : Nat) (r : Raw) (w : World) (h : NetAt w p r) (hl : r.few) (hok : r.Ok) : Calls Tryd.prog 31 #[.pointer (some ⟨p, 0, none⟩)] w fun e w' => ∃ q, e = .returned (.pointer (some ⟨q, 0, none⟩)) ∧ NetB w.heap.size w' q r.turned ∧ Below w.heap.size w w' := by
  have C := Lib.hid (raw_any p r w h hl)
  have HOk := Lib.hid hok; have HL := Lib.hid hl
  clear h hok hl
  go_enter Tryd.func31, Tryd.ntmps31
  go_wp2_with fail
  refine C.out.mono ?_
  rintro e w2 ⟨v2, rfl, ⟨vx, vy, va, rfl, o1, o2, o3, o4⟩, hb2⟩
  have fx := o1.one'; have fy := o2.one'
  have fa : ∃ a c, va = .slice a r.arcs.length c ∧ (0 < r.arcs.length → ∃ g, a = some ⟨g, 0, none⟩) := by
    rcases o3.2 with ⟨h, h0⟩ | ⟨g, cap, cur, h, _⟩
    · exact ⟨_, _, by rw [h0]; exact h, fun h => by omega⟩
    · exact ⟨_, _, h, fun _ => ⟨g, rfl⟩⟩
  have hO : Own3 w.heap.size w2 vx vy va r := ⟨o1, o2, o3, o4⟩
  obtain ⟨xa, xn, xc, rfl⟩ := fx
  obtain ⟨ya, yn, yc, rfl⟩ := fy
  obtain ⟨za, zc, rfl, hza⟩ := fa
  obtain ⟨Bt, hBt⟩ : ∃ b, b = w2.heap.size := ⟨_, rfl⟩
  obtain ⟨w3, hw3⟩ : ∃ w3, w3 = w2.alloc (.cells #[.int .i64 r.nodes, .slice xa xn xc, .slice ya yn yc, .slice za r.arcs.length zc] 25) := ⟨_, rfl⟩
  have hb3 : Below w2.heap.size w2 w3 := by rw [hw3]; exact (Below.refl _ _).alloc (Nat.le_refl _) _
  have hB23 := hb2.next' hb3
  have hI : OutI w Bt (.slice xa xn xc) (.slice ya yn yc) (.slice za r.arcs.length zc) r w3 := ⟨by rw [hw3, hBt]; exact Blk.new _ _ _ _, hO.below hb3, ⟨hB23.os, hB23.tape, hB23.output, hB23.size, fun k hk _ => hB23.block k hk⟩⟩
  have HI := Lib.hid hI; have HW3 := Lib.hid hw3; have HBt := Lib.hid hBt
  have HLe : Hid (w.heap.size ≤ Bt) := Lib.hid (by rw [hBt]; exact hb2.size)
  clear hI hO o1 o2 o3 o4 hb2 hb3 hB23 hw3 C
  have hll : (r.arcs.length : Int) ≤ 1000000000000 := by have := HL.out.2.2; omega
  go_wp2_with fail
  rw [← HW3.out, ← hBt]
  clear hBt
  go_loopw [13] (fun i wr => ∃ (k : Nat), k ≤ r.arcs.length ∧ i = .int .i64 k ∧ Hid (OutI w Bt (.slice xa xn xc) (.slice ya yn yc) (.slice za r.arcs.length zc) { r with arcs := (r.arcs.take k).map turnA ++ r.arcs.drop k } wr)) (fun i _ => r.arcs.length - (intOf i).toNat)
  case atStart => exact ⟨0, by omega, rfl, Lib.hid (by simpa using HI.out)⟩
  case round =>
    clear HI
    obtain ⟨k, hk, rfl, hrel⟩ := hrel
    by_cases hlt : k < r.arcs.length
    · obtain ⟨g, rfl⟩ := hza (by omega)
      have hI := hrel.out
      have hlen : ((r.arcs.take k).map turnA ++ r.arcs.drop k).length = r.arcs.length := by rw [List.length_append, List.length_map, List.length_take, List.length_drop]; omega
      have hget : ((r.arcs.take k).map turnA ++ r.arcs.drop k)[k]'(by omega) = r.arcs[k] := by
        have hl : ((r.arcs.take k).map turnA).length = k := by rw [List.length_map, List.length_take]; omega
        rw [List.getElem_append_right (by omega)]
        simp only [hl, Nat.sub_self, List.getElem_drop, Nat.add_zero]
      have sA : SlA wr (.slice (some ⟨g, 0, none⟩) r.arcs.length zc) ((r.arcs.take k).map turnA ++ r.arcs.drop k) := slA_own rfl (by have h := hI.own.2.2.1; exact h)
      obtain ⟨bg, og, eg, d0, d1, d2⟩ := sA.at k (by omega)
      obtain ⟨rfl, rfl⟩ : g = bg ∧ 0 = og := by simpa using eg
      rw [hget] at d0 d1 d2
      rw [Nat.zero_add] at d0 d1 d2
      obtain ⟨hgb, cur, hgB⟩ := ownsRow_blk' hI.own.2.2.1 (g := g) rfl
      obtain ⟨x, hx⟩ : ∃ x, x = r.arcs[k] := ⟨_, rfl⟩
      have hst := turn_step3 r.arcs k hlt
      rw [← hx] at d0 d1 d2 hst
      obtain ⟨x0, x1, x2⟩ := x
      simp only at d0 d1 d2 hst
      have hltI : (k : Int) < (r.arcs.length : Int) := by omega
      have i1 : (0 : Int) ≤ (k : Int) := by omega
      obtain ⟨Ba, hBa⟩ : ∃ b, b = wr.heap.size := ⟨_, rfl⟩
      have hba := (Below.refl wr.heap.size wr).alloc (Nat.le_refl _) (.cells #[.int .i64 x0, .int .i64 x1, .int .i64 x2] 54)
      obtain ⟨wc, hwc⟩ : ∃ wc, wc = wr.alloc (.cells #[.int .i64 x0, .int .i64 x1, .int .i64 x2] 54) := ⟨_, rfl⟩
      have hbc : Below wr.heap.size wr wc := by rw [hwc]; exact hba
      have hIc := hI.below hbc
      have hkl : k < ((r.arcs.take k).map turnA ++ r.arcs.drop k).length := by omega
      have hI1 := hIc.setA (u := x1) hlen k 0 hkl (by omega) (o := k * 3) rfl
      have hkl2 : k < (((r.arcs.take k).map turnA ++ r.arcs.drop k).set k (setArc 0 x1 (((r.arcs.take k).map turnA ++ r.arcs.drop k)[k]'hkl))).length := by rw [List.length_set]; exact hkl
      have hI2 := hI1.setA (u := x0) ((List.length_set ..).trans hlen) k 1 hkl2 (by omega) (o := k * 3 + 1) rfl
      have hkl3 : k < ((((r.arcs.take k).map turnA ++ r.arcs.drop k).set k (setArc 0 x1 (((r.arcs.take k).map turnA ++ r.arcs.drop k)[k]'hkl))).set k (setArc 1 x0 ((((r.arcs.take k).map turnA ++ r.arcs.drop k).set k (setArc 0 x1 (((r.arcs.take k).map turnA ++ r.arcs.drop k)[k]'hkl)))[k]'hkl2))).length := by rw [List.length_set]; exact hkl2
      have hI3 := hI2.setA (u := x2) ((List.length_set ..).trans ((List.length_set ..).trans hlen)) k 2 hkl3 (by omega) (o := k * 3 + 2) rfl
      simp only [List.getElem_set_self, hget, ← hx] at hI3
      rw [hst] at hI3
      have g0 := (hgB.below hba hgB.lt).free (k * 3) (Or.inr (Nat.zero_le _)); have g1 := (hgB.below hba hgB.lt).free (k * 3 + 1) (Or.inr (Nat.zero_le _)); have g2 := (hgB.below hba hgB.lt).free (k * 3 + 2) (Or.inr (Nat.zero_le _))
      have e0 := cell_later hba d0; have e1 := cell_later hba d1; have e2 := cell_later hba d2
      have c3 : wr.cell? ⟨Bt, 3, none⟩ = some (.slice (some ⟨g, 0, none⟩) r.arcs.length zc) := hI.blk.cell 3
      have o3 := cell_later hba c3
      have HI3 := Lib.hid hI3; have HWc := Lib.hid hwc
      clear hrel hI hlen hget sA eg hgB hst hx hbc hIc hI1 hI2 hI3 hkl hkl2 hkl3 hwc hgb hba hBa
      go_wp2_with fail
      rw [← HWc.out]
      go_roundw
      case rel => exact ⟨k + 1, by omega, by go_num, Lib.hid HI3.out⟩
      case measure => simp [intOf]; omega
    · obtain rfl : k = r.arcs.length := by omega
      have hI := hrel.out
      have he : (r.arcs.take r.arcs.length).map turnA ++ r.arcs.drop r.arcs.length = r.arcs.map turnA := by simp
      rw [he] at hI
      have bO := hI.blk
      have c0 := bO.cell 0; have c1 := bO.cell 1; have c2 := bO.cell 2; have c3 := bO.cell 3
      change wr.cell? ⟨Bt, 0, none⟩ = some (.int .i64 r.nodes) at c0
      change wr.cell? ⟨Bt, 1, none⟩ = some (.slice xa xn xc) at c1
      change wr.cell? ⟨Bt, 2, none⟩ = some (.slice ya yn yc) at c2
      change wr.cell? ⟨Bt, 3, none⟩ = some (.slice za r.arcs.length zc) at c3
      have hraw : RawO w.heap.size wr (.agg #[.int .i64 r.nodes, .slice xa xn xc, .slice ya yn yc, .slice za r.arcs.length zc]) r.turned := hI.raw
      have hbw : Below w.heap.size w wr := below_of (Below.refl _ _) hI.kept HLe.out
      have C2 := Lib.hid (of_any _ _ w.heap.size wr hraw (Raw.turned_ok HOk.out) hbw.size)
      have HBw := Lib.hid hbw
      clear hI hrel he bO hraw hbw
      go_wp2_with fail
      refine C2.out.mono ?_
      rintro e w4 ⟨q, rfl, hn, hb4⟩
      have HN := Lib.hid hn; have HB4 := Lib.hid (HBw.out.next' hb4)
      clear hn hb4
      go_wp2_with fail
      go_ret
      exact ⟨_, rfl, HN.out, HB4.out⟩
end Go.Proofs.YtnkcmlngoeofgaaDoor
