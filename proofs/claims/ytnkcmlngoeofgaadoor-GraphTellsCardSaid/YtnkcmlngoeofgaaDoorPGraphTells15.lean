/- Texts of the law GraphTells, merged: GrTells. -/
import Derived.Test.YtnkcmlngoeofgaaDoorPGraphTells12
import Derived.Test.YtnkcmlngoeofgaaDoorPGraphTells13
import Derived.Test.YtnkcmlngoeofgaaDoorPGraphTells14
/- GraphTells, its walk. -/
namespace Go.Proofs.YtnkcmlngoeofgaaDoor
open Go.RowKit
theorem rightV_lens (r : Raw) (n : Nat) : (rightV r n).X.length ≤ 60 ∧ (rightV r n).Y.length ≤ 60 ∧ (rightV r n).arcs.length ≤ 60 := by
  refine ⟨?_, ?_, ?_⟩
  · show ((List.range (1 + n % 12)).map _).length ≤ 60
    rw [List.length_map, List.length_range]; omega
  · show ((List.range (1 + n % 12)).map _).length ≤ 60
    rw [List.length_map, List.length_range]; omega
  · show ((r.arcs.take 40).map _).length ≤ 60
    rw [List.length_map, List.length_take]; omega
theorem same_isT (va vb : Value) (a c : Raw) (x : Bool) (w : World) (ha : RawV w va a) (hb : RawV w vb c) (hx : sameB a c = x) : Calls Tryd.prog 22 #[va, vb] w fun e w' => e = .returned (.bool x) ∧ Below w.heap.size w w' := by
  subst hx; exact same_any va vb a c w ha hb
theorem refSame_isT (va vb : Value) (a c : Raw) (x : Bool) (w : World) (ha : RawV w va a) (hb : RawV w vb c) (hx : sameB a c = x) : Calls Tryd.prog 23 #[va, vb] w fun e w' => e = .returned (.bool x) ∧ Below w.heap.size w w' := by
  subst hx; exact refSame_any va vb a c w ha hb
theorem rows_two {lo : Nat} {u w : World} {e0 e1 : El} (hw : w = u.alloc (.cells (elC e0 ++ elC e1).toArray 25)) (hlo : lo ≤ u.heap.size) (h0 : ElOk w u.heap.size e0) (h1 : ElOk w u.heap.size e1) : LsR lo w u.heap.size 2 [e0, e1] := by
  refine ⟨⟨rfl, .inr ⟨u.heap.size, 2, _, rfl, hlo, (by rw [hw]; exact heap_alloc_new u _), Nat.le_refl _, by unfold maxLen; omega, rfl, by simp [elC]⟩⟩, fun e he => ?_⟩
  simp only [List.mem_cons, List.not_mem_nil, or_false] at he
  rcases he with rfl | rfl
  · exact h0
  · exact h1
/-- a graph that was made behind lo -/
def Bh (lo : Nat) (u : World) (e : El) : Prop := (∀ u' : World, (∀ k, lo ≤ k → k < u.heap.size → u'.heap[k]? = u.heap[k]?) → RawV u' (elV e) e.2.2.2) ∧ (e.2.2.2.X.length ≤ 100 ∧ e.2.2.2.Y.length ≤ 100 ∧ e.2.2.2.arcs.length ≤ 100)
theorem Bh.later {lo : Nat} {u u2 : World} {e : El} (h : Bh lo u e) (hb : Below u.heap.size u u2) : Bh lo u2 e := ⟨fun u' hu => h.1 u' fun k h1 h2 => (hu k h1 (Nat.lt_of_lt_of_le h2 hb.size)).trans (hb.block k h2), h.2⟩
set_option maxRecDepth 100000 in
set_option maxHeartbeats 32000000 in
theorem graphTells_any (v : Value) (r0 : Raw) (nn p0 q0 p1 q1 p2 q2 : Nat) (m0 m1 m2 : Int) (w : World) (h : RawV w v r0) (hn : nn < 256) (hp0 : p0 < 256) (hq0 : q0 < 256) (hp1 : p1 < 256) (hq1 : q1 < 256) (hp2 : p2 < 256) (hq2 : q2 < 256) (hg : HG w) : Calls Tryd.prog 4 #[v, .int .u8 (nn : Nat), .agg #[.int .u8 (p0 : Nat), .int .u8 (q0 : Nat), .int .i64 m0, .int .u8 (p1 : Nat), .int .u8 (q1 : Nat), .int .i64 m1, .int .u8 (p2 : Nat), .int .u8 (q2 : Nat), .int .i64 m2]] w fun e w' => e = .returned (.bool true) ∧ Below w.heap.size w w' := by
  have HR0 := Lib.hid h
  obtain ⟨rx, ry, rz, rfl, fx, fy, fz⟩ := id h
  obtain ⟨xa, xc, rfl, _⟩ := id fx
  obtain ⟨ya, yc, rfl, _⟩ := id fy
  obtain ⟨za, zc, rfl, _⟩ := id fz
  obtain ⟨B3, hB3⟩ : ∃ b, b = w.heap.size := ⟨_, rfl⟩
  obtain ⟨B5, hB5⟩ : ∃ b, b = w.heap.size + 1 := ⟨_, rfl⟩
  obtain ⟨w1, hw1⟩ : ∃ u, u = (w.alloc (.cells #[.int .i64 r0.nodes, .slice xa r0.X.length xc, .slice ya r0.Y.length yc, .slice za r0.arcs.length zc] 25)).alloc (.cells #[.int .u8 (p0 : Nat), .int .u8 (q0 : Nat), .int .i64 m0, .int .u8 (p1 : Nat), .int .u8 (q1 : Nat), .int .i64 m1, .int .u8 (p2 : Nat), .int .u8 (q2 : Nat), .int .i64 m2] 43) := ⟨_, rfl⟩
  have hb1 : Below w.heap.size w w1 := by rw [hw1]; exact ((Below.refl _ _).alloc (Nat.le_refl _) _).alloc (by simp) _
  have K3 : Blk w1 B3 #[.int .i64 r0.nodes, .slice xa r0.X.length xc, .slice ya r0.Y.length yc, .slice za r0.arcs.length zc] 25 (0, 0) := by rw [hw1, hB3]; exact (Blk.new _ _ _ _).alloc _
  have K5 : Blk w1 B5 #[.int .u8 (p0 : Nat), .int .u8 (q0 : Nat), .int .i64 m0, .int .u8 (p1 : Nat), .int .u8 (q1 : Nat), .int .i64 m1, .int .u8 (p2 : Nat), .int .u8 (q2 : Nat), .int .i64 m2] 43 (0, 0) := by
    rw [hw1, hB5]
    have h := Blk.new (w.alloc (.cells #[.int .i64 r0.nodes, .slice xa r0.X.length xc, .slice ya r0.Y.length yc, .slice za r0.arcs.length zc] 25)) #[.int .u8 (p0 : Nat), .int .u8 (q0 : Nat), .int .i64 m0, .int .u8 (p1 : Nat), .int .u8 (q1 : Nat), .int .i64 m1, .int .u8 (p2 : Nat), .int .u8 (q2 : Nat), .int .i64 m2] 43 (0, 0)
    rwa [World.size_alloc] at h
  have HB1 := Lib.hid hb1; have HK3 := Lib.hid K3; have HK5 := Lib.hid K5; have HW1 := Lib.hid hw1; have HG0 := Lib.hid hg; have HE3 := Lib.hid hB3; have HE5 := Lib.hid hB5; have HL3 := Lib.hid (show w.heap.size ≤ B3 by omega); have HN35 := Lib.hid (show B5 ≠ B3 by omega)
  clear h hb1 K3 K5 hw1 hg hB3 hB5 fx fy fz
  go_enter Tryd.func4, Tryd.ntmps4
  go_wp2_with fail
  rw [← HW1.out, ← HE5.out, ← HE3.out]
  clear HW1 HE3 HE5
  have c0 := HK3.out.cell 0; have c1 := HK3.out.cell 1; have c2 := HK3.out.cell 2; have c3 := HK3.out.cell 3
  change w1.cell? ⟨B3, 0, none⟩ = some (.int .i64 r0.nodes) at c0
  change w1.cell? ⟨B3, 1, none⟩ = some (.slice xa r0.X.length xc) at c1
  change w1.cell? ⟨B3, 2, none⟩ = some (.slice ya r0.Y.length yc) at c2
  change w1.cell? ⟨B3, 3, none⟩ = some (.slice za r0.arcs.length zc) at c3
  try go_wp2_with fail
  clear c0 c1 c2 c3
  refine (few_anyW _ r0 w1 (HR0.out.below HB1.out)).mono ?_
  rintro e w3 ⟨v3, rfl, hr3, hb3⟩
  obtain ⟨q, hq⟩ : ∃ q, q = fewR r0 := ⟨_, rfl⟩
  have hql := fewR_few r0
  have hrq := hr3 w HR0.out
  rw [← hq] at hql hrq
  obtain ⟨qx, qy, qz, rfl, fx, fy, fz⟩ := id hrq
  obtain ⟨qxa, qxc, rfl, _⟩ := fx
  obtain ⟨qya, qyc, rfl, _⟩ := fy
  obtain ⟨qza, qzc, rfl, _⟩ := fz
  have k3 := HK3.out.below hb3 HK3.out.lt
  have k5 := HK5.out.below hb3 HK5.out.lt
  have kz := (((k3.set 0 (.int .i64 q.nodes)).set 1 (.slice qxa q.X.length qxc)).set 2 (.slice qya q.Y.length qyc)).set 3 (.slice qza q.arcs.length qzc)
  have k5z := (((k5.setOther ⟨B3, 0, none⟩ (.int .i64 q.nodes) HN35.out).setOther ⟨B3, 1, none⟩ (.slice qxa q.X.length qxc) HN35.out).setOther ⟨B3, 2, none⟩ (.slice qya q.Y.length qyc) HN35.out).setOther ⟨B3, 3, none⟩ (.slice qza q.arcs.length qzc) HN35.out
  have hbz := ((((HB1.out.next' hb3).setCell (p := ⟨B3, 0, none⟩) HL3.out (.int .i64 q.nodes)).setCell (p := ⟨B3, 1, none⟩) HL3.out (.slice qxa q.X.length qxc)).setCell (p := ⟨B3, 2, none⟩) HL3.out (.slice qya q.Y.length qyc)).setCell (p := ⟨B3, 3, none⟩) HL3.out (.slice qza q.arcs.length qzc)
  have e0 := k3.cell 0; have e1 := k3.cell 1; have e2 := k3.cell 2; have e3 := k3.cell 3
  simp only [List.getElem?_toArray, List.getElem?_cons_succ, List.getElem?_cons_zero] at e0 e1 e2 e3
  have fr := fun i => k3.free i (Or.inr (Nat.zero_le _))
  have f0 := fr 0; have f1 := fr 1; have f2 := fr 2; have f3 := fr 3
  have HKz := Lib.hid kz; have HK5z := Lib.hid k5z; have HBz := Lib.hid hbz; have HRq := Lib.hid hrq; have HQl := Lib.hid hql
  clear hq hr3 hql hrq k3 k5 kz k5z hbz fr HB1 HK3 HK5 hb3 HR0
  go_upto_region 2 with fail
  clear e0 e1 e2 e3 f0 f1 f2 f3
  generalize (((w3.setCell ⟨B3, 0, none⟩ (.int .i64 q.nodes)).setCell ⟨B3, 1, none⟩ (.slice qxa q.X.length qxc)).setCell ⟨B3, 2, none⟩ (.slice qya q.Y.length qyc)).setCell ⟨B3, 3, none⟩ (.slice qza q.arcs.length qzc) = W4 at *
  have HSS := Lib.hid (show ∀ u, Below W4.heap.size W4 u → (u.cell? ⟨B3, 0, none⟩ = some (.int .i64 q.nodes) ∧ u.cell? ⟨B3, 1, none⟩ = some (.slice qxa q.X.length qxc) ∧ u.cell? ⟨B3, 2, none⟩ = some (.slice qya q.Y.length qyc) ∧ u.cell? ⟨B3, 3, none⟩ = some (.slice qza q.arcs.length qzc)) from fun u hu => by
    have k := HKz.out.below hu HKz.out.lt
    exact ⟨k.cell 0, k.cell 1, k.cell 2, k.cell 3⟩)
  refine wp_region_heldD (fun w' => w'.cell? ⟨B3, 0, none⟩ = some (.int .i64 q.nodes) ∧ w'.cell? ⟨B3, 1, none⟩ = some (.slice qxa q.X.length qxc) ∧ w'.cell? ⟨B3, 2, none⟩ = some (.slice qya q.Y.length qyc) ∧ w'.cell? ⟨B3, 3, none⟩ = some (.slice qza q.arcs.length qzc)) 5 rfl ?_
  change heldD _ _ _ _ _ _ _ 6 _ _ W4.drew
  obtain ⟨wk0, hu0⟩ : ∃ u, u = W4.drew := ⟨_, rfl⟩
  have HBu := Lib.hid (show Below W4.heap.size W4 wk0 by rw [hu0]; exact (Below.refl _ _).drew)
  rw [← hu0]
  clear hu0
  refine heldD_take (i := 0) (v := .agg #[.int .i64 q.nodes, .slice qxa q.X.length qxc, .slice qya q.Y.length qyc, .slice qza q.arcs.length qzc]) rfl rfl rfl (by kernel_rfl) (by kernel_rfl) (by kernel_rfl) (by kernel_rfl) (by kernel_rfl) (by kernel_rfl) (fun _ _ _ h => h) (by rfl) (fun w hS => ⟨by rfl, by obtain ⟨hS1, hS2, hS3, hS4⟩ := hS; go_simp⟩) (HSS.out _ HBu.out) ?_
  simp only [List.setIfInBounds_toArray, List.set_cons_zero, List.set_cons_succ]
  refine heldD_take (i := 1) (v := .agg #[.int .i64 q.nodes, .slice qxa q.X.length qxc, .slice qya q.Y.length qyc, .slice qza q.arcs.length qzc]) rfl rfl rfl (by kernel_rfl) (by kernel_rfl) (by kernel_rfl) (by kernel_rfl) (by kernel_rfl) (by kernel_rfl) (fun _ _ _ h => h) (by rfl) (fun w hS => ⟨by rfl, by obtain ⟨hS1, hS2, hS3, hS4⟩ := hS; go_simp⟩) (HSS.out _ HBu.out) ?_
  simp only [List.setIfInBounds_toArray, List.set_cons_zero, List.set_cons_succ]
  refine heldD_takeF (i := 2) (v := .int .u8 (nn : Nat)) rfl rfl rfl (by kernel_rfl) (by kernel_rfl) (by kernel_rfl) (by kernel_rfl) (fun _ _ _ h => h) (by rfl) (fun w => ⟨by rfl, by go_simp⟩) (fun _ => HSS.out _ HBu.out) ?_
  simp only [List.setIfInBounds_toArray, List.set_cons_zero, List.set_cons_succ]
  refine heldD_HT ?_
  intro H hH T hT
  have HH := Lib.hid hH; have HT := Lib.hid hT
  clear hH hT
  suffices st_3_4 : ∀ (u : World) (gxa : Option Addr) (gxc : Nat) (gya : Option Addr) (gyc : Nat) (gza : Option Addr) (gzc : Nat) (Gl : Nat), Hid (Below W4.heap.size W4 u) → Hid (∃ b0, RawO b0 u (.agg #[.int .i64 (rightV q nn).nodes, .slice gxa (rightV q nn).X.length gxc, .slice gya (rightV q nn).Y.length gyc, .slice gza (rightV q nn).arcs.length gzc]) (rightV q nn)) → Hid (LsR W4.heap.size u Gl 2 [((.slice qxa q.X.length qxc, .slice qya q.Y.length qyc, .slice qza q.arcs.length qzc, q) : El), ((.slice gxa (rightV q nn).X.length gxc, .slice gya (rightV q nn).Y.length gyc, .slice gza (rightV q nn).arcs.length gzc, rightV q nn) : El)]) → H 1 #[true, true, true, true, true, false] { tmps := ((T.setIfInBounds 15 (.agg #[.int .i64 (rightV q nn).nodes, .slice gxa (rightV q nn).X.length gxc, .slice gya (rightV q nn).Y.length gyc, .slice gza (rightV q nn).arcs.length gzc])).setIfInBounds 16 (.slice (some ⟨Gl, 0, none⟩) 2 2)), defers := [] } u from by
    have st_3 : ∀ (u : World) (gxa : Option Addr) (gxc : Nat) (gya : Option Addr) (gyc : Nat) (gza : Option Addr) (gzc : Nat), Hid (Below W4.heap.size W4 u) → Hid (∃ b0, RawO b0 u (.agg #[.int .i64 (rightV q nn).nodes, .slice gxa (rightV q nn).X.length gxc, .slice gya (rightV q nn).Y.length gyc, .slice gza (rightV q nn).arcs.length gzc]) (rightV q nn)) → H 2 #[true, true, true, true, false, false] { tmps := (T.setIfInBounds 15 (.agg #[.int .i64 (rightV q nn).nodes, .slice gxa (rightV q nn).X.length gxc, .slice gya (rightV q nn).Y.length gyc, .slice gza (rightV q nn).arcs.length gzc])), defers := [] } u := by
      clear HBu
      intro u gxa gxc gya gyc gza gzc HBu HF3
      rw [HH.out, HT.out]
      simp only [List.setIfInBounds_toArray, List.set_cons_zero, List.set_cons_succ]
      refine heldD_one (i := 4) (by kernel_rfl) ?_
      have hb : Below u.heap.size u (u.alloc (.cells #[.int .i64 q.nodes, .slice qxa q.X.length qxc, .slice qya q.Y.length qyc, .slice qza q.arcs.length qzc, .int .i64 (rightV q nn).nodes, .slice gxa (rightV q nn).X.length gxc, .slice gya (rightV q nn).Y.length gyc, .slice gza (rightV q nn).arcs.length gzc] 25)) := (Below.refl _ _).alloc (Nat.le_refl _) _
      obtain ⟨b0, hb0⟩ := HF3.out
      have hf : LsR W4.heap.size (u.alloc (.cells #[.int .i64 q.nodes, .slice qxa q.X.length qxc, .slice qya q.Y.length qyc, .slice qza q.arcs.length qzc, .int .i64 (rightV q nn).nodes, .slice gxa (rightV q nn).X.length gxc, .slice gya (rightV q nn).Y.length gyc, .slice gza (rightV q nn).arcs.length gzc] 25)) u.heap.size 2 [((.slice qxa q.X.length qxc, .slice qya q.Y.length qyc, .slice qza q.arcs.length qzc, q) : El), ((.slice gxa (rightV q nn).X.length gxc, .slice gya (rightV q nn).Y.length gyc, .slice gza (rightV q nn).arcs.length gzc, rightV q nn) : El)] := rows_two rfl HBu.out.size (ElOk.old HRq.out ((HBz.out.next' HBu.out).next' hb) (HBz.out.next' HBu.out).size (by have := HQl.out; dsimp only; omega)) (ElOk.made hb0 hb (Nat.le_refl _) (by have := rightV_lens q nn; dsimp only; omega))
      refine wpOpIn_value (v := .slice (some ⟨u.heap.size, 0, none⟩) 2 2) (w' := (u.alloc (.cells #[.int .i64 q.nodes, .slice qxa q.X.length qxc, .slice qya q.Y.length qyc, .slice qza q.arcs.length qzc, .int .i64 (rightV q nn).nodes, .slice gxa (rightV q nn).X.length gxc, .slice gya (rightV q nn).Y.length gyc, .slice gza (rightV q nn).arcs.length gzc] 25))) rfl rfl rfl (by rfl) (by rfl) (by go_simp) ?_
      have HBu0 := HBu
      have HBu : Hid (Below W4.heap.size W4 (u.alloc (.cells #[.int .i64 q.nodes, .slice qxa q.X.length qxc, .slice qya q.Y.length qyc, .slice qza q.arcs.length qzc, .int .i64 (rightV q nn).nodes, .slice gxa (rightV q nn).X.length gxc, .slice gya (rightV q nn).Y.length gyc, .slice gza (rightV q nn).arcs.length gzc] 25))) := Lib.hid (HBu0.out.trans (hb.mono HBu0.out.size))
      refine ⟨fun _ => HSS.out _ HBu.out, ?_⟩
      simp only [List.setIfInBounds_toArray, List.set_cons_zero, List.set_cons_succ]
      have q := st_3_4 _ gxa gxc gya gyc gza gzc u.heap.size HBu (Lib.hid (HF3.out.imp fun _ h => h.below hb)) (Lib.hid hf)
      rw [HH.out, HT.out] at q
      simp only [List.setIfInBounds_toArray, List.set_cons_zero, List.set_cons_succ] at q ⊢
      exact q
    have st_ : ∀ (u : World), Hid (Below W4.heap.size W4 u) → H 3 #[true, true, true, false, false, false] { tmps := T, defers := [] } u := by
      clear HBu
      intro u HBu
      rw [HH.out, HT.out]
      refine heldD_one (i := 3) (by kernel_rfl) ?_
      refine wpOpIn_calls' (f := 13) (args := #[.agg #[.int .i64 q.nodes, .slice qxa q.X.length qxc, .slice qya q.Y.length qyc, .slice qza q.arcs.length qzc], .int .u8 (nn : Nat)]) rfl rfl (by rfl) (by go_simp) (right_anyO (.agg #[.int .i64 q.nodes, .slice qxa q.X.length qxc, .slice qya q.Y.length qyc, .slice qza q.arcs.length qzc]) q nn u (HRq.out.below (HBz.out.next' HBu.out)) hn) ?_
      rintro e u2 ⟨vg, rfl, hr, hb⟩
      obtain ⟨_, _, _, rfl, h4⟩ := id hr
      have h4 : Own3 _ _ _ _ _ _ := h4
      obtain ⟨gxa, gxc, rfl, _⟩ := ownForm h4.1
      obtain ⟨gya, gyc, rfl, _⟩ := ownForm h4.2.1
      obtain ⟨gza, gzc, rfl, _⟩ := ownForm h4.2.2.1
      refine ⟨_, rfl, ?_⟩
      have hf : ∃ b0, RawO b0 u2 (.agg #[.int .i64 (rightV q nn).nodes, .slice gxa (rightV q nn).X.length gxc, .slice gya (rightV q nn).Y.length gyc, .slice gza (rightV q nn).arcs.length gzc]) (rightV q nn) := ⟨_, hr⟩
      have HBu0 := HBu
      have HBu : Hid (Below W4.heap.size W4 u2) := Lib.hid (HBu0.out.trans (hb.mono HBu0.out.size))
      refine ⟨fun _ => HSS.out _ HBu.out, ?_⟩
      simp only [List.setIfInBounds_toArray, List.set_cons_zero, List.set_cons_succ]
      have q := st_3 _ gxa gxc gya gyc gza gzc HBu (Lib.hid hf)
      rw [HH.out, HT.out] at q
      simp only [List.setIfInBounds_toArray, List.set_cons_zero, List.set_cons_succ] at q ⊢
      exact q
    exact st_ wk0 HBu
  clear HBu
  intro u gxa gxc gya gyc gza gzc Gl HBu HF3 HF4
  rw [HH.out, HT.out]
  simp only [List.setIfInBounds_toArray, List.set_cons_zero, List.set_cons_succ]
  clear HH HT
  refine heldD_one (i := 5) (by kernel_rfl) ?_
  refine wpOpIn_value (v := .slice (some ⟨Gl, 0, none⟩) 2 2) (w' := u) rfl rfl rfl (by rfl) (by rfl) (by go_simp) ?_
  refine ⟨fun h => (by cases h), ?_⟩
  simp only [List.setIfInBounds_toArray, List.set_cons_zero, List.set_cons_succ]
  refine heldD_done (by kernel_rfl) ?_ _
  have HB4 := HBu; have HLs := HF4
  clear HBu HF3 HF4 HSS HKz
  go_wp2_with fail
  go_loopw [7, 8] (fun l i wr => ∃ (k n g c : Nat) (L : List El), k ≤ 3 ∧ l = .slice (some ⟨g, 0, none⟩) n c ∧ i = .int .i64 k ∧ Hid (n = k + 2 ∧ L.length = n ∧ LsR W4.heap.size wr g c L ∧ Below W4.heap.size W4 wr ∧ ∀ e ∈ L, e.2.2.2.X.length ≤ 60 + k)) (fun _ i _ => 3 - (intOf i).toNat)
  case atStart => exact ⟨0, 2, _, _, _, by omega, rfl, rfl, Lib.hid ⟨rfl, rfl, HLs.out, HB4.out, fun e he => by simp only [List.mem_cons, List.not_mem_nil, or_false] at he; rcases he with rfl | rfl <;> (have h1 := HQl.out; have h2 := rightV_lens q nn; dsimp only; omega)⟩⟩
  clear HLs HB4
  obtain ⟨k, n, g, c, L, hk, rfl, rfl, hrel⟩ := hrel
  have HN := Lib.hid hrel.out.1; have HL := Lib.hid hrel.out.2.1; have HLs := Lib.hid hrel.out.2.2.1; have HBr := Lib.hid hrel.out.2.2.2.1; have HXk := Lib.hid hrel.out.2.2.2.2
  clear hrel
  by_cases hk3 : k < 3
  case pos =>
    obtain ⟨e, he⟩ : ∃ e, L[k + 1]? = some e := ⟨_, List.getElem?_eq_getElem (by have := HL.out; have := HN.out; omega)⟩
    have HeO := Lib.hid (HLs.out.ok e (List.mem_of_getElem? he))
    have HCe := Lib.hid (HLs.out.cells (k + 1) e he)
    obtain ⟨ea, eb, ec, er⟩ := e
    obtain ⟨ea1, ea2, ea3, eb1, eb2, eb3, ec1, ec2, ec3, rfl, rfl, rfl⟩ : ∃ a1 n1 c1 a2 n2 c2 a3 n3 c3, ea = .slice a1 n1 c1 ∧ eb = .slice a2 n2 c2 ∧ ec = .slice a3 n3 c3 := RawV.forms (e := (ea, eb, ec, er)) (HeO.out.at (Below.refl _ _))
    have HeX := Lib.hid (HXk.out _ (List.mem_of_getElem? he))
    clear he
    have hc : k = 0 ∨ k = 1 ∨ k = 2 := by omega
    rcases hc with rfl | rfl | rfl
    · have hn2 : n = 2 := by have := HN.out; omega
      subst hn2
      have HSS := Lib.hid (show ∀ u, Below wr.heap.size wr u → (u.cell? ⟨B5, 0, none⟩ = some (.int .u8 (p0 : Nat)) ∧ u.cell? ⟨B5, 1, none⟩ = some (.int .u8 (q0 : Nat)) ∧ u.cell? ⟨B5, 2, none⟩ = some (.int .i64 m0) ∧ u.cell? ⟨g, 4, none⟩ = some (.int .i64 er.nodes) ∧ u.cell? ⟨g, 5, none⟩ = some (.slice ea1 ea2 ea3) ∧ u.cell? ⟨g, 6, none⟩ = some (.slice eb1 eb2 eb3) ∧ u.cell? ⟨g, 7, none⟩ = some (.slice ec1 ec2 ec3)) from fun u hu => by
        have k5 := HK5z.out.below (HBr.out.next' hu) HK5z.out.lt
        have hcl := fun i v (h : wr.cell? ⟨g, i, none⟩ = some v) => cell_later hu h
        exact ⟨k5.cell 0, k5.cell 1, k5.cell 2, hcl _ _ HCe.out.1, hcl _ _ HCe.out.2.1, hcl _ _ HCe.out.2.2.1, hcl _ _ HCe.out.2.2.2⟩)
      have hwk : IntKind.i64.wrap 1 = 1 := by rw [IntKind.wrap_i64]; omega
      go_wp2_with fail
      refine wp_region_heldD (fun w' => w'.cell? ⟨B5, 0, none⟩ = some (.int .u8 (p0 : Nat)) ∧ w'.cell? ⟨B5, 1, none⟩ = some (.int .u8 (q0 : Nat)) ∧ w'.cell? ⟨B5, 2, none⟩ = some (.int .i64 m0) ∧ w'.cell? ⟨g, 4, none⟩ = some (.int .i64 er.nodes) ∧ w'.cell? ⟨g, 5, none⟩ = some (.slice ea1 ea2 ea3) ∧ w'.cell? ⟨g, 6, none⟩ = some (.slice eb1 eb2 eb3) ∧ w'.cell? ⟨g, 7, none⟩ = some (.slice ec1 ec2 ec3)) 12 rfl ?_
      change heldD _ _ _ _ _ _ _ 14 _ _ wr.drew
      obtain ⟨wk0, hu0⟩ : ∃ u, u = wr.drew := ⟨_, rfl⟩
      have HBu := Lib.hid (show Below wr.heap.size wr wk0 by rw [hu0]; exact (Below.refl _ _).drew)
      rw [← hu0]
      clear hu0
      refine heldD_takeF (i := 0) (v := .slice (some ⟨g, 0, none⟩) 2 c) rfl rfl rfl (by kernel_rfl) (by kernel_rfl) (by kernel_rfl) (by kernel_rfl) (fun _ _ _ h => h) (by rfl) (fun w => ⟨by rfl, by go_simp⟩) (fun _ => HSS.out _ HBu.out) ?_
      simp only [List.setIfInBounds_toArray, List.set_cons_zero, List.set_cons_succ]
      refine heldD_takeF (i := 1) (v := .int .i64 0) rfl rfl rfl (by kernel_rfl) (by kernel_rfl) (by kernel_rfl) (by kernel_rfl) (fun _ _ _ h => h) (by rfl) (fun w => ⟨by rfl, by go_simp⟩) (fun _ => HSS.out _ HBu.out) ?_
      simp only [List.setIfInBounds_toArray, List.set_cons_zero, List.set_cons_succ]
      refine heldD_takeF (i := 2) (v := .pointer (some ⟨B5, 0, none⟩)) rfl rfl rfl (by kernel_rfl) (by kernel_rfl) (by kernel_rfl) (by kernel_rfl) (fun _ _ _ h => h) (by rfl) (fun w => ⟨by rfl, by go_simp⟩) (fun _ => HSS.out _ HBu.out) ?_
      simp only [List.setIfInBounds_toArray, List.set_cons_zero, List.set_cons_succ]
      refine heldD_takeC (i := 3) (v := .agg #[.int .u8 (p0 : Nat), .int .u8 (q0 : Nat), .int .i64 m0]) [10, 12] rfl rfl rfl (by kernel_rfl) (by kernel_rfl) (by kernel_rfl) (by kernel_rfl) (by kernel_rfl) (by kernel_rfl) (fun _ _ _ h => h) (by rfl) (fun w hS => ⟨by rfl, by obtain ⟨hS1, hS2, hS3, hS4, hS5, hS6, hS7⟩ := hS; go_simp⟩) (HSS.out _ HBu.out) ?_
      simp only [List.setIfInBounds_toArray, List.set_cons_zero, List.set_cons_succ]
      refine heldD_takeF (i := 4) (v := .slice (some ⟨g, 0, none⟩) 2 c) rfl rfl rfl (by kernel_rfl) (by kernel_rfl) (by kernel_rfl) (by kernel_rfl) (fun _ _ _ h => h) (by rfl) (fun w => ⟨by rfl, by go_simp⟩) (fun _ => HSS.out _ HBu.out) ?_
      simp only [List.setIfInBounds_toArray, List.set_cons_zero, List.set_cons_succ]
      refine heldD_takeF (i := 5) (v := .slice (some ⟨g, 0, none⟩) 2 c) rfl rfl rfl (by kernel_rfl) (by kernel_rfl) (by kernel_rfl) (by kernel_rfl) (fun _ _ _ h => h) (by rfl) (fun w => ⟨by rfl, by go_simp⟩) (fun _ => HSS.out _ HBu.out) ?_
      simp only [List.setIfInBounds_toArray, List.set_cons_zero, List.set_cons_succ]
      refine heldD_takeF (i := 6) (v := .int .i64 2) rfl rfl rfl (by kernel_rfl) (by kernel_rfl) (by kernel_rfl) (by kernel_rfl) (fun _ _ _ h => h) (by rfl) (fun w => ⟨by rfl, by go_simp⟩) (fun _ => HSS.out _ HBu.out) ?_
      simp only [List.setIfInBounds_toArray, List.set_cons_zero, List.set_cons_succ]
      refine heldD_takeF (i := 7) (v := .int .i64 1) rfl rfl rfl (by kernel_rfl) (by kernel_rfl) (by kernel_rfl) (by kernel_rfl) (fun _ _ _ h => h) (by rfl) (fun w => ⟨by rfl, by go_simp⟩) (fun _ => HSS.out _ HBu.out) ?_
      simp only [List.setIfInBounds_toArray, List.set_cons_zero, List.set_cons_succ]
      refine heldD_takeF (i := 8) (v := .pointer (some ⟨g, 4, none⟩)) rfl rfl rfl (by kernel_rfl) (by kernel_rfl) (by kernel_rfl) (by kernel_rfl) (fun _ _ _ h => h) (by rfl) (fun w => ⟨by rfl, by go_simp⟩) (fun _ => HSS.out _ HBu.out) ?_
      simp only [List.setIfInBounds_toArray, List.set_cons_zero, List.set_cons_succ]
      refine heldD_takeC (i := 9) (v := .agg #[.int .i64 er.nodes, .slice ea1 ea2 ea3, .slice eb1 eb2 eb3, .slice ec1 ec2 ec3]) [10, 12] rfl rfl rfl (by kernel_rfl) (by kernel_rfl) (by kernel_rfl) (by kernel_rfl) (by kernel_rfl) (by kernel_rfl) (fun _ _ _ h => h) (by rfl) (fun w hS => ⟨by rfl, by obtain ⟨hS1, hS2, hS3, hS4, hS5, hS6, hS7⟩ := hS; go_simp⟩) (HSS.out _ HBu.out) ?_
      simp only [List.setIfInBounds_toArray, List.set_cons_zero, List.set_cons_succ]
      refine heldD_HT ?_
      intro H hH T hT
      have HH := Lib.hid hH; have HT := Lib.hid hT
      clear hH hT
      suffices st_10_11 : ∀ (u : World) (t : Raw) (ta1 : Option Addr) (ta2 : Nat) (ta3 : Nat) (tb1 : Option Addr) (tb2 : Nat) (tb3 : Nat) (tc1 : Option Addr) (tc2 : Nat) (tc3 : Nat) (Bn : Nat), Hid (Below wr.heap.size wr u) → Hid (Bh wr.heap.size u ((.slice ta1 ta2 ta3, .slice tb1 tb2 tb3, .slice tc1 tc2 tc3, t) : El) ∧ (t.X.length ≤ er.X.length + 1 ∧ t.Y.length ≤ er.Y.length ∧ t.arcs.length ≤ er.arcs.length)) → Hid (Blk u Bn #[.int .i64 t.nodes, .slice ta1 ta2 ta3, .slice tb1 tb2 tb3, .slice tc1 tc2 tc3] 25 (0, 0)) → H 2 #[true, true, true, true, true, true, true, true, true, true, true, true, false, false] { tmps := ((T.setIfInBounds 31 (.agg #[.int .i64 t.nodes, .slice ta1 ta2 ta3, .slice tb1 tb2 tb3, .slice tc1 tc2 tc3])).setIfInBounds 32 (.slice (some ⟨Bn, 0, none⟩) 1 1)), defers := [] } u from by
        have st_10 : ∀ (u : World) (t : Raw) (ta1 : Option Addr) (ta2 : Nat) (ta3 : Nat) (tb1 : Option Addr) (tb2 : Nat) (tb3 : Nat) (tc1 : Option Addr) (tc2 : Nat) (tc3 : Nat), Hid (Below wr.heap.size wr u) → Hid (Bh wr.heap.size u ((.slice ta1 ta2 ta3, .slice tb1 tb2 tb3, .slice tc1 tc2 tc3, t) : El) ∧ (t.X.length ≤ er.X.length + 1 ∧ t.Y.length ≤ er.Y.length ∧ t.arcs.length ≤ er.arcs.length)) → H 3 #[true, true, true, true, true, true, true, true, true, true, true, false, false, false] { tmps := (T.setIfInBounds 31 (.agg #[.int .i64 t.nodes, .slice ta1 ta2 ta3, .slice tb1 tb2 tb3, .slice tc1 tc2 tc3])), defers := [] } u := by
          clear HBu
          intro u t ta1 ta2 ta3 tb1 tb2 tb3 tc1 tc2 tc3 HBu HF10
          rw [HH.out, HT.out]
          simp only [List.setIfInBounds_toArray, List.set_cons_zero, List.set_cons_succ]
          refine heldD_one (i := 11) (by kernel_rfl) ?_
          have hb : Below u.heap.size u (u.alloc (.cells #[.int .i64 t.nodes, .slice ta1 ta2 ta3, .slice tb1 tb2 tb3, .slice tc1 tc2 tc3] 25)) := (Below.refl _ _).alloc (Nat.le_refl _) _
          have hf : Blk (u.alloc (.cells #[.int .i64 t.nodes, .slice ta1 ta2 ta3, .slice tb1 tb2 tb3, .slice tc1 tc2 tc3] 25)) u.heap.size #[.int .i64 t.nodes, .slice ta1 ta2 ta3, .slice tb1 tb2 tb3, .slice tc1 tc2 tc3] 25 (0, 0) := Blk.new _ _ _ _
          refine wpOpIn_value (v := .slice (some ⟨u.heap.size, 0, none⟩) 1 1) (w' := (u.alloc (.cells #[.int .i64 t.nodes, .slice ta1 ta2 ta3, .slice tb1 tb2 tb3, .slice tc1 tc2 tc3] 25))) rfl rfl rfl (by rfl) (by rfl) (by go_simp) ?_
          have HBu0 := HBu
          have HBu : Hid (Below wr.heap.size wr (u.alloc (.cells #[.int .i64 t.nodes, .slice ta1 ta2 ta3, .slice tb1 tb2 tb3, .slice tc1 tc2 tc3] 25))) := Lib.hid (HBu0.out.trans (hb.mono HBu0.out.size))
          refine ⟨fun _ => HSS.out _ HBu.out, ?_⟩
          simp only [List.setIfInBounds_toArray, List.set_cons_zero, List.set_cons_succ]
          have q := st_10_11 _ t ta1 ta2 ta3 tb1 tb2 tb3 tc1 tc2 tc3 u.heap.size HBu (Lib.hid (⟨HF10.out.1.later hb, HF10.out.2⟩)) (Lib.hid hf)
          rw [HH.out, HT.out] at q
          simp only [List.setIfInBounds_toArray, List.set_cons_zero, List.set_cons_succ] at q ⊢
          exact q
        have st_ : ∀ (u : World), Hid (Below wr.heap.size wr u) → H 4 #[true, true, true, true, true, true, true, true, true, true, false, false, false, false] { tmps := T, defers := [] } u := by
          clear HBu
          intro u HBu
          rw [HH.out, HT.out]
          refine heldD_one (i := 10) (by kernel_rfl) ?_
          refine wpOpIn_calls' (f := 19) (args := #[.agg #[.int .u8 (p0 : Nat), .int .u8 (q0 : Nat), .int .i64 m0], .agg #[.int .i64 er.nodes, .slice ea1 ea2 ea3, .slice eb1 eb2 eb3, .slice ec1 ec2 ec3]]) rfl rfl (by rfl) (by go_simp) (turn_any _ er p0 q0 m0 u (HeO.out.at HBu.out) (by have := HeO.out.lens; dsimp only at this; omega) hp0 hq0) ?_
          rintro e u2 ⟨v2, rfl, ⟨t, hr, l1, l2, l3⟩, hb⟩
          obtain ⟨_, _, _, rfl, fx, fy, fz⟩ := hr u2 (fun _ _ _ => rfl)
          obtain ⟨ta1, ta2, ta3, rfl⟩ := fx.form
          obtain ⟨tb1, tb2, tb3, rfl⟩ := fy.form
          obtain ⟨tc1, tc2, tc3, rfl⟩ := fz.form
          refine ⟨_, rfl, ?_⟩
          have hf : Bh wr.heap.size u2 ((.slice ta1 ta2 ta3, .slice tb1 tb2 tb3, .slice tc1 tc2 tc3, t) : El) ∧ (t.X.length ≤ er.X.length + 1 ∧ t.Y.length ≤ er.Y.length ∧ t.arcs.length ≤ er.arcs.length) := ⟨⟨fun u' hu => hr u' fun k h1 h2 => hu k (Nat.le_trans HBu.out.size h1) h2, by have := HeO.out.lens; have := HeX.out; dsimp only at *; omega⟩, l1, l2, l3⟩
          have HBu0 := HBu
          have HBu : Hid (Below wr.heap.size wr u2) := Lib.hid (HBu0.out.trans (hb.mono HBu0.out.size))
          refine ⟨fun _ => HSS.out _ HBu.out, ?_⟩
          simp only [List.setIfInBounds_toArray, List.set_cons_zero, List.set_cons_succ]
          have q := st_10 _ t ta1 ta2 ta3 tb1 tb2 tb3 tc1 tc2 tc3 HBu (Lib.hid hf)
          rw [HH.out, HT.out] at q
          simp only [List.setIfInBounds_toArray, List.set_cons_zero, List.set_cons_succ] at q ⊢
          exact q
        exact st_ wk0 HBu
      clear HBu
      intro u t ta1 ta2 ta3 tb1 tb2 tb3 tc1 tc2 tc3 Bn HBu HF10 HF11
      rw [HH.out, HT.out]
      simp only [List.setIfInBounds_toArray, List.set_cons_zero, List.set_cons_succ]
      clear HH HT
      obtain ⟨g', c', w', hr, hls, hbw⟩ := (HLs.out.below HBu.out).push (e := ((.slice ta1 ta2 ta3, .slice tb1 tb2 tb3, .slice tc1 tc2 tc3, t) : El)) HF11.out (fun g' hg' => ⟨fun u' h1 h2 => HF10.out.1.1 u' fun k hk hk2 => h2 k (by have := HLs.out.lt; rcases hg' with rfl | hg' <;> omega) hk2, HF10.out.1.2⟩) (by have := HL.out; omega) ⟨_, _, _, _, _, _, _, _, _, rfl, rfl, rfl⟩
      have hl1 : (L ++ [((.slice ta1 ta2 ta3, .slice tb1 tb2 tb3, .slice tc1 tc2 tc3, t) : El)]).length = 3 := by rw [List.length_append, HL.out]; rfl
      rw [hl1, HL.out] at hr
      have HR := Lib.hid hr; have HLn := Lib.hid hls; have HL1 := Lib.hid hl1
      have HBn := Lib.hid ((HBr.out.next' HBu.out).trans hbw)
      have HT := Lib.hid HF10.out.2.1
      clear hr hls hbw hl1
      refine heldD_one (i := 12) (by kernel_rfl) ?_
      refine wpOpIn_append rfl rfl rfl (by rfl) _ _ _ _ rfl HR.out ?_
      refine ⟨fun h => (by cases h), ?_⟩
      simp only [List.setIfInBounds_toArray, List.set_cons_zero, List.set_cons_succ]
      refine heldD_one (i := 13) (by kernel_rfl) ?_
      refine wpOpIn_value (v := .slice (some ⟨g', 0, none⟩) 3 c') (w' := w') rfl rfl rfl (by rfl) (by rfl) (by go_simp) ?_
      refine ⟨fun h => (by cases h), ?_⟩
      simp only [List.setIfInBounds_toArray, List.set_cons_zero, List.set_cons_succ]
      refine heldD_done (by kernel_rfl) ?_ _
      clear HSS HF10 HF11 HR HBu
      go_wp2_with fail
      go_roundw
      case rel => exact ⟨1, 3, _, _, _, by omega, rfl, rfl, Lib.hid ⟨rfl, HL1.out, HLn.out, HBn.out, fun e he => by
        rcases List.mem_append.1 he with he | he
        · have := HXk.out e he; omega
        · rw [List.mem_singleton.1 he]; have := HeX.out; have := HT.out; dsimp only at *; omega⟩⟩
      case measure => simp [intOf]
    · have hn2 : n = 3 := by have := HN.out; omega
      subst hn2
      have HSS := Lib.hid (show ∀ u, Below wr.heap.size wr u → (u.cell? ⟨B5, 3, none⟩ = some (.int .u8 (p1 : Nat)) ∧ u.cell? ⟨B5, 4, none⟩ = some (.int .u8 (q1 : Nat)) ∧ u.cell? ⟨B5, 5, none⟩ = some (.int .i64 m1) ∧ u.cell? ⟨g, 8, none⟩ = some (.int .i64 er.nodes) ∧ u.cell? ⟨g, 9, none⟩ = some (.slice ea1 ea2 ea3) ∧ u.cell? ⟨g, 10, none⟩ = some (.slice eb1 eb2 eb3) ∧ u.cell? ⟨g, 11, none⟩ = some (.slice ec1 ec2 ec3)) from fun u hu => by
        have k5 := HK5z.out.below (HBr.out.next' hu) HK5z.out.lt
        have hcl := fun i v (h : wr.cell? ⟨g, i, none⟩ = some v) => cell_later hu h
        exact ⟨k5.cell 3, k5.cell 4, k5.cell 5, hcl _ _ HCe.out.1, hcl _ _ HCe.out.2.1, hcl _ _ HCe.out.2.2.1, hcl _ _ HCe.out.2.2.2⟩)
      have hwk : IntKind.i64.wrap 2 = 2 := by rw [IntKind.wrap_i64]; omega
      go_wp2_with fail
      refine wp_region_heldD (fun w' => w'.cell? ⟨B5, 3, none⟩ = some (.int .u8 (p1 : Nat)) ∧ w'.cell? ⟨B5, 4, none⟩ = some (.int .u8 (q1 : Nat)) ∧ w'.cell? ⟨B5, 5, none⟩ = some (.int .i64 m1) ∧ w'.cell? ⟨g, 8, none⟩ = some (.int .i64 er.nodes) ∧ w'.cell? ⟨g, 9, none⟩ = some (.slice ea1 ea2 ea3) ∧ w'.cell? ⟨g, 10, none⟩ = some (.slice eb1 eb2 eb3) ∧ w'.cell? ⟨g, 11, none⟩ = some (.slice ec1 ec2 ec3)) 12 rfl ?_
      change heldD _ _ _ _ _ _ _ 14 _ _ wr.drew
      obtain ⟨wk0, hu0⟩ : ∃ u, u = wr.drew := ⟨_, rfl⟩
      have HBu := Lib.hid (show Below wr.heap.size wr wk0 by rw [hu0]; exact (Below.refl _ _).drew)
      rw [← hu0]
      clear hu0
      refine heldD_takeF (i := 0) (v := .slice (some ⟨g, 0, none⟩) 3 c) rfl rfl rfl (by kernel_rfl) (by kernel_rfl) (by kernel_rfl) (by kernel_rfl) (fun _ _ _ h => h) (by rfl) (fun w => ⟨by rfl, by go_simp⟩) (fun _ => HSS.out _ HBu.out) ?_
      simp only [List.setIfInBounds_toArray, List.set_cons_zero, List.set_cons_succ]
      refine heldD_takeF (i := 1) (v := .int .i64 1) rfl rfl rfl (by kernel_rfl) (by kernel_rfl) (by kernel_rfl) (by kernel_rfl) (fun _ _ _ h => h) (by rfl) (fun w => ⟨by rfl, by go_simp⟩) (fun _ => HSS.out _ HBu.out) ?_
      simp only [List.setIfInBounds_toArray, List.set_cons_zero, List.set_cons_succ]
      refine heldD_takeF (i := 2) (v := .pointer (some ⟨B5, 3, none⟩)) rfl rfl rfl (by kernel_rfl) (by kernel_rfl) (by kernel_rfl) (by kernel_rfl) (fun _ _ _ h => h) (by rfl) (fun w => ⟨by rfl, by go_simp⟩) (fun _ => HSS.out _ HBu.out) ?_
      simp only [List.setIfInBounds_toArray, List.set_cons_zero, List.set_cons_succ]
      refine heldD_takeC (i := 3) (v := .agg #[.int .u8 (p1 : Nat), .int .u8 (q1 : Nat), .int .i64 m1]) [10, 12] rfl rfl rfl (by kernel_rfl) (by kernel_rfl) (by kernel_rfl) (by kernel_rfl) (by kernel_rfl) (by kernel_rfl) (fun _ _ _ h => h) (by rfl) (fun w hS => ⟨by rfl, by obtain ⟨hS1, hS2, hS3, hS4, hS5, hS6, hS7⟩ := hS; go_simp⟩) (HSS.out _ HBu.out) ?_
      simp only [List.setIfInBounds_toArray, List.set_cons_zero, List.set_cons_succ]
      refine heldD_takeF (i := 4) (v := .slice (some ⟨g, 0, none⟩) 3 c) rfl rfl rfl (by kernel_rfl) (by kernel_rfl) (by kernel_rfl) (by kernel_rfl) (fun _ _ _ h => h) (by rfl) (fun w => ⟨by rfl, by go_simp⟩) (fun _ => HSS.out _ HBu.out) ?_
      simp only [List.setIfInBounds_toArray, List.set_cons_zero, List.set_cons_succ]
      refine heldD_takeF (i := 5) (v := .slice (some ⟨g, 0, none⟩) 3 c) rfl rfl rfl (by kernel_rfl) (by kernel_rfl) (by kernel_rfl) (by kernel_rfl) (fun _ _ _ h => h) (by rfl) (fun w => ⟨by rfl, by go_simp⟩) (fun _ => HSS.out _ HBu.out) ?_
      simp only [List.setIfInBounds_toArray, List.set_cons_zero, List.set_cons_succ]
      refine heldD_takeF (i := 6) (v := .int .i64 3) rfl rfl rfl (by kernel_rfl) (by kernel_rfl) (by kernel_rfl) (by kernel_rfl) (fun _ _ _ h => h) (by rfl) (fun w => ⟨by rfl, by go_simp⟩) (fun _ => HSS.out _ HBu.out) ?_
      simp only [List.setIfInBounds_toArray, List.set_cons_zero, List.set_cons_succ]
      refine heldD_takeF (i := 7) (v := .int .i64 2) rfl rfl rfl (by kernel_rfl) (by kernel_rfl) (by kernel_rfl) (by kernel_rfl) (fun _ _ _ h => h) (by rfl) (fun w => ⟨by rfl, by go_simp⟩) (fun _ => HSS.out _ HBu.out) ?_
      simp only [List.setIfInBounds_toArray, List.set_cons_zero, List.set_cons_succ]
      refine heldD_takeF (i := 8) (v := .pointer (some ⟨g, 8, none⟩)) rfl rfl rfl (by kernel_rfl) (by kernel_rfl) (by kernel_rfl) (by kernel_rfl) (fun _ _ _ h => h) (by rfl) (fun w => ⟨by rfl, by go_simp⟩) (fun _ => HSS.out _ HBu.out) ?_
      simp only [List.setIfInBounds_toArray, List.set_cons_zero, List.set_cons_succ]
      refine heldD_takeC (i := 9) (v := .agg #[.int .i64 er.nodes, .slice ea1 ea2 ea3, .slice eb1 eb2 eb3, .slice ec1 ec2 ec3]) [10, 12] rfl rfl rfl (by kernel_rfl) (by kernel_rfl) (by kernel_rfl) (by kernel_rfl) (by kernel_rfl) (by kernel_rfl) (fun _ _ _ h => h) (by rfl) (fun w hS => ⟨by rfl, by obtain ⟨hS1, hS2, hS3, hS4, hS5, hS6, hS7⟩ := hS; go_simp⟩) (HSS.out _ HBu.out) ?_
      simp only [List.setIfInBounds_toArray, List.set_cons_zero, List.set_cons_succ]
      refine heldD_HT ?_
      intro H hH T hT
      have HH := Lib.hid hH; have HT := Lib.hid hT
      clear hH hT
      suffices st_10_11 : ∀ (u : World) (t : Raw) (ta1 : Option Addr) (ta2 : Nat) (ta3 : Nat) (tb1 : Option Addr) (tb2 : Nat) (tb3 : Nat) (tc1 : Option Addr) (tc2 : Nat) (tc3 : Nat) (Bn : Nat), Hid (Below wr.heap.size wr u) → Hid (Bh wr.heap.size u ((.slice ta1 ta2 ta3, .slice tb1 tb2 tb3, .slice tc1 tc2 tc3, t) : El) ∧ (t.X.length ≤ er.X.length + 1 ∧ t.Y.length ≤ er.Y.length ∧ t.arcs.length ≤ er.arcs.length)) → Hid (Blk u Bn #[.int .i64 t.nodes, .slice ta1 ta2 ta3, .slice tb1 tb2 tb3, .slice tc1 tc2 tc3] 25 (0, 0)) → H 2 #[true, true, true, true, true, true, true, true, true, true, true, true, false, false] { tmps := ((T.setIfInBounds 31 (.agg #[.int .i64 t.nodes, .slice ta1 ta2 ta3, .slice tb1 tb2 tb3, .slice tc1 tc2 tc3])).setIfInBounds 32 (.slice (some ⟨Bn, 0, none⟩) 1 1)), defers := [] } u from by
        have st_10 : ∀ (u : World) (t : Raw) (ta1 : Option Addr) (ta2 : Nat) (ta3 : Nat) (tb1 : Option Addr) (tb2 : Nat) (tb3 : Nat) (tc1 : Option Addr) (tc2 : Nat) (tc3 : Nat), Hid (Below wr.heap.size wr u) → Hid (Bh wr.heap.size u ((.slice ta1 ta2 ta3, .slice tb1 tb2 tb3, .slice tc1 tc2 tc3, t) : El) ∧ (t.X.length ≤ er.X.length + 1 ∧ t.Y.length ≤ er.Y.length ∧ t.arcs.length ≤ er.arcs.length)) → H 3 #[true, true, true, true, true, true, true, true, true, true, true, false, false, false] { tmps := (T.setIfInBounds 31 (.agg #[.int .i64 t.nodes, .slice ta1 ta2 ta3, .slice tb1 tb2 tb3, .slice tc1 tc2 tc3])), defers := [] } u := by
          clear HBu
          intro u t ta1 ta2 ta3 tb1 tb2 tb3 tc1 tc2 tc3 HBu HF10
          rw [HH.out, HT.out]
          simp only [List.setIfInBounds_toArray, List.set_cons_zero, List.set_cons_succ]
          refine heldD_one (i := 11) (by kernel_rfl) ?_
          have hb : Below u.heap.size u (u.alloc (.cells #[.int .i64 t.nodes, .slice ta1 ta2 ta3, .slice tb1 tb2 tb3, .slice tc1 tc2 tc3] 25)) := (Below.refl _ _).alloc (Nat.le_refl _) _
          have hf : Blk (u.alloc (.cells #[.int .i64 t.nodes, .slice ta1 ta2 ta3, .slice tb1 tb2 tb3, .slice tc1 tc2 tc3] 25)) u.heap.size #[.int .i64 t.nodes, .slice ta1 ta2 ta3, .slice tb1 tb2 tb3, .slice tc1 tc2 tc3] 25 (0, 0) := Blk.new _ _ _ _
          refine wpOpIn_value (v := .slice (some ⟨u.heap.size, 0, none⟩) 1 1) (w' := (u.alloc (.cells #[.int .i64 t.nodes, .slice ta1 ta2 ta3, .slice tb1 tb2 tb3, .slice tc1 tc2 tc3] 25))) rfl rfl rfl (by rfl) (by rfl) (by go_simp) ?_
          have HBu0 := HBu
          have HBu : Hid (Below wr.heap.size wr (u.alloc (.cells #[.int .i64 t.nodes, .slice ta1 ta2 ta3, .slice tb1 tb2 tb3, .slice tc1 tc2 tc3] 25))) := Lib.hid (HBu0.out.trans (hb.mono HBu0.out.size))
          refine ⟨fun _ => HSS.out _ HBu.out, ?_⟩
          simp only [List.setIfInBounds_toArray, List.set_cons_zero, List.set_cons_succ]
          have q := st_10_11 _ t ta1 ta2 ta3 tb1 tb2 tb3 tc1 tc2 tc3 u.heap.size HBu (Lib.hid (⟨HF10.out.1.later hb, HF10.out.2⟩)) (Lib.hid hf)
          rw [HH.out, HT.out] at q
          simp only [List.setIfInBounds_toArray, List.set_cons_zero, List.set_cons_succ] at q ⊢
          exact q
        have st_ : ∀ (u : World), Hid (Below wr.heap.size wr u) → H 4 #[true, true, true, true, true, true, true, true, true, true, false, false, false, false] { tmps := T, defers := [] } u := by
          clear HBu
          intro u HBu
          rw [HH.out, HT.out]
          refine heldD_one (i := 10) (by kernel_rfl) ?_
          refine wpOpIn_calls' (f := 19) (args := #[.agg #[.int .u8 (p1 : Nat), .int .u8 (q1 : Nat), .int .i64 m1], .agg #[.int .i64 er.nodes, .slice ea1 ea2 ea3, .slice eb1 eb2 eb3, .slice ec1 ec2 ec3]]) rfl rfl (by rfl) (by go_simp) (turn_any _ er p1 q1 m1 u (HeO.out.at HBu.out) (by have := HeO.out.lens; dsimp only at this; omega) hp1 hq1) ?_
          rintro e u2 ⟨v2, rfl, ⟨t, hr, l1, l2, l3⟩, hb⟩
          obtain ⟨_, _, _, rfl, fx, fy, fz⟩ := hr u2 (fun _ _ _ => rfl)
          obtain ⟨ta1, ta2, ta3, rfl⟩ := fx.form
          obtain ⟨tb1, tb2, tb3, rfl⟩ := fy.form
          obtain ⟨tc1, tc2, tc3, rfl⟩ := fz.form
          refine ⟨_, rfl, ?_⟩
          have hf : Bh wr.heap.size u2 ((.slice ta1 ta2 ta3, .slice tb1 tb2 tb3, .slice tc1 tc2 tc3, t) : El) ∧ (t.X.length ≤ er.X.length + 1 ∧ t.Y.length ≤ er.Y.length ∧ t.arcs.length ≤ er.arcs.length) := ⟨⟨fun u' hu => hr u' fun k h1 h2 => hu k (Nat.le_trans HBu.out.size h1) h2, by have := HeO.out.lens; have := HeX.out; dsimp only at *; omega⟩, l1, l2, l3⟩
          have HBu0 := HBu
          have HBu : Hid (Below wr.heap.size wr u2) := Lib.hid (HBu0.out.trans (hb.mono HBu0.out.size))
          refine ⟨fun _ => HSS.out _ HBu.out, ?_⟩
          simp only [List.setIfInBounds_toArray, List.set_cons_zero, List.set_cons_succ]
          have q := st_10 _ t ta1 ta2 ta3 tb1 tb2 tb3 tc1 tc2 tc3 HBu (Lib.hid hf)
          rw [HH.out, HT.out] at q
          simp only [List.setIfInBounds_toArray, List.set_cons_zero, List.set_cons_succ] at q ⊢
          exact q
        exact st_ wk0 HBu
      clear HBu
      intro u t ta1 ta2 ta3 tb1 tb2 tb3 tc1 tc2 tc3 Bn HBu HF10 HF11
      rw [HH.out, HT.out]
      simp only [List.setIfInBounds_toArray, List.set_cons_zero, List.set_cons_succ]
      clear HH HT
      obtain ⟨g', c', w', hr, hls, hbw⟩ := (HLs.out.below HBu.out).push (e := ((.slice ta1 ta2 ta3, .slice tb1 tb2 tb3, .slice tc1 tc2 tc3, t) : El)) HF11.out (fun g' hg' => ⟨fun u' h1 h2 => HF10.out.1.1 u' fun k hk hk2 => h2 k (by have := HLs.out.lt; rcases hg' with rfl | hg' <;> omega) hk2, HF10.out.1.2⟩) (by have := HL.out; omega) ⟨_, _, _, _, _, _, _, _, _, rfl, rfl, rfl⟩
      have hl1 : (L ++ [((.slice ta1 ta2 ta3, .slice tb1 tb2 tb3, .slice tc1 tc2 tc3, t) : El)]).length = 4 := by rw [List.length_append, HL.out]; rfl
      rw [hl1, HL.out] at hr
      have HR := Lib.hid hr; have HLn := Lib.hid hls; have HL1 := Lib.hid hl1
      have HBn := Lib.hid ((HBr.out.next' HBu.out).trans hbw)
      have HT := Lib.hid HF10.out.2.1
      clear hr hls hbw hl1
      refine heldD_one (i := 12) (by kernel_rfl) ?_
      refine wpOpIn_append rfl rfl rfl (by rfl) _ _ _ _ rfl HR.out ?_
      refine ⟨fun h => (by cases h), ?_⟩
      simp only [List.setIfInBounds_toArray, List.set_cons_zero, List.set_cons_succ]
      refine heldD_one (i := 13) (by kernel_rfl) ?_
      refine wpOpIn_value (v := .slice (some ⟨g', 0, none⟩) 4 c') (w' := w') rfl rfl rfl (by rfl) (by rfl) (by go_simp) ?_
      refine ⟨fun h => (by cases h), ?_⟩
      simp only [List.setIfInBounds_toArray, List.set_cons_zero, List.set_cons_succ]
      refine heldD_done (by kernel_rfl) ?_ _
      clear HSS HF10 HF11 HR HBu
      go_wp2_with fail
      go_roundw
      case rel => exact ⟨2, 4, _, _, _, by omega, rfl, rfl, Lib.hid ⟨rfl, HL1.out, HLn.out, HBn.out, fun e he => by
        rcases List.mem_append.1 he with he | he
        · have := HXk.out e he; omega
        · rw [List.mem_singleton.1 he]; have := HeX.out; have := HT.out; dsimp only at *; omega⟩⟩
      case measure => simp [intOf]
    · have hn2 : n = 4 := by have := HN.out; omega
      subst hn2
      have HSS := Lib.hid (show ∀ u, Below wr.heap.size wr u → (u.cell? ⟨B5, 6, none⟩ = some (.int .u8 (p2 : Nat)) ∧ u.cell? ⟨B5, 7, none⟩ = some (.int .u8 (q2 : Nat)) ∧ u.cell? ⟨B5, 8, none⟩ = some (.int .i64 m2) ∧ u.cell? ⟨g, 12, none⟩ = some (.int .i64 er.nodes) ∧ u.cell? ⟨g, 13, none⟩ = some (.slice ea1 ea2 ea3) ∧ u.cell? ⟨g, 14, none⟩ = some (.slice eb1 eb2 eb3) ∧ u.cell? ⟨g, 15, none⟩ = some (.slice ec1 ec2 ec3)) from fun u hu => by
        have k5 := HK5z.out.below (HBr.out.next' hu) HK5z.out.lt
        have hcl := fun i v (h : wr.cell? ⟨g, i, none⟩ = some v) => cell_later hu h
        exact ⟨k5.cell 6, k5.cell 7, k5.cell 8, hcl _ _ HCe.out.1, hcl _ _ HCe.out.2.1, hcl _ _ HCe.out.2.2.1, hcl _ _ HCe.out.2.2.2⟩)
      have hwk : IntKind.i64.wrap 3 = 3 := by rw [IntKind.wrap_i64]; omega
      go_wp2_with fail
      refine wp_region_heldD (fun w' => w'.cell? ⟨B5, 6, none⟩ = some (.int .u8 (p2 : Nat)) ∧ w'.cell? ⟨B5, 7, none⟩ = some (.int .u8 (q2 : Nat)) ∧ w'.cell? ⟨B5, 8, none⟩ = some (.int .i64 m2) ∧ w'.cell? ⟨g, 12, none⟩ = some (.int .i64 er.nodes) ∧ w'.cell? ⟨g, 13, none⟩ = some (.slice ea1 ea2 ea3) ∧ w'.cell? ⟨g, 14, none⟩ = some (.slice eb1 eb2 eb3) ∧ w'.cell? ⟨g, 15, none⟩ = some (.slice ec1 ec2 ec3)) 12 rfl ?_
      change heldD _ _ _ _ _ _ _ 14 _ _ wr.drew
      obtain ⟨wk0, hu0⟩ : ∃ u, u = wr.drew := ⟨_, rfl⟩
      have HBu := Lib.hid (show Below wr.heap.size wr wk0 by rw [hu0]; exact (Below.refl _ _).drew)
      rw [← hu0]
      clear hu0
      refine heldD_takeF (i := 0) (v := .slice (some ⟨g, 0, none⟩) 4 c) rfl rfl rfl (by kernel_rfl) (by kernel_rfl) (by kernel_rfl) (by kernel_rfl) (fun _ _ _ h => h) (by rfl) (fun w => ⟨by rfl, by go_simp⟩) (fun _ => HSS.out _ HBu.out) ?_
      simp only [List.setIfInBounds_toArray, List.set_cons_zero, List.set_cons_succ]
      refine heldD_takeF (i := 1) (v := .int .i64 2) rfl rfl rfl (by kernel_rfl) (by kernel_rfl) (by kernel_rfl) (by kernel_rfl) (fun _ _ _ h => h) (by rfl) (fun w => ⟨by rfl, by go_simp⟩) (fun _ => HSS.out _ HBu.out) ?_
      simp only [List.setIfInBounds_toArray, List.set_cons_zero, List.set_cons_succ]
      refine heldD_takeF (i := 2) (v := .pointer (some ⟨B5, 6, none⟩)) rfl rfl rfl (by kernel_rfl) (by kernel_rfl) (by kernel_rfl) (by kernel_rfl) (fun _ _ _ h => h) (by rfl) (fun w => ⟨by rfl, by go_simp⟩) (fun _ => HSS.out _ HBu.out) ?_
      simp only [List.setIfInBounds_toArray, List.set_cons_zero, List.set_cons_succ]
      refine heldD_takeC (i := 3) (v := .agg #[.int .u8 (p2 : Nat), .int .u8 (q2 : Nat), .int .i64 m2]) [10, 12] rfl rfl rfl (by kernel_rfl) (by kernel_rfl) (by kernel_rfl) (by kernel_rfl) (by kernel_rfl) (by kernel_rfl) (fun _ _ _ h => h) (by rfl) (fun w hS => ⟨by rfl, by obtain ⟨hS1, hS2, hS3, hS4, hS5, hS6, hS7⟩ := hS; go_simp⟩) (HSS.out _ HBu.out) ?_
      simp only [List.setIfInBounds_toArray, List.set_cons_zero, List.set_cons_succ]
      refine heldD_takeF (i := 4) (v := .slice (some ⟨g, 0, none⟩) 4 c) rfl rfl rfl (by kernel_rfl) (by kernel_rfl) (by kernel_rfl) (by kernel_rfl) (fun _ _ _ h => h) (by rfl) (fun w => ⟨by rfl, by go_simp⟩) (fun _ => HSS.out _ HBu.out) ?_
      simp only [List.setIfInBounds_toArray, List.set_cons_zero, List.set_cons_succ]
      refine heldD_takeF (i := 5) (v := .slice (some ⟨g, 0, none⟩) 4 c) rfl rfl rfl (by kernel_rfl) (by kernel_rfl) (by kernel_rfl) (by kernel_rfl) (fun _ _ _ h => h) (by rfl) (fun w => ⟨by rfl, by go_simp⟩) (fun _ => HSS.out _ HBu.out) ?_
      simp only [List.setIfInBounds_toArray, List.set_cons_zero, List.set_cons_succ]
      refine heldD_takeF (i := 6) (v := .int .i64 4) rfl rfl rfl (by kernel_rfl) (by kernel_rfl) (by kernel_rfl) (by kernel_rfl) (fun _ _ _ h => h) (by rfl) (fun w => ⟨by rfl, by go_simp⟩) (fun _ => HSS.out _ HBu.out) ?_
      simp only [List.setIfInBounds_toArray, List.set_cons_zero, List.set_cons_succ]
      refine heldD_takeF (i := 7) (v := .int .i64 3) rfl rfl rfl (by kernel_rfl) (by kernel_rfl) (by kernel_rfl) (by kernel_rfl) (fun _ _ _ h => h) (by rfl) (fun w => ⟨by rfl, by go_simp⟩) (fun _ => HSS.out _ HBu.out) ?_
      simp only [List.setIfInBounds_toArray, List.set_cons_zero, List.set_cons_succ]
      refine heldD_takeF (i := 8) (v := .pointer (some ⟨g, 12, none⟩)) rfl rfl rfl (by kernel_rfl) (by kernel_rfl) (by kernel_rfl) (by kernel_rfl) (fun _ _ _ h => h) (by rfl) (fun w => ⟨by rfl, by go_simp⟩) (fun _ => HSS.out _ HBu.out) ?_
      simp only [List.setIfInBounds_toArray, List.set_cons_zero, List.set_cons_succ]
      refine heldD_takeC (i := 9) (v := .agg #[.int .i64 er.nodes, .slice ea1 ea2 ea3, .slice eb1 eb2 eb3, .slice ec1 ec2 ec3]) [10, 12] rfl rfl rfl (by kernel_rfl) (by kernel_rfl) (by kernel_rfl) (by kernel_rfl) (by kernel_rfl) (by kernel_rfl) (fun _ _ _ h => h) (by rfl) (fun w hS => ⟨by rfl, by obtain ⟨hS1, hS2, hS3, hS4, hS5, hS6, hS7⟩ := hS; go_simp⟩) (HSS.out _ HBu.out) ?_
      simp only [List.setIfInBounds_toArray, List.set_cons_zero, List.set_cons_succ]
      refine heldD_HT ?_
      intro H hH T hT
      have HH := Lib.hid hH; have HT := Lib.hid hT
      clear hH hT
      suffices st_10_11 : ∀ (u : World) (t : Raw) (ta1 : Option Addr) (ta2 : Nat) (ta3 : Nat) (tb1 : Option Addr) (tb2 : Nat) (tb3 : Nat) (tc1 : Option Addr) (tc2 : Nat) (tc3 : Nat) (Bn : Nat), Hid (Below wr.heap.size wr u) → Hid (Bh wr.heap.size u ((.slice ta1 ta2 ta3, .slice tb1 tb2 tb3, .slice tc1 tc2 tc3, t) : El) ∧ (t.X.length ≤ er.X.length + 1 ∧ t.Y.length ≤ er.Y.length ∧ t.arcs.length ≤ er.arcs.length)) → Hid (Blk u Bn #[.int .i64 t.nodes, .slice ta1 ta2 ta3, .slice tb1 tb2 tb3, .slice tc1 tc2 tc3] 25 (0, 0)) → H 2 #[true, true, true, true, true, true, true, true, true, true, true, true, false, false] { tmps := ((T.setIfInBounds 31 (.agg #[.int .i64 t.nodes, .slice ta1 ta2 ta3, .slice tb1 tb2 tb3, .slice tc1 tc2 tc3])).setIfInBounds 32 (.slice (some ⟨Bn, 0, none⟩) 1 1)), defers := [] } u from by
        have st_10 : ∀ (u : World) (t : Raw) (ta1 : Option Addr) (ta2 : Nat) (ta3 : Nat) (tb1 : Option Addr) (tb2 : Nat) (tb3 : Nat) (tc1 : Option Addr) (tc2 : Nat) (tc3 : Nat), Hid (Below wr.heap.size wr u) → Hid (Bh wr.heap.size u ((.slice ta1 ta2 ta3, .slice tb1 tb2 tb3, .slice tc1 tc2 tc3, t) : El) ∧ (t.X.length ≤ er.X.length + 1 ∧ t.Y.length ≤ er.Y.length ∧ t.arcs.length ≤ er.arcs.length)) → H 3 #[true, true, true, true, true, true, true, true, true, true, true, false, false, false] { tmps := (T.setIfInBounds 31 (.agg #[.int .i64 t.nodes, .slice ta1 ta2 ta3, .slice tb1 tb2 tb3, .slice tc1 tc2 tc3])), defers := [] } u := by
          clear HBu
          intro u t ta1 ta2 ta3 tb1 tb2 tb3 tc1 tc2 tc3 HBu HF10
          rw [HH.out, HT.out]
          simp only [List.setIfInBounds_toArray, List.set_cons_zero, List.set_cons_succ]
          refine heldD_one (i := 11) (by kernel_rfl) ?_
          have hb : Below u.heap.size u (u.alloc (.cells #[.int .i64 t.nodes, .slice ta1 ta2 ta3, .slice tb1 tb2 tb3, .slice tc1 tc2 tc3] 25)) := (Below.refl _ _).alloc (Nat.le_refl _) _
          have hf : Blk (u.alloc (.cells #[.int .i64 t.nodes, .slice ta1 ta2 ta3, .slice tb1 tb2 tb3, .slice tc1 tc2 tc3] 25)) u.heap.size #[.int .i64 t.nodes, .slice ta1 ta2 ta3, .slice tb1 tb2 tb3, .slice tc1 tc2 tc3] 25 (0, 0) := Blk.new _ _ _ _
          refine wpOpIn_value (v := .slice (some ⟨u.heap.size, 0, none⟩) 1 1) (w' := (u.alloc (.cells #[.int .i64 t.nodes, .slice ta1 ta2 ta3, .slice tb1 tb2 tb3, .slice tc1 tc2 tc3] 25))) rfl rfl rfl (by rfl) (by rfl) (by go_simp) ?_
          have HBu0 := HBu
          have HBu : Hid (Below wr.heap.size wr (u.alloc (.cells #[.int .i64 t.nodes, .slice ta1 ta2 ta3, .slice tb1 tb2 tb3, .slice tc1 tc2 tc3] 25))) := Lib.hid (HBu0.out.trans (hb.mono HBu0.out.size))
          refine ⟨fun _ => HSS.out _ HBu.out, ?_⟩
          simp only [List.setIfInBounds_toArray, List.set_cons_zero, List.set_cons_succ]
          have q := st_10_11 _ t ta1 ta2 ta3 tb1 tb2 tb3 tc1 tc2 tc3 u.heap.size HBu (Lib.hid (⟨HF10.out.1.later hb, HF10.out.2⟩)) (Lib.hid hf)
          rw [HH.out, HT.out] at q
          simp only [List.setIfInBounds_toArray, List.set_cons_zero, List.set_cons_succ] at q ⊢
          exact q
        have st_ : ∀ (u : World), Hid (Below wr.heap.size wr u) → H 4 #[true, true, true, true, true, true, true, true, true, true, false, false, false, false] { tmps := T, defers := [] } u := by
          clear HBu
          intro u HBu
          rw [HH.out, HT.out]
          refine heldD_one (i := 10) (by kernel_rfl) ?_
          refine wpOpIn_calls' (f := 19) (args := #[.agg #[.int .u8 (p2 : Nat), .int .u8 (q2 : Nat), .int .i64 m2], .agg #[.int .i64 er.nodes, .slice ea1 ea2 ea3, .slice eb1 eb2 eb3, .slice ec1 ec2 ec3]]) rfl rfl (by rfl) (by go_simp) (turn_any _ er p2 q2 m2 u (HeO.out.at HBu.out) (by have := HeO.out.lens; dsimp only at this; omega) hp2 hq2) ?_
          rintro e u2 ⟨v2, rfl, ⟨t, hr, l1, l2, l3⟩, hb⟩
          obtain ⟨_, _, _, rfl, fx, fy, fz⟩ := hr u2 (fun _ _ _ => rfl)
          obtain ⟨ta1, ta2, ta3, rfl⟩ := fx.form
          obtain ⟨tb1, tb2, tb3, rfl⟩ := fy.form
          obtain ⟨tc1, tc2, tc3, rfl⟩ := fz.form
          refine ⟨_, rfl, ?_⟩
          have hf : Bh wr.heap.size u2 ((.slice ta1 ta2 ta3, .slice tb1 tb2 tb3, .slice tc1 tc2 tc3, t) : El) ∧ (t.X.length ≤ er.X.length + 1 ∧ t.Y.length ≤ er.Y.length ∧ t.arcs.length ≤ er.arcs.length) := ⟨⟨fun u' hu => hr u' fun k h1 h2 => hu k (Nat.le_trans HBu.out.size h1) h2, by have := HeO.out.lens; have := HeX.out; dsimp only at *; omega⟩, l1, l2, l3⟩
          have HBu0 := HBu
          have HBu : Hid (Below wr.heap.size wr u2) := Lib.hid (HBu0.out.trans (hb.mono HBu0.out.size))
          refine ⟨fun _ => HSS.out _ HBu.out, ?_⟩
          simp only [List.setIfInBounds_toArray, List.set_cons_zero, List.set_cons_succ]
          have q := st_10 _ t ta1 ta2 ta3 tb1 tb2 tb3 tc1 tc2 tc3 HBu (Lib.hid hf)
          rw [HH.out, HT.out] at q
          simp only [List.setIfInBounds_toArray, List.set_cons_zero, List.set_cons_succ] at q ⊢
          exact q
        exact st_ wk0 HBu
      clear HBu
      intro u t ta1 ta2 ta3 tb1 tb2 tb3 tc1 tc2 tc3 Bn HBu HF10 HF11
      rw [HH.out, HT.out]
      simp only [List.setIfInBounds_toArray, List.set_cons_zero, List.set_cons_succ]
      clear HH HT
      obtain ⟨g', c', w', hr, hls, hbw⟩ := (HLs.out.below HBu.out).push (e := ((.slice ta1 ta2 ta3, .slice tb1 tb2 tb3, .slice tc1 tc2 tc3, t) : El)) HF11.out (fun g' hg' => ⟨fun u' h1 h2 => HF10.out.1.1 u' fun k hk hk2 => h2 k (by have := HLs.out.lt; rcases hg' with rfl | hg' <;> omega) hk2, HF10.out.1.2⟩) (by have := HL.out; omega) ⟨_, _, _, _, _, _, _, _, _, rfl, rfl, rfl⟩
      have hl1 : (L ++ [((.slice ta1 ta2 ta3, .slice tb1 tb2 tb3, .slice tc1 tc2 tc3, t) : El)]).length = 5 := by rw [List.length_append, HL.out]; rfl
      rw [hl1, HL.out] at hr
      have HR := Lib.hid hr; have HLn := Lib.hid hls; have HL1 := Lib.hid hl1
      have HBn := Lib.hid ((HBr.out.next' HBu.out).trans hbw)
      have HT := Lib.hid HF10.out.2.1
      clear hr hls hbw hl1
      refine heldD_one (i := 12) (by kernel_rfl) ?_
      refine wpOpIn_append rfl rfl rfl (by rfl) _ _ _ _ rfl HR.out ?_
      refine ⟨fun h => (by cases h), ?_⟩
      simp only [List.setIfInBounds_toArray, List.set_cons_zero, List.set_cons_succ]
      refine heldD_one (i := 13) (by kernel_rfl) ?_
      refine wpOpIn_value (v := .slice (some ⟨g', 0, none⟩) 5 c') (w' := w') rfl rfl rfl (by rfl) (by rfl) (by go_simp) ?_
      refine ⟨fun h => (by cases h), ?_⟩
      simp only [List.setIfInBounds_toArray, List.set_cons_zero, List.set_cons_succ]
      refine heldD_done (by kernel_rfl) ?_ _
      clear HSS HF10 HF11 HR HBu
      go_wp2_with fail
      go_roundw
      case rel => exact ⟨3, 5, _, _, _, by omega, rfl, rfl, Lib.hid ⟨rfl, HL1.out, HLn.out, HBn.out, fun e he => by
        rcases List.mem_append.1 he with he | he
        · have := HXk.out e he; omega
        · rw [List.mem_singleton.1 he]; have := HeX.out; have := HT.out; dsimp only at *; omega⟩⟩
      case measure => simp [intOf]
  case neg =>
  obtain rfl : k = 3 := by omega
  have hn2 : n = 5 := HN.out
  subst hn2
  obtain ⟨f1, hf1⟩ : ∃ e, L[1]? = some e := ⟨_, List.getElem?_eq_getElem (by have := HL.out; omega)⟩
  have HfO := Lib.hid (HLs.out.ok f1 (List.mem_of_getElem? hf1))
  have HCf := Lib.hid (HLs.out.cells 1 f1 hf1)
  obtain ⟨fa, fb, fc, fr⟩ := f1
  obtain ⟨fa1, fa2, fa3, fb1, fb2, fb3, fc1, fc2, fc3, rfl, rfl, rfl⟩ : ∃ a1 n1 c1 a2 n2 c2 a3 n3 c3, fa = .slice a1 n1 c1 ∧ fb = .slice a2 n2 c2 ∧ fc = .slice a3 n3 c3 := RawV.forms (e := (fa, fb, fc, fr)) (HfO.out.at (Below.refl _ _))
  obtain ⟨Wl, hWl⟩ : ∃ q, q = wr := ⟨_, rfl⟩
  rw [← hWl] at HLs HBr HfO HCf ⊢
  clear hWl hf1 HN
  go_wp2_with fail
  go_loopw [9] (fun i wr => ∃ k : Nat, k ≤ 5 ∧ i = .int .i64 k ∧ Hid (Below Wl.heap.size Wl wr)) (fun i _ => 5 - (intOf i).toNat)
  case atStart => exact ⟨0, by omega, rfl, Lib.hid (Below.refl _ _)⟩
  obtain ⟨k, hk, rfl, hrel⟩ := hrel
  have HB := hrel
  clear hrel
  by_cases hk5 : k < 5
  case pos =>
    obtain ⟨e, he⟩ : ∃ e, L[k]? = some e := ⟨_, List.getElem?_eq_getElem (by have := HL.out; omega)⟩
    have HeO := Lib.hid (HLs.out.ok e (List.mem_of_getElem? he))
    have HCe := Lib.hid (HLs.out.cells k e he)
    obtain ⟨ea, eb, ec, er⟩ := e
    obtain ⟨ea1, ea2, ea3, eb1, eb2, eb3, ec1, ec2, ec3, rfl, rfl, rfl⟩ : ∃ a1 n1 c1 a2 n2 c2 a3 n3 c3, ea = .slice a1 n1 c1 ∧ eb = .slice a2 n2 c2 ∧ ec = .slice a3 n3 c3 := RawV.forms (e := (ea, eb, ec, er)) (HeO.out.at (Below.refl _ _))
    clear he
    have hk0 : (0 : Int) ≤ (k : Int) := by omega
    have hk1 : (k : Int) < 5 := by omega
    have hkb : decide ((k : Int) < 5) = true := decide_eq_true hk1
    have hk2 : IntKind.i64.wrap ((k : Int) + 1) = ((k + 1 : Nat) : Int) := by rw [IntKind.wrap_i64]; omega
    have HEv := Lib.hid (show ∀ u, Below wr.heap.size wr u → RawV u (.agg #[.int .i64 er.nodes, .slice ea1 ea2 ea3, .slice eb1 eb2 eb3, .slice ec1 ec2 ec3]) er from fun u hu => HeO.out.at (HB.out.next' hu))
    have HFv := Lib.hid (show ∀ u, Below wr.heap.size wr u → RawV u (.agg #[.int .i64 fr.nodes, .slice fa1 fa2 fa3, .slice fb1 fb2 fb3, .slice fc1 fc2 fc3]) fr from fun u hu => HfO.out.at (HB.out.next' hu))
    have HEl := Lib.hid (show er.X.length ≤ 100 ∧ er.Y.length ≤ 100 ∧ er.arcs.length ≤ 100 from HeO.out.lens)
    have HFe := Lib.hid (show er.few from ⟨by have := HEl.out; omega, by have := HEl.out; omega, by have := HEl.out; omega⟩)
    have HGr := Lib.hid (HG0.out.later (HBz.out.next' (HBr.out.next' HB.out)))
    have HSW := Lib.hid (show ∀ u, Below wr.heap.size wr u → (u.cell? ⟨g, k * 4, none⟩ = some (.int .i64 er.nodes) ∧ u.cell? ⟨g, k * 4 + 1, none⟩ = some (.slice ea1 ea2 ea3) ∧ u.cell? ⟨g, k * 4 + 2, none⟩ = some (.slice eb1 eb2 eb3) ∧ u.cell? ⟨g, k * 4 + 3, none⟩ = some (.slice ec1 ec2 ec3) ∧ u.cell? ⟨g, 4, none⟩ = some (.int .i64 fr.nodes) ∧ u.cell? ⟨g, 5, none⟩ = some (.slice fa1 fa2 fa3) ∧ u.cell? ⟨g, 6, none⟩ = some (.slice fb1 fb2 fb3) ∧ u.cell? ⟨g, 7, none⟩ = some (.slice fc1 fc2 fc3) ∧ u.cell? ⟨B5, 2, none⟩ = some (.int .i64 m0)) from fun u hu => by
      have hcl := fun i v (h : Wl.cell? ⟨g, i, none⟩ = some v) => cell_later (HB.out.next' hu) h
      have k5 := HK5z.out.below (HBr.out.next' (HB.out.next' hu)) HK5z.out.lt
      exact ⟨hcl _ _ HCe.out.1, hcl _ _ HCe.out.2.1, hcl _ _ HCe.out.2.2.1, hcl _ _ HCe.out.2.2.2, hcl _ _ HCf.out.1, hcl _ _ HCf.out.2.1, hcl _ _ HCf.out.2.2.1, hcl _ _ HCf.out.2.2.2, k5.cell 2⟩)
    have HS := Lib.hid HSW.out
    have HBel := Lib.hid (Below.refl wr.heap.size wr)
    obtain ⟨sb, hsb⟩ : ∃ b, b = sameB er fr := ⟨_, rfl⟩
    have HSb := Lib.hid hsb
    clear hsb
    obtain ⟨r0', r1', r2', r3', hwr⟩ : ∃ a b c d, er.wrong = (a, b, c, d) := ⟨_, _, _, _, rfl⟩
    have HWr := Lib.hid hwr
    clear hwr
    go_wp2_with fail
    refine wp_region_held (S := fun w' => w'.cell? ⟨g, k * 4, none⟩ = some (.int .i64 er.nodes) ∧ w'.cell? ⟨g, k * 4 + 1, none⟩ = some (.slice ea1 ea2 ea3) ∧ w'.cell? ⟨g, k * 4 + 2, none⟩ = some (.slice eb1 eb2 eb3) ∧ w'.cell? ⟨g, k * 4 + 3, none⟩ = some (.slice ec1 ec2 ec3) ∧ w'.cell? ⟨g, 4, none⟩ = some (.int .i64 fr.nodes) ∧ w'.cell? ⟨g, 5, none⟩ = some (.slice fa1 fa2 fa3) ∧ w'.cell? ⟨g, 6, none⟩ = some (.slice fb1 fb2 fb3) ∧ w'.cell? ⟨g, 7, none⟩ = some (.slice fc1 fc2 fc3) ∧ w'.cell? ⟨B5, 2, none⟩ = some (.int .i64 m0)) rfl ?_
    have hS0 := HS.out wr.drew (HBel.out.drew)
    change wpAnyH _ _ _ _ _ 31 _ _ wr.drew
    have HBe := Lib.hid (HBel.out.drew)
    refine heldA_take (i := 0) (v := .slice (some ⟨g, 0, none⟩) 5 c) rfl rfl (by kernel_rfl) (by kernel_rfl) (by kernel_rfl) (fun _ _ _ h => h) (by rfl) (fun w hS => by obtain ⟨hS1, hS2, hS3, hS4, hS5, hS6, hS7, hS8, hS9⟩ := hS; go_simp) hS0 ?_
    simp only [List.setIfInBounds_toArray, List.set_cons_zero, List.set_cons_succ]
    refine heldA_take (i := 1) (v := .int .i64 (k : Nat)) rfl rfl (by kernel_rfl) (by kernel_rfl) (by kernel_rfl) (fun _ _ _ h => h) (by rfl) (fun w hS => by obtain ⟨hS1, hS2, hS3, hS4, hS5, hS6, hS7, hS8, hS9⟩ := hS; go_simp) hS0 ?_
    simp only [List.setIfInBounds_toArray, List.set_cons_zero, List.set_cons_succ]
    refine heldA_take (i := 2) (v := .pointer (some ⟨g, k * 4, none⟩)) rfl rfl (by kernel_rfl) (by kernel_rfl) (by kernel_rfl) (fun _ _ _ h => h) (by rfl) (fun w hS => by obtain ⟨hS1, hS2, hS3, hS4, hS5, hS6, hS7, hS8, hS9⟩ := hS; go_simp) hS0 ?_
    simp only [List.setIfInBounds_toArray, List.set_cons_zero, List.set_cons_succ]
    refine heldA_take (i := 3) (v := .agg #[.int .i64 er.nodes, .slice ea1 ea2 ea3, .slice eb1 eb2 eb3, .slice ec1 ec2 ec3]) rfl rfl (by kernel_rfl) (by kernel_rfl) (by kernel_rfl) (fun _ _ _ h => h) (by rfl) (fun w hS => by obtain ⟨hS1, hS2, hS3, hS4, hS5, hS6, hS7, hS8, hS9⟩ := hS; go_simp) hS0 ?_
    simp only [List.setIfInBounds_toArray, List.set_cons_zero, List.set_cons_succ]
    refine heldA_take (i := 5) (v := .slice (some ⟨g, 0, none⟩) 5 c) rfl rfl (by kernel_rfl) (by kernel_rfl) (by kernel_rfl) (fun _ _ _ h => h) (by rfl) (fun w hS => by obtain ⟨hS1, hS2, hS3, hS4, hS5, hS6, hS7, hS8, hS9⟩ := hS; go_simp) hS0 ?_
    simp only [List.setIfInBounds_toArray, List.set_cons_zero, List.set_cons_succ]
    refine heldA_take (i := 6) (v := .int .i64 (k : Nat)) rfl rfl (by kernel_rfl) (by kernel_rfl) (by kernel_rfl) (fun _ _ _ h => h) (by rfl) (fun w hS => by obtain ⟨hS1, hS2, hS3, hS4, hS5, hS6, hS7, hS8, hS9⟩ := hS; go_simp) hS0 ?_
    simp only [List.setIfInBounds_toArray, List.set_cons_zero, List.set_cons_succ]
    refine heldA_take (i := 7) (v := .pointer (some ⟨g, k * 4, none⟩)) rfl rfl (by kernel_rfl) (by kernel_rfl) (by kernel_rfl) (fun _ _ _ h => h) (by rfl) (fun w hS => by obtain ⟨hS1, hS2, hS3, hS4, hS5, hS6, hS7, hS8, hS9⟩ := hS; go_simp) hS0 ?_
    simp only [List.setIfInBounds_toArray, List.set_cons_zero, List.set_cons_succ]
    refine heldA_take (i := 8) (v := .agg #[.int .i64 er.nodes, .slice ea1 ea2 ea3, .slice eb1 eb2 eb3, .slice ec1 ec2 ec3]) rfl rfl (by kernel_rfl) (by kernel_rfl) (by kernel_rfl) (fun _ _ _ h => h) (by rfl) (fun w hS => by obtain ⟨hS1, hS2, hS3, hS4, hS5, hS6, hS7, hS8, hS9⟩ := hS; go_simp) hS0 ?_
    simp only [List.setIfInBounds_toArray, List.set_cons_zero, List.set_cons_succ]
    refine heldA_one (i := 4) (by kernel_rfl) ?_
    refine wpOp_calls (f := 15) rfl rfl (by rfl) (by go_simp) (check_raw (.agg #[.int .i64 er.nodes, .slice ea1 ea2 ea3, .slice eb1 eb2 eb3, .slice ec1 ec2 ec3]) er wr.drew (HEv.out _ HBe.out)) ?_ (by rintro _ _ ⟨_, h, _⟩; cases h) (by rintro _ ⟨_, h, _⟩; cases h)
    rintro v44 u44 ⟨_, ⟨rfl⟩, hi, hb⟩
    have HBn := Lib.hid (HBe.out.trans (hb.mono HBe.out.size))
    rw [HWr.out] at hi
    have HI44 := Lib.hid hi
    clear hi
    replace HBe := HBn
    clear HBn hb hS0
    have hS0 := HS.out u44 HBe.out
    refine ⟨hS0, ?_⟩
    simp only [List.setIfInBounds_toArray, List.set_cons_zero, List.set_cons_succ]
    refine heldA_one (i := 9) (by kernel_rfl) ?_
    refine wpOp_calls (f := 21) rfl rfl (by rfl) (by go_simp) (refCheck6_any (.agg #[.int .i64 er.nodes, .slice ea1 ea2 ea3, .slice eb1 eb2 eb3, .slice ec1 ec2 ec3]) er u44 (HEv.out _ HBe.out)) ?_ (by rintro _ _ ⟨h, _⟩; cases h) (by rintro _ ⟨h, _⟩; cases h)
    rintro _ u49 ⟨⟨rfl⟩, hb⟩
    have HBn := Lib.hid (HBe.out.trans (hb.mono HBe.out.size))
    rw [HWr.out]
    dsimp only
    have HI49 := Lib.hid (HI44.out.later hb)
    replace HBe := HBn
    clear HBn hb hS0
    have hS0 := HS.out u49 HBe.out
    refine ⟨hS0, ?_⟩
    simp only [List.setIfInBounds_toArray, List.set_cons_zero, List.set_cons_succ]
    refine heldA_one (i := 10) (by kernel_rfl) ?_
    refine wpOp_calls (f := 20) rfl rfl (by rfl) (by go_simp) (lawTold_is u49 v44 _ _ _ _ (HGr.out.later HBe.out) HI49.out) ?_ (by rintro _ _ ⟨h, _⟩; cases h) (by rintro _ ⟨h, _⟩; cases h)
    rintro _ u50 ⟨⟨rfl⟩, hb⟩
    have HBn := Lib.hid (HBe.out.trans (hb.mono HBe.out.size))
    replace HBe := HBn
    clear HBn hb hS0
    have hS0 := HS.out u50 HBe.out
    refine ⟨hS0, ?_⟩
    simp only [List.setIfInBounds_toArray, List.set_cons_zero, List.set_cons_succ]
    refine heldA_take (i := 11) (v := .bool false) rfl rfl (by kernel_rfl) (by kernel_rfl) (by kernel_rfl) (fun _ _ _ h => h) (by rfl) (fun w hS => by obtain ⟨hS1, hS2, hS3, hS4, hS5, hS6, hS7, hS8, hS9⟩ := hS; go_simp) hS0 ?_
    simp only [List.setIfInBounds_toArray, List.set_cons_zero, List.set_cons_succ]
    refine heldA_take (i := 12) (v := .bool false) rfl rfl (by kernel_rfl) (by kernel_rfl) (by kernel_rfl) (fun _ _ _ h => h) (by rfl) (fun w hS => by obtain ⟨hS1, hS2, hS3, hS4, hS5, hS6, hS7, hS8, hS9⟩ := hS; go_simp) hS0 ?_
    simp only [List.setIfInBounds_toArray, List.set_cons_zero, List.set_cons_succ]
    refine heldA_take (i := 13) (v := .slice (some ⟨g, 0, none⟩) 5 c) rfl rfl (by kernel_rfl) (by kernel_rfl) (by kernel_rfl) (fun _ _ _ h => h) (by rfl) (fun w hS => by obtain ⟨hS1, hS2, hS3, hS4, hS5, hS6, hS7, hS8, hS9⟩ := hS; go_simp) hS0 ?_
    simp only [List.setIfInBounds_toArray, List.set_cons_zero, List.set_cons_succ]
    refine heldA_take (i := 14) (v := .int .i64 (k : Nat)) rfl rfl (by kernel_rfl) (by kernel_rfl) (by kernel_rfl) (fun _ _ _ h => h) (by rfl) (fun w hS => by obtain ⟨hS1, hS2, hS3, hS4, hS5, hS6, hS7, hS8, hS9⟩ := hS; go_simp) hS0 ?_
    simp only [List.setIfInBounds_toArray, List.set_cons_zero, List.set_cons_succ]
    refine heldA_take (i := 15) (v := .pointer (some ⟨g, k * 4, none⟩)) rfl rfl (by kernel_rfl) (by kernel_rfl) (by kernel_rfl) (fun _ _ _ h => h) (by rfl) (fun w hS => by obtain ⟨hS1, hS2, hS3, hS4, hS5, hS6, hS7, hS8, hS9⟩ := hS; go_simp) hS0 ?_
    simp only [List.setIfInBounds_toArray, List.set_cons_zero, List.set_cons_succ]
    refine heldA_take (i := 16) (v := .agg #[.int .i64 er.nodes, .slice ea1 ea2 ea3, .slice eb1 eb2 eb3, .slice ec1 ec2 ec3]) rfl rfl (by kernel_rfl) (by kernel_rfl) (by kernel_rfl) (fun _ _ _ h => h) (by rfl) (fun w hS => by obtain ⟨hS1, hS2, hS3, hS4, hS5, hS6, hS7, hS8, hS9⟩ := hS; go_simp) hS0 ?_
    simp only [List.setIfInBounds_toArray, List.set_cons_zero, List.set_cons_succ]
    refine heldA_take (i := 17) (v := .slice (some ⟨g, 0, none⟩) 5 c) rfl rfl (by kernel_rfl) (by kernel_rfl) (by kernel_rfl) (fun _ _ _ h => h) (by rfl) (fun w hS => by obtain ⟨hS1, hS2, hS3, hS4, hS5, hS6, hS7, hS8, hS9⟩ := hS; go_simp) hS0 ?_
    simp only [List.setIfInBounds_toArray, List.set_cons_zero, List.set_cons_succ]
    refine heldA_take (i := 18) (v := .pointer (some ⟨g, 4, none⟩)) rfl rfl (by kernel_rfl) (by kernel_rfl) (by kernel_rfl) (fun _ _ _ h => h) (by rfl) (fun w hS => by obtain ⟨hS1, hS2, hS3, hS4, hS5, hS6, hS7, hS8, hS9⟩ := hS; go_simp) hS0 ?_
    simp only [List.setIfInBounds_toArray, List.set_cons_zero, List.set_cons_succ]
    refine heldA_take (i := 19) (v := .agg #[.int .i64 fr.nodes, .slice fa1 fa2 fa3, .slice fb1 fb2 fb3, .slice fc1 fc2 fc3]) rfl rfl (by kernel_rfl) (by kernel_rfl) (by kernel_rfl) (fun _ _ _ h => h) (by rfl) (fun w hS => by obtain ⟨hS1, hS2, hS3, hS4, hS5, hS6, hS7, hS8, hS9⟩ := hS; go_simp) hS0 ?_
    simp only [List.setIfInBounds_toArray, List.set_cons_zero, List.set_cons_succ]
    refine heldA_take (i := 21) (v := .slice (some ⟨g, 0, none⟩) 5 c) rfl rfl (by kernel_rfl) (by kernel_rfl) (by kernel_rfl) (fun _ _ _ h => h) (by rfl) (fun w hS => by obtain ⟨hS1, hS2, hS3, hS4, hS5, hS6, hS7, hS8, hS9⟩ := hS; go_simp) hS0 ?_
    simp only [List.setIfInBounds_toArray, List.set_cons_zero, List.set_cons_succ]
    refine heldA_take (i := 22) (v := .int .i64 (k : Nat)) rfl rfl (by kernel_rfl) (by kernel_rfl) (by kernel_rfl) (fun _ _ _ h => h) (by rfl) (fun w hS => by obtain ⟨hS1, hS2, hS3, hS4, hS5, hS6, hS7, hS8, hS9⟩ := hS; go_simp) hS0 ?_
    simp only [List.setIfInBounds_toArray, List.set_cons_zero, List.set_cons_succ]
    refine heldA_take (i := 23) (v := .pointer (some ⟨g, k * 4, none⟩)) rfl rfl (by kernel_rfl) (by kernel_rfl) (by kernel_rfl) (fun _ _ _ h => h) (by rfl) (fun w hS => by obtain ⟨hS1, hS2, hS3, hS4, hS5, hS6, hS7, hS8, hS9⟩ := hS; go_simp) hS0 ?_
    simp only [List.setIfInBounds_toArray, List.set_cons_zero, List.set_cons_succ]
    refine heldA_take (i := 24) (v := .agg #[.int .i64 er.nodes, .slice ea1 ea2 ea3, .slice eb1 eb2 eb3, .slice ec1 ec2 ec3]) rfl rfl (by kernel_rfl) (by kernel_rfl) (by kernel_rfl) (fun _ _ _ h => h) (by rfl) (fun w hS => by obtain ⟨hS1, hS2, hS3, hS4, hS5, hS6, hS7, hS8, hS9⟩ := hS; go_simp) hS0 ?_
    simp only [List.setIfInBounds_toArray, List.set_cons_zero, List.set_cons_succ]
    refine heldA_take (i := 25) (v := .slice (some ⟨g, 0, none⟩) 5 c) rfl rfl (by kernel_rfl) (by kernel_rfl) (by kernel_rfl) (fun _ _ _ h => h) (by rfl) (fun w hS => by obtain ⟨hS1, hS2, hS3, hS4, hS5, hS6, hS7, hS8, hS9⟩ := hS; go_simp) hS0 ?_
    simp only [List.setIfInBounds_toArray, List.set_cons_zero, List.set_cons_succ]
    refine heldA_take (i := 26) (v := .pointer (some ⟨g, 4, none⟩)) rfl rfl (by kernel_rfl) (by kernel_rfl) (by kernel_rfl) (fun _ _ _ h => h) (by rfl) (fun w hS => by obtain ⟨hS1, hS2, hS3, hS4, hS5, hS6, hS7, hS8, hS9⟩ := hS; go_simp) hS0 ?_
    simp only [List.setIfInBounds_toArray, List.set_cons_zero, List.set_cons_succ]
    refine heldA_take (i := 27) (v := .agg #[.int .i64 fr.nodes, .slice fa1 fa2 fa3, .slice fb1 fb2 fb3, .slice fc1 fc2 fc3]) rfl rfl (by kernel_rfl) (by kernel_rfl) (by kernel_rfl) (fun _ _ _ h => h) (by rfl) (fun w hS => by obtain ⟨hS1, hS2, hS3, hS4, hS5, hS6, hS7, hS8, hS9⟩ := hS; go_simp) hS0 ?_
    simp only [List.setIfInBounds_toArray, List.set_cons_zero, List.set_cons_succ]
    refine heldA_one (i := 20) (by kernel_rfl) ?_
    refine wpOp_calls (f := 22) rfl rfl (by rfl) (by go_simp) (same_isT (.agg #[.int .i64 er.nodes, .slice ea1 ea2 ea3, .slice eb1 eb2 eb3, .slice ec1 ec2 ec3]) (.agg #[.int .i64 fr.nodes, .slice fa1 fa2 fa3, .slice fb1 fb2 fb3, .slice fc1 fc2 fc3]) er fr sb u50 (HEv.out _ HBe.out) (HFv.out _ HBe.out) HSb.out.symm) ?_ (by rintro _ _ ⟨h, _⟩; cases h) (by rintro _ ⟨h, _⟩; cases h)
    rintro _ u60 ⟨⟨rfl⟩, hb⟩
    have HBn := Lib.hid (HBe.out.trans (hb.mono HBe.out.size))
    replace HBe := HBn
    clear HBn hb hS0
    have hS0 := HS.out u60 HBe.out
    refine ⟨hS0, ?_⟩
    simp only [List.setIfInBounds_toArray, List.set_cons_zero, List.set_cons_succ]
    refine heldA_one (i := 28) (by kernel_rfl) ?_
    refine wpOp_calls (f := 23) rfl rfl (by rfl) (by go_simp) (refSame_isT (.agg #[.int .i64 er.nodes, .slice ea1 ea2 ea3, .slice eb1 eb2 eb3, .slice ec1 ec2 ec3]) (.agg #[.int .i64 fr.nodes, .slice fa1 fa2 fa3, .slice fb1 fb2 fb3, .slice fc1 fc2 fc3]) er fr sb u60 (HEv.out _ HBe.out) (HFv.out _ HBe.out) HSb.out.symm) ?_ (by rintro _ _ ⟨h, _⟩; cases h) (by rintro _ ⟨h, _⟩; cases h)
    rintro _ u68 ⟨⟨rfl⟩, hb⟩
    have HBn := Lib.hid (HBe.out.trans (hb.mono HBe.out.size))
    replace HBe := HBn
    clear HBn hb hS0
    have hS0 := HS.out u68 HBe.out
    refine ⟨hS0, ?_⟩
    simp only [List.setIfInBounds_toArray, List.set_cons_zero, List.set_cons_succ]
    refine heldA_take (i := 29) (v := .bool false) rfl rfl (by kernel_rfl) (by kernel_rfl) (by kernel_rfl) (fun _ _ _ h => h) (by rfl) (fun w hS => by obtain ⟨hS1, hS2, hS3, hS4, hS5, hS6, hS7, hS8, hS9⟩ := hS; go_simp) hS0 ?_
    simp only [List.setIfInBounds_toArray, List.set_cons_zero, List.set_cons_succ]
    refine heldA_take (i := 30) (v := .bool false) rfl rfl (by kernel_rfl) (by kernel_rfl) (by kernel_rfl) (fun _ _ _ h => h) (by rfl) (fun w hS => by obtain ⟨hS1, hS2, hS3, hS4, hS5, hS6, hS7, hS8, hS9⟩ := hS; go_simp) hS0 ?_
    simp only [List.setIfInBounds_toArray, List.set_cons_zero, List.set_cons_succ]
    refine wpAnyH_done (by kernel_rfl) ?_ _
    have HB10 := Lib.hid HBe.out
    clear hS0 HBel HBe HS
    have HS := Lib.hid (show ∀ u, Below u68.heap.size u68 u → (u.cell? ⟨g, k * 4, none⟩ = some (.int .i64 er.nodes) ∧ u.cell? ⟨g, k * 4 + 1, none⟩ = some (.slice ea1 ea2 ea3) ∧ u.cell? ⟨g, k * 4 + 2, none⟩ = some (.slice eb1 eb2 eb3) ∧ u.cell? ⟨g, k * 4 + 3, none⟩ = some (.slice ec1 ec2 ec3) ∧ u.cell? ⟨g, 4, none⟩ = some (.int .i64 fr.nodes) ∧ u.cell? ⟨g, 5, none⟩ = some (.slice fa1 fa2 fa3) ∧ u.cell? ⟨g, 6, none⟩ = some (.slice fb1 fb2 fb3) ∧ u.cell? ⟨g, 7, none⟩ = some (.slice fc1 fc2 fc3) ∧ u.cell? ⟨B5, 2, none⟩ = some (.int .i64 m0)) from fun u hu => HSW.out u (HB10.out.next' hu))
    have HBel := Lib.hid (Below.refl u68.heap.size u68)
    go_wp2_with fail
    refine wp_region_held (S := fun w' => w'.cell? ⟨g, k * 4, none⟩ = some (.int .i64 er.nodes) ∧ w'.cell? ⟨g, k * 4 + 1, none⟩ = some (.slice ea1 ea2 ea3) ∧ w'.cell? ⟨g, k * 4 + 2, none⟩ = some (.slice eb1 eb2 eb3) ∧ w'.cell? ⟨g, k * 4 + 3, none⟩ = some (.slice ec1 ec2 ec3) ∧ w'.cell? ⟨g, 4, none⟩ = some (.int .i64 fr.nodes) ∧ w'.cell? ⟨g, 5, none⟩ = some (.slice fa1 fa2 fa3) ∧ w'.cell? ⟨g, 6, none⟩ = some (.slice fb1 fb2 fb3) ∧ w'.cell? ⟨g, 7, none⟩ = some (.slice fc1 fc2 fc3) ∧ w'.cell? ⟨B5, 2, none⟩ = some (.int .i64 m0)) rfl ?_
    have hS0 := HS.out u68.drew (HBel.out.drew)
    change wpAnyH _ _ _ _ _ 32 _ _ u68.drew
    have HBe := Lib.hid (HBel.out.drew)
    refine heldA_take (i := 0) (v := .slice (some ⟨g, 0, none⟩) 5 c) rfl rfl (by kernel_rfl) (by kernel_rfl) (by kernel_rfl) (fun _ _ _ h => h) (by rfl) (fun w hS => by obtain ⟨hS1, hS2, hS3, hS4, hS5, hS6, hS7, hS8, hS9⟩ := hS; go_simp) hS0 ?_
    simp only [List.setIfInBounds_toArray, List.set_cons_zero, List.set_cons_succ]
    refine heldA_take (i := 1) (v := .int .i64 (k : Nat)) rfl rfl (by kernel_rfl) (by kernel_rfl) (by kernel_rfl) (fun _ _ _ h => h) (by rfl) (fun w hS => by obtain ⟨hS1, hS2, hS3, hS4, hS5, hS6, hS7, hS8, hS9⟩ := hS; go_simp) hS0 ?_
    simp only [List.setIfInBounds_toArray, List.set_cons_zero, List.set_cons_succ]
    refine heldA_take (i := 2) (v := .pointer (some ⟨g, k * 4, none⟩)) rfl rfl (by kernel_rfl) (by kernel_rfl) (by kernel_rfl) (fun _ _ _ h => h) (by rfl) (fun w hS => by obtain ⟨hS1, hS2, hS3, hS4, hS5, hS6, hS7, hS8, hS9⟩ := hS; go_simp) hS0 ?_
    simp only [List.setIfInBounds_toArray, List.set_cons_zero, List.set_cons_succ]
    refine heldA_take (i := 3) (v := .agg #[.int .i64 er.nodes, .slice ea1 ea2 ea3, .slice eb1 eb2 eb3, .slice ec1 ec2 ec3]) rfl rfl (by kernel_rfl) (by kernel_rfl) (by kernel_rfl) (fun _ _ _ h => h) (by rfl) (fun w hS => by obtain ⟨hS1, hS2, hS3, hS4, hS5, hS6, hS7, hS8, hS9⟩ := hS; go_simp) hS0 ?_
    simp only [List.setIfInBounds_toArray, List.set_cons_zero, List.set_cons_succ]
    refine heldA_take (i := 5) (v := .slice (some ⟨g, 0, none⟩) 5 c) rfl rfl (by kernel_rfl) (by kernel_rfl) (by kernel_rfl) (fun _ _ _ h => h) (by rfl) (fun w hS => by obtain ⟨hS1, hS2, hS3, hS4, hS5, hS6, hS7, hS8, hS9⟩ := hS; go_simp) hS0 ?_
    simp only [List.setIfInBounds_toArray, List.set_cons_zero, List.set_cons_succ]
    refine heldA_take (i := 6) (v := .int .i64 (k : Nat)) rfl rfl (by kernel_rfl) (by kernel_rfl) (by kernel_rfl) (fun _ _ _ h => h) (by rfl) (fun w hS => by obtain ⟨hS1, hS2, hS3, hS4, hS5, hS6, hS7, hS8, hS9⟩ := hS; go_simp) hS0 ?_
    simp only [List.setIfInBounds_toArray, List.set_cons_zero, List.set_cons_succ]
    refine heldA_take (i := 7) (v := .pointer (some ⟨g, k * 4, none⟩)) rfl rfl (by kernel_rfl) (by kernel_rfl) (by kernel_rfl) (fun _ _ _ h => h) (by rfl) (fun w hS => by obtain ⟨hS1, hS2, hS3, hS4, hS5, hS6, hS7, hS8, hS9⟩ := hS; go_simp) hS0 ?_
    simp only [List.setIfInBounds_toArray, List.set_cons_zero, List.set_cons_succ]
    refine heldA_take (i := 8) (v := .agg #[.int .i64 er.nodes, .slice ea1 ea2 ea3, .slice eb1 eb2 eb3, .slice ec1 ec2 ec3]) rfl rfl (by kernel_rfl) (by kernel_rfl) (by kernel_rfl) (fun _ _ _ h => h) (by rfl) (fun w hS => by obtain ⟨hS1, hS2, hS3, hS4, hS5, hS6, hS7, hS8, hS9⟩ := hS; go_simp) hS0 ?_
    simp only [List.setIfInBounds_toArray, List.set_cons_zero, List.set_cons_succ]
    refine heldA_one (i := 4) (by kernel_rfl) ?_
    refine wpOp_calls (f := 24) rfl rfl (by rfl) (by go_simp) (turned_any (.agg #[.int .i64 er.nodes, .slice ea1 ea2 ea3, .slice eb1 eb2 eb3, .slice ec1 ec2 ec3]) er u68.drew (HEv.out _ (HB10.out.next' HBe.out)) HFe.out) ?_ (by rintro _ _ ⟨_, h, _⟩; cases h) (by rintro _ ⟨_, h, _⟩; cases h)
    rintro v75 u75 ⟨_, ⟨rfl⟩, hr, hb⟩
    have HBn := Lib.hid (HBe.out.trans (hb.mono HBe.out.size))
    have HR75 := Lib.hid hr.raw
    clear hr
    replace HBe := HBn
    clear HBn hb hS0
    have hS0 := HS.out u75 HBe.out
    refine ⟨hS0, ?_⟩
    simp only [List.setIfInBounds_toArray, List.set_cons_zero, List.set_cons_succ]
    refine heldA_one (i := 9) (by kernel_rfl) ?_
    refine wpOp_calls (f := 25) rfl rfl (by rfl) (by go_simp) (refTurned6_any (.agg #[.int .i64 er.nodes, .slice ea1 ea2 ea3, .slice eb1 eb2 eb3, .slice ec1 ec2 ec3]) er u75 (HEv.out _ (HB10.out.next' HBe.out)) (by have := HEl.out; omega)) ?_ (by rintro _ _ ⟨_, h, _⟩; cases h) (by rintro _ ⟨_, h, _⟩; cases h)
    rintro v80 u80 ⟨_, ⟨rfl⟩, hr, hb⟩
    have HBn := Lib.hid (HBe.out.trans (hb.mono HBe.out.size))
    have HR80 := Lib.hid hr
    have HR75' := Lib.hid (HR75.out.below hb)
    clear hr HR75
    replace HBe := HBn
    clear HBn hb hS0
    have hS0 := HS.out u80 HBe.out
    refine ⟨hS0, ?_⟩
    simp only [List.setIfInBounds_toArray, List.set_cons_zero, List.set_cons_succ]
    refine heldA_one (i := 10) (by kernel_rfl) ?_
    refine wpOp_calls (f := 23) rfl rfl (by rfl) (by go_simp) (refSame_isT v75 v80 er.turned er.turned true u80 HR75'.out HR80.out ((sameB_iff _ _).2 rfl)) ?_ (by rintro _ _ ⟨h, _⟩; cases h) (by rintro _ ⟨h, _⟩; cases h)
    rintro _ u81 ⟨⟨rfl⟩, hb⟩
    have HBn := Lib.hid (HBe.out.trans (hb.mono HBe.out.size))
    replace HBe := HBn
    clear HBn hb hS0
    have hS0 := HS.out u81 HBe.out
    refine ⟨hS0, ?_⟩
    simp only [List.setIfInBounds_toArray, List.set_cons_zero, List.set_cons_succ]
    refine heldA_take (i := 11) (v := .bool false) rfl rfl (by kernel_rfl) (by kernel_rfl) (by kernel_rfl) (fun _ _ _ h => h) (by rfl) (fun w hS => by obtain ⟨hS1, hS2, hS3, hS4, hS5, hS6, hS7, hS8, hS9⟩ := hS; go_simp) hS0 ?_
    simp only [List.setIfInBounds_toArray, List.set_cons_zero, List.set_cons_succ]
    refine heldA_take (i := 12) (v := .bool false) rfl rfl (by kernel_rfl) (by kernel_rfl) (by kernel_rfl) (fun _ _ _ h => h) (by rfl) (fun w hS => by obtain ⟨hS1, hS2, hS3, hS4, hS5, hS6, hS7, hS8, hS9⟩ := hS; go_simp) hS0 ?_
    simp only [List.setIfInBounds_toArray, List.set_cons_zero, List.set_cons_succ]
    refine heldA_take (i := 13) (v := .slice (some ⟨g, 0, none⟩) 5 c) rfl rfl (by kernel_rfl) (by kernel_rfl) (by kernel_rfl) (fun _ _ _ h => h) (by rfl) (fun w hS => by obtain ⟨hS1, hS2, hS3, hS4, hS5, hS6, hS7, hS8, hS9⟩ := hS; go_simp) hS0 ?_
    simp only [List.setIfInBounds_toArray, List.set_cons_zero, List.set_cons_succ]
    refine heldA_take (i := 14) (v := .int .i64 (k : Nat)) rfl rfl (by kernel_rfl) (by kernel_rfl) (by kernel_rfl) (fun _ _ _ h => h) (by rfl) (fun w hS => by obtain ⟨hS1, hS2, hS3, hS4, hS5, hS6, hS7, hS8, hS9⟩ := hS; go_simp) hS0 ?_
    simp only [List.setIfInBounds_toArray, List.set_cons_zero, List.set_cons_succ]
    refine heldA_take (i := 15) (v := .pointer (some ⟨g, k * 4, none⟩)) rfl rfl (by kernel_rfl) (by kernel_rfl) (by kernel_rfl) (fun _ _ _ h => h) (by rfl) (fun w hS => by obtain ⟨hS1, hS2, hS3, hS4, hS5, hS6, hS7, hS8, hS9⟩ := hS; go_simp) hS0 ?_
    simp only [List.setIfInBounds_toArray, List.set_cons_zero, List.set_cons_succ]
    refine heldA_take (i := 16) (v := .agg #[.int .i64 er.nodes, .slice ea1 ea2 ea3, .slice eb1 eb2 eb3, .slice ec1 ec2 ec3]) rfl rfl (by kernel_rfl) (by kernel_rfl) (by kernel_rfl) (fun _ _ _ h => h) (by rfl) (fun w hS => by obtain ⟨hS1, hS2, hS3, hS4, hS5, hS6, hS7, hS8, hS9⟩ := hS; go_simp) hS0 ?_
    simp only [List.setIfInBounds_toArray, List.set_cons_zero, List.set_cons_succ]
    refine heldA_take (i := 17) (v := .pointer (some ⟨B5, 0, none⟩)) rfl rfl (by kernel_rfl) (by kernel_rfl) (by kernel_rfl) (fun _ _ _ h => h) (by rfl) (fun w hS => by obtain ⟨hS1, hS2, hS3, hS4, hS5, hS6, hS7, hS8, hS9⟩ := hS; go_simp) hS0 ?_
    simp only [List.setIfInBounds_toArray, List.set_cons_zero, List.set_cons_succ]
    refine heldA_take (i := 18) (v := .pointer (some ⟨B5, 2, none⟩)) rfl rfl (by kernel_rfl) (by kernel_rfl) (by kernel_rfl) (fun _ _ _ h => h) (by rfl) (fun w hS => by obtain ⟨hS1, hS2, hS3, hS4, hS5, hS6, hS7, hS8, hS9⟩ := hS; go_simp) hS0 ?_
    simp only [List.setIfInBounds_toArray, List.set_cons_zero, List.set_cons_succ]
    refine heldA_take (i := 19) (v := .int .i64 m0) rfl rfl (by kernel_rfl) (by kernel_rfl) (by kernel_rfl) (fun _ _ _ h => h) (by rfl) (fun w hS => by obtain ⟨hS1, hS2, hS3, hS4, hS5, hS6, hS7, hS8, hS9⟩ := hS; go_simp) hS0 ?_
    simp only [List.setIfInBounds_toArray, List.set_cons_zero, List.set_cons_succ]
    refine heldA_take (i := 21) (v := .slice (some ⟨g, 0, none⟩) 5 c) rfl rfl (by kernel_rfl) (by kernel_rfl) (by kernel_rfl) (fun _ _ _ h => h) (by rfl) (fun w hS => by obtain ⟨hS1, hS2, hS3, hS4, hS5, hS6, hS7, hS8, hS9⟩ := hS; go_simp) hS0 ?_
    simp only [List.setIfInBounds_toArray, List.set_cons_zero, List.set_cons_succ]
    refine heldA_take (i := 22) (v := .int .i64 (k : Nat)) rfl rfl (by kernel_rfl) (by kernel_rfl) (by kernel_rfl) (fun _ _ _ h => h) (by rfl) (fun w hS => by obtain ⟨hS1, hS2, hS3, hS4, hS5, hS6, hS7, hS8, hS9⟩ := hS; go_simp) hS0 ?_
    simp only [List.setIfInBounds_toArray, List.set_cons_zero, List.set_cons_succ]
    refine heldA_take (i := 23) (v := .pointer (some ⟨g, k * 4, none⟩)) rfl rfl (by kernel_rfl) (by kernel_rfl) (by kernel_rfl) (fun _ _ _ h => h) (by rfl) (fun w hS => by obtain ⟨hS1, hS2, hS3, hS4, hS5, hS6, hS7, hS8, hS9⟩ := hS; go_simp) hS0 ?_
    simp only [List.setIfInBounds_toArray, List.set_cons_zero, List.set_cons_succ]
    refine heldA_take (i := 24) (v := .agg #[.int .i64 er.nodes, .slice ea1 ea2 ea3, .slice eb1 eb2 eb3, .slice ec1 ec2 ec3]) rfl rfl (by kernel_rfl) (by kernel_rfl) (by kernel_rfl) (fun _ _ _ h => h) (by rfl) (fun w hS => by obtain ⟨hS1, hS2, hS3, hS4, hS5, hS6, hS7, hS8, hS9⟩ := hS; go_simp) hS0 ?_
    simp only [List.setIfInBounds_toArray, List.set_cons_zero, List.set_cons_succ]
    refine heldA_take (i := 25) (v := .pointer (some ⟨B5, 0, none⟩)) rfl rfl (by kernel_rfl) (by kernel_rfl) (by kernel_rfl) (fun _ _ _ h => h) (by rfl) (fun w hS => by obtain ⟨hS1, hS2, hS3, hS4, hS5, hS6, hS7, hS8, hS9⟩ := hS; go_simp) hS0 ?_
    simp only [List.setIfInBounds_toArray, List.set_cons_zero, List.set_cons_succ]
    refine heldA_take (i := 26) (v := .pointer (some ⟨B5, 2, none⟩)) rfl rfl (by kernel_rfl) (by kernel_rfl) (by kernel_rfl) (fun _ _ _ h => h) (by rfl) (fun w hS => by obtain ⟨hS1, hS2, hS3, hS4, hS5, hS6, hS7, hS8, hS9⟩ := hS; go_simp) hS0 ?_
    simp only [List.setIfInBounds_toArray, List.set_cons_zero, List.set_cons_succ]
    refine heldA_take (i := 27) (v := .int .i64 m0) rfl rfl (by kernel_rfl) (by kernel_rfl) (by kernel_rfl) (fun _ _ _ h => h) (by rfl) (fun w hS => by obtain ⟨hS1, hS2, hS3, hS4, hS5, hS6, hS7, hS8, hS9⟩ := hS; go_simp) hS0 ?_
    simp only [List.setIfInBounds_toArray, List.set_cons_zero, List.set_cons_succ]
    refine heldA_one (i := 20) (by kernel_rfl) ?_
    refine wpOp_calls (f := 26) rfl rfl (by rfl) (by go_simp) (moved_any (.agg #[.int .i64 er.nodes, .slice ea1 ea2 ea3, .slice eb1 eb2 eb3, .slice ec1 ec2 ec3]) er m0 u81 (HEv.out _ (HB10.out.next' HBe.out)) HFe.out) ?_ (by rintro _ _ ⟨_, _, h, _⟩; cases h) (by rintro _ ⟨_, _, h, _⟩; cases h)
    rintro v91 u91 ⟨_, q91, ⟨rfl⟩, hr, hm1, hm2, hb⟩
    have HBn := Lib.hid (HBe.out.trans (hb.mono HBe.out.size))
    have HR91 := Lib.hid hr.raw
    have HM91 := Lib.hid (And.intro hm1 hm2)
    clear hr hm1 hm2
    replace HBe := HBn
    clear HBn hb hS0
    have hS0 := HS.out u91 HBe.out
    refine ⟨hS0, ?_⟩
    simp only [List.setIfInBounds_toArray, List.set_cons_zero, List.set_cons_succ]
    refine heldA_one (i := 28) (by kernel_rfl) ?_
    refine wpOp_calls (f := 27) rfl rfl (by rfl) (by go_simp) (refMoved6_any (.agg #[.int .i64 er.nodes, .slice ea1 ea2 ea3, .slice eb1 eb2 eb3, .slice ec1 ec2 ec3]) er m0 u91 (HEv.out _ (HB10.out.next' HBe.out)) (by have := HEl.out; omega)) ?_ (by rintro _ _ ⟨_, _, h, _⟩; cases h) (by rintro _ ⟨_, _, h, _⟩; cases h)
    rintro v99 u99 ⟨_, q99, ⟨rfl⟩, hr, hm1, hm2, hb⟩
    have HBn := Lib.hid (HBe.out.trans (hb.mono HBe.out.size))
    have HR99 := Lib.hid hr
    have HR91' := Lib.hid (HR91.out.below hb)
    have HQ := Lib.hid (show sameB q91 q99 = true from (sameB_iff _ _).2 (by
      by_cases hok : er.ok
      · exact moved_one ((Raw.ok_iff er).1 hok) (HM91.out.2 hok) (hm2 hok)
      · rw [HM91.out.1 hok, hm1 hok]))
    clear hr hm1 hm2 HR91 HM91
    replace HBe := HBn
    clear HBn hb hS0
    have hS0 := HS.out u99 HBe.out
    refine ⟨hS0, ?_⟩
    simp only [List.setIfInBounds_toArray, List.set_cons_zero, List.set_cons_succ]
    refine heldA_one (i := 29) (by kernel_rfl) ?_
    refine wpOp_calls (f := 23) rfl rfl (by rfl) (by go_simp) (refSame_isT v91 v99 q91 q99 true u99 HR91'.out HR99.out HQ.out) ?_ (by rintro _ _ ⟨h, _⟩; cases h) (by rintro _ ⟨h, _⟩; cases h)
    rintro _ u100 ⟨⟨rfl⟩, hb⟩
    have HBn := Lib.hid (HBe.out.trans (hb.mono HBe.out.size))
    replace HBe := HBn
    clear HBn hb hS0
    have hS0 := HS.out u100 HBe.out
    refine ⟨hS0, ?_⟩
    simp only [List.setIfInBounds_toArray, List.set_cons_zero, List.set_cons_succ]
    refine heldA_take (i := 30) (v := .bool false) rfl rfl (by kernel_rfl) (by kernel_rfl) (by kernel_rfl) (fun _ _ _ h => h) (by rfl) (fun w hS => by obtain ⟨hS1, hS2, hS3, hS4, hS5, hS6, hS7, hS8, hS9⟩ := hS; go_simp) hS0 ?_
    simp only [List.setIfInBounds_toArray, List.set_cons_zero, List.set_cons_succ]
    refine heldA_take (i := 31) (v := .bool false) rfl rfl (by kernel_rfl) (by kernel_rfl) (by kernel_rfl) (fun _ _ _ h => h) (by rfl) (fun w hS => by obtain ⟨hS1, hS2, hS3, hS4, hS5, hS6, hS7, hS8, hS9⟩ := hS; go_simp) hS0 ?_
    simp only [List.setIfInBounds_toArray, List.set_cons_zero, List.set_cons_succ]
    refine wpAnyH_done (by kernel_rfl) ?_ _
    have HZ := Lib.hid (HB.out.next' (HB10.out.next' HBe.out))
    clear hS0 HBel HBe HS
    go_wp2_with fail
    go_roundw
    case rel => exact ⟨k + 1, by omega, by go_num, HZ⟩
    case measure => simp [intOf]; omega
  case neg =>
  obtain rfl : k = 5 := by omega
  have HBq := Lib.hid (HBz.out.next' (HBr.out.next' HB.out))
  go_wp2_with fail
  refine (works_any wr (HG0.out.later HBq.out)).mono ?_
  rintro e u ⟨rfl, hb⟩
  have HE := Lib.hid (HBq.out.next' hb)
  clear hb
  go_wp2_with fail
  go_ret
  exact ⟨rfl, HE.out⟩
end Go.Proofs.YtnkcmlngoeofgaaDoor
