/- Texts of the law GraphTells, merged: GrPut. -/
import Derived.Test.YtnkcmlngoeofgaaDoorPGraphTells02
import Derived.Test.YtnkcmlngoeofgaaDoorPGraphTells06
import Derived.Test.YtnkcmlngoeofgaaDoorPGraphTells05
import Derived.Deep.Cut
import Derived.Deep.CutRange
import Derived.Deep.CutBlock
/- GraphFirst: put. -/
namespace Go.Proofs.YtnkcmlngoeofgaaDoor
open Go.RowKit
/-- the graph has so few nodes, arcs, and lists of its length -/
structure Raw.small (r : Raw) : Prop where
  nodes : 1 ≤ r.nodes ∧ r.nodes ≤ 12
  lenX : (r.X.length : Int) = r.nodes
  lenY : (r.Y.length : Int) = r.nodes
  arcs : r.arcs.length ≤ 40
/-- what is answered, stored -/
theorem put_end {w w1 W : World} {Bo B8 B9 : Nat} {vx vy va : Value} {r : Raw} {y0 y1 y2 y3 x0 x1 x2 x3 p q : Value} (n : Int) (hn : n = r.nodes) (hb1 : Below w.heap.size w w1) (hbl : w1.heap.size ≤ Bo) (hI : OutI w1 Bo vx vy va r W) (k8 : Blk W B8 #[y0, y1, y2, y3] 25 (0, 0)) (k9 : Blk W B9 #[x0, x1, x2, x3] 35 (0, 0)) (h8 : w.heap.size ≤ B8) (h9 : w.heap.size ≤ B9) (a b : Value) {W' : World}
    (hW : W' = (((((((W.setCell ⟨B8, 0, none⟩ (.int .i64 n)).setCell ⟨B8, 1, none⟩ vx).setCell ⟨B8, 2, none⟩ vy).setCell ⟨B8, 3, none⟩ va).setCell ⟨B9, 0, none⟩ a).setCell ⟨B9, 1, none⟩ b).setCell ⟨B9, 2, none⟩ p).setCell ⟨B9, 3, none⟩ q) :
    Blk W' B8 #[.int .i64 n, vx, vy, va] 25 (0, 0) ∧ Blk W' B9 #[a, b, p, q] 35 (0, 0) ∧ RawO w.heap.size W' (.agg #[.int .i64 n, vx, vy, va]) r ∧ Below w.heap.size w W' := by
  subst hn
  have hne : B9 ≠ B8 := blk_apart k8 k9 (by decide)
  have hbW := hb1.next' (below_of (Below.refl _ _) hI.kept hbl)
  obtain ⟨m8, mO, mB⟩ := store4 (w0 := w) hI.own k8 h8 hbW
  have m9 := (((k9.setOther ⟨B8, 0, none⟩ (.int .i64 r.nodes) hne).setOther ⟨B8, 1, none⟩ vx hne).setOther ⟨B8, 2, none⟩ vy hne).setOther ⟨B8, 3, none⟩ va hne
  have e9 := (((m9.set 0 a).set 1 b).set 2 p).set 3 q
  have e8 := (((m8.setOther ⟨B9, 0, none⟩ a hne.symm).setOther ⟨B9, 1, none⟩ b hne.symm).setOther ⟨B9, 2, none⟩ p hne.symm).setOther ⟨B9, 3, none⟩ q hne.symm
  have eO := (((mO.set (p := ⟨B9, 0, none⟩) m9 (by decide) (by decide) a).set (p := ⟨B9, 1, none⟩) (m9.set 0 a) (by decide) (by decide) b).set (p := ⟨B9, 2, none⟩) ((m9.set 0 a).set 1 b) (by decide) (by decide) p).set (p := ⟨B9, 3, none⟩) (((m9.set 0 a).set 1 b).set 2 p) (by decide) (by decide) q
  rw [hW]
  exact ⟨e8, e9, ⟨_, _, _, rfl, ownsRow_le eO.1 hb1.size, ownsRow_le eO.2.1 hb1.size, ownsRow_le eO.2.2.1 hb1.size, eO.2.2.2⟩, (((mB.setCell (p := ⟨B9, 0, none⟩) h9 _).setCell (p := ⟨B9, 1, none⟩) h9 _).setCell (p := ⟨B9, 2, none⟩) h9 _).setCell (p := ⟨B9, 3, none⟩) h9 _⟩
set_option maxRecDepth 100000 in
set_option maxHeartbeats 32000000 in
theorem put_any (v : Value) (r : Raw) (what at_ : Nat) (high : Bool) (w : World) (h : RawV w v r) (hs : r.small) (hw : what < 256) (ha : at_ < 256) : Calls Tryd.prog 16 #[v, .int .u8 (what : Nat), .int .u8 (at_ : Nat), .bool high] w fun e w' =>
    ∃ v' t i u, e = .returned (.tuple #[v', .agg #[.int .i64 (posK t i).1, .int .i64 (posK t i).2.1, .int .i64 (posK t i).2.2, .int .i64 (codeK t)]]) ∧ RawO w.heap.size w' v' (setK r t i u) ∧ Bad r t i u ∧ Below w.heap.size w w' := by
  obtain ⟨vx, vy, va, rfl, hx, hy, ha0⟩ := h
  have fx := hx.form; have fy := hy.form
  have fa : ∃ a c, va = .slice a r.arcs.length c := by obtain ⟨a, c, e, _⟩ := ha0; exact ⟨a, c, e⟩
  obtain ⟨Br, hBr⟩ : ∃ b, b = w.heap.size := ⟨_, rfl⟩
  obtain ⟨B8, hB8⟩ : ∃ b, b = w.heap.size + 1 := ⟨_, rfl⟩
  obtain ⟨B9, hB9⟩ : ∃ b, b = w.heap.size + 1 + 1 := ⟨_, rfl⟩
  obtain ⟨w1, hw1⟩ : ∃ w1, w1 = ((w.alloc (.cells #[.int .i64 r.nodes, vx, vy, va] 25)).alloc (.cells #[.int .i64 0, .slice none 0 0, .slice none 0 0, .slice none 0 0] 25)).alloc (.cells #[.int .i64 0, .int .i64 0, .int .i64 0, .int .i64 0] 35) := ⟨_, rfl⟩
  have hb1 : Below w.heap.size w w1 := by rw [hw1]; exact (((Below.refl _ _).alloc (Nat.le_refl _) _).alloc (by simp) _).alloc (by simp; omega) _
  have KR : Blk w1 Br #[.int .i64 r.nodes, vx, vy, va] 25 (0, 0) := by rw [hw1, hBr]; exact ((Blk.new _ _ _ _).alloc _).alloc _
  have K8 : Blk w1 B8 #[.int .i64 0, .slice none 0 0, .slice none 0 0, .slice none 0 0] 25 (0, 0) := by
    rw [hw1, hB8]
    have h := Blk.new (w.alloc (.cells #[.int .i64 r.nodes, vx, vy, va] 25)) #[.int .i64 0, .slice none 0 0, .slice none 0 0, .slice none 0 0] 25 (0, 0)
    rw [World.size_alloc] at h
    exact h.alloc _
  have K9 : Blk w1 B9 #[.int .i64 0, .int .i64 0, .int .i64 0, .int .i64 0] 35 (0, 0) := by
    rw [hw1, hB9]
    have h := Blk.new ((w.alloc (.cells #[.int .i64 r.nodes, vx, vy, va] 25)).alloc (.cells #[.int .i64 0, .slice none 0 0, .slice none 0 0, .slice none 0 0] 25)) #[.int .i64 0, .int .i64 0, .int .i64 0, .int .i64 0] 35 (0, 0)
    rwa [World.size_alloc, World.size_alloc] at h
  have kp := fun u (hu : Below w1.heap.size w1 u) => (KpC.of_below hb1).trans (KpC.of_below hu)
  have HVx := Lib.hid (show ∀ u, Below w1.heap.size w1 u → SlX u vx r.X from fun u hu => hx.keep (kp u hu))
  have HVy := Lib.hid (show ∀ u, Below w1.heap.size w1 u → SlX u vy r.Y from fun u hu => hy.keep (kp u hu))
  have HVa := Lib.hid (show ∀ u, Below w1.heap.size w1 u → SlA u va r.arcs from fun u hu => ha0.keep (kp u hu))
  have HB1 := Lib.hid hb1; have HBr := Lib.hid KR; have HK8 := Lib.hid K8; have HK9 := Lib.hid K9; have HW1 := Lib.hid hw1; have HSm := Lib.hid hs
  have HFew := Lib.hid (show r.few from ⟨by have := hs.lenX; have := hs.nodes; omega, by have := hs.lenY; have := hs.nodes; omega, by have := hs.arcs; omega⟩)
  have HEr := Lib.hid hBr; have HE8 := Lib.hid hB8; have HE9 := Lib.hid hB9
  have HL8 := Lib.hid (show w.heap.size ≤ B8 by omega); have HL9 := Lib.hid (show w.heap.size ≤ B9 by omega)
  clear hx hy ha0 hb1 KR K8 K9 hw1 kp
  obtain ⟨_, _, _, rfl⟩ := fx
  obtain ⟨_, _, _, rfl⟩ := fy
  obtain ⟨_, _, rfl⟩ := fa
  rename_i x1 x2 x3 y1 y2 y3 z1 z3
  go_enter Tryd.func16, Tryd.ntmps16
  go_wp2_with fail
  rw [← HW1.out, ← HE9.out, ← HE8.out, ← HEr.out]
  clear hBr hB8 hB9
  obtain ⟨vx, hvx⟩ : ∃ v, v = Value.slice x1 x2 x3 := ⟨_, rfl⟩
  obtain ⟨vy, hvy⟩ : ∃ v, v = Value.slice y1 y2 y3 := ⟨_, rfl⟩
  obtain ⟨va, hva⟩ : ∃ v, v = Value.slice z1 r.arcs.length z3 := ⟨_, rfl⟩
  rw [← hvx] at HVx HBr ⊢; rw [← hvy] at HVy HBr ⊢; rw [← hva] at HVa HBr ⊢
  have HFa := Lib.hid (show ∃ a c, va = .slice a r.arcs.length c from ⟨_, _, hva⟩)
  clear hvx hvy hva HW1 HEr HE8 HE9
  refine wp_region_heldD (fun w' => w'.cell? ⟨Br, 0, none⟩ = some (.int .i64 r.nodes) ∧ w'.cell? ⟨Br, 1, none⟩ = some (vx) ∧ w'.cell? ⟨Br, 2, none⟩ = some (vy) ∧ w'.cell? ⟨Br, 3, none⟩ = some (va)) 16 rfl ?_
  change heldD _ _ _ _ _ _ _ 17 _ _ w1.drew
  obtain ⟨wk0, hu0⟩ : ∃ u, u = w1.drew := ⟨_, rfl⟩
  have HBw0 := Lib.hid (show Below w1.heap.size w1 wk0 by rw [hu0]; exact (Below.refl _ _).drew)
  have HSS := Lib.hid (show ∀ u, Below w1.heap.size w1 u → (u.cell? ⟨Br, 0, none⟩ = some (.int .i64 r.nodes) ∧ u.cell? ⟨Br, 1, none⟩ = some (vx) ∧ u.cell? ⟨Br, 2, none⟩ = some (vy) ∧ u.cell? ⟨Br, 3, none⟩ = some (va)) from fun u hu => ⟨(HBr.out.below hu HBr.out.lt).cell 0, (HBr.out.below hu HBr.out.lt).cell 1, (HBr.out.below hu HBr.out.lt).cell 2, (HBr.out.below hu HBr.out.lt).cell 3⟩)
  have hS0 := HSS.out wk0 HBw0.out
  rw [← hu0]
  clear hu0
  refine heldD_takeF (i := 0) (v := .pointer (some ⟨Br, 0, none⟩)) rfl rfl rfl (by kernel_rfl) (by kernel_rfl) (by kernel_rfl) (by kernel_rfl) (fun _ _ _ h => h) (by rfl) (fun w => ⟨by rfl, by go_simp⟩) (fun _ => hS0) ?_
  simp only [List.setIfInBounds_toArray, List.set_cons_zero, List.set_cons_succ]
  refine heldD_take (i := 1) (v := .int .i64 r.nodes) rfl rfl rfl (by kernel_rfl) (by kernel_rfl) (by kernel_rfl) (by kernel_rfl) (by kernel_rfl) (by kernel_rfl) (fun _ _ _ h => h) (by rfl) (fun w hS => ⟨by rfl, by obtain ⟨hS1, hS2, hS3, hS4⟩ := hS; go_simp⟩) hS0 ?_
  simp only [List.setIfInBounds_toArray, List.set_cons_zero, List.set_cons_succ]
  refine heldD_takeF (i := 3) (v := .pointer (some ⟨Br, 1, none⟩)) rfl rfl rfl (by kernel_rfl) (by kernel_rfl) (by kernel_rfl) (by kernel_rfl) (fun _ _ _ h => h) (by rfl) (fun w => ⟨by rfl, by go_simp⟩) (fun _ => hS0) ?_
  simp only [List.setIfInBounds_toArray, List.set_cons_zero, List.set_cons_succ]
  refine heldD_take (i := 4) (v := vx) rfl rfl rfl (by kernel_rfl) (by kernel_rfl) (by kernel_rfl) (by kernel_rfl) (by kernel_rfl) (by kernel_rfl) (fun _ _ _ h => h) (by rfl) (fun w hS => ⟨by rfl, by obtain ⟨hS1, hS2, hS3, hS4⟩ := hS; go_simp⟩) hS0 ?_
  simp only [List.setIfInBounds_toArray, List.set_cons_zero, List.set_cons_succ]
  refine heldD_takeF (i := 7) (v := .pointer (some ⟨Br, 2, none⟩)) rfl rfl rfl (by kernel_rfl) (by kernel_rfl) (by kernel_rfl) (by kernel_rfl) (fun _ _ _ h => h) (by rfl) (fun w => ⟨by rfl, by go_simp⟩) (fun _ => hS0) ?_
  simp only [List.setIfInBounds_toArray, List.set_cons_zero, List.set_cons_succ]
  refine heldD_take (i := 8) (v := vy) rfl rfl rfl (by kernel_rfl) (by kernel_rfl) (by kernel_rfl) (by kernel_rfl) (by kernel_rfl) (by kernel_rfl) (fun _ _ _ h => h) (by rfl) (fun w hS => ⟨by rfl, by obtain ⟨hS1, hS2, hS3, hS4⟩ := hS; go_simp⟩) hS0 ?_
  simp only [List.setIfInBounds_toArray, List.set_cons_zero, List.set_cons_succ]
  refine heldD_takeF (i := 11) (v := .pointer (some ⟨Br, 3, none⟩)) rfl rfl rfl (by kernel_rfl) (by kernel_rfl) (by kernel_rfl) (by kernel_rfl) (fun _ _ _ h => h) (by rfl) (fun w => ⟨by rfl, by go_simp⟩) (fun _ => hS0) ?_
  simp only [List.setIfInBounds_toArray, List.set_cons_zero, List.set_cons_succ]
  refine heldD_take (i := 12) (v := va) rfl rfl rfl (by kernel_rfl) (by kernel_rfl) (by kernel_rfl) (by kernel_rfl) (by kernel_rfl) (by kernel_rfl) (fun _ _ _ h => h) (by rfl) (fun w hS => ⟨by rfl, by obtain ⟨hS1, hS2, hS3, hS4⟩ := hS; go_simp⟩) hS0 ?_
  simp only [List.setIfInBounds_toArray, List.set_cons_zero, List.set_cons_succ]
  clear hS0
  refine heldD_HT ?_
  intro H hH T hT
  have HH := Lib.hid hH; have HT := Lib.hid hT
  clear hH hT
  suffices st_11131 : ∀ (u : World) (v0 v1 v2 l0 l1 l2 : Value) (Bo : Nat), Cp w1 u r 2 2 2 v0 v1 v2 → Blk u Bo #[.int .i64 0, .slice none 0 0, .slice none 0 0, .slice none 0 0] 25 (0, 0) → w1.heap.size ≤ Bo → H 1 #[true, true, true, true, true, true, true, true, true, true, true, true, true, true, true, true, false] { tmps := ((((((((T.setIfInBounds 17 l0).setIfInBounds 21 l1).setIfInBounds 25 l2).setIfInBounds 20 v0).setIfInBounds 24 v1).setIfInBounds 28 v2).setIfInBounds 10 (.pointer (some ⟨Bo, 0, none⟩))).setIfInBounds 29 (.agg #[.int .i64 r.nodes, v0, v1, v2])), defers := [] } u from by
    have st_11121 : ∀ (u : World) (v0 v1 v2 l0 l1 l2 : Value) (Bo : Nat), Cp w1 u r 2 2 1 v0 v1 v2 → v2 = l2 → Blk u Bo #[.int .i64 0, .slice none 0 0, .slice none 0 0, .slice none 0 0] 25 (0, 0) → w1.heap.size ≤ Bo → H 3 #[true, true, true, true, true, true, true, true, true, true, true, true, true, false, false, true, false] { tmps := ((((((T.setIfInBounds 17 l0).setIfInBounds 21 l1).setIfInBounds 25 l2).setIfInBounds 20 v0).setIfInBounds 24 v1).setIfInBounds 10 (.pointer (some ⟨Bo, 0, none⟩))), defers := [] } u := by
      intro u v0 v1 v2 l0 l1 l2 Bo hc e2 hB hBl
      rw [HH.out, HT.out]
      subst e2
      simp only [List.setIfInBounds_toArray, List.set_cons_zero, List.set_cons_succ]
      refine heldD_one (i := 13) (by kernel_rfl) ?_
      obtain ⟨a, n, c, w', hr, hc', hgr⟩ := hc.appA HVa.out HFew.out
      have HR := Lib.hid hr
      clear hr
      obtain ⟨xa, xc, rfl, _⟩ := ownForm hc'.own.1
      obtain ⟨ya, yc, rfl, _⟩ := ownForm hc'.own.2.1
      obtain ⟨za, zc, hz, _⟩ := ownForm hc'.own.2.2.1
      obtain ⟨rfl, rfl, rfl⟩ : za = a ∧ n = r.arcs.length ∧ zc = c := by simp only [Value.slice.injEq] at hz; exact ⟨hz.1.symm, hz.2.1, hz.2.2.symm⟩
      refine wpOpIn_append rfl rfl rfl (by rfl) _ _ _ _ rfl HR.out ?_
      refine ⟨fun _ => HSS.out _ hc'.below, ?_⟩
      simp only [List.setIfInBounds_toArray, List.set_cons_zero, List.set_cons_succ]
      refine heldD_takeF (i := 14) (v := .agg #[.int .i64 r.nodes, (.slice xa r.X.length xc), (.slice ya r.Y.length yc), (.slice za r.arcs.length zc)]) rfl rfl rfl (by kernel_rfl) (by kernel_rfl) (by kernel_rfl) (by kernel_rfl) (fun _ _ _ h => h) (by rfl) (fun w => ⟨by rfl, by go_simp⟩) (fun _ => HSS.out _ hc'.below) ?_
      simp only [List.setIfInBounds_toArray, List.set_cons_zero, List.set_cons_succ]
      have q := st_11131 w' (.slice xa r.X.length xc) (.slice ya r.Y.length yc) (.slice za r.arcs.length zc) l0 l1 v2 Bo hc' (hgr hB (by decide)) hBl
      rw [HH.out, HT.out] at q
      simp only [List.setIfInBounds_toArray, List.set_cons_zero, List.set_cons_succ] at q ⊢
      exact q
    have st_11130 : ∀ (u : World) (v0 v1 v2 l0 l1 l2 : Value) (Bo : Nat), Cp w1 u r 2 2 2 v0 v1 v2 → H 3 #[true, true, true, true, true, true, true, true, true, true, true, true, true, true, false, false, false] { tmps := ((((((T.setIfInBounds 17 l0).setIfInBounds 21 l1).setIfInBounds 25 l2).setIfInBounds 20 v0).setIfInBounds 24 v1).setIfInBounds 28 v2), defers := [] } u := by
      intro u v0 v1 v2 l0 l1 l2 Bo hc
      rw [HH.out, HT.out]
      simp only [List.setIfInBounds_toArray, List.set_cons_zero, List.set_cons_succ]
      obtain ⟨xa, xc, rfl, _⟩ := ownForm hc.own.1
      obtain ⟨ya, yc, rfl, _⟩ := ownForm hc.own.2.1
      obtain ⟨za, zc, rfl, _⟩ := ownForm hc.own.2.2.1
      refine heldD_takeF (i := 14) (v := .agg #[.int .i64 r.nodes, (.slice xa r.X.length xc), (.slice ya r.Y.length yc), (.slice za r.arcs.length zc)]) rfl rfl rfl (by kernel_rfl) (by kernel_rfl) (by kernel_rfl) (by kernel_rfl) (fun _ _ _ h => h) (by rfl) (fun w => ⟨by rfl, by go_simp⟩) (fun _ => HSS.out _ hc.below) ?_
      simp only [List.setIfInBounds_toArray, List.set_cons_zero, List.set_cons_succ]
      refine heldD_one (i := 15) (by kernel_rfl) ?_
      have hb : Below u.heap.size u (u.alloc (.cells #[.int .i64 0, .slice none 0 0, .slice none 0 0, .slice none 0 0] 25)) := (Below.refl _ _).alloc (Nat.le_refl _) _
      have hc' := hc.keep hb
      refine wpOpIn_value (v := .pointer (some ⟨u.heap.size, 0, none⟩)) (w' := u.alloc (.cells #[.int .i64 0, .slice none 0 0, .slice none 0 0, .slice none 0 0] 25)) rfl rfl rfl (by rfl) (by rfl) (by go_simp) ?_
      refine ⟨fun _ => HSS.out _ hc'.below, ?_⟩
      have q := st_11131 _ (.slice xa r.X.length xc) (.slice ya r.Y.length yc) (.slice za r.arcs.length zc) l0 l1 l2 u.heap.size hc' (Blk.new _ _ _ _) hc.below.size
      rw [HH.out, HT.out] at q
      simp only [List.setIfInBounds_toArray, List.set_cons_zero, List.set_cons_succ] at q ⊢
      exact q
    have st_11111 : ∀ (u : World) (v0 v1 v2 l0 l1 l2 : Value) (Bo : Nat), Cp w1 u r 2 1 1 v0 v1 v2 → v1 = l1 → v2 = l2 → Blk u Bo #[.int .i64 0, .slice none 0 0, .slice none 0 0, .slice none 0 0] 25 (0, 0) → w1.heap.size ≤ Bo → H 4 #[true, true, true, true, true, true, true, true, true, false, true, true, true, false, false, true, false] { tmps := (((((T.setIfInBounds 17 l0).setIfInBounds 21 l1).setIfInBounds 25 l2).setIfInBounds 20 v0).setIfInBounds 10 (.pointer (some ⟨Bo, 0, none⟩))), defers := [] } u := by
      intro u v0 v1 v2 l0 l1 l2 Bo hc e1 e2 hB hBl
      rw [HH.out, HT.out]
      subst e1
      subst e2
      simp only [List.setIfInBounds_toArray, List.set_cons_zero, List.set_cons_succ]
      refine heldD_one (i := 9) (by kernel_rfl) ?_
      obtain ⟨a, n, c, w', hr, hc', hgr⟩ := hc.appY HVy.out HFew.out
      have HR := Lib.hid hr
      clear hr
      refine wpOpIn_append rfl rfl rfl (by rfl) _ _ _ _ rfl HR.out ?_
      refine ⟨fun _ => HSS.out _ hc'.below, ?_⟩
      have q := st_11121 w' v0 (.slice a n c) v2 l0 v1 v2 Bo hc' rfl (hgr hB (by decide)) hBl
      rw [HH.out, HT.out] at q
      simp only [List.setIfInBounds_toArray, List.set_cons_zero, List.set_cons_succ] at q ⊢
      exact q
    have st_11021 : ∀ (u : World) (v0 v1 v2 l0 l1 l2 : Value) (Bo : Nat), Cp w1 u r 2 2 0 v0 v1 v2 → Blk u Bo #[.int .i64 0, .slice none 0 0, .slice none 0 0, .slice none 0 0] 25 (0, 0) → w1.heap.size ≤ Bo → H 4 #[true, true, true, true, true, true, true, true, true, true, false, true, true, false, false, true, false] { tmps := (((((T.setIfInBounds 17 l0).setIfInBounds 21 l1).setIfInBounds 20 v0).setIfInBounds 24 v1).setIfInBounds 10 (.pointer (some ⟨Bo, 0, none⟩))), defers := [] } u := by
      intro u v0 v1 v2 l0 l1 l2 Bo hc hB hBl
      rw [HH.out, HT.out]
      simp only [List.setIfInBounds_toArray, List.set_cons_zero, List.set_cons_succ]
      refine heldD_one (i := 10) (by kernel_rfl) ?_
      have hc' := hc.litA
      refine wpOpIn_value (v := .slice (some ⟨u.heap.size, 0, none⟩) 0 0) (w' := u.alloc (.cells #[] 54)) rfl rfl rfl (by rfl) (by rfl) (by go_simp) ?_
      refine ⟨fun _ => HSS.out _ hc'.below, ?_⟩
      have q := st_11121 _ v0 v1 (.slice (some ⟨u.heap.size, 0, none⟩) 0 0) l0 l1 (.slice (some ⟨u.heap.size, 0, none⟩) 0 0) Bo hc' rfl (hB.below ((Below.refl _ _).alloc (Nat.le_refl _) _) hB.lt) hBl
      rw [HH.out, HT.out] at q
      simp only [List.setIfInBounds_toArray, List.set_cons_zero, List.set_cons_succ] at q ⊢
      exact q
    have st_11120 : ∀ (u : World) (v0 v1 v2 l0 l1 l2 : Value) (Bo : Nat), Cp w1 u r 2 2 1 v0 v1 v2 → v2 = l2 → H 4 #[true, true, true, true, true, true, true, true, true, true, true, true, true, false, false, false, false] { tmps := (((((T.setIfInBounds 17 l0).setIfInBounds 21 l1).setIfInBounds 25 l2).setIfInBounds 20 v0).setIfInBounds 24 v1), defers := [] } u := by
      intro u v0 v1 v2 l0 l1 l2 Bo hc e2
      rw [HH.out, HT.out]
      subst e2
      simp only [List.setIfInBounds_toArray, List.set_cons_zero, List.set_cons_succ]
      refine heldD_two (i := 13) (k := 15) (by kernel_rfl) ?_ ?_
      · obtain ⟨a, n, c, w', hr, hc', _⟩ := hc.appA HVa.out HFew.out
        have HR := Lib.hid hr
        clear hr
        refine wpOpIn_append rfl rfl rfl (by rfl) _ _ _ _ rfl HR.out ?_
        refine ⟨fun _ => HSS.out _ hc'.below, ?_⟩
        have q := st_11130 w' v0 v1 (.slice a n c) l0 l1 v2 Bo hc'
        rw [HH.out, HT.out] at q
        simp only [List.setIfInBounds_toArray, List.set_cons_zero, List.set_cons_succ] at q ⊢
        exact q
      · have hb : Below u.heap.size u (u.alloc (.cells #[.int .i64 0, .slice none 0 0, .slice none 0 0, .slice none 0 0] 25)) := (Below.refl _ _).alloc (Nat.le_refl _) _
        have hc' := hc.keep hb
        refine wpOpIn_value (v := .pointer (some ⟨u.heap.size, 0, none⟩)) (w' := u.alloc (.cells #[.int .i64 0, .slice none 0 0, .slice none 0 0, .slice none 0 0] 25)) rfl rfl rfl (by rfl) (by rfl) (by go_simp) ?_
        refine ⟨fun _ => HSS.out _ hc'.below, ?_⟩
        have q := st_11121 _ v0 v1 v2 l0 l1 v2 u.heap.size hc' rfl (Blk.new _ _ _ _) hc.below.size
        rw [HH.out, HT.out] at q
        simp only [List.setIfInBounds_toArray, List.set_cons_zero, List.set_cons_succ] at q ⊢
        exact q
    have st_11101 : ∀ (u : World) (v0 v1 v2 l0 l1 l2 : Value) (Bo : Nat), Cp w1 u r 1 1 1 v0 v1 v2 → v0 = l0 → v1 = l1 → v2 = l2 → Blk u Bo #[.int .i64 0, .slice none 0 0, .slice none 0 0, .slice none 0 0] 25 (0, 0) → w1.heap.size ≤ Bo → H 5 #[true, true, true, true, true, false, true, true, true, false, true, true, true, false, false, true, false] { tmps := ((((T.setIfInBounds 17 l0).setIfInBounds 21 l1).setIfInBounds 25 l2).setIfInBounds 10 (.pointer (some ⟨Bo, 0, none⟩))), defers := [] } u := by
      intro u v0 v1 v2 l0 l1 l2 Bo hc e0 e1 e2 hB hBl
      rw [HH.out, HT.out]
      subst e0
      subst e1
      subst e2
      simp only [List.setIfInBounds_toArray, List.set_cons_zero, List.set_cons_succ]
      refine heldD_one (i := 5) (by kernel_rfl) ?_
      obtain ⟨a, n, c, w', hr, hc', hgr⟩ := hc.appX HVx.out HFew.out
      have HR := Lib.hid hr
      clear hr
      refine wpOpIn_append rfl rfl rfl (by rfl) _ _ _ _ rfl HR.out ?_
      refine ⟨fun _ => HSS.out _ hc'.below, ?_⟩
      have q := st_11111 w' (.slice a n c) v1 v2 v0 v1 v2 Bo hc' rfl rfl (hgr hB (by decide)) hBl
      rw [HH.out, HT.out] at q
      simp only [List.setIfInBounds_toArray, List.set_cons_zero, List.set_cons_succ] at q ⊢
      exact q
    have st_11011 : ∀ (u : World) (v0 v1 v2 l0 l1 l2 : Value) (Bo : Nat), Cp w1 u r 2 1 0 v0 v1 v2 → v1 = l1 → Blk u Bo #[.int .i64 0, .slice none 0 0, .slice none 0 0, .slice none 0 0] 25 (0, 0) → w1.heap.size ≤ Bo → H 5 #[true, true, true, true, true, true, true, true, true, false, false, true, true, false, false, true, false] { tmps := ((((T.setIfInBounds 17 l0).setIfInBounds 21 l1).setIfInBounds 20 v0).setIfInBounds 10 (.pointer (some ⟨Bo, 0, none⟩))), defers := [] } u := by
      intro u v0 v1 v2 l0 l1 l2 Bo hc e1 hB hBl
      rw [HH.out, HT.out]
      subst e1
      simp only [List.setIfInBounds_toArray, List.set_cons_zero, List.set_cons_succ]
      refine heldD_two (i := 9) (k := 10) (by kernel_rfl) ?_ ?_
      · obtain ⟨a, n, c, w', hr, hc', hgr⟩ := hc.appY HVy.out HFew.out
        have HR := Lib.hid hr
        clear hr
        refine wpOpIn_append rfl rfl rfl (by rfl) _ _ _ _ rfl HR.out ?_
        refine ⟨fun _ => HSS.out _ hc'.below, ?_⟩
        have q := st_11021 w' v0 (.slice a n c) v2 l0 v1 l2 Bo hc' (hgr hB (by decide)) hBl
        rw [HH.out, HT.out] at q
        simp only [List.setIfInBounds_toArray, List.set_cons_zero, List.set_cons_succ] at q ⊢
        exact q
      · have hc' := hc.litA
        refine wpOpIn_value (v := .slice (some ⟨u.heap.size, 0, none⟩) 0 0) (w' := u.alloc (.cells #[] 54)) rfl rfl rfl (by rfl) (by rfl) (by go_simp) ?_
        refine ⟨fun _ => HSS.out _ hc'.below, ?_⟩
        have q := st_11111 _ v0 v1 (.slice (some ⟨u.heap.size, 0, none⟩) 0 0) l0 v1 (.slice (some ⟨u.heap.size, 0, none⟩) 0 0) Bo hc' rfl rfl (hB.below ((Below.refl _ _).alloc (Nat.le_refl _) _) hB.lt) hBl
        rw [HH.out, HT.out] at q
        simp only [List.setIfInBounds_toArray, List.set_cons_zero, List.set_cons_succ] at q ⊢
        exact q
    have st_10111 : ∀ (u : World) (v0 v1 v2 l0 l1 l2 : Value) (Bo : Nat), Cp w1 u r 2 0 1 v0 v1 v2 → v2 = l2 → Blk u Bo #[.int .i64 0, .slice none 0 0, .slice none 0 0, .slice none 0 0] 25 (0, 0) → w1.heap.size ≤ Bo → H 5 #[true, true, true, true, true, true, false, true, true, false, true, true, true, false, false, true, false] { tmps := ((((T.setIfInBounds 17 l0).setIfInBounds 25 l2).setIfInBounds 20 v0).setIfInBounds 10 (.pointer (some ⟨Bo, 0, none⟩))), defers := [] } u := by
      intro u v0 v1 v2 l0 l1 l2 Bo hc e2 hB hBl
      rw [HH.out, HT.out]
      subst e2
      simp only [List.setIfInBounds_toArray, List.set_cons_zero, List.set_cons_succ]
      refine heldD_one (i := 6) (by kernel_rfl) ?_
      have hc' := hc.litY
      refine wpOpIn_value (v := .slice (some ⟨u.heap.size, 0, none⟩) 0 0) (w' := u.alloc (.cells #[] 2)) rfl rfl rfl (by rfl) (by rfl) (by go_simp) ?_
      refine ⟨fun _ => HSS.out _ hc'.below, ?_⟩
      have q := st_11111 _ v0 (.slice (some ⟨u.heap.size, 0, none⟩) 0 0) v2 l0 (.slice (some ⟨u.heap.size, 0, none⟩) 0 0) v2 Bo hc' rfl rfl (hB.below ((Below.refl _ _).alloc (Nat.le_refl _) _) hB.lt) hBl
      rw [HH.out, HT.out] at q
      simp only [List.setIfInBounds_toArray, List.set_cons_zero, List.set_cons_succ] at q ⊢
      exact q
    have st_11110 : ∀ (u : World) (v0 v1 v2 l0 l1 l2 : Value) (Bo : Nat), Cp w1 u r 2 1 1 v0 v1 v2 → v1 = l1 → v2 = l2 → H 5 #[true, true, true, true, true, true, true, true, true, false, true, true, true, false, false, false, false] { tmps := ((((T.setIfInBounds 17 l0).setIfInBounds 21 l1).setIfInBounds 25 l2).setIfInBounds 20 v0), defers := [] } u := by
      intro u v0 v1 v2 l0 l1 l2 Bo hc e1 e2
      rw [HH.out, HT.out]
      subst e1
      subst e2
      simp only [List.setIfInBounds_toArray, List.set_cons_zero, List.set_cons_succ]
      refine heldD_two (i := 9) (k := 15) (by kernel_rfl) ?_ ?_
      · obtain ⟨a, n, c, w', hr, hc', _⟩ := hc.appY HVy.out HFew.out
        have HR := Lib.hid hr
        clear hr
        refine wpOpIn_append rfl rfl rfl (by rfl) _ _ _ _ rfl HR.out ?_
        refine ⟨fun _ => HSS.out _ hc'.below, ?_⟩
        have q := st_11120 w' v0 (.slice a n c) v2 l0 v1 v2 Bo hc' rfl
        rw [HH.out, HT.out] at q
        simp only [List.setIfInBounds_toArray, List.set_cons_zero, List.set_cons_succ] at q ⊢
        exact q
      · have hb : Below u.heap.size u (u.alloc (.cells #[.int .i64 0, .slice none 0 0, .slice none 0 0, .slice none 0 0] 25)) := (Below.refl _ _).alloc (Nat.le_refl _) _
        have hc' := hc.keep hb
        refine wpOpIn_value (v := .pointer (some ⟨u.heap.size, 0, none⟩)) (w' := u.alloc (.cells #[.int .i64 0, .slice none 0 0, .slice none 0 0, .slice none 0 0] 25)) rfl rfl rfl (by rfl) (by rfl) (by go_simp) ?_
        refine ⟨fun _ => HSS.out _ hc'.below, ?_⟩
        have q := st_11111 _ v0 v1 v2 l0 v1 v2 u.heap.size hc' rfl rfl (Blk.new _ _ _ _) hc.below.size
        rw [HH.out, HT.out] at q
        simp only [List.setIfInBounds_toArray, List.set_cons_zero, List.set_cons_succ] at q ⊢
        exact q
    have st_11020 : ∀ (u : World) (v0 v1 v2 l0 l1 l2 : Value) (Bo : Nat), Cp w1 u r 2 2 0 v0 v1 v2 → H 5 #[true, true, true, true, true, true, true, true, true, true, false, true, true, false, false, false, false] { tmps := ((((T.setIfInBounds 17 l0).setIfInBounds 21 l1).setIfInBounds 20 v0).setIfInBounds 24 v1), defers := [] } u := by
      intro u v0 v1 v2 l0 l1 l2 Bo hc
      rw [HH.out, HT.out]
      simp only [List.setIfInBounds_toArray, List.set_cons_zero, List.set_cons_succ]
      refine heldD_two (i := 10) (k := 15) (by kernel_rfl) ?_ ?_
      · have hc' := hc.litA
        refine wpOpIn_value (v := .slice (some ⟨u.heap.size, 0, none⟩) 0 0) (w' := u.alloc (.cells #[] 54)) rfl rfl rfl (by rfl) (by rfl) (by go_simp) ?_
        refine ⟨fun _ => HSS.out _ hc'.below, ?_⟩
        have q := st_11120 _ v0 v1 (.slice (some ⟨u.heap.size, 0, none⟩) 0 0) l0 l1 (.slice (some ⟨u.heap.size, 0, none⟩) 0 0) Bo hc' rfl
        rw [HH.out, HT.out] at q
        simp only [List.setIfInBounds_toArray, List.set_cons_zero, List.set_cons_succ] at q ⊢
        exact q
      · have hb : Below u.heap.size u (u.alloc (.cells #[.int .i64 0, .slice none 0 0, .slice none 0 0, .slice none 0 0] 25)) := (Below.refl _ _).alloc (Nat.le_refl _) _
        have hc' := hc.keep hb
        refine wpOpIn_value (v := .pointer (some ⟨u.heap.size, 0, none⟩)) (w' := u.alloc (.cells #[.int .i64 0, .slice none 0 0, .slice none 0 0, .slice none 0 0] 25)) rfl rfl rfl (by rfl) (by rfl) (by go_simp) ?_
        refine ⟨fun _ => HSS.out _ hc'.below, ?_⟩
        have q := st_11021 _ v0 v1 v2 l0 l1 l2 u.heap.size hc' (Blk.new _ _ _ _) hc.below.size
        rw [HH.out, HT.out] at q
        simp only [List.setIfInBounds_toArray, List.set_cons_zero, List.set_cons_succ] at q ⊢
        exact q
    have st_11001 : ∀ (u : World) (v0 v1 v2 l0 l1 l2 : Value) (Bo : Nat), Cp w1 u r 1 1 0 v0 v1 v2 → v0 = l0 → v1 = l1 → Blk u Bo #[.int .i64 0, .slice none 0 0, .slice none 0 0, .slice none 0 0] 25 (0, 0) → w1.heap.size ≤ Bo → H 6 #[true, true, true, true, true, false, true, true, true, false, false, true, true, false, false, true, false] { tmps := (((T.setIfInBounds 17 l0).setIfInBounds 21 l1).setIfInBounds 10 (.pointer (some ⟨Bo, 0, none⟩))), defers := [] } u := by
      intro u v0 v1 v2 l0 l1 l2 Bo hc e0 e1 hB hBl
      rw [HH.out, HT.out]
      subst e0
      subst e1
      simp only [List.setIfInBounds_toArray, List.set_cons_zero, List.set_cons_succ]
      refine heldD_two (i := 5) (k := 10) (by kernel_rfl) ?_ ?_
      · obtain ⟨a, n, c, w', hr, hc', hgr⟩ := hc.appX HVx.out HFew.out
        have HR := Lib.hid hr
        clear hr
        refine wpOpIn_append rfl rfl rfl (by rfl) _ _ _ _ rfl HR.out ?_
        refine ⟨fun _ => HSS.out _ hc'.below, ?_⟩
        have q := st_11011 w' (.slice a n c) v1 v2 v0 v1 l2 Bo hc' rfl (hgr hB (by decide)) hBl
        rw [HH.out, HT.out] at q
        simp only [List.setIfInBounds_toArray, List.set_cons_zero, List.set_cons_succ] at q ⊢
        exact q
      · have hc' := hc.litA
        refine wpOpIn_value (v := .slice (some ⟨u.heap.size, 0, none⟩) 0 0) (w' := u.alloc (.cells #[] 54)) rfl rfl rfl (by rfl) (by rfl) (by go_simp) ?_
        refine ⟨fun _ => HSS.out _ hc'.below, ?_⟩
        have q := st_11101 _ v0 v1 (.slice (some ⟨u.heap.size, 0, none⟩) 0 0) v0 v1 (.slice (some ⟨u.heap.size, 0, none⟩) 0 0) Bo hc' rfl rfl rfl (hB.below ((Below.refl _ _).alloc (Nat.le_refl _) _) hB.lt) hBl
        rw [HH.out, HT.out] at q
        simp only [List.setIfInBounds_toArray, List.set_cons_zero, List.set_cons_succ] at q ⊢
        exact q
    have st_10101 : ∀ (u : World) (v0 v1 v2 l0 l1 l2 : Value) (Bo : Nat), Cp w1 u r 1 0 1 v0 v1 v2 → v0 = l0 → v2 = l2 → Blk u Bo #[.int .i64 0, .slice none 0 0, .slice none 0 0, .slice none 0 0] 25 (0, 0) → w1.heap.size ≤ Bo → H 6 #[true, true, true, true, true, false, false, true, true, false, true, true, true, false, false, true, false] { tmps := (((T.setIfInBounds 17 l0).setIfInBounds 25 l2).setIfInBounds 10 (.pointer (some ⟨Bo, 0, none⟩))), defers := [] } u := by
      intro u v0 v1 v2 l0 l1 l2 Bo hc e0 e2 hB hBl
      rw [HH.out, HT.out]
      subst e0
      subst e2
      simp only [List.setIfInBounds_toArray, List.set_cons_zero, List.set_cons_succ]
      refine heldD_two (i := 5) (k := 6) (by kernel_rfl) ?_ ?_
      · obtain ⟨a, n, c, w', hr, hc', hgr⟩ := hc.appX HVx.out HFew.out
        have HR := Lib.hid hr
        clear hr
        refine wpOpIn_append rfl rfl rfl (by rfl) _ _ _ _ rfl HR.out ?_
        refine ⟨fun _ => HSS.out _ hc'.below, ?_⟩
        have q := st_10111 w' (.slice a n c) v1 v2 v0 l1 v2 Bo hc' rfl (hgr hB (by decide)) hBl
        rw [HH.out, HT.out] at q
        simp only [List.setIfInBounds_toArray, List.set_cons_zero, List.set_cons_succ] at q ⊢
        exact q
      · have hc' := hc.litY
        refine wpOpIn_value (v := .slice (some ⟨u.heap.size, 0, none⟩) 0 0) (w' := u.alloc (.cells #[] 2)) rfl rfl rfl (by rfl) (by rfl) (by go_simp) ?_
        refine ⟨fun _ => HSS.out _ hc'.below, ?_⟩
        have q := st_11101 _ v0 (.slice (some ⟨u.heap.size, 0, none⟩) 0 0) v2 v0 (.slice (some ⟨u.heap.size, 0, none⟩) 0 0) v2 Bo hc' rfl rfl rfl (hB.below ((Below.refl _ _).alloc (Nat.le_refl _) _) hB.lt) hBl
        rw [HH.out, HT.out] at q
        simp only [List.setIfInBounds_toArray, List.set_cons_zero, List.set_cons_succ] at q ⊢
        exact q
    have st_01101 : ∀ (u : World) (v0 v1 v2 l0 l1 l2 : Value) (Bo : Nat), Cp w1 u r 0 1 1 v0 v1 v2 → v1 = l1 → v2 = l2 → Blk u Bo #[.int .i64 0, .slice none 0 0, .slice none 0 0, .slice none 0 0] 25 (0, 0) → w1.heap.size ≤ Bo → H 6 #[true, true, false, true, true, false, true, true, true, false, true, true, true, false, false, true, false] { tmps := (((T.setIfInBounds 21 l1).setIfInBounds 25 l2).setIfInBounds 10 (.pointer (some ⟨Bo, 0, none⟩))), defers := [] } u := by
      intro u v0 v1 v2 l0 l1 l2 Bo hc e1 e2 hB hBl
      rw [HH.out, HT.out]
      subst e1
      subst e2
      simp only [List.setIfInBounds_toArray, List.set_cons_zero, List.set_cons_succ]
      refine heldD_one (i := 2) (by kernel_rfl) ?_
      have hc' := hc.litX
      refine wpOpIn_value (v := .slice (some ⟨u.heap.size, 0, none⟩) 0 0) (w' := u.alloc (.cells #[] 2)) rfl rfl rfl (by rfl) (by rfl) (by go_simp) ?_
      refine ⟨fun _ => HSS.out _ hc'.below, ?_⟩
      have q := st_11101 _ (.slice (some ⟨u.heap.size, 0, none⟩) 0 0) v1 v2 (.slice (some ⟨u.heap.size, 0, none⟩) 0 0) v1 v2 Bo hc' rfl rfl rfl (hB.below ((Below.refl _ _).alloc (Nat.le_refl _) _) hB.lt) hBl
      rw [HH.out, HT.out] at q
      simp only [List.setIfInBounds_toArray, List.set_cons_zero, List.set_cons_succ] at q ⊢
      exact q
    have st_11100 : ∀ (u : World) (v0 v1 v2 l0 l1 l2 : Value) (Bo : Nat), Cp w1 u r 1 1 1 v0 v1 v2 → v0 = l0 → v1 = l1 → v2 = l2 → H 6 #[true, true, true, true, true, false, true, true, true, false, true, true, true, false, false, false, false] { tmps := (((T.setIfInBounds 17 l0).setIfInBounds 21 l1).setIfInBounds 25 l2), defers := [] } u := by
      intro u v0 v1 v2 l0 l1 l2 Bo hc e0 e1 e2
      rw [HH.out, HT.out]
      subst e0
      subst e1
      subst e2
      simp only [List.setIfInBounds_toArray, List.set_cons_zero, List.set_cons_succ]
      refine heldD_two (i := 5) (k := 15) (by kernel_rfl) ?_ ?_
      · obtain ⟨a, n, c, w', hr, hc', _⟩ := hc.appX HVx.out HFew.out
        have HR := Lib.hid hr
        clear hr
        refine wpOpIn_append rfl rfl rfl (by rfl) _ _ _ _ rfl HR.out ?_
        refine ⟨fun _ => HSS.out _ hc'.below, ?_⟩
        have q := st_11110 w' (.slice a n c) v1 v2 v0 v1 v2 Bo hc' rfl rfl
        rw [HH.out, HT.out] at q
        simp only [List.setIfInBounds_toArray, List.set_cons_zero, List.set_cons_succ] at q ⊢
        exact q
      · have hb : Below u.heap.size u (u.alloc (.cells #[.int .i64 0, .slice none 0 0, .slice none 0 0, .slice none 0 0] 25)) := (Below.refl _ _).alloc (Nat.le_refl _) _
        have hc' := hc.keep hb
        refine wpOpIn_value (v := .pointer (some ⟨u.heap.size, 0, none⟩)) (w' := u.alloc (.cells #[.int .i64 0, .slice none 0 0, .slice none 0 0, .slice none 0 0] 25)) rfl rfl rfl (by rfl) (by rfl) (by go_simp) ?_
        refine ⟨fun _ => HSS.out _ hc'.below, ?_⟩
        have q := st_11101 _ v0 v1 v2 v0 v1 v2 u.heap.size hc' rfl rfl rfl (Blk.new _ _ _ _) hc.below.size
        rw [HH.out, HT.out] at q
        simp only [List.setIfInBounds_toArray, List.set_cons_zero, List.set_cons_succ] at q ⊢
        exact q
    have st_10011 : ∀ (u : World) (v0 v1 v2 l0 l1 l2 : Value) (Bo : Nat), Cp w1 u r 2 0 0 v0 v1 v2 → Blk u Bo #[.int .i64 0, .slice none 0 0, .slice none 0 0, .slice none 0 0] 25 (0, 0) → w1.heap.size ≤ Bo → H 6 #[true, true, true, true, true, true, false, true, true, false, false, true, true, false, false, true, false] { tmps := (((T.setIfInBounds 17 l0).setIfInBounds 20 v0).setIfInBounds 10 (.pointer (some ⟨Bo, 0, none⟩))), defers := [] } u := by
      intro u v0 v1 v2 l0 l1 l2 Bo hc hB hBl
      rw [HH.out, HT.out]
      simp only [List.setIfInBounds_toArray, List.set_cons_zero, List.set_cons_succ]
      refine heldD_two (i := 6) (k := 10) (by kernel_rfl) ?_ ?_
      · have hc' := hc.litY
        refine wpOpIn_value (v := .slice (some ⟨u.heap.size, 0, none⟩) 0 0) (w' := u.alloc (.cells #[] 2)) rfl rfl rfl (by rfl) (by rfl) (by go_simp) ?_
        refine ⟨fun _ => HSS.out _ hc'.below, ?_⟩
        have q := st_11011 _ v0 (.slice (some ⟨u.heap.size, 0, none⟩) 0 0) v2 l0 (.slice (some ⟨u.heap.size, 0, none⟩) 0 0) l2 Bo hc' rfl (hB.below ((Below.refl _ _).alloc (Nat.le_refl _) _) hB.lt) hBl
        rw [HH.out, HT.out] at q
        simp only [List.setIfInBounds_toArray, List.set_cons_zero, List.set_cons_succ] at q ⊢
        exact q
      · have hc' := hc.litA
        refine wpOpIn_value (v := .slice (some ⟨u.heap.size, 0, none⟩) 0 0) (w' := u.alloc (.cells #[] 54)) rfl rfl rfl (by rfl) (by rfl) (by go_simp) ?_
        refine ⟨fun _ => HSS.out _ hc'.below, ?_⟩
        have q := st_10111 _ v0 v1 (.slice (some ⟨u.heap.size, 0, none⟩) 0 0) l0 l1 (.slice (some ⟨u.heap.size, 0, none⟩) 0 0) Bo hc' rfl (hB.below ((Below.refl _ _).alloc (Nat.le_refl _) _) hB.lt) hBl
        rw [HH.out, HT.out] at q
        simp only [List.setIfInBounds_toArray, List.set_cons_zero, List.set_cons_succ] at q ⊢
        exact q
    have st_11010 : ∀ (u : World) (v0 v1 v2 l0 l1 l2 : Value) (Bo : Nat), Cp w1 u r 2 1 0 v0 v1 v2 → v1 = l1 → H 6 #[true, true, true, true, true, true, true, true, true, false, false, true, true, false, false, false, false] { tmps := (((T.setIfInBounds 17 l0).setIfInBounds 21 l1).setIfInBounds 20 v0), defers := [] } u := by
      intro u v0 v1 v2 l0 l1 l2 Bo hc e1
      rw [HH.out, HT.out]
      subst e1
      simp only [List.setIfInBounds_toArray, List.set_cons_zero, List.set_cons_succ]
      refine heldD_three (i := 9) (k := 10) (m := 15) (by kernel_rfl) ?_ ?_ ?_
      · obtain ⟨a, n, c, w', hr, hc', _⟩ := hc.appY HVy.out HFew.out
        have HR := Lib.hid hr
        clear hr
        refine wpOpIn_append rfl rfl rfl (by rfl) _ _ _ _ rfl HR.out ?_
        refine ⟨fun _ => HSS.out _ hc'.below, ?_⟩
        have q := st_11020 w' v0 (.slice a n c) v2 l0 v1 l2 Bo hc'
        rw [HH.out, HT.out] at q
        simp only [List.setIfInBounds_toArray, List.set_cons_zero, List.set_cons_succ] at q ⊢
        exact q
      · have hc' := hc.litA
        refine wpOpIn_value (v := .slice (some ⟨u.heap.size, 0, none⟩) 0 0) (w' := u.alloc (.cells #[] 54)) rfl rfl rfl (by rfl) (by rfl) (by go_simp) ?_
        refine ⟨fun _ => HSS.out _ hc'.below, ?_⟩
        have q := st_11110 _ v0 v1 (.slice (some ⟨u.heap.size, 0, none⟩) 0 0) l0 v1 (.slice (some ⟨u.heap.size, 0, none⟩) 0 0) Bo hc' rfl rfl
        rw [HH.out, HT.out] at q
        simp only [List.setIfInBounds_toArray, List.set_cons_zero, List.set_cons_succ] at q ⊢
        exact q
      · have hb : Below u.heap.size u (u.alloc (.cells #[.int .i64 0, .slice none 0 0, .slice none 0 0, .slice none 0 0] 25)) := (Below.refl _ _).alloc (Nat.le_refl _) _
        have hc' := hc.keep hb
        refine wpOpIn_value (v := .pointer (some ⟨u.heap.size, 0, none⟩)) (w' := u.alloc (.cells #[.int .i64 0, .slice none 0 0, .slice none 0 0, .slice none 0 0] 25)) rfl rfl rfl (by rfl) (by rfl) (by go_simp) ?_
        refine ⟨fun _ => HSS.out _ hc'.below, ?_⟩
        have q := st_11011 _ v0 v1 v2 l0 v1 l2 u.heap.size hc' rfl (Blk.new _ _ _ _) hc.below.size
        rw [HH.out, HT.out] at q
        simp only [List.setIfInBounds_toArray, List.set_cons_zero, List.set_cons_succ] at q ⊢
        exact q
    have st_10110 : ∀ (u : World) (v0 v1 v2 l0 l1 l2 : Value) (Bo : Nat), Cp w1 u r 2 0 1 v0 v1 v2 → v2 = l2 → H 6 #[true, true, true, true, true, true, false, true, true, false, true, true, true, false, false, false, false] { tmps := (((T.setIfInBounds 17 l0).setIfInBounds 25 l2).setIfInBounds 20 v0), defers := [] } u := by
      intro u v0 v1 v2 l0 l1 l2 Bo hc e2
      rw [HH.out, HT.out]
      subst e2
      simp only [List.setIfInBounds_toArray, List.set_cons_zero, List.set_cons_succ]
      refine heldD_two (i := 6) (k := 15) (by kernel_rfl) ?_ ?_
      · have hc' := hc.litY
        refine wpOpIn_value (v := .slice (some ⟨u.heap.size, 0, none⟩) 0 0) (w' := u.alloc (.cells #[] 2)) rfl rfl rfl (by rfl) (by rfl) (by go_simp) ?_
        refine ⟨fun _ => HSS.out _ hc'.below, ?_⟩
        have q := st_11110 _ v0 (.slice (some ⟨u.heap.size, 0, none⟩) 0 0) v2 l0 (.slice (some ⟨u.heap.size, 0, none⟩) 0 0) v2 Bo hc' rfl rfl
        rw [HH.out, HT.out] at q
        simp only [List.setIfInBounds_toArray, List.set_cons_zero, List.set_cons_succ] at q ⊢
        exact q
      · have hb : Below u.heap.size u (u.alloc (.cells #[.int .i64 0, .slice none 0 0, .slice none 0 0, .slice none 0 0] 25)) := (Below.refl _ _).alloc (Nat.le_refl _) _
        have hc' := hc.keep hb
        refine wpOpIn_value (v := .pointer (some ⟨u.heap.size, 0, none⟩)) (w' := u.alloc (.cells #[.int .i64 0, .slice none 0 0, .slice none 0 0, .slice none 0 0] 25)) rfl rfl rfl (by rfl) (by rfl) (by go_simp) ?_
        refine ⟨fun _ => HSS.out _ hc'.below, ?_⟩
        have q := st_10111 _ v0 v1 v2 l0 l1 v2 u.heap.size hc' rfl (Blk.new _ _ _ _) hc.below.size
        rw [HH.out, HT.out] at q
        simp only [List.setIfInBounds_toArray, List.set_cons_zero, List.set_cons_succ] at q ⊢
        exact q
    have st_10001 : ∀ (u : World) (v0 v1 v2 l0 l1 l2 : Value) (Bo : Nat), Cp w1 u r 1 0 0 v0 v1 v2 → v0 = l0 → Blk u Bo #[.int .i64 0, .slice none 0 0, .slice none 0 0, .slice none 0 0] 25 (0, 0) → w1.heap.size ≤ Bo → H 7 #[true, true, true, true, true, false, false, true, true, false, false, true, true, false, false, true, false] { tmps := ((T.setIfInBounds 17 l0).setIfInBounds 10 (.pointer (some ⟨Bo, 0, none⟩))), defers := [] } u := by
      intro u v0 v1 v2 l0 l1 l2 Bo hc e0 hB hBl
      rw [HH.out, HT.out]
      subst e0
      simp only [List.setIfInBounds_toArray, List.set_cons_zero, List.set_cons_succ]
      refine heldD_three (i := 5) (k := 6) (m := 10) (by kernel_rfl) ?_ ?_ ?_
      · obtain ⟨a, n, c, w', hr, hc', hgr⟩ := hc.appX HVx.out HFew.out
        have HR := Lib.hid hr
        clear hr
        refine wpOpIn_append rfl rfl rfl (by rfl) _ _ _ _ rfl HR.out ?_
        refine ⟨fun _ => HSS.out _ hc'.below, ?_⟩
        have q := st_10011 w' (.slice a n c) v1 v2 v0 l1 l2 Bo hc' (hgr hB (by decide)) hBl
        rw [HH.out, HT.out] at q
        simp only [List.setIfInBounds_toArray, List.set_cons_zero, List.set_cons_succ] at q ⊢
        exact q
      · have hc' := hc.litY
        refine wpOpIn_value (v := .slice (some ⟨u.heap.size, 0, none⟩) 0 0) (w' := u.alloc (.cells #[] 2)) rfl rfl rfl (by rfl) (by rfl) (by go_simp) ?_
        refine ⟨fun _ => HSS.out _ hc'.below, ?_⟩
        have q := st_11001 _ v0 (.slice (some ⟨u.heap.size, 0, none⟩) 0 0) v2 v0 (.slice (some ⟨u.heap.size, 0, none⟩) 0 0) l2 Bo hc' rfl rfl (hB.below ((Below.refl _ _).alloc (Nat.le_refl _) _) hB.lt) hBl
        rw [HH.out, HT.out] at q
        simp only [List.setIfInBounds_toArray, List.set_cons_zero, List.set_cons_succ] at q ⊢
        exact q
      · have hc' := hc.litA
        refine wpOpIn_value (v := .slice (some ⟨u.heap.size, 0, none⟩) 0 0) (w' := u.alloc (.cells #[] 54)) rfl rfl rfl (by rfl) (by rfl) (by go_simp) ?_
        refine ⟨fun _ => HSS.out _ hc'.below, ?_⟩
        have q := st_10101 _ v0 v1 (.slice (some ⟨u.heap.size, 0, none⟩) 0 0) v0 l1 (.slice (some ⟨u.heap.size, 0, none⟩) 0 0) Bo hc' rfl rfl (hB.below ((Below.refl _ _).alloc (Nat.le_refl _) _) hB.lt) hBl
        rw [HH.out, HT.out] at q
        simp only [List.setIfInBounds_toArray, List.set_cons_zero, List.set_cons_succ] at q ⊢
        exact q
    have st_01001 : ∀ (u : World) (v0 v1 v2 l0 l1 l2 : Value) (Bo : Nat), Cp w1 u r 0 1 0 v0 v1 v2 → v1 = l1 → Blk u Bo #[.int .i64 0, .slice none 0 0, .slice none 0 0, .slice none 0 0] 25 (0, 0) → w1.heap.size ≤ Bo → H 7 #[true, true, false, true, true, false, true, true, true, false, false, true, true, false, false, true, false] { tmps := ((T.setIfInBounds 21 l1).setIfInBounds 10 (.pointer (some ⟨Bo, 0, none⟩))), defers := [] } u := by
      intro u v0 v1 v2 l0 l1 l2 Bo hc e1 hB hBl
      rw [HH.out, HT.out]
      subst e1
      simp only [List.setIfInBounds_toArray, List.set_cons_zero, List.set_cons_succ]
      refine heldD_two (i := 2) (k := 10) (by kernel_rfl) ?_ ?_
      · have hc' := hc.litX
        refine wpOpIn_value (v := .slice (some ⟨u.heap.size, 0, none⟩) 0 0) (w' := u.alloc (.cells #[] 2)) rfl rfl rfl (by rfl) (by rfl) (by go_simp) ?_
        refine ⟨fun _ => HSS.out _ hc'.below, ?_⟩
        have q := st_11001 _ (.slice (some ⟨u.heap.size, 0, none⟩) 0 0) v1 v2 (.slice (some ⟨u.heap.size, 0, none⟩) 0 0) v1 l2 Bo hc' rfl rfl (hB.below ((Below.refl _ _).alloc (Nat.le_refl _) _) hB.lt) hBl
        rw [HH.out, HT.out] at q
        simp only [List.setIfInBounds_toArray, List.set_cons_zero, List.set_cons_succ] at q ⊢
        exact q
      · have hc' := hc.litA
        refine wpOpIn_value (v := .slice (some ⟨u.heap.size, 0, none⟩) 0 0) (w' := u.alloc (.cells #[] 54)) rfl rfl rfl (by rfl) (by rfl) (by go_simp) ?_
        refine ⟨fun _ => HSS.out _ hc'.below, ?_⟩
        have q := st_01101 _ v0 v1 (.slice (some ⟨u.heap.size, 0, none⟩) 0 0) l0 v1 (.slice (some ⟨u.heap.size, 0, none⟩) 0 0) Bo hc' rfl rfl (hB.below ((Below.refl _ _).alloc (Nat.le_refl _) _) hB.lt) hBl
        rw [HH.out, HT.out] at q
        simp only [List.setIfInBounds_toArray, List.set_cons_zero, List.set_cons_succ] at q ⊢
        exact q
    have st_00101 : ∀ (u : World) (v0 v1 v2 l0 l1 l2 : Value) (Bo : Nat), Cp w1 u r 0 0 1 v0 v1 v2 → v2 = l2 → Blk u Bo #[.int .i64 0, .slice none 0 0, .slice none 0 0, .slice none 0 0] 25 (0, 0) → w1.heap.size ≤ Bo → H 7 #[true, true, false, true, true, false, false, true, true, false, true, true, true, false, false, true, false] { tmps := ((T.setIfInBounds 25 l2).setIfInBounds 10 (.pointer (some ⟨Bo, 0, none⟩))), defers := [] } u := by
      intro u v0 v1 v2 l0 l1 l2 Bo hc e2 hB hBl
      rw [HH.out, HT.out]
      subst e2
      simp only [List.setIfInBounds_toArray, List.set_cons_zero, List.set_cons_succ]
      refine heldD_two (i := 2) (k := 6) (by kernel_rfl) ?_ ?_
      · have hc' := hc.litX
        refine wpOpIn_value (v := .slice (some ⟨u.heap.size, 0, none⟩) 0 0) (w' := u.alloc (.cells #[] 2)) rfl rfl rfl (by rfl) (by rfl) (by go_simp) ?_
        refine ⟨fun _ => HSS.out _ hc'.below, ?_⟩
        have q := st_10101 _ (.slice (some ⟨u.heap.size, 0, none⟩) 0 0) v1 v2 (.slice (some ⟨u.heap.size, 0, none⟩) 0 0) l1 v2 Bo hc' rfl rfl (hB.below ((Below.refl _ _).alloc (Nat.le_refl _) _) hB.lt) hBl
        rw [HH.out, HT.out] at q
        simp only [List.setIfInBounds_toArray, List.set_cons_zero, List.set_cons_succ] at q ⊢
        exact q
      · have hc' := hc.litY
        refine wpOpIn_value (v := .slice (some ⟨u.heap.size, 0, none⟩) 0 0) (w' := u.alloc (.cells #[] 2)) rfl rfl rfl (by rfl) (by rfl) (by go_simp) ?_
        refine ⟨fun _ => HSS.out _ hc'.below, ?_⟩
        have q := st_01101 _ v0 (.slice (some ⟨u.heap.size, 0, none⟩) 0 0) v2 l0 (.slice (some ⟨u.heap.size, 0, none⟩) 0 0) v2 Bo hc' rfl rfl (hB.below ((Below.refl _ _).alloc (Nat.le_refl _) _) hB.lt) hBl
        rw [HH.out, HT.out] at q
        simp only [List.setIfInBounds_toArray, List.set_cons_zero, List.set_cons_succ] at q ⊢
        exact q
    have st_11000 : ∀ (u : World) (v0 v1 v2 l0 l1 l2 : Value) (Bo : Nat), Cp w1 u r 1 1 0 v0 v1 v2 → v0 = l0 → v1 = l1 → H 7 #[true, true, true, true, true, false, true, true, true, false, false, true, true, false, false, false, false] { tmps := ((T.setIfInBounds 17 l0).setIfInBounds 21 l1), defers := [] } u := by
      intro u v0 v1 v2 l0 l1 l2 Bo hc e0 e1
      rw [HH.out, HT.out]
      subst e0
      subst e1
      simp only [List.setIfInBounds_toArray, List.set_cons_zero, List.set_cons_succ]
      refine heldD_three (i := 5) (k := 10) (m := 15) (by kernel_rfl) ?_ ?_ ?_
      · obtain ⟨a, n, c, w', hr, hc', _⟩ := hc.appX HVx.out HFew.out
        have HR := Lib.hid hr
        clear hr
        refine wpOpIn_append rfl rfl rfl (by rfl) _ _ _ _ rfl HR.out ?_
        refine ⟨fun _ => HSS.out _ hc'.below, ?_⟩
        have q := st_11010 w' (.slice a n c) v1 v2 v0 v1 l2 Bo hc' rfl
        rw [HH.out, HT.out] at q
        simp only [List.setIfInBounds_toArray, List.set_cons_zero, List.set_cons_succ] at q ⊢
        exact q
      · have hc' := hc.litA
        refine wpOpIn_value (v := .slice (some ⟨u.heap.size, 0, none⟩) 0 0) (w' := u.alloc (.cells #[] 54)) rfl rfl rfl (by rfl) (by rfl) (by go_simp) ?_
        refine ⟨fun _ => HSS.out _ hc'.below, ?_⟩
        have q := st_11100 _ v0 v1 (.slice (some ⟨u.heap.size, 0, none⟩) 0 0) v0 v1 (.slice (some ⟨u.heap.size, 0, none⟩) 0 0) Bo hc' rfl rfl rfl
        rw [HH.out, HT.out] at q
        simp only [List.setIfInBounds_toArray, List.set_cons_zero, List.set_cons_succ] at q ⊢
        exact q
      · have hb : Below u.heap.size u (u.alloc (.cells #[.int .i64 0, .slice none 0 0, .slice none 0 0, .slice none 0 0] 25)) := (Below.refl _ _).alloc (Nat.le_refl _) _
        have hc' := hc.keep hb
        refine wpOpIn_value (v := .pointer (some ⟨u.heap.size, 0, none⟩)) (w' := u.alloc (.cells #[.int .i64 0, .slice none 0 0, .slice none 0 0, .slice none 0 0] 25)) rfl rfl rfl (by rfl) (by rfl) (by go_simp) ?_
        refine ⟨fun _ => HSS.out _ hc'.below, ?_⟩
        have q := st_11001 _ v0 v1 v2 v0 v1 l2 u.heap.size hc' rfl rfl (Blk.new _ _ _ _) hc.below.size
        rw [HH.out, HT.out] at q
        simp only [List.setIfInBounds_toArray, List.set_cons_zero, List.set_cons_succ] at q ⊢
        exact q
    have st_10100 : ∀ (u : World) (v0 v1 v2 l0 l1 l2 : Value) (Bo : Nat), Cp w1 u r 1 0 1 v0 v1 v2 → v0 = l0 → v2 = l2 → H 7 #[true, true, true, true, true, false, false, true, true, false, true, true, true, false, false, false, false] { tmps := ((T.setIfInBounds 17 l0).setIfInBounds 25 l2), defers := [] } u := by
      intro u v0 v1 v2 l0 l1 l2 Bo hc e0 e2
      rw [HH.out, HT.out]
      subst e0
      subst e2
      simp only [List.setIfInBounds_toArray, List.set_cons_zero, List.set_cons_succ]
      refine heldD_three (i := 5) (k := 6) (m := 15) (by kernel_rfl) ?_ ?_ ?_
      · obtain ⟨a, n, c, w', hr, hc', _⟩ := hc.appX HVx.out HFew.out
        have HR := Lib.hid hr
        clear hr
        refine wpOpIn_append rfl rfl rfl (by rfl) _ _ _ _ rfl HR.out ?_
        refine ⟨fun _ => HSS.out _ hc'.below, ?_⟩
        have q := st_10110 w' (.slice a n c) v1 v2 v0 l1 v2 Bo hc' rfl
        rw [HH.out, HT.out] at q
        simp only [List.setIfInBounds_toArray, List.set_cons_zero, List.set_cons_succ] at q ⊢
        exact q
      · have hc' := hc.litY
        refine wpOpIn_value (v := .slice (some ⟨u.heap.size, 0, none⟩) 0 0) (w' := u.alloc (.cells #[] 2)) rfl rfl rfl (by rfl) (by rfl) (by go_simp) ?_
        refine ⟨fun _ => HSS.out _ hc'.below, ?_⟩
        have q := st_11100 _ v0 (.slice (some ⟨u.heap.size, 0, none⟩) 0 0) v2 v0 (.slice (some ⟨u.heap.size, 0, none⟩) 0 0) v2 Bo hc' rfl rfl rfl
        rw [HH.out, HT.out] at q
        simp only [List.setIfInBounds_toArray, List.set_cons_zero, List.set_cons_succ] at q ⊢
        exact q
      · have hb : Below u.heap.size u (u.alloc (.cells #[.int .i64 0, .slice none 0 0, .slice none 0 0, .slice none 0 0] 25)) := (Below.refl _ _).alloc (Nat.le_refl _) _
        have hc' := hc.keep hb
        refine wpOpIn_value (v := .pointer (some ⟨u.heap.size, 0, none⟩)) (w' := u.alloc (.cells #[.int .i64 0, .slice none 0 0, .slice none 0 0, .slice none 0 0] 25)) rfl rfl rfl (by rfl) (by rfl) (by go_simp) ?_
        refine ⟨fun _ => HSS.out _ hc'.below, ?_⟩
        have q := st_10101 _ v0 v1 v2 v0 l1 v2 u.heap.size hc' rfl rfl (Blk.new _ _ _ _) hc.below.size
        rw [HH.out, HT.out] at q
        simp only [List.setIfInBounds_toArray, List.set_cons_zero, List.set_cons_succ] at q ⊢
        exact q
    have st_01100 : ∀ (u : World) (v0 v1 v2 l0 l1 l2 : Value) (Bo : Nat), Cp w1 u r 0 1 1 v0 v1 v2 → v1 = l1 → v2 = l2 → H 7 #[true, true, false, true, true, false, true, true, true, false, true, true, true, false, false, false, false] { tmps := ((T.setIfInBounds 21 l1).setIfInBounds 25 l2), defers := [] } u := by
      intro u v0 v1 v2 l0 l1 l2 Bo hc e1 e2
      rw [HH.out, HT.out]
      subst e1
      subst e2
      simp only [List.setIfInBounds_toArray, List.set_cons_zero, List.set_cons_succ]
      refine heldD_two (i := 2) (k := 15) (by kernel_rfl) ?_ ?_
      · have hc' := hc.litX
        refine wpOpIn_value (v := .slice (some ⟨u.heap.size, 0, none⟩) 0 0) (w' := u.alloc (.cells #[] 2)) rfl rfl rfl (by rfl) (by rfl) (by go_simp) ?_
        refine ⟨fun _ => HSS.out _ hc'.below, ?_⟩
        have q := st_11100 _ (.slice (some ⟨u.heap.size, 0, none⟩) 0 0) v1 v2 (.slice (some ⟨u.heap.size, 0, none⟩) 0 0) v1 v2 Bo hc' rfl rfl rfl
        rw [HH.out, HT.out] at q
        simp only [List.setIfInBounds_toArray, List.set_cons_zero, List.set_cons_succ] at q ⊢
        exact q
      · have hb : Below u.heap.size u (u.alloc (.cells #[.int .i64 0, .slice none 0 0, .slice none 0 0, .slice none 0 0] 25)) := (Below.refl _ _).alloc (Nat.le_refl _) _
        have hc' := hc.keep hb
        refine wpOpIn_value (v := .pointer (some ⟨u.heap.size, 0, none⟩)) (w' := u.alloc (.cells #[.int .i64 0, .slice none 0 0, .slice none 0 0, .slice none 0 0] 25)) rfl rfl rfl (by rfl) (by rfl) (by go_simp) ?_
        refine ⟨fun _ => HSS.out _ hc'.below, ?_⟩
        have q := st_01101 _ v0 v1 v2 l0 v1 v2 u.heap.size hc' rfl rfl (Blk.new _ _ _ _) hc.below.size
        rw [HH.out, HT.out] at q
        simp only [List.setIfInBounds_toArray, List.set_cons_zero, List.set_cons_succ] at q ⊢
        exact q
    have st_10010 : ∀ (u : World) (v0 v1 v2 l0 l1 l2 : Value) (Bo : Nat), Cp w1 u r 2 0 0 v0 v1 v2 → H 7 #[true, true, true, true, true, true, false, true, true, false, false, true, true, false, false, false, false] { tmps := ((T.setIfInBounds 17 l0).setIfInBounds 20 v0), defers := [] } u := by
      intro u v0 v1 v2 l0 l1 l2 Bo hc
      rw [HH.out, HT.out]
      simp only [List.setIfInBounds_toArray, List.set_cons_zero, List.set_cons_succ]
      refine heldD_three (i := 6) (k := 10) (m := 15) (by kernel_rfl) ?_ ?_ ?_
      · have hc' := hc.litY
        refine wpOpIn_value (v := .slice (some ⟨u.heap.size, 0, none⟩) 0 0) (w' := u.alloc (.cells #[] 2)) rfl rfl rfl (by rfl) (by rfl) (by go_simp) ?_
        refine ⟨fun _ => HSS.out _ hc'.below, ?_⟩
        have q := st_11010 _ v0 (.slice (some ⟨u.heap.size, 0, none⟩) 0 0) v2 l0 (.slice (some ⟨u.heap.size, 0, none⟩) 0 0) l2 Bo hc' rfl
        rw [HH.out, HT.out] at q
        simp only [List.setIfInBounds_toArray, List.set_cons_zero, List.set_cons_succ] at q ⊢
        exact q
      · have hc' := hc.litA
        refine wpOpIn_value (v := .slice (some ⟨u.heap.size, 0, none⟩) 0 0) (w' := u.alloc (.cells #[] 54)) rfl rfl rfl (by rfl) (by rfl) (by go_simp) ?_
        refine ⟨fun _ => HSS.out _ hc'.below, ?_⟩
        have q := st_10110 _ v0 v1 (.slice (some ⟨u.heap.size, 0, none⟩) 0 0) l0 l1 (.slice (some ⟨u.heap.size, 0, none⟩) 0 0) Bo hc' rfl
        rw [HH.out, HT.out] at q
        simp only [List.setIfInBounds_toArray, List.set_cons_zero, List.set_cons_succ] at q ⊢
        exact q
      · have hb : Below u.heap.size u (u.alloc (.cells #[.int .i64 0, .slice none 0 0, .slice none 0 0, .slice none 0 0] 25)) := (Below.refl _ _).alloc (Nat.le_refl _) _
        have hc' := hc.keep hb
        refine wpOpIn_value (v := .pointer (some ⟨u.heap.size, 0, none⟩)) (w' := u.alloc (.cells #[.int .i64 0, .slice none 0 0, .slice none 0 0, .slice none 0 0] 25)) rfl rfl rfl (by rfl) (by rfl) (by go_simp) ?_
        refine ⟨fun _ => HSS.out _ hc'.below, ?_⟩
        have q := st_10011 _ v0 v1 v2 l0 l1 l2 u.heap.size hc' (Blk.new _ _ _ _) hc.below.size
        rw [HH.out, HT.out] at q
        simp only [List.setIfInBounds_toArray, List.set_cons_zero, List.set_cons_succ] at q ⊢
        exact q
    have st_00001 : ∀ (u : World) (v0 v1 v2 l0 l1 l2 : Value) (Bo : Nat), Cp w1 u r 0 0 0 v0 v1 v2 → Blk u Bo #[.int .i64 0, .slice none 0 0, .slice none 0 0, .slice none 0 0] 25 (0, 0) → w1.heap.size ≤ Bo → H 8 #[true, true, false, true, true, false, false, true, true, false, false, true, true, false, false, true, false] { tmps := (T.setIfInBounds 10 (.pointer (some ⟨Bo, 0, none⟩))), defers := [] } u := by
      intro u v0 v1 v2 l0 l1 l2 Bo hc hB hBl
      rw [HH.out, HT.out]
      simp only [List.setIfInBounds_toArray, List.set_cons_zero, List.set_cons_succ]
      refine heldD_three (i := 2) (k := 6) (m := 10) (by kernel_rfl) ?_ ?_ ?_
      · have hc' := hc.litX
        refine wpOpIn_value (v := .slice (some ⟨u.heap.size, 0, none⟩) 0 0) (w' := u.alloc (.cells #[] 2)) rfl rfl rfl (by rfl) (by rfl) (by go_simp) ?_
        refine ⟨fun _ => HSS.out _ hc'.below, ?_⟩
        have q := st_10001 _ (.slice (some ⟨u.heap.size, 0, none⟩) 0 0) v1 v2 (.slice (some ⟨u.heap.size, 0, none⟩) 0 0) l1 l2 Bo hc' rfl (hB.below ((Below.refl _ _).alloc (Nat.le_refl _) _) hB.lt) hBl
        rw [HH.out, HT.out] at q
        simp only [List.setIfInBounds_toArray, List.set_cons_zero, List.set_cons_succ] at q ⊢
        exact q
      · have hc' := hc.litY
        refine wpOpIn_value (v := .slice (some ⟨u.heap.size, 0, none⟩) 0 0) (w' := u.alloc (.cells #[] 2)) rfl rfl rfl (by rfl) (by rfl) (by go_simp) ?_
        refine ⟨fun _ => HSS.out _ hc'.below, ?_⟩
        have q := st_01001 _ v0 (.slice (some ⟨u.heap.size, 0, none⟩) 0 0) v2 l0 (.slice (some ⟨u.heap.size, 0, none⟩) 0 0) l2 Bo hc' rfl (hB.below ((Below.refl _ _).alloc (Nat.le_refl _) _) hB.lt) hBl
        rw [HH.out, HT.out] at q
        simp only [List.setIfInBounds_toArray, List.set_cons_zero, List.set_cons_succ] at q ⊢
        exact q
      · have hc' := hc.litA
        refine wpOpIn_value (v := .slice (some ⟨u.heap.size, 0, none⟩) 0 0) (w' := u.alloc (.cells #[] 54)) rfl rfl rfl (by rfl) (by rfl) (by go_simp) ?_
        refine ⟨fun _ => HSS.out _ hc'.below, ?_⟩
        have q := st_00101 _ v0 v1 (.slice (some ⟨u.heap.size, 0, none⟩) 0 0) l0 l1 (.slice (some ⟨u.heap.size, 0, none⟩) 0 0) Bo hc' rfl (hB.below ((Below.refl _ _).alloc (Nat.le_refl _) _) hB.lt) hBl
        rw [HH.out, HT.out] at q
        simp only [List.setIfInBounds_toArray, List.set_cons_zero, List.set_cons_succ] at q ⊢
        exact q
    have st_10000 : ∀ (u : World) (v0 v1 v2 l0 l1 l2 : Value) (Bo : Nat), Cp w1 u r 1 0 0 v0 v1 v2 → v0 = l0 → H 8 #[true, true, true, true, true, false, false, true, true, false, false, true, true, false, false, false, false] { tmps := (T.setIfInBounds 17 l0), defers := [] } u := by
      intro u v0 v1 v2 l0 l1 l2 Bo hc e0
      rw [HH.out, HT.out]
      subst e0
      simp only [List.setIfInBounds_toArray, List.set_cons_zero, List.set_cons_succ]
      refine heldD_four (i := 5) (k := 6) (m := 10) (o := 15) (by kernel_rfl) ?_ ?_ ?_ ?_
      · obtain ⟨a, n, c, w', hr, hc', _⟩ := hc.appX HVx.out HFew.out
        have HR := Lib.hid hr
        clear hr
        refine wpOpIn_append rfl rfl rfl (by rfl) _ _ _ _ rfl HR.out ?_
        refine ⟨fun _ => HSS.out _ hc'.below, ?_⟩
        have q := st_10010 w' (.slice a n c) v1 v2 v0 l1 l2 Bo hc'
        rw [HH.out, HT.out] at q
        simp only [List.setIfInBounds_toArray, List.set_cons_zero, List.set_cons_succ] at q ⊢
        exact q
      · have hc' := hc.litY
        refine wpOpIn_value (v := .slice (some ⟨u.heap.size, 0, none⟩) 0 0) (w' := u.alloc (.cells #[] 2)) rfl rfl rfl (by rfl) (by rfl) (by go_simp) ?_
        refine ⟨fun _ => HSS.out _ hc'.below, ?_⟩
        have q := st_11000 _ v0 (.slice (some ⟨u.heap.size, 0, none⟩) 0 0) v2 v0 (.slice (some ⟨u.heap.size, 0, none⟩) 0 0) l2 Bo hc' rfl rfl
        rw [HH.out, HT.out] at q
        simp only [List.setIfInBounds_toArray, List.set_cons_zero, List.set_cons_succ] at q ⊢
        exact q
      · have hc' := hc.litA
        refine wpOpIn_value (v := .slice (some ⟨u.heap.size, 0, none⟩) 0 0) (w' := u.alloc (.cells #[] 54)) rfl rfl rfl (by rfl) (by rfl) (by go_simp) ?_
        refine ⟨fun _ => HSS.out _ hc'.below, ?_⟩
        have q := st_10100 _ v0 v1 (.slice (some ⟨u.heap.size, 0, none⟩) 0 0) v0 l1 (.slice (some ⟨u.heap.size, 0, none⟩) 0 0) Bo hc' rfl rfl
        rw [HH.out, HT.out] at q
        simp only [List.setIfInBounds_toArray, List.set_cons_zero, List.set_cons_succ] at q ⊢
        exact q
      · have hb : Below u.heap.size u (u.alloc (.cells #[.int .i64 0, .slice none 0 0, .slice none 0 0, .slice none 0 0] 25)) := (Below.refl _ _).alloc (Nat.le_refl _) _
        have hc' := hc.keep hb
        refine wpOpIn_value (v := .pointer (some ⟨u.heap.size, 0, none⟩)) (w' := u.alloc (.cells #[.int .i64 0, .slice none 0 0, .slice none 0 0, .slice none 0 0] 25)) rfl rfl rfl (by rfl) (by rfl) (by go_simp) ?_
        refine ⟨fun _ => HSS.out _ hc'.below, ?_⟩
        have q := st_10001 _ v0 v1 v2 v0 l1 l2 u.heap.size hc' rfl (Blk.new _ _ _ _) hc.below.size
        rw [HH.out, HT.out] at q
        simp only [List.setIfInBounds_toArray, List.set_cons_zero, List.set_cons_succ] at q ⊢
        exact q
    have st_01000 : ∀ (u : World) (v0 v1 v2 l0 l1 l2 : Value) (Bo : Nat), Cp w1 u r 0 1 0 v0 v1 v2 → v1 = l1 → H 8 #[true, true, false, true, true, false, true, true, true, false, false, true, true, false, false, false, false] { tmps := (T.setIfInBounds 21 l1), defers := [] } u := by
      intro u v0 v1 v2 l0 l1 l2 Bo hc e1
      rw [HH.out, HT.out]
      subst e1
      simp only [List.setIfInBounds_toArray, List.set_cons_zero, List.set_cons_succ]
      refine heldD_three (i := 2) (k := 10) (m := 15) (by kernel_rfl) ?_ ?_ ?_
      · have hc' := hc.litX
        refine wpOpIn_value (v := .slice (some ⟨u.heap.size, 0, none⟩) 0 0) (w' := u.alloc (.cells #[] 2)) rfl rfl rfl (by rfl) (by rfl) (by go_simp) ?_
        refine ⟨fun _ => HSS.out _ hc'.below, ?_⟩
        have q := st_11000 _ (.slice (some ⟨u.heap.size, 0, none⟩) 0 0) v1 v2 (.slice (some ⟨u.heap.size, 0, none⟩) 0 0) v1 l2 Bo hc' rfl rfl
        rw [HH.out, HT.out] at q
        simp only [List.setIfInBounds_toArray, List.set_cons_zero, List.set_cons_succ] at q ⊢
        exact q
      · have hc' := hc.litA
        refine wpOpIn_value (v := .slice (some ⟨u.heap.size, 0, none⟩) 0 0) (w' := u.alloc (.cells #[] 54)) rfl rfl rfl (by rfl) (by rfl) (by go_simp) ?_
        refine ⟨fun _ => HSS.out _ hc'.below, ?_⟩
        have q := st_01100 _ v0 v1 (.slice (some ⟨u.heap.size, 0, none⟩) 0 0) l0 v1 (.slice (some ⟨u.heap.size, 0, none⟩) 0 0) Bo hc' rfl rfl
        rw [HH.out, HT.out] at q
        simp only [List.setIfInBounds_toArray, List.set_cons_zero, List.set_cons_succ] at q ⊢
        exact q
      · have hb : Below u.heap.size u (u.alloc (.cells #[.int .i64 0, .slice none 0 0, .slice none 0 0, .slice none 0 0] 25)) := (Below.refl _ _).alloc (Nat.le_refl _) _
        have hc' := hc.keep hb
        refine wpOpIn_value (v := .pointer (some ⟨u.heap.size, 0, none⟩)) (w' := u.alloc (.cells #[.int .i64 0, .slice none 0 0, .slice none 0 0, .slice none 0 0] 25)) rfl rfl rfl (by rfl) (by rfl) (by go_simp) ?_
        refine ⟨fun _ => HSS.out _ hc'.below, ?_⟩
        have q := st_01001 _ v0 v1 v2 l0 v1 l2 u.heap.size hc' rfl (Blk.new _ _ _ _) hc.below.size
        rw [HH.out, HT.out] at q
        simp only [List.setIfInBounds_toArray, List.set_cons_zero, List.set_cons_succ] at q ⊢
        exact q
    have st_00100 : ∀ (u : World) (v0 v1 v2 l0 l1 l2 : Value) (Bo : Nat), Cp w1 u r 0 0 1 v0 v1 v2 → v2 = l2 → H 8 #[true, true, false, true, true, false, false, true, true, false, true, true, true, false, false, false, false] { tmps := (T.setIfInBounds 25 l2), defers := [] } u := by
      intro u v0 v1 v2 l0 l1 l2 Bo hc e2
      rw [HH.out, HT.out]
      subst e2
      simp only [List.setIfInBounds_toArray, List.set_cons_zero, List.set_cons_succ]
      refine heldD_three (i := 2) (k := 6) (m := 15) (by kernel_rfl) ?_ ?_ ?_
      · have hc' := hc.litX
        refine wpOpIn_value (v := .slice (some ⟨u.heap.size, 0, none⟩) 0 0) (w' := u.alloc (.cells #[] 2)) rfl rfl rfl (by rfl) (by rfl) (by go_simp) ?_
        refine ⟨fun _ => HSS.out _ hc'.below, ?_⟩
        have q := st_10100 _ (.slice (some ⟨u.heap.size, 0, none⟩) 0 0) v1 v2 (.slice (some ⟨u.heap.size, 0, none⟩) 0 0) l1 v2 Bo hc' rfl rfl
        rw [HH.out, HT.out] at q
        simp only [List.setIfInBounds_toArray, List.set_cons_zero, List.set_cons_succ] at q ⊢
        exact q
      · have hc' := hc.litY
        refine wpOpIn_value (v := .slice (some ⟨u.heap.size, 0, none⟩) 0 0) (w' := u.alloc (.cells #[] 2)) rfl rfl rfl (by rfl) (by rfl) (by go_simp) ?_
        refine ⟨fun _ => HSS.out _ hc'.below, ?_⟩
        have q := st_01100 _ v0 (.slice (some ⟨u.heap.size, 0, none⟩) 0 0) v2 l0 (.slice (some ⟨u.heap.size, 0, none⟩) 0 0) v2 Bo hc' rfl rfl
        rw [HH.out, HT.out] at q
        simp only [List.setIfInBounds_toArray, List.set_cons_zero, List.set_cons_succ] at q ⊢
        exact q
      · have hb : Below u.heap.size u (u.alloc (.cells #[.int .i64 0, .slice none 0 0, .slice none 0 0, .slice none 0 0] 25)) := (Below.refl _ _).alloc (Nat.le_refl _) _
        have hc' := hc.keep hb
        refine wpOpIn_value (v := .pointer (some ⟨u.heap.size, 0, none⟩)) (w' := u.alloc (.cells #[.int .i64 0, .slice none 0 0, .slice none 0 0, .slice none 0 0] 25)) rfl rfl rfl (by rfl) (by rfl) (by go_simp) ?_
        refine ⟨fun _ => HSS.out _ hc'.below, ?_⟩
        have q := st_00101 _ v0 v1 v2 l0 l1 v2 u.heap.size hc' rfl (Blk.new _ _ _ _) hc.below.size
        rw [HH.out, HT.out] at q
        simp only [List.setIfInBounds_toArray, List.set_cons_zero, List.set_cons_succ] at q ⊢
        exact q
    have st_00000 : ∀ (u : World) (v0 v1 v2 l0 l1 l2 : Value) (Bo : Nat), Cp w1 u r 0 0 0 v0 v1 v2 → H 9 #[true, true, false, true, true, false, false, true, true, false, false, true, true, false, false, false, false] { tmps := T, defers := [] } u := by
      intro u v0 v1 v2 l0 l1 l2 Bo hc
      rw [HH.out, HT.out]
      refine heldD_four (i := 2) (k := 6) (m := 10) (o := 15) (by kernel_rfl) ?_ ?_ ?_ ?_
      · have hc' := hc.litX
        refine wpOpIn_value (v := .slice (some ⟨u.heap.size, 0, none⟩) 0 0) (w' := u.alloc (.cells #[] 2)) rfl rfl rfl (by rfl) (by rfl) (by go_simp) ?_
        refine ⟨fun _ => HSS.out _ hc'.below, ?_⟩
        have q := st_10000 _ (.slice (some ⟨u.heap.size, 0, none⟩) 0 0) v1 v2 (.slice (some ⟨u.heap.size, 0, none⟩) 0 0) l1 l2 Bo hc' rfl
        rw [HH.out, HT.out] at q
        simp only [List.setIfInBounds_toArray, List.set_cons_zero, List.set_cons_succ] at q ⊢
        exact q
      · have hc' := hc.litY
        refine wpOpIn_value (v := .slice (some ⟨u.heap.size, 0, none⟩) 0 0) (w' := u.alloc (.cells #[] 2)) rfl rfl rfl (by rfl) (by rfl) (by go_simp) ?_
        refine ⟨fun _ => HSS.out _ hc'.below, ?_⟩
        have q := st_01000 _ v0 (.slice (some ⟨u.heap.size, 0, none⟩) 0 0) v2 l0 (.slice (some ⟨u.heap.size, 0, none⟩) 0 0) l2 Bo hc' rfl
        rw [HH.out, HT.out] at q
        simp only [List.setIfInBounds_toArray, List.set_cons_zero, List.set_cons_succ] at q ⊢
        exact q
      · have hc' := hc.litA
        refine wpOpIn_value (v := .slice (some ⟨u.heap.size, 0, none⟩) 0 0) (w' := u.alloc (.cells #[] 54)) rfl rfl rfl (by rfl) (by rfl) (by go_simp) ?_
        refine ⟨fun _ => HSS.out _ hc'.below, ?_⟩
        have q := st_00100 _ v0 v1 (.slice (some ⟨u.heap.size, 0, none⟩) 0 0) l0 l1 (.slice (some ⟨u.heap.size, 0, none⟩) 0 0) Bo hc' rfl
        rw [HH.out, HT.out] at q
        simp only [List.setIfInBounds_toArray, List.set_cons_zero, List.set_cons_succ] at q ⊢
        exact q
      · have hb : Below u.heap.size u (u.alloc (.cells #[.int .i64 0, .slice none 0 0, .slice none 0 0, .slice none 0 0] 25)) := (Below.refl _ _).alloc (Nat.le_refl _) _
        have hc' := hc.keep hb
        refine wpOpIn_value (v := .pointer (some ⟨u.heap.size, 0, none⟩)) (w' := u.alloc (.cells #[.int .i64 0, .slice none 0 0, .slice none 0 0, .slice none 0 0] 25)) rfl rfl rfl (by rfl) (by rfl) (by go_simp) ?_
        refine ⟨fun _ => HSS.out _ hc'.below, ?_⟩
        have q := st_00001 _ v0 v1 v2 l0 l1 l2 u.heap.size hc' (Blk.new _ _ _ _) hc.below.size
        rw [HH.out, HT.out] at q
        simp only [List.setIfInBounds_toArray, List.set_cons_zero, List.set_cons_succ] at q ⊢
        exact q
    have q := st_00000 wk0 undef undef undef undef undef undef 0 (Cp.start HBw0.out _ _ _)
    exact q
  intro u v0 v1 v2 l0 l1 l2 Bo hc hB hBl
  rw [HH.out, HT.out]
  simp only [List.setIfInBounds_toArray, List.set_cons_zero, List.set_cons_succ]
  have HC := Lib.hid hc; have HBo := Lib.hid hB; have HBl := Lib.hid hBl
  clear hc hB hBl HH HT
  obtain ⟨xa, xc, rfl, fx⟩ := ownForm HC.out.own.1
  obtain ⟨ya, yc, rfl, fy⟩ := ownForm HC.out.own.2.1
  obtain ⟨za, zc, rfl, fz⟩ := ownForm HC.out.own.2.2.1
  have HFx := Lib.hid fx; have HFy := Lib.hid fy; have HFz := Lib.hid fz
  clear fx fy fz
  have h4 := store4 HC.out.own HBo.out HBl.out HC.out.below
  have fr := fun i => HBo.out.free i (Or.inr (Nat.zero_le _))
  have f0 := fr 0; have f1 := fr 1; have f2 := fr 2; have f3 := fr 3
  have e0 := HBo.out.cell 0; have e1 := HBo.out.cell 1; have e2 := HBo.out.cell 2; have e3 := HBo.out.cell 3
  change u.cell? ⟨Bo, 0, none⟩ = some (.int .i64 0) at e0
  change u.cell? ⟨Bo, 1, none⟩ = some (.slice none 0 0) at e1
  change u.cell? ⟨Bo, 2, none⟩ = some (.slice none 0 0) at e2
  change u.cell? ⟨Bo, 3, none⟩ = some (.slice none 0 0) at e3
  have H4 := Lib.hid h4
  clear h4 fr
  refine heldD_one (i := 16) (by kernel_rfl) ?_
  refine wpOpIn_skip (w' := (((u.setCell ⟨Bo, 0, none⟩ (.int .i64 r.nodes)).setCell ⟨Bo, 1, none⟩ (.slice xa r.X.length xc)).setCell ⟨Bo, 2, none⟩ (.slice ya r.Y.length yc)).setCell ⟨Bo, 3, none⟩ (.slice za r.arcs.length zc)) rfl rfl rfl (by rfl) (by rfl) (by go_simp) ?_
  refine ⟨fun h => (by cases h), ?_⟩
  refine heldD_done (by kernel_rfl) ?_ _
  clear e0 e1 e2 e3 f0 f1 f2 f3
  have hI : OutI w1 Bo (.slice xa r.X.length xc) (.slice ya r.Y.length yc) (.slice za r.arcs.length zc) r ((((u.setCell ⟨Bo, 0, none⟩ (.int .i64 r.nodes)).setCell ⟨Bo, 1, none⟩ (.slice xa r.X.length xc)).setCell ⟨Bo, 2, none⟩ (.slice ya r.Y.length yc)).setCell ⟨Bo, 3, none⟩ (.slice za r.arcs.length zc)) := ⟨H4.out.1, H4.out.2.1, ⟨H4.out.2.2.os, H4.out.2.2.tape, H4.out.2.2.output, H4.out.2.2.size, fun k hk _ => H4.out.2.2.block k hk⟩⟩
  have HI := Lib.hid hI; have HBz := Lib.hid H4.out.2.2
  clear H4 hI HC HBo
  generalize (((u.setCell ⟨Bo, 0, none⟩ (.int .i64 r.nodes)).setCell ⟨Bo, 1, none⟩ (.slice xa r.X.length xc)).setCell ⟨Bo, 2, none⟩ (.slice ya r.Y.length yc)).setCell ⟨Bo, 3, none⟩ (.slice za r.arcs.length zc) = wz at *
  obtain ⟨gx, rfl⟩ := HFx.out (by have := HSm.out.nodes; have := HSm.out.lenX; omega)
  obtain ⟨gy, rfl⟩ := HFy.out (by have := HSm.out.nodes; have := HSm.out.lenY; omega)
  clear HFx HFy
  have kR := HBr.out.below HBz.out HBr.out.lt
  have c0 := kR.cell 0; have c3 := kR.cell 3
  change wz.cell? ⟨Br, 0, none⟩ = some (.int .i64 r.nodes) at c0
  change wz.cell? ⟨Br, 3, none⟩ = some va at c3
  clear kR
  go_upto_if 30 with fail
  go_cut [11, 12] from 13 (fun s11 s12 wx => ∃ far node : Int, s11 = .int .i64 far ∧ s12 = .int .i64 node ∧ wx = wz ∧ Hid (¬ coordOk far ∧ ¬ (0 ≤ far ∧ far < 2147483648) ∧ ¬ (0 ≤ node ∧ node < r.nodes)))
  case first =>
    cases high
    · go_wp2_with fail
      go_meet
      case rel => exact ⟨_, _, rfl, rfl, rfl, Lib.hid ⟨by unfold coordOk; omega, by omega, by omega⟩⟩
    · go_wp2_with fail
      go_meet
      case rel => exact ⟨_, _, rfl, rfl, rfl, Lib.hid ⟨by unfold coordOk; omega, by omega, by omega⟩⟩
  case rest =>
  obtain ⟨far, node, rfl, rfl, rfl, hcut⟩ := hcut
  have HFar := hcut
  clear hcut
  obtain ⟨va1, va3, rfl⟩ := HFa.out
  clear HFa
  obtain ⟨k, hk⟩ : ∃ k : Nat, (k : Int) = (at_ : Int) % r.nodes := ⟨((at_ : Int) % r.nodes).toNat, by have := Int.emod_nonneg (at_ : Int) (b := r.nodes) (by have := hs.nodes; omega); omega⟩
  have hkb : (k : Int) < r.nodes := by rw [hk]; exact Int.emod_lt_of_pos _ (by have := hs.nodes; omega)
  have n0 : (at_ : Int).tmod r.nodes = (k : Int) := by rw [hk, Int.tmod_eq_emod_of_nonneg (by omega)]
  have n1 : (at_ : Int) % r.nodes = (k : Int) := hk.symm
  have hn := hs.nodes
  have n2 : IntKind.i64.wrap (k : Int) = (k : Int) := wrap_small _ (by omega) (by omega)
  have n3 : ¬ r.nodes = 0 := by omega
  have n4 : (r.nodes == 0) = false := by simpa using n3
  have n5 : IntKind.i64.wrap (at_ : Int) = (at_ : Int) := wrap_small _ (by omega) (by omega)
  have hkX : k < r.X.length := by have := hs.lenX; omega
  have hkY : k < r.Y.length := by have := hs.lenY; omega
  clear hk hn
  by_cases hA : r.arcs.length = 0
  case pos =>
    have hAb : ((r.arcs.length : Int) == 0) = true := by simpa using hA
    have mx : (if (1 : Int) < (r.arcs.length : Int) then (r.arcs.length : Int) else 1) = 1 := if_neg (by omega)
    clear hA
    have hc : (what : Int) % 2 = 0 ∨ (what : Int) % 2 = 1 := by omega
    rcases hc with hc | hc
    · have t0 : (what : Int).tmod 2 = 0 := by rw [Int.tmod_eq_emod_of_nonneg (by omega)]; exact hc
      have o1 := HI.out.blk.cell 1
      change wc.cell? ⟨Bo, 1, none⟩ = some (.slice (some ⟨gx, 0, none⟩) r.X.length xc) at o1
      have hI1 := HI.out.setX rfl k hkX far
      obtain ⟨⟨q1, e1⟩, ff1⟩ := HI.out.cellX rfl k hkX
      have hbad : Bad r 0 k far := ⟨by omega, hkX, by unfold goodU; simp; first | exact HFar.out.1 | (have := HFar.out.1; omega)⟩
      have hset : setK r 0 k far = { r with X := r.X.set k far } := by unfold setK; simp
      rw [← hset] at hI1
      have HI1 := Lib.hid hI1; have HBad := Lib.hid hbad; have HSet := Lib.hid hset
      clear hI1 hbad hset
      go_upto_region 13 with fail
      clear o1 e1 ff1 c0 c3
      generalize wc.setCell ⟨gx, k, none⟩ (.int .i64 far) = W at *
      have hbW := below_of (Below.refl _ _) HI1.out.kept HBl.out
      have k8 := HK8.out.below hbW HK8.out.lt; have k9 := HK9.out.below hbW HK9.out.lt
      have hnd : (setK r 0 k far).nodes = r.nodes := setK_nodes _ _ _ _
      have oo := HI1.out.blk
      rw [hnd] at oo
      have o0 := oo.cell 0; have o1 := oo.cell 1; have o2 := oo.cell 2; have o3 := oo.cell 3
      change W.cell? ⟨Bo, 0, none⟩ = some (.int .i64 r.nodes) at o0
      change W.cell? ⟨Bo, 1, none⟩ = some (.slice (some ⟨gx, 0, none⟩) r.X.length xc) at o1
      change W.cell? ⟨Bo, 2, none⟩ = some (.slice (some ⟨gy, 0, none⟩) r.Y.length yc) at o2
      change W.cell? ⟨Bo, 3, none⟩ = some (.slice za r.arcs.length zc) at o3
      have m80 := k8.cell 0; have f80 := k8.free 0 (Or.inr (Nat.zero_le _))
      change W.cell? ⟨B8, 0, none⟩ = some (.int .i64 0) at m80
      have m81 := k8.cell 1; have f81 := k8.free 1 (Or.inr (Nat.zero_le _))
      change W.cell? ⟨B8, 1, none⟩ = some (.slice none 0 0) at m81
      have m82 := k8.cell 2; have f82 := k8.free 2 (Or.inr (Nat.zero_le _))
      change W.cell? ⟨B8, 2, none⟩ = some (.slice none 0 0) at m82
      have m83 := k8.cell 3; have f83 := k8.free 3 (Or.inr (Nat.zero_le _))
      change W.cell? ⟨B8, 3, none⟩ = some (.slice none 0 0) at m83
      have m90 := k9.cell 0; have f90 := k9.free 0 (Or.inr (Nat.zero_le _))
      change W.cell? ⟨B9, 0, none⟩ = some (.int .i64 0) at m90
      have m91 := k9.cell 1; have f91 := k9.free 1 (Or.inr (Nat.zero_le _))
      change W.cell? ⟨B9, 1, none⟩ = some (.int .i64 0) at m91
      have m92 := k9.cell 2; have f92 := k9.free 2 (Or.inr (Nat.zero_le _))
      change W.cell? ⟨B9, 2, none⟩ = some (.int .i64 0) at m92
      have m93 := k9.cell 3; have f93 := k9.free 3 (Or.inr (Nat.zero_le _))
      change W.cell? ⟨B9, 3, none⟩ = some (.int .i64 0) at m93
      have hend := put_end (p := .int .i64 0) (q := .int .i64 7) r.nodes hnd.symm HB1.out HBl.out HI1.out k8 k9 HL8.out HL9.out (.int .i64 2) (.int .i64 k) rfl
      have HE := Lib.hid hend; have hne : B9 ≠ B8 := blk_apart k8 k9 (by decide)
      clear hend k8 k9 oo hbW hnd
      go_wp2_with fail
      generalize (((((((W.setCell ⟨B8, 0, none⟩ (.int .i64 r.nodes)).setCell ⟨B8, 1, none⟩ (.slice (some ⟨gx, 0, none⟩) r.X.length xc)).setCell ⟨B8, 2, none⟩ (.slice (some ⟨gy, 0, none⟩) r.Y.length yc)).setCell ⟨B8, 3, none⟩ (.slice za r.arcs.length zc)).setCell ⟨B9, 0, none⟩ (.int .i64 2)).setCell ⟨B9, 1, none⟩ (.int .i64 k)).setCell ⟨B9, 2, none⟩ (.int .i64 0)).setCell ⟨B9, 3, none⟩ (.int .i64 7) = wf at *
      have z0 := HE.out.1.cell 0; have z1 := HE.out.1.cell 1; have z2 := HE.out.1.cell 2; have z3 := HE.out.1.cell 3; have z4 := HE.out.2.1.cell 0; have z5 := HE.out.2.1.cell 1; have z6 := HE.out.2.1.cell 2; have z7 := HE.out.2.1.cell 3
      simp only [List.getElem?_toArray, List.getElem?_cons_succ, List.getElem?_cons_zero] at z0 z1 z2 z3 z4 z5 z6 z7
      exact bodyPost_ret (v := .tuple #[.agg #[.int .i64 r.nodes, .slice (some ⟨gx, 0, none⟩) r.X.length xc, .slice (some ⟨gy, 0, none⟩) r.Y.length yc, .slice za r.arcs.length zc], .agg #[.int .i64 2, .int .i64 k, .int .i64 0, .int .i64 7]]) (by simp [results, Tryd.results16, go_sem, z0, z1, z2, z3, z4, z5, z6, z7]) rfl ⟨_, 0, k, far, rfl, HE.out.2.2.1, HBad.out, HE.out.2.2.2⟩
    · have t0 : (what : Int).tmod 2 = 1 := by rw [Int.tmod_eq_emod_of_nonneg (by omega)]; exact hc
      have o2 := HI.out.blk.cell 2
      change wc.cell? ⟨Bo, 2, none⟩ = some (.slice (some ⟨gy, 0, none⟩) r.Y.length yc) at o2
      have hI1 := HI.out.setY rfl k hkY far
      obtain ⟨⟨q1, e1⟩, ff1⟩ := HI.out.cellY rfl k hkY
      have hbad : Bad r 1 k far := ⟨by omega, hkY, by unfold goodU; simp; first | exact HFar.out.1 | (have := HFar.out.1; omega)⟩
      have hset : setK r 1 k far = { r with Y := r.Y.set k far } := by unfold setK; simp
      rw [← hset] at hI1
      have HI1 := Lib.hid hI1; have HBad := Lib.hid hbad; have HSet := Lib.hid hset
      clear hI1 hbad hset
      go_upto_region 16 with fail
      clear o2 e1 ff1 c0 c3
      generalize wc.setCell ⟨gy, k, none⟩ (.int .i64 far) = W at *
      have hbW := below_of (Below.refl _ _) HI1.out.kept HBl.out
      have k8 := HK8.out.below hbW HK8.out.lt; have k9 := HK9.out.below hbW HK9.out.lt
      have hnd : (setK r 1 k far).nodes = r.nodes := setK_nodes _ _ _ _
      have oo := HI1.out.blk
      rw [hnd] at oo
      have o0 := oo.cell 0; have o1 := oo.cell 1; have o2 := oo.cell 2; have o3 := oo.cell 3
      change W.cell? ⟨Bo, 0, none⟩ = some (.int .i64 r.nodes) at o0
      change W.cell? ⟨Bo, 1, none⟩ = some (.slice (some ⟨gx, 0, none⟩) r.X.length xc) at o1
      change W.cell? ⟨Bo, 2, none⟩ = some (.slice (some ⟨gy, 0, none⟩) r.Y.length yc) at o2
      change W.cell? ⟨Bo, 3, none⟩ = some (.slice za r.arcs.length zc) at o3
      have m80 := k8.cell 0; have f80 := k8.free 0 (Or.inr (Nat.zero_le _))
      change W.cell? ⟨B8, 0, none⟩ = some (.int .i64 0) at m80
      have m81 := k8.cell 1; have f81 := k8.free 1 (Or.inr (Nat.zero_le _))
      change W.cell? ⟨B8, 1, none⟩ = some (.slice none 0 0) at m81
      have m82 := k8.cell 2; have f82 := k8.free 2 (Or.inr (Nat.zero_le _))
      change W.cell? ⟨B8, 2, none⟩ = some (.slice none 0 0) at m82
      have m83 := k8.cell 3; have f83 := k8.free 3 (Or.inr (Nat.zero_le _))
      change W.cell? ⟨B8, 3, none⟩ = some (.slice none 0 0) at m83
      have m90 := k9.cell 0; have f90 := k9.free 0 (Or.inr (Nat.zero_le _))
      change W.cell? ⟨B9, 0, none⟩ = some (.int .i64 0) at m90
      have m91 := k9.cell 1; have f91 := k9.free 1 (Or.inr (Nat.zero_le _))
      change W.cell? ⟨B9, 1, none⟩ = some (.int .i64 0) at m91
      have m92 := k9.cell 2; have f92 := k9.free 2 (Or.inr (Nat.zero_le _))
      change W.cell? ⟨B9, 2, none⟩ = some (.int .i64 0) at m92
      have m93 := k9.cell 3; have f93 := k9.free 3 (Or.inr (Nat.zero_le _))
      change W.cell? ⟨B9, 3, none⟩ = some (.int .i64 0) at m93
      have hend := put_end (p := .int .i64 1) (q := .int .i64 7) r.nodes hnd.symm HB1.out HBl.out HI1.out k8 k9 HL8.out HL9.out (.int .i64 2) (.int .i64 k) rfl
      have HE := Lib.hid hend; have hne : B9 ≠ B8 := blk_apart k8 k9 (by decide)
      clear hend k8 k9 oo hbW hnd
      go_wp2_with fail
      generalize (((((((W.setCell ⟨B8, 0, none⟩ (.int .i64 r.nodes)).setCell ⟨B8, 1, none⟩ (.slice (some ⟨gx, 0, none⟩) r.X.length xc)).setCell ⟨B8, 2, none⟩ (.slice (some ⟨gy, 0, none⟩) r.Y.length yc)).setCell ⟨B8, 3, none⟩ (.slice za r.arcs.length zc)).setCell ⟨B9, 0, none⟩ (.int .i64 2)).setCell ⟨B9, 1, none⟩ (.int .i64 k)).setCell ⟨B9, 2, none⟩ (.int .i64 1)).setCell ⟨B9, 3, none⟩ (.int .i64 7) = wf at *
      have z0 := HE.out.1.cell 0; have z1 := HE.out.1.cell 1; have z2 := HE.out.1.cell 2; have z3 := HE.out.1.cell 3; have z4 := HE.out.2.1.cell 0; have z5 := HE.out.2.1.cell 1; have z6 := HE.out.2.1.cell 2; have z7 := HE.out.2.1.cell 3
      simp only [List.getElem?_toArray, List.getElem?_cons_succ, List.getElem?_cons_zero] at z0 z1 z2 z3 z4 z5 z6 z7
      exact bodyPost_ret (v := .tuple #[.agg #[.int .i64 r.nodes, .slice (some ⟨gx, 0, none⟩) r.X.length xc, .slice (some ⟨gy, 0, none⟩) r.Y.length yc, .slice za r.arcs.length zc], .agg #[.int .i64 2, .int .i64 k, .int .i64 1, .int .i64 7]]) (by simp [results, Tryd.results16, go_sem, z0, z1, z2, z3, z4, z5, z6, z7]) rfl ⟨_, 1, k, far, rfl, HE.out.2.2.1, HBad.out, HE.out.2.2.2⟩
  case neg =>
    have hAb : ((r.arcs.length : Int) == 0) = false := by simpa using hA
    have hA2 : ¬ (r.arcs.length : Int) = 0 := by omega
    have mx : (if (1 : Int) < (r.arcs.length : Int) then (r.arcs.length : Int) else 1) = (r.arcs.length : Int) := by split <;> omega
    obtain ⟨gz, rfl⟩ := HFz.out (by omega)
    obtain ⟨i, hi⟩ : ∃ i : Nat, (i : Int) = (at_ : Int) % (r.arcs.length : Int) := ⟨((at_ : Int) % (r.arcs.length : Int)).toNat, by have := Int.emod_nonneg (at_ : Int) (b := (r.arcs.length : Int)) (by omega); omega⟩
    have hib' : (i : Int) < (r.arcs.length : Int) := by rw [hi]; exact Int.emod_lt_of_pos _ (by omega)
    have hib : i < r.arcs.length := by omega
    have i0 : (at_ : Int).tmod (r.arcs.length : Int) = (i : Int) := by rw [hi, Int.tmod_eq_emod_of_nonneg (by omega)]
    have i1 : (at_ : Int) % (r.arcs.length : Int) = (i : Int) := hi.symm
    have hAr := hs.arcs
    have i2 : IntKind.i64.wrap (i : Int) = (i : Int) := wrap_small _ (by omega) (by omega)
    clear hi hAr
    have hc : (what : Int) % 5 = 0 ∨ (what : Int) % 5 = 1 ∨ (what : Int) % 5 = 2 ∨ (what : Int) % 5 = 3 ∨ (what : Int) % 5 = 4 := by omega
    rcases hc with hc | hc | hc | hc | hc
    · have t0 : (what : Int).tmod 5 = 0 := by rw [Int.tmod_eq_emod_of_nonneg (by omega)]; exact hc
      have o1 := HI.out.blk.cell 1
      change wc.cell? ⟨Bo, 1, none⟩ = some (.slice (some ⟨gx, 0, none⟩) r.X.length xc) at o1
      have hI1 := HI.out.setX rfl k hkX far
      obtain ⟨⟨q1, e1⟩, ff1⟩ := HI.out.cellX rfl k hkX
      have hbad : Bad r 0 k far := ⟨by omega, hkX, by unfold goodU; simp; first | exact HFar.out.1 | (have := HFar.out.1; omega)⟩
      have hset : setK r 0 k far = { r with X := r.X.set k far } := by unfold setK; simp
      rw [← hset] at hI1
      have HI1 := Lib.hid hI1; have HBad := Lib.hid hbad; have HSet := Lib.hid hset
      clear hI1 hbad hset
      go_upto_region 13 with fail
      clear o1 e1 ff1 c0 c3
      generalize wc.setCell ⟨gx, k, none⟩ (.int .i64 far) = W at *
      have hbW := below_of (Below.refl _ _) HI1.out.kept HBl.out
      have k8 := HK8.out.below hbW HK8.out.lt; have k9 := HK9.out.below hbW HK9.out.lt
      have hnd : (setK r 0 k far).nodes = r.nodes := setK_nodes _ _ _ _
      have oo := HI1.out.blk
      rw [hnd] at oo
      have o0 := oo.cell 0; have o1 := oo.cell 1; have o2 := oo.cell 2; have o3 := oo.cell 3
      change W.cell? ⟨Bo, 0, none⟩ = some (.int .i64 r.nodes) at o0
      change W.cell? ⟨Bo, 1, none⟩ = some (.slice (some ⟨gx, 0, none⟩) r.X.length xc) at o1
      change W.cell? ⟨Bo, 2, none⟩ = some (.slice (some ⟨gy, 0, none⟩) r.Y.length yc) at o2
      change W.cell? ⟨Bo, 3, none⟩ = some (.slice (some ⟨gz, 0, none⟩) r.arcs.length zc) at o3
      have m80 := k8.cell 0; have f80 := k8.free 0 (Or.inr (Nat.zero_le _))
      change W.cell? ⟨B8, 0, none⟩ = some (.int .i64 0) at m80
      have m81 := k8.cell 1; have f81 := k8.free 1 (Or.inr (Nat.zero_le _))
      change W.cell? ⟨B8, 1, none⟩ = some (.slice none 0 0) at m81
      have m82 := k8.cell 2; have f82 := k8.free 2 (Or.inr (Nat.zero_le _))
      change W.cell? ⟨B8, 2, none⟩ = some (.slice none 0 0) at m82
      have m83 := k8.cell 3; have f83 := k8.free 3 (Or.inr (Nat.zero_le _))
      change W.cell? ⟨B8, 3, none⟩ = some (.slice none 0 0) at m83
      have m90 := k9.cell 0; have f90 := k9.free 0 (Or.inr (Nat.zero_le _))
      change W.cell? ⟨B9, 0, none⟩ = some (.int .i64 0) at m90
      have m91 := k9.cell 1; have f91 := k9.free 1 (Or.inr (Nat.zero_le _))
      change W.cell? ⟨B9, 1, none⟩ = some (.int .i64 0) at m91
      have m92 := k9.cell 2; have f92 := k9.free 2 (Or.inr (Nat.zero_le _))
      change W.cell? ⟨B9, 2, none⟩ = some (.int .i64 0) at m92
      have m93 := k9.cell 3; have f93 := k9.free 3 (Or.inr (Nat.zero_le _))
      change W.cell? ⟨B9, 3, none⟩ = some (.int .i64 0) at m93
      have hend := put_end (p := .int .i64 0) (q := .int .i64 7) r.nodes hnd.symm HB1.out HBl.out HI1.out k8 k9 HL8.out HL9.out (.int .i64 2) (.int .i64 k) rfl
      have HE := Lib.hid hend; have hne : B9 ≠ B8 := blk_apart k8 k9 (by decide)
      clear hend k8 k9 oo hbW hnd
      go_wp2_with fail
      generalize (((((((W.setCell ⟨B8, 0, none⟩ (.int .i64 r.nodes)).setCell ⟨B8, 1, none⟩ (.slice (some ⟨gx, 0, none⟩) r.X.length xc)).setCell ⟨B8, 2, none⟩ (.slice (some ⟨gy, 0, none⟩) r.Y.length yc)).setCell ⟨B8, 3, none⟩ (.slice (some ⟨gz, 0, none⟩) r.arcs.length zc)).setCell ⟨B9, 0, none⟩ (.int .i64 2)).setCell ⟨B9, 1, none⟩ (.int .i64 k)).setCell ⟨B9, 2, none⟩ (.int .i64 0)).setCell ⟨B9, 3, none⟩ (.int .i64 7) = wf at *
      have z0 := HE.out.1.cell 0; have z1 := HE.out.1.cell 1; have z2 := HE.out.1.cell 2; have z3 := HE.out.1.cell 3; have z4 := HE.out.2.1.cell 0; have z5 := HE.out.2.1.cell 1; have z6 := HE.out.2.1.cell 2; have z7 := HE.out.2.1.cell 3
      simp only [List.getElem?_toArray, List.getElem?_cons_succ, List.getElem?_cons_zero] at z0 z1 z2 z3 z4 z5 z6 z7
      exact bodyPost_ret (v := .tuple #[.agg #[.int .i64 r.nodes, .slice (some ⟨gx, 0, none⟩) r.X.length xc, .slice (some ⟨gy, 0, none⟩) r.Y.length yc, .slice (some ⟨gz, 0, none⟩) r.arcs.length zc], .agg #[.int .i64 2, .int .i64 k, .int .i64 0, .int .i64 7]]) (by simp [results, Tryd.results16, go_sem, z0, z1, z2, z3, z4, z5, z6, z7]) rfl ⟨_, 0, k, far, rfl, HE.out.2.2.1, HBad.out, HE.out.2.2.2⟩
    · have t0 : (what : Int).tmod 5 = 1 := by rw [Int.tmod_eq_emod_of_nonneg (by omega)]; exact hc
      have o2 := HI.out.blk.cell 2
      change wc.cell? ⟨Bo, 2, none⟩ = some (.slice (some ⟨gy, 0, none⟩) r.Y.length yc) at o2
      have hI1 := HI.out.setY rfl k hkY far
      obtain ⟨⟨q1, e1⟩, ff1⟩ := HI.out.cellY rfl k hkY
      have hbad : Bad r 1 k far := ⟨by omega, hkY, by unfold goodU; simp; first | exact HFar.out.1 | (have := HFar.out.1; omega)⟩
      have hset : setK r 1 k far = { r with Y := r.Y.set k far } := by unfold setK; simp
      rw [← hset] at hI1
      have HI1 := Lib.hid hI1; have HBad := Lib.hid hbad; have HSet := Lib.hid hset
      clear hI1 hbad hset
      go_upto_region 16 with fail
      clear o2 e1 ff1 c0 c3
      generalize wc.setCell ⟨gy, k, none⟩ (.int .i64 far) = W at *
      have hbW := below_of (Below.refl _ _) HI1.out.kept HBl.out
      have k8 := HK8.out.below hbW HK8.out.lt; have k9 := HK9.out.below hbW HK9.out.lt
      have hnd : (setK r 1 k far).nodes = r.nodes := setK_nodes _ _ _ _
      have oo := HI1.out.blk
      rw [hnd] at oo
      have o0 := oo.cell 0; have o1 := oo.cell 1; have o2 := oo.cell 2; have o3 := oo.cell 3
      change W.cell? ⟨Bo, 0, none⟩ = some (.int .i64 r.nodes) at o0
      change W.cell? ⟨Bo, 1, none⟩ = some (.slice (some ⟨gx, 0, none⟩) r.X.length xc) at o1
      change W.cell? ⟨Bo, 2, none⟩ = some (.slice (some ⟨gy, 0, none⟩) r.Y.length yc) at o2
      change W.cell? ⟨Bo, 3, none⟩ = some (.slice (some ⟨gz, 0, none⟩) r.arcs.length zc) at o3
      have m80 := k8.cell 0; have f80 := k8.free 0 (Or.inr (Nat.zero_le _))
      change W.cell? ⟨B8, 0, none⟩ = some (.int .i64 0) at m80
      have m81 := k8.cell 1; have f81 := k8.free 1 (Or.inr (Nat.zero_le _))
      change W.cell? ⟨B8, 1, none⟩ = some (.slice none 0 0) at m81
      have m82 := k8.cell 2; have f82 := k8.free 2 (Or.inr (Nat.zero_le _))
      change W.cell? ⟨B8, 2, none⟩ = some (.slice none 0 0) at m82
      have m83 := k8.cell 3; have f83 := k8.free 3 (Or.inr (Nat.zero_le _))
      change W.cell? ⟨B8, 3, none⟩ = some (.slice none 0 0) at m83
      have m90 := k9.cell 0; have f90 := k9.free 0 (Or.inr (Nat.zero_le _))
      change W.cell? ⟨B9, 0, none⟩ = some (.int .i64 0) at m90
      have m91 := k9.cell 1; have f91 := k9.free 1 (Or.inr (Nat.zero_le _))
      change W.cell? ⟨B9, 1, none⟩ = some (.int .i64 0) at m91
      have m92 := k9.cell 2; have f92 := k9.free 2 (Or.inr (Nat.zero_le _))
      change W.cell? ⟨B9, 2, none⟩ = some (.int .i64 0) at m92
      have m93 := k9.cell 3; have f93 := k9.free 3 (Or.inr (Nat.zero_le _))
      change W.cell? ⟨B9, 3, none⟩ = some (.int .i64 0) at m93
      have hend := put_end (p := .int .i64 1) (q := .int .i64 7) r.nodes hnd.symm HB1.out HBl.out HI1.out k8 k9 HL8.out HL9.out (.int .i64 2) (.int .i64 k) rfl
      have HE := Lib.hid hend; have hne : B9 ≠ B8 := blk_apart k8 k9 (by decide)
      clear hend k8 k9 oo hbW hnd
      go_wp2_with fail
      generalize (((((((W.setCell ⟨B8, 0, none⟩ (.int .i64 r.nodes)).setCell ⟨B8, 1, none⟩ (.slice (some ⟨gx, 0, none⟩) r.X.length xc)).setCell ⟨B8, 2, none⟩ (.slice (some ⟨gy, 0, none⟩) r.Y.length yc)).setCell ⟨B8, 3, none⟩ (.slice (some ⟨gz, 0, none⟩) r.arcs.length zc)).setCell ⟨B9, 0, none⟩ (.int .i64 2)).setCell ⟨B9, 1, none⟩ (.int .i64 k)).setCell ⟨B9, 2, none⟩ (.int .i64 1)).setCell ⟨B9, 3, none⟩ (.int .i64 7) = wf at *
      have z0 := HE.out.1.cell 0; have z1 := HE.out.1.cell 1; have z2 := HE.out.1.cell 2; have z3 := HE.out.1.cell 3; have z4 := HE.out.2.1.cell 0; have z5 := HE.out.2.1.cell 1; have z6 := HE.out.2.1.cell 2; have z7 := HE.out.2.1.cell 3
      simp only [List.getElem?_toArray, List.getElem?_cons_succ, List.getElem?_cons_zero] at z0 z1 z2 z3 z4 z5 z6 z7
      exact bodyPost_ret (v := .tuple #[.agg #[.int .i64 r.nodes, .slice (some ⟨gx, 0, none⟩) r.X.length xc, .slice (some ⟨gy, 0, none⟩) r.Y.length yc, .slice (some ⟨gz, 0, none⟩) r.arcs.length zc], .agg #[.int .i64 2, .int .i64 k, .int .i64 1, .int .i64 7]]) (by simp [results, Tryd.results16, go_sem, z0, z1, z2, z3, z4, z5, z6, z7]) rfl ⟨_, 1, k, far, rfl, HE.out.2.2.1, HBad.out, HE.out.2.2.2⟩
    · have t0 : (what : Int).tmod 5 = 2 := by rw [Int.tmod_eq_emod_of_nonneg (by omega)]; exact hc
      have o3 := HI.out.blk.cell 3
      change wc.cell? ⟨Bo, 3, none⟩ = some (.slice (some ⟨gz, 0, none⟩) r.arcs.length zc) at o3
      have hI1 := HI.out.setA rfl i 0 hib (by omega) node (o := i * 3) rfl
      obtain ⟨⟨q1, e1⟩, ff1⟩ := HI.out.cellA rfl i 0 hib (by omega)
      change wc.cell? ⟨gz, i * 3, none⟩ = some q1 at e1
      change wc.frozen? ⟨gz, i * 3, none⟩ = false at ff1
      have hbad : Bad r 2 i node := ⟨by omega, hib, by unfold goodU; simp; first | exact HFar.out.2.2 | (have := HFar.out.2.2; omega)⟩
      have hset : setK r 2 i node = { r with arcs := r.arcs.set i (setArc 0 node r.arcs[i]) } := by unfold setK; simp [List.getElem?_eq_getElem hib]
      rw [← hset] at hI1
      have HI1 := Lib.hid hI1; have HBad := Lib.hid hbad; have HSet := Lib.hid hset
      clear hI1 hbad hset
      go_upto_region 19 with fail
      clear o3 e1 ff1 c0 c3
      generalize wc.setCell ⟨gz, i * 3, none⟩ (.int .i64 node) = W at *
      have hbW := below_of (Below.refl _ _) HI1.out.kept HBl.out
      have k8 := HK8.out.below hbW HK8.out.lt; have k9 := HK9.out.below hbW HK9.out.lt
      have hnd : (setK r 2 i node).nodes = r.nodes := setK_nodes _ _ _ _
      have oo := HI1.out.blk
      rw [hnd] at oo
      have o0 := oo.cell 0; have o1 := oo.cell 1; have o2 := oo.cell 2; have o3 := oo.cell 3
      change W.cell? ⟨Bo, 0, none⟩ = some (.int .i64 r.nodes) at o0
      change W.cell? ⟨Bo, 1, none⟩ = some (.slice (some ⟨gx, 0, none⟩) r.X.length xc) at o1
      change W.cell? ⟨Bo, 2, none⟩ = some (.slice (some ⟨gy, 0, none⟩) r.Y.length yc) at o2
      change W.cell? ⟨Bo, 3, none⟩ = some (.slice (some ⟨gz, 0, none⟩) r.arcs.length zc) at o3
      have m80 := k8.cell 0; have f80 := k8.free 0 (Or.inr (Nat.zero_le _))
      change W.cell? ⟨B8, 0, none⟩ = some (.int .i64 0) at m80
      have m81 := k8.cell 1; have f81 := k8.free 1 (Or.inr (Nat.zero_le _))
      change W.cell? ⟨B8, 1, none⟩ = some (.slice none 0 0) at m81
      have m82 := k8.cell 2; have f82 := k8.free 2 (Or.inr (Nat.zero_le _))
      change W.cell? ⟨B8, 2, none⟩ = some (.slice none 0 0) at m82
      have m83 := k8.cell 3; have f83 := k8.free 3 (Or.inr (Nat.zero_le _))
      change W.cell? ⟨B8, 3, none⟩ = some (.slice none 0 0) at m83
      have m90 := k9.cell 0; have f90 := k9.free 0 (Or.inr (Nat.zero_le _))
      change W.cell? ⟨B9, 0, none⟩ = some (.int .i64 0) at m90
      have m91 := k9.cell 1; have f91 := k9.free 1 (Or.inr (Nat.zero_le _))
      change W.cell? ⟨B9, 1, none⟩ = some (.int .i64 0) at m91
      have m92 := k9.cell 2; have f92 := k9.free 2 (Or.inr (Nat.zero_le _))
      change W.cell? ⟨B9, 2, none⟩ = some (.int .i64 0) at m92
      have m93 := k9.cell 3; have f93 := k9.free 3 (Or.inr (Nat.zero_le _))
      change W.cell? ⟨B9, 3, none⟩ = some (.int .i64 0) at m93
      have hend := put_end (p := .int .i64 0) (q := .int .i64 9) r.nodes hnd.symm HB1.out HBl.out HI1.out k8 k9 HL8.out HL9.out (.int .i64 4) (.int .i64 i) rfl
      have HE := Lib.hid hend; have hne : B9 ≠ B8 := blk_apart k8 k9 (by decide)
      clear hend k8 k9 oo hbW hnd
      go_wp2_with fail
      generalize (((((((W.setCell ⟨B8, 0, none⟩ (.int .i64 r.nodes)).setCell ⟨B8, 1, none⟩ (.slice (some ⟨gx, 0, none⟩) r.X.length xc)).setCell ⟨B8, 2, none⟩ (.slice (some ⟨gy, 0, none⟩) r.Y.length yc)).setCell ⟨B8, 3, none⟩ (.slice (some ⟨gz, 0, none⟩) r.arcs.length zc)).setCell ⟨B9, 0, none⟩ (.int .i64 4)).setCell ⟨B9, 1, none⟩ (.int .i64 i)).setCell ⟨B9, 2, none⟩ (.int .i64 0)).setCell ⟨B9, 3, none⟩ (.int .i64 9) = wf at *
      have z0 := HE.out.1.cell 0; have z1 := HE.out.1.cell 1; have z2 := HE.out.1.cell 2; have z3 := HE.out.1.cell 3; have z4 := HE.out.2.1.cell 0; have z5 := HE.out.2.1.cell 1; have z6 := HE.out.2.1.cell 2; have z7 := HE.out.2.1.cell 3
      simp only [List.getElem?_toArray, List.getElem?_cons_succ, List.getElem?_cons_zero] at z0 z1 z2 z3 z4 z5 z6 z7
      exact bodyPost_ret (v := .tuple #[.agg #[.int .i64 r.nodes, .slice (some ⟨gx, 0, none⟩) r.X.length xc, .slice (some ⟨gy, 0, none⟩) r.Y.length yc, .slice (some ⟨gz, 0, none⟩) r.arcs.length zc], .agg #[.int .i64 4, .int .i64 i, .int .i64 0, .int .i64 9]]) (by simp [results, Tryd.results16, go_sem, z0, z1, z2, z3, z4, z5, z6, z7]) rfl ⟨_, 2, i, node, rfl, HE.out.2.2.1, HBad.out, HE.out.2.2.2⟩
    · have t0 : (what : Int).tmod 5 = 3 := by rw [Int.tmod_eq_emod_of_nonneg (by omega)]; exact hc
      have o3 := HI.out.blk.cell 3
      change wc.cell? ⟨Bo, 3, none⟩ = some (.slice (some ⟨gz, 0, none⟩) r.arcs.length zc) at o3
      have hI1 := HI.out.setA rfl i 1 hib (by omega) node (o := i * 3 + 1) rfl
      obtain ⟨⟨q1, e1⟩, ff1⟩ := HI.out.cellA rfl i 1 hib (by omega)
      have hbad : Bad r 3 i node := ⟨by omega, hib, by unfold goodU; simp; first | exact HFar.out.2.2 | (have := HFar.out.2.2; omega)⟩
      have hset : setK r 3 i node = { r with arcs := r.arcs.set i (setArc 1 node r.arcs[i]) } := by unfold setK; simp [List.getElem?_eq_getElem hib]
      rw [← hset] at hI1
      have HI1 := Lib.hid hI1; have HBad := Lib.hid hbad; have HSet := Lib.hid hset
      clear hI1 hbad hset
      go_upto_region 22 with fail
      clear o3 e1 ff1 c0 c3
      generalize wc.setCell ⟨gz, i * 3 + 1, none⟩ (.int .i64 node) = W at *
      have hbW := below_of (Below.refl _ _) HI1.out.kept HBl.out
      have k8 := HK8.out.below hbW HK8.out.lt; have k9 := HK9.out.below hbW HK9.out.lt
      have hnd : (setK r 3 i node).nodes = r.nodes := setK_nodes _ _ _ _
      have oo := HI1.out.blk
      rw [hnd] at oo
      have o0 := oo.cell 0; have o1 := oo.cell 1; have o2 := oo.cell 2; have o3 := oo.cell 3
      change W.cell? ⟨Bo, 0, none⟩ = some (.int .i64 r.nodes) at o0
      change W.cell? ⟨Bo, 1, none⟩ = some (.slice (some ⟨gx, 0, none⟩) r.X.length xc) at o1
      change W.cell? ⟨Bo, 2, none⟩ = some (.slice (some ⟨gy, 0, none⟩) r.Y.length yc) at o2
      change W.cell? ⟨Bo, 3, none⟩ = some (.slice (some ⟨gz, 0, none⟩) r.arcs.length zc) at o3
      have m80 := k8.cell 0; have f80 := k8.free 0 (Or.inr (Nat.zero_le _))
      change W.cell? ⟨B8, 0, none⟩ = some (.int .i64 0) at m80
      have m81 := k8.cell 1; have f81 := k8.free 1 (Or.inr (Nat.zero_le _))
      change W.cell? ⟨B8, 1, none⟩ = some (.slice none 0 0) at m81
      have m82 := k8.cell 2; have f82 := k8.free 2 (Or.inr (Nat.zero_le _))
      change W.cell? ⟨B8, 2, none⟩ = some (.slice none 0 0) at m82
      have m83 := k8.cell 3; have f83 := k8.free 3 (Or.inr (Nat.zero_le _))
      change W.cell? ⟨B8, 3, none⟩ = some (.slice none 0 0) at m83
      have m90 := k9.cell 0; have f90 := k9.free 0 (Or.inr (Nat.zero_le _))
      change W.cell? ⟨B9, 0, none⟩ = some (.int .i64 0) at m90
      have m91 := k9.cell 1; have f91 := k9.free 1 (Or.inr (Nat.zero_le _))
      change W.cell? ⟨B9, 1, none⟩ = some (.int .i64 0) at m91
      have m92 := k9.cell 2; have f92 := k9.free 2 (Or.inr (Nat.zero_le _))
      change W.cell? ⟨B9, 2, none⟩ = some (.int .i64 0) at m92
      have m93 := k9.cell 3; have f93 := k9.free 3 (Or.inr (Nat.zero_le _))
      change W.cell? ⟨B9, 3, none⟩ = some (.int .i64 0) at m93
      have hend := put_end (p := .int .i64 1) (q := .int .i64 9) r.nodes hnd.symm HB1.out HBl.out HI1.out k8 k9 HL8.out HL9.out (.int .i64 4) (.int .i64 i) rfl
      have HE := Lib.hid hend; have hne : B9 ≠ B8 := blk_apart k8 k9 (by decide)
      clear hend k8 k9 oo hbW hnd
      go_wp2_with fail
      generalize (((((((W.setCell ⟨B8, 0, none⟩ (.int .i64 r.nodes)).setCell ⟨B8, 1, none⟩ (.slice (some ⟨gx, 0, none⟩) r.X.length xc)).setCell ⟨B8, 2, none⟩ (.slice (some ⟨gy, 0, none⟩) r.Y.length yc)).setCell ⟨B8, 3, none⟩ (.slice (some ⟨gz, 0, none⟩) r.arcs.length zc)).setCell ⟨B9, 0, none⟩ (.int .i64 4)).setCell ⟨B9, 1, none⟩ (.int .i64 i)).setCell ⟨B9, 2, none⟩ (.int .i64 1)).setCell ⟨B9, 3, none⟩ (.int .i64 9) = wf at *
      have z0 := HE.out.1.cell 0; have z1 := HE.out.1.cell 1; have z2 := HE.out.1.cell 2; have z3 := HE.out.1.cell 3; have z4 := HE.out.2.1.cell 0; have z5 := HE.out.2.1.cell 1; have z6 := HE.out.2.1.cell 2; have z7 := HE.out.2.1.cell 3
      simp only [List.getElem?_toArray, List.getElem?_cons_succ, List.getElem?_cons_zero] at z0 z1 z2 z3 z4 z5 z6 z7
      exact bodyPost_ret (v := .tuple #[.agg #[.int .i64 r.nodes, .slice (some ⟨gx, 0, none⟩) r.X.length xc, .slice (some ⟨gy, 0, none⟩) r.Y.length yc, .slice (some ⟨gz, 0, none⟩) r.arcs.length zc], .agg #[.int .i64 4, .int .i64 i, .int .i64 1, .int .i64 9]]) (by simp [results, Tryd.results16, go_sem, z0, z1, z2, z3, z4, z5, z6, z7]) rfl ⟨_, 3, i, node, rfl, HE.out.2.2.1, HBad.out, HE.out.2.2.2⟩
    · have t0 : (what : Int).tmod 5 = 4 := by rw [Int.tmod_eq_emod_of_nonneg (by omega)]; exact hc
      have o3 := HI.out.blk.cell 3
      change wc.cell? ⟨Bo, 3, none⟩ = some (.slice (some ⟨gz, 0, none⟩) r.arcs.length zc) at o3
      have hI1 := HI.out.setA rfl i 2 hib (by omega) far (o := i * 3 + 2) rfl
      obtain ⟨⟨q1, e1⟩, ff1⟩ := HI.out.cellA rfl i 2 hib (by omega)
      have hbad : Bad r 4 i far := ⟨by omega, hib, by unfold goodU; simp; first | exact HFar.out.2.1 | (have := HFar.out.2.1; omega)⟩
      have hset : setK r 4 i far = { r with arcs := r.arcs.set i (setArc 2 far r.arcs[i]) } := by unfold setK; simp [List.getElem?_eq_getElem hib]
      rw [← hset] at hI1
      have HI1 := Lib.hid hI1; have HBad := Lib.hid hbad; have HSet := Lib.hid hset
      clear hI1 hbad hset
      go_upto_region 24 with fail
      clear o3 e1 ff1 c0 c3
      generalize wc.setCell ⟨gz, i * 3 + 2, none⟩ (.int .i64 far) = W at *
      have hbW := below_of (Below.refl _ _) HI1.out.kept HBl.out
      have k8 := HK8.out.below hbW HK8.out.lt; have k9 := HK9.out.below hbW HK9.out.lt
      have hnd : (setK r 4 i far).nodes = r.nodes := setK_nodes _ _ _ _
      have oo := HI1.out.blk
      rw [hnd] at oo
      have o0 := oo.cell 0; have o1 := oo.cell 1; have o2 := oo.cell 2; have o3 := oo.cell 3
      change W.cell? ⟨Bo, 0, none⟩ = some (.int .i64 r.nodes) at o0
      change W.cell? ⟨Bo, 1, none⟩ = some (.slice (some ⟨gx, 0, none⟩) r.X.length xc) at o1
      change W.cell? ⟨Bo, 2, none⟩ = some (.slice (some ⟨gy, 0, none⟩) r.Y.length yc) at o2
      change W.cell? ⟨Bo, 3, none⟩ = some (.slice (some ⟨gz, 0, none⟩) r.arcs.length zc) at o3
      have m80 := k8.cell 0; have f80 := k8.free 0 (Or.inr (Nat.zero_le _))
      change W.cell? ⟨B8, 0, none⟩ = some (.int .i64 0) at m80
      have m81 := k8.cell 1; have f81 := k8.free 1 (Or.inr (Nat.zero_le _))
      change W.cell? ⟨B8, 1, none⟩ = some (.slice none 0 0) at m81
      have m82 := k8.cell 2; have f82 := k8.free 2 (Or.inr (Nat.zero_le _))
      change W.cell? ⟨B8, 2, none⟩ = some (.slice none 0 0) at m82
      have m83 := k8.cell 3; have f83 := k8.free 3 (Or.inr (Nat.zero_le _))
      change W.cell? ⟨B8, 3, none⟩ = some (.slice none 0 0) at m83
      have m90 := k9.cell 0; have f90 := k9.free 0 (Or.inr (Nat.zero_le _))
      change W.cell? ⟨B9, 0, none⟩ = some (.int .i64 0) at m90
      have m91 := k9.cell 1; have f91 := k9.free 1 (Or.inr (Nat.zero_le _))
      change W.cell? ⟨B9, 1, none⟩ = some (.int .i64 0) at m91
      have m92 := k9.cell 2; have f92 := k9.free 2 (Or.inr (Nat.zero_le _))
      change W.cell? ⟨B9, 2, none⟩ = some (.int .i64 0) at m92
      have m93 := k9.cell 3; have f93 := k9.free 3 (Or.inr (Nat.zero_le _))
      change W.cell? ⟨B9, 3, none⟩ = some (.int .i64 0) at m93
      have hend := put_end (p := .int .i64 2) (q := .int .i64 10) r.nodes hnd.symm HB1.out HBl.out HI1.out k8 k9 HL8.out HL9.out (.int .i64 4) (.int .i64 i) rfl
      have HE := Lib.hid hend; have hne : B9 ≠ B8 := blk_apart k8 k9 (by decide)
      clear hend k8 k9 oo hbW hnd
      go_wp2_with fail
      generalize (((((((W.setCell ⟨B8, 0, none⟩ (.int .i64 r.nodes)).setCell ⟨B8, 1, none⟩ (.slice (some ⟨gx, 0, none⟩) r.X.length xc)).setCell ⟨B8, 2, none⟩ (.slice (some ⟨gy, 0, none⟩) r.Y.length yc)).setCell ⟨B8, 3, none⟩ (.slice (some ⟨gz, 0, none⟩) r.arcs.length zc)).setCell ⟨B9, 0, none⟩ (.int .i64 4)).setCell ⟨B9, 1, none⟩ (.int .i64 i)).setCell ⟨B9, 2, none⟩ (.int .i64 2)).setCell ⟨B9, 3, none⟩ (.int .i64 10) = wf at *
      have z0 := HE.out.1.cell 0; have z1 := HE.out.1.cell 1; have z2 := HE.out.1.cell 2; have z3 := HE.out.1.cell 3; have z4 := HE.out.2.1.cell 0; have z5 := HE.out.2.1.cell 1; have z6 := HE.out.2.1.cell 2; have z7 := HE.out.2.1.cell 3
      simp only [List.getElem?_toArray, List.getElem?_cons_succ, List.getElem?_cons_zero] at z0 z1 z2 z3 z4 z5 z6 z7
      exact bodyPost_ret (v := .tuple #[.agg #[.int .i64 r.nodes, .slice (some ⟨gx, 0, none⟩) r.X.length xc, .slice (some ⟨gy, 0, none⟩) r.Y.length yc, .slice (some ⟨gz, 0, none⟩) r.arcs.length zc], .agg #[.int .i64 4, .int .i64 i, .int .i64 2, .int .i64 10]]) (by simp [results, Tryd.results16, go_sem, z0, z1, z2, z3, z4, z5, z6, z7]) rfl ⟨_, 4, i, far, rfl, HE.out.2.2.1, HBad.out, HE.out.2.2.2⟩
end Go.Proofs.YtnkcmlngoeofgaaDoor
