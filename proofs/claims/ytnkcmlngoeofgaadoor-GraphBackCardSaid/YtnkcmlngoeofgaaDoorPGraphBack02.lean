/- Texts of the law GraphBack, merged: GrBack. -/
import Derived.Test.YtnkcmlngoeofgaaDoorPGraphFirst15
import Derived.Test.YtnkcmlngoeofgaaDoorPGraphFirst02
import Derived.Test.YtnkcmlngoeofgaaDoorPGraphBack00
import Derived.Test.YtnkcmlngoeofgaaDoorPGraphBack01
import Derived.Test.YtnkcmlngoeofgaaDoorPGraphFirst08
import Derived.Deep.Cut
import Derived.Deep.CutRange
import Derived.Deep.CutBlock
/- GraphBack, its walk. -/
namespace Go.Proofs.YtnkcmlngoeofgaaDoor
open Go.RowKit
theorem RawO.le {base base' : Nat} {w : World} {v : Value} {r : Raw} (h : RawO base' w v r) (hb : base ≤ base') : RawO base w v r := by
  obtain ⟨vx, vy, va, e, h1, h2, h3, h4⟩ := h
  exact ⟨vx, vy, va, e, ownsRow_le h1 hb, ownsRow_le h2 hb, ownsRow_le h3 hb, h4⟩
theorem rightV_lens (r : Raw) (n : Nat) : (rightV r n).X.length ≤ 60 ∧ (rightV r n).Y.length ≤ 60 ∧ (rightV r n).arcs.length ≤ 60 := by
  refine ⟨?_, ?_, ?_⟩
  · show ((List.range (1 + n % 12)).map _).length ≤ 60
    rw [List.length_map, List.length_range]; omega
  · show ((List.range (1 + n % 12)).map _).length ≤ 60
    rw [List.length_map, List.length_range]; omega
  · show ((r.arcs.take 40).map _).length ≤ 60
    rw [List.length_map, List.length_take]; omega
theorem RawO.kept {base : Nat} {w w' : World} {v : Value} {r : Raw} (h : RawO base w v r) {S : Nat → Prop} (hk : Kept S w w') (hS : ∀ k, base ≤ k → ¬ S k) : RawO base w' v r := by
  obtain ⟨vx, vy, va, e, h1, h2, h3, h4⟩ := h
  have g : ∀ {e : TypeId} {size : Nat} {x : Value} {n : Nat} {xs : List Value}, w.ownsRow base e size x n xs → w'.ownsRow base e size x n xs := fun hr => ownsRow_agree' hr fun k hb => hk.block k (ownsRow_blk' hr hb).2.choose_spec.lt (hS k (ownsRow_blk' hr hb).1)
  exact ⟨vx, vy, va, e, g h1, g h2, g h3, h4⟩
theorem bump_step {α : Type} (f : α → α) (L : List α) (k : Nat) (hk : k < L.length) : ((L.take k).map f ++ L.drop k).set k (f L[k]) = (L.take (k + 1)).map f ++ L.drop (k + 1) := by
  rw [List.set_append_right _ _ (by simp; omega), List.take_succ_eq_append_getElem hk, List.map_append, List.length_map, List.length_take, Nat.min_eq_left (Nat.le_of_lt hk), Nat.sub_self, List.drop_eq_getElem_cons hk, List.set_cons_zero]
  simp
theorem bump_at {α : Type} (f : α → α) (L : List α) (k : Nat) (hk : k < L.length) (h2 : k < ((L.take k).map f ++ L.drop k).length) : ((L.take k).map f ++ L.drop k)[k]'h2 = L[k] := by
  rw [List.getElem_append_right (by simp; omega)]
  simp [Nat.min_eq_left (Nat.le_of_lt hk)]
theorem bump_len {α : Type} (f : α → α) (L : List α) (k : Nat) : ((L.take k).map f ++ L.drop k).length = L.length := by
  rw [List.length_append, List.length_map, ← List.length_append, List.take_append_drop]
theorem ownDiff {w : World} {base : Nat} {e : TypeId} {size : Nat} {v : Value} {n : Nat} {xs : List Value} (h : w.ownsRow base e size v n xs) {B : Nat} {cs : Array Value} {t : TypeId} {fr : Nat × Nat} (hb : Blk w B cs t fr) (ht : e ≠ t) : v.ownBlock ≠ some B := fun e' => by
  obtain ⟨_, _, hg⟩ := ownsRow_blk' h e'
  exact blk_apart hg hb ht rfl
theorem check_ok (v : Value) (r : Raw) (w : World) (h : RawV w v r) (hk : r.ok) : Calls Tryd.prog 15 #[v] w fun e w' => e = .returned .nilIface ∧ Below w.heap.size w w' := by
  refine (check_raw v r w h).mono ?_
  rintro e w' ⟨u, rfl, hi, hb⟩
  rcases hi.form with ⟨rfl, _⟩ | ⟨_, h'⟩
  · exact ⟨rfl, hb⟩
  · exact (h' (r.wrong_zero.2 hk)).elim
theorem same_is (va vb : Value) (a c : Raw) (x : Bool) (w : World) (ha : RawV w va a) (hb : RawV w vb c) (hx : sameB a c = x) : Calls Tryd.prog 22 #[va, vb] w fun e w' => e = .returned (.bool x) ∧ Below w.heap.size w w' := by
  subst hx; exact same_any va vb a c w ha hb
theorem same_self (r : Raw) : sameB r r = true := (sameB_iff r r).2 rfl
theorem two_raw {W7 u z : World} {B9 B10 : Nat} {t m : Raw} {tx ty ta mx my ma y0 y1 y2 y3 x0 x1 x2 x3 : Value} (n k : Int) (hn : n = t.nodes) (hk : k = m.nodes) (hu : Below W7.heap.size W7 u) (k9 : Blk u B9 #[y0, y1, y2, y3] 25 (0, 0)) (k10 : Blk u B10 #[x0, x1, x2, x3] 25 (0, 0)) (h9 : W7.heap.size ≤ B9) (h10 : W7.heap.size ≤ B10) (hne : B9 ≠ B10) (ht : Own3 W7.heap.size u tx ty ta t) (hm : Own3 W7.heap.size u mx my ma m)
    (hz : z = (((((((u.setCell ⟨B9, 0, none⟩ (.int .i64 n)).setCell ⟨B9, 1, none⟩ tx).setCell ⟨B9, 2, none⟩ ty).setCell ⟨B9, 3, none⟩ ta).setCell ⟨B10, 0, none⟩ (.int .i64 k)).setCell ⟨B10, 1, none⟩ mx).setCell ⟨B10, 2, none⟩ my).setCell ⟨B10, 3, none⟩ ma) :
    Blk z B9 #[.int .i64 n, tx, ty, ta] 25 (0, 0) ∧ Blk z B10 #[.int .i64 k, mx, my, ma] 25 (0, 0) ∧ Own3 W7.heap.size z tx ty ta t ∧ Own3 W7.heap.size z mx my ma m ∧ Below W7.heap.size W7 z := by
  subst hn hk hz
  obtain ⟨a9, aT, aB⟩ := store4 (w0 := W7) ht k9 h9 hu
  have aM := (((hm.set (p := ⟨B9, 0, none⟩) k9 (by decide) (by decide) (.int .i64 t.nodes)).set (p := ⟨B9, 1, none⟩) (k9.set 0 (.int .i64 t.nodes)) (by decide) (by decide) tx).set (p := ⟨B9, 2, none⟩) ((k9.set 0 (.int .i64 t.nodes)).set 1 tx) (by decide) (by decide) ty).set (p := ⟨B9, 3, none⟩) (((k9.set 0 (.int .i64 t.nodes)).set 1 tx).set 2 ty) (by decide) (by decide) ta
  have b10 := (((k10.setOther ⟨B9, 0, none⟩ (.int .i64 t.nodes) hne.symm).setOther ⟨B9, 1, none⟩ tx hne.symm).setOther ⟨B9, 2, none⟩ ty hne.symm).setOther ⟨B9, 3, none⟩ ta hne.symm
  obtain ⟨c10, cM, cB⟩ := store4 (w0 := W7) aM b10 h10 aB
  have cT := (((aT.set (p := ⟨B10, 0, none⟩) b10 (by decide) (by decide) (.int .i64 m.nodes)).set (p := ⟨B10, 1, none⟩) (b10.set 0 (.int .i64 m.nodes)) (by decide) (by decide) mx).set (p := ⟨B10, 2, none⟩) ((b10.set 0 (.int .i64 m.nodes)).set 1 mx) (by decide) (by decide) my).set (p := ⟨B10, 3, none⟩) (((b10.set 0 (.int .i64 m.nodes)).set 1 mx).set 2 my) (by decide) (by decide) ma
  exact ⟨(((a9.setOther ⟨B10, 0, none⟩ (.int .i64 m.nodes) hne).setOther ⟨B10, 1, none⟩ mx hne).setOther ⟨B10, 2, none⟩ my hne).setOther ⟨B10, 3, none⟩ ma hne, c10, cT, cM, cB⟩
set_option maxRecDepth 100000 in
set_option maxHeartbeats 32000000 in
theorem graphBack_any (v : Value) (r0 : Raw) (nn : Nat) (b : Int) (w : World) (h : RawV w v r0) (hn : nn < 256) (hg : HG w) : Calls Tryd.prog 5 #[v, .int .u8 (nn : Nat), .int .i64 b] w fun e w' => e = .returned (.bool true) ∧ Below w.heap.size w w' := by
  have HR0 := Lib.hid h
  obtain ⟨rx, ry, rz, rfl, fx, fy, fz⟩ := id h
  obtain ⟨xa, xc, rfl, _⟩ := id fx
  obtain ⟨ya, yc, rfl, _⟩ := id fy
  obtain ⟨za, zc, rfl, _⟩ := id fz
  obtain ⟨B3, hB3⟩ : ∃ b, b = w.heap.size := ⟨_, rfl⟩
  obtain ⟨w1, hw1⟩ : ∃ u, u = w.alloc (.cells #[.int .i64 r0.nodes, .slice xa r0.X.length xc, .slice ya r0.Y.length yc, .slice za r0.arcs.length zc] 25) := ⟨_, rfl⟩
  have hb1 : Below w.heap.size w w1 := by rw [hw1]; exact (Below.refl _ _).alloc (Nat.le_refl _) _
  have K3 : Blk w1 B3 #[.int .i64 r0.nodes, .slice xa r0.X.length xc, .slice ya r0.Y.length yc, .slice za r0.arcs.length zc] 25 (0, 0) := by rw [hw1, hB3]; exact Blk.new _ _ _ _
  have HB1 := Lib.hid hb1; have HK3 := Lib.hid K3; have HW1 := Lib.hid hw1; have HG0 := Lib.hid hg; have HE3 := Lib.hid hB3; have HL3 := Lib.hid (show w.heap.size ≤ B3 by omega)
  clear h hb1 K3 hw1 hg hB3 fx fy fz
  go_enter Tryd.func5, Tryd.ntmps5
  go_wp2_with fail
  rw [← HW1.out, ← HE3.out]
  clear HW1 HE3
  refine (works_any w1 (HG0.out.later HB1.out)).mono ?_
  rintro e w2 ⟨rfl, hb2⟩
  have c0 := (HK3.out.below hb2 HK3.out.lt).cell 0; have c1 := (HK3.out.below hb2 HK3.out.lt).cell 1; have c2 := (HK3.out.below hb2 HK3.out.lt).cell 2; have c3 := (HK3.out.below hb2 HK3.out.lt).cell 3
  change w2.cell? ⟨B3, 0, none⟩ = some (.int .i64 r0.nodes) at c0
  change w2.cell? ⟨B3, 1, none⟩ = some (.slice xa r0.X.length xc) at c1
  change w2.cell? ⟨B3, 2, none⟩ = some (.slice ya r0.Y.length yc) at c2
  change w2.cell? ⟨B3, 3, none⟩ = some (.slice za r0.arcs.length zc) at c3
  have HB2 := Lib.hid (HB1.out.next' hb2); have HK3' := Lib.hid (HK3.out.below hb2 HK3.out.lt)
  clear hb2 HB1 HK3
  go_wp2_with fail
  clear c0 c1 c2 c3
  refine (few_anyW _ r0 w2 (HR0.out.below HB2.out)).mono ?_
  rintro e w3 ⟨v3, rfl, hr3, hb3⟩
  obtain ⟨q, hq⟩ : ∃ q, q = fewR r0 := ⟨_, rfl⟩
  have hql := fewR_few r0
  have hrq := hr3 w HR0.out
  rw [← hq] at hql hrq
  obtain ⟨qx, qy, qz, rfl, fx, fy, fz⟩ := id hrq
  obtain ⟨qxa, qxc, rfl, _⟩ := fx
  obtain ⟨qya, qyc, rfl, _⟩ := fy
  obtain ⟨qza, qzc, rfl, _⟩ := fz
  have k3 := HK3'.out.below hb3 HK3'.out.lt
  have kz := (((k3.set 0 (.int .i64 q.nodes)).set 1 (.slice qxa q.X.length qxc)).set 2 (.slice qya q.Y.length qyc)).set 3 (.slice qza q.arcs.length qzc)
  have hbz := ((((HB2.out.next' hb3).setCell (p := ⟨B3, 0, none⟩) HL3.out (.int .i64 q.nodes)).setCell (p := ⟨B3, 1, none⟩) HL3.out (.slice qxa q.X.length qxc)).setCell (p := ⟨B3, 2, none⟩) HL3.out (.slice qya q.Y.length qyc)).setCell (p := ⟨B3, 3, none⟩) HL3.out (.slice qza q.arcs.length qzc)
  have e0 := k3.cell 0; have e1 := k3.cell 1; have e2 := k3.cell 2; have e3 := k3.cell 3
  simp only [List.getElem?_toArray, List.getElem?_cons_succ, List.getElem?_cons_zero] at e0 e1 e2 e3
  have fr := fun i => k3.free i (Or.inr (Nat.zero_le _))
  have f0 := fr 0; have f1 := fr 1; have f2 := fr 2; have f3 := fr 3
  have HKz := Lib.hid kz; have HBz := Lib.hid hbz; have HRq := Lib.hid hrq; have HQl := Lib.hid hql
  clear hq hr3 hql hrq k3 kz hbz fr HB2 HK3' hb3 HR0
  go_upto_region 4 with fail
  clear e0 e1 e2 e3 f0 f1 f2 f3
  generalize (((w3.setCell ⟨B3, 0, none⟩ (.int .i64 q.nodes)).setCell ⟨B3, 1, none⟩ (.slice qxa q.X.length qxc)).setCell ⟨B3, 2, none⟩ (.slice qya q.Y.length qyc)).setCell ⟨B3, 3, none⟩ (.slice qza q.arcs.length qzc) = W4 at *
  have HS := Lib.hid (show ∀ u, Below W4.heap.size W4 u → (u.cell? ⟨B3, 0, none⟩ = some (.int .i64 q.nodes) ∧ u.cell? ⟨B3, 1, none⟩ = some (.slice qxa q.X.length qxc) ∧ u.cell? ⟨B3, 2, none⟩ = some (.slice qya q.Y.length qyc) ∧ u.cell? ⟨B3, 3, none⟩ = some (.slice qza q.arcs.length qzc)) from fun u hu => by
    have k := HKz.out.below hu HKz.out.lt
    exact ⟨k.cell 0, k.cell 1, k.cell 2, k.cell 3⟩)
  have HBel := Lib.hid (Below.refl W4.heap.size W4)
  refine wp_region_held (S := fun w' => w'.cell? ⟨B3, 0, none⟩ = some (.int .i64 q.nodes) ∧ w'.cell? ⟨B3, 1, none⟩ = some (.slice qxa q.X.length qxc) ∧ w'.cell? ⟨B3, 2, none⟩ = some (.slice qya q.Y.length qyc) ∧ w'.cell? ⟨B3, 3, none⟩ = some (.slice qza q.arcs.length qzc)) rfl ?_
  have hS0 := HS.out W4.drew (HBel.out.drew)
  change wpAnyH _ _ _ _ _ 6 _ _ W4.drew
  have HBe := Lib.hid (HBel.out.drew)
  refine heldA_take (i := 0) (v := .agg #[.int .i64 q.nodes, .slice qxa q.X.length qxc, .slice qya q.Y.length qyc, .slice qza q.arcs.length qzc]) rfl rfl (by kernel_rfl) (by kernel_rfl) (by kernel_rfl) (fun _ _ _ h => h) (by rfl) (fun w hS => by obtain ⟨hS1, hS2, hS3, hS4⟩ := hS; go_simp) hS0 ?_
  simp only [List.setIfInBounds_toArray, List.set_cons_zero, List.set_cons_succ]
  refine heldA_take (i := 1) (v := .agg #[.int .i64 q.nodes, .slice qxa q.X.length qxc, .slice qya q.Y.length qyc, .slice qza q.arcs.length qzc]) rfl rfl (by kernel_rfl) (by kernel_rfl) (by kernel_rfl) (fun _ _ _ h => h) (by rfl) (fun w hS => by obtain ⟨hS1, hS2, hS3, hS4⟩ := hS; go_simp) hS0 ?_
  simp only [List.setIfInBounds_toArray, List.set_cons_zero, List.set_cons_succ]
  refine heldA_take (i := 2) (v := .int .u8 (nn : Nat)) rfl rfl (by kernel_rfl) (by kernel_rfl) (by kernel_rfl) (fun _ _ _ h => h) (by rfl) (fun w hS => by obtain ⟨hS1, hS2, hS3, hS4⟩ := hS; go_simp) hS0 ?_
  simp only [List.setIfInBounds_toArray, List.set_cons_zero, List.set_cons_succ]
  refine heldA_take (i := 5) (v := .int .i64 0) rfl rfl (by kernel_rfl) (by kernel_rfl) (by kernel_rfl) (fun _ _ _ h => h) (by rfl) (fun w hS => by obtain ⟨hS1, hS2, hS3, hS4⟩ := hS; go_simp) hS0 ?_
  simp only [List.setIfInBounds_toArray, List.set_cons_zero, List.set_cons_succ]
  refine heldA_one (i := 3) (by kernel_rfl) ?_
  refine wpOp_calls (f := 13) rfl rfl (by rfl) (by go_simp) (right_any (.agg #[.int .i64 q.nodes, .slice qxa q.X.length qxc, .slice qya q.Y.length qyc, .slice qza q.arcs.length qzc]) q nn W4.drew (HRq.out.below (HBz.out.next' HBe.out)) hn) ?_ (by rintro _ _ ⟨_, h, _⟩; cases h) (by rintro _ ⟨_, h, _⟩; cases h)
  rintro v5 u5 ⟨_, ⟨rfl⟩, hr, hb⟩
  have HBn := Lib.hid (HBe.out.trans (hb.mono HBe.out.size))
  obtain ⟨g, hgv⟩ : ∃ g, g = rightV q nn := ⟨_, rfl⟩
  have hgok := rightV_ok q nn
  have hgl := rightV_lens q nn
  rw [← hgv] at hr hgok hgl
  have HRg := Lib.hid hr; have HOk := Lib.hid hgok; have HGl := Lib.hid hgl
  obtain ⟨gx, gy, gz, rfl, fx, fy, fz⟩ := hr
  obtain ⟨gxa, gxc, rfl, _⟩ := fx
  obtain ⟨gya, gyc, rfl, _⟩ := fy
  obtain ⟨gza, gzc, rfl, _⟩ := fz
  have HB5 := Lib.hid hb
  clear hgv hgok hgl
  replace HBe := HBn
  clear HBn hb hS0
  have hS0 := HS.out u5 HBe.out
  refine ⟨hS0, ?_⟩
  simp only [List.setIfInBounds_toArray, List.set_cons_zero, List.set_cons_succ]
  refine heldA_take (i := 4) (v := .agg #[.int .i64 q.nodes, .slice qxa q.X.length qxc, .slice qya q.Y.length qyc, .slice qza q.arcs.length qzc, .int .i64 g.nodes, .slice gxa g.X.length gxc, .slice gya g.Y.length gyc, .slice gza g.arcs.length gzc]) rfl rfl (by kernel_rfl) (by kernel_rfl) (by kernel_rfl) (fun _ _ _ h => h) (by rfl) (fun w hS => by obtain ⟨hS1, hS2, hS3, hS4⟩ := hS; go_simp) hS0 ?_
  simp only [List.setIfInBounds_toArray, List.set_cons_zero, List.set_cons_succ]
  refine wpAnyH_done (by kernel_rfl) ?_ _
  have HBw := Lib.hid (HBz.out.next' HBe.out)
  have HVq := Lib.hid (show ∀ u, Below u5.heap.size u5 u → RawV u (.agg #[.int .i64 q.nodes, .slice qxa q.X.length qxc, .slice qya q.Y.length qyc, .slice qza q.arcs.length qzc]) q from fun u hu => HRq.out.below (HBw.out.next' hu))
  have HVg := Lib.hid (show ∀ u, Below u5.heap.size u5 u → RawV u (.agg #[.int .i64 g.nodes, .slice gxa g.X.length gxc, .slice gya g.Y.length gyc, .slice gza g.arcs.length gzc]) g from fun u hu => HRg.out.below hu)
  clear hS0 HBel HBe HBz HKz HRq HRg HS HB5
  go_wp2_with fail
  go_loopw [25] (fun i wr => ∃ (k : Nat), k ≤ 2 ∧ i = .int .i64 k ∧ Hid (Below u5.heap.size u5 wr)) (fun i _ => 2 - (intOf i).toNat)
  case atStart => exact ⟨0, by omega, rfl, Lib.hid (Below.refl _ _)⟩
  obtain ⟨k, hk, rfl, hrel⟩ := hrel
  have HR := hrel
  clear hrel
  by_cases hk2 : k < 2
  case pos =>
    go_upto_region 6 with fail
    go_cut [8, 25] from 25 to 125 (fun s8 s25 wx => ∃ (B8 : Nat) (vx vy va : Value) (h : Raw), s8 = .pointer (some ⟨B8, 0, none⟩) ∧ s25 = .int .i64 k ∧ Hid (Below u5.heap.size u5 wx ∧ Blk wx B8 #[.int .i64 h.nodes, vx, vy, va] 25 (0, 0) ∧ RawV wx (.agg #[.int .i64 h.nodes, vx, vy, va]) h ∧ (h.X.length ≤ 60 ∧ h.Y.length ≤ 60 ∧ h.arcs.length ≤ 60)))
    case first =>
      have hc : k = 0 ∨ k = 1 := by omega
      rcases hc with rfl | rfl
      · have hidx : ∀ w, (Instr.index 52 (.agg #[.int .i64 q.nodes, .slice qxa q.X.length qxc, .slice qya q.Y.length qyc, .slice qza q.arcs.length qzc, .int .i64 g.nodes, .slice gxa g.X.length gxc, .slice gya g.Y.length gyc, .slice gza g.arcs.length gzc]) (.int .i64 0)).run Tryd.prog w = .ok (.agg #[.int .i64 q.nodes, .slice qxa q.X.length qxc, .slice qya q.Y.length qyc, .slice qza q.arcs.length qzc]) w := fun _ => by kernel_rfl
        go_wp2_with fail
        have hb : Below wr.heap.size wr (wr.alloc (.cells #[.int .i64 q.nodes, .slice qxa q.X.length qxc, .slice qya q.Y.length qyc, .slice qza q.arcs.length qzc] 25)) := (Below.refl _ _).alloc (Nat.le_refl _) _
        go_meet
        case rel => exact ⟨wr.heap.size, _, _, _, q, rfl, by rfl, Lib.hid ⟨HR.out.next' hb, Blk.new _ _ _ _, HVq.out _ (HR.out.next' hb), (by have := HQl.out; omega)⟩⟩
      · have hidx : ∀ w, (Instr.index 52 (.agg #[.int .i64 q.nodes, .slice qxa q.X.length qxc, .slice qya q.Y.length qyc, .slice qza q.arcs.length qzc, .int .i64 g.nodes, .slice gxa g.X.length gxc, .slice gya g.Y.length gyc, .slice gza g.arcs.length gzc]) (.int .i64 1)).run Tryd.prog w = .ok (.agg #[.int .i64 g.nodes, .slice gxa g.X.length gxc, .slice gya g.Y.length gyc, .slice gza g.arcs.length gzc]) w := fun _ => by kernel_rfl
        go_wp2_with fail
        have hb : Below wr.heap.size wr (wr.alloc (.cells #[.int .i64 g.nodes, .slice gxa g.X.length gxc, .slice gya g.Y.length gyc, .slice gza g.arcs.length gzc] 25)) := (Below.refl _ _).alloc (Nat.le_refl _) _
        go_meet
        case rel => exact ⟨wr.heap.size, _, _, _, g, rfl, by rfl, Lib.hid ⟨HR.out.next' hb, Blk.new _ _ _ _, HVg.out _ (HR.out.next' hb), (by have := HGl.out; omega)⟩⟩
    case rest =>
    clear HR
    obtain ⟨B8, vx, vy, va, h, rfl, rfl, hcut⟩ := hcut
    have HR := Lib.hid hcut.out.1; have HK8 := Lib.hid hcut.out.2.1; have HVh := Lib.hid hcut.out.2.2.1; have HLh := Lib.hid hcut.out.2.2.2
    have HFew := Lib.hid (show h.few from ⟨by have := hcut.out.2.2.2; omega, by have := hcut.out.2.2.2; omega, by have := hcut.out.2.2.2; omega⟩)
    clear hcut
    have HGc := Lib.hid (HG0.out.later (HBw.out.next' HR.out))
    have HSS := Lib.hid (show ∀ u, Below wc.heap.size wc u → (u.cell? ⟨B8, 0, none⟩ = some (.int .i64 h.nodes) ∧ u.cell? ⟨B8, 1, none⟩ = some (vx) ∧ u.cell? ⟨B8, 2, none⟩ = some (vy) ∧ u.cell? ⟨B8, 3, none⟩ = some (va)) from fun u hu => by
      have k := HK8.out.below hu HK8.out.lt
      exact ⟨k.cell 0, k.cell 1, k.cell 2, k.cell 3⟩)
    obtain ⟨c0, c1, c2, c3⟩ := HSS.out wc (Below.refl _ _)
    go_wp2_with fail
    refine wp_region_heldD (fun w' => w'.cell? ⟨B8, 0, none⟩ = some (.int .i64 h.nodes) ∧ w'.cell? ⟨B8, 1, none⟩ = some (vx) ∧ w'.cell? ⟨B8, 2, none⟩ = some (vy) ∧ w'.cell? ⟨B8, 3, none⟩ = some (va)) 8 rfl ?_
    change heldD _ _ _ _ _ _ _ 9 _ _ wc.drew
    obtain ⟨wk0, hu0⟩ : ∃ u, u = wc.drew := ⟨_, rfl⟩
    have HBu := Lib.hid (show Below wc.heap.size wc wk0 by rw [hu0]; exact (Below.refl _ _).drew)
    rw [← hu0]
    clear hu0
    refine heldD_take (i := 0) (v := .agg #[.int .i64 h.nodes, vx, vy, va]) rfl rfl rfl (by kernel_rfl) (by kernel_rfl) (by kernel_rfl) (by kernel_rfl) (by kernel_rfl) (by kernel_rfl) (fun _ _ _ h => h) (by rfl) (fun w hS => ⟨by rfl, by obtain ⟨hS1, hS2, hS3, hS4⟩ := hS; go_simp⟩) (HSS.out _ HBu.out) ?_
    simp only [List.setIfInBounds_toArray, List.set_cons_zero, List.set_cons_succ]
    refine heldD_take (i := 2) (v := .agg #[.int .i64 h.nodes, vx, vy, va]) rfl rfl rfl (by kernel_rfl) (by kernel_rfl) (by kernel_rfl) (by kernel_rfl) (by kernel_rfl) (by kernel_rfl) (fun _ _ _ h => h) (by rfl) (fun w hS => ⟨by rfl, by obtain ⟨hS1, hS2, hS3, hS4⟩ := hS; go_simp⟩) (HSS.out _ HBu.out) ?_
    simp only [List.setIfInBounds_toArray, List.set_cons_zero, List.set_cons_succ]
    refine heldD_takeF (i := 3) (v := .int .i64 b) rfl rfl rfl (by kernel_rfl) (by kernel_rfl) (by kernel_rfl) (by kernel_rfl) (fun _ _ _ h => h) (by rfl) (fun w => ⟨by rfl, by go_simp⟩) (fun _ => HSS.out _ HBu.out) ?_
    simp only [List.setIfInBounds_toArray, List.set_cons_zero, List.set_cons_succ]
    refine heldD_HT ?_
    intro H hH T hT
    have HH := Lib.hid hH; have HT := Lib.hid hT
    clear hH hT
    suffices st_1_4_5_6 : ∀ (u : World) (vt : Value) (vm : Value) (m : Raw) (B9 : Nat) (B10 : Nat), Hid (Below wc.heap.size wc u) → Hid (RawO wc.heap.size u vt h.turned) → Hid (RawO wc.heap.size u vm m ∧ (¬ h.ok → m = h) ∧ (h.ok → MovedTo b h m)) → Hid (Blk u B9 #[.int .i64 0, .slice none 0 0, .slice none 0 0, .slice none 0 0] 25 (0, 0) ∧ wc.heap.size ≤ B9) → Hid (Blk u B10 #[.int .i64 0, .slice none 0 0, .slice none 0 0, .slice none 0 0] 25 (0, 0) ∧ wc.heap.size ≤ B10) → Hid (B9 ≠ B10) → H 2 #[true, true, true, true, true, true, true, false, false] { tmps := ((((T.setIfInBounds 29 (vt)).setIfInBounds 32 (vm)).setIfInBounds 9 (.pointer (some ⟨B9, 0, none⟩))).setIfInBounds 10 (.pointer (some ⟨B10, 0, none⟩))), defers := [] } u from by
      have st_1_5_6 : ∀ (u : World) (vt : Value) (B9 : Nat) (B10 : Nat), Hid (Below wc.heap.size wc u) → Hid (RawO wc.heap.size u vt h.turned) → Hid (Blk u B9 #[.int .i64 0, .slice none 0 0, .slice none 0 0, .slice none 0 0] 25 (0, 0) ∧ wc.heap.size ≤ B9) → Hid (Blk u B10 #[.int .i64 0, .slice none 0 0, .slice none 0 0, .slice none 0 0] 25 (0, 0) ∧ wc.heap.size ≤ B10) → Hid (B9 ≠ B10) → H 3 #[true, true, true, true, false, true, true, false, false] { tmps := (((T.setIfInBounds 29 (vt)).setIfInBounds 9 (.pointer (some ⟨B9, 0, none⟩))).setIfInBounds 10 (.pointer (some ⟨B10, 0, none⟩))), defers := [] } u := by
        clear HBu
        intro u vt B9 B10 HBu HF1 HF5 HF6 HN5_6
        rw [HH.out, HT.out]
        simp only [List.setIfInBounds_toArray, List.set_cons_zero, List.set_cons_succ]
        refine heldD_one (i := 4) (by kernel_rfl) ?_
        refine wpOpIn_calls' (f := 26) (args := #[.agg #[.int .i64 h.nodes, vx, vy, va], .int .i64 b]) rfl rfl (by rfl) (by go_simp) (moved_any _ h b u (HVh.out.below HBu.out) HFew.out) ?_
        rintro e u2 ⟨vm, m, rfl, hr, hm1, hm2, hb⟩
        refine ⟨_, rfl, ?_⟩
        have hf : RawO wc.heap.size u2 vm m ∧ (¬ h.ok → m = h) ∧ (h.ok → MovedTo b h m) := ⟨hr.le HBu.out.size, hm1, hm2⟩
        have HBu0 := HBu
        have HBu : Hid (Below wc.heap.size wc u2) := Lib.hid (HBu0.out.trans (hb.mono HBu0.out.size))
        refine ⟨fun _ => HSS.out _ HBu.out, ?_⟩
        simp only [List.setIfInBounds_toArray, List.set_cons_zero, List.set_cons_succ]
        have q := st_1_4_5_6 _ vt vm m B9 B10 HBu (Lib.hid (HF1.out.below hb)) (Lib.hid hf) (Lib.hid (⟨HF5.out.1.below hb HF5.out.1.lt, HF5.out.2⟩)) (Lib.hid (⟨HF6.out.1.below hb HF6.out.1.lt, HF6.out.2⟩)) HN5_6
        rw [HH.out, HT.out] at q
        simp only [List.setIfInBounds_toArray, List.set_cons_zero, List.set_cons_succ] at q ⊢
        exact q
      have st_1_4_6 : ∀ (u : World) (vt : Value) (vm : Value) (m : Raw) (B10 : Nat), Hid (Below wc.heap.size wc u) → Hid (RawO wc.heap.size u vt h.turned) → Hid (RawO wc.heap.size u vm m ∧ (¬ h.ok → m = h) ∧ (h.ok → MovedTo b h m)) → Hid (Blk u B10 #[.int .i64 0, .slice none 0 0, .slice none 0 0, .slice none 0 0] 25 (0, 0) ∧ wc.heap.size ≤ B10) → H 3 #[true, true, true, true, true, false, true, false, false] { tmps := (((T.setIfInBounds 29 (vt)).setIfInBounds 32 (vm)).setIfInBounds 10 (.pointer (some ⟨B10, 0, none⟩))), defers := [] } u := by
        clear HBu
        intro u vt vm m B10 HBu HF1 HF4 HF6
        rw [HH.out, HT.out]
        simp only [List.setIfInBounds_toArray, List.set_cons_zero, List.set_cons_succ]
        refine heldD_one (i := 5) (by kernel_rfl) ?_
        have hb : Below u.heap.size u (u.alloc (.cells #[.int .i64 0, .slice none 0 0, .slice none 0 0, .slice none 0 0] 25)) := (Below.refl _ _).alloc (Nat.le_refl _) _
        have hf : Blk (u.alloc (.cells #[.int .i64 0, .slice none 0 0, .slice none 0 0, .slice none 0 0] 25)) u.heap.size #[.int .i64 0, .slice none 0 0, .slice none 0 0, .slice none 0 0] 25 (0, 0) ∧ wc.heap.size ≤ u.heap.size := ⟨Blk.new _ _ _ _, HBu.out.size⟩
        refine wpOpIn_value (v := .pointer (some ⟨u.heap.size, 0, none⟩)) (w' := u.alloc (.cells #[.int .i64 0, .slice none 0 0, .slice none 0 0, .slice none 0 0] 25)) rfl rfl rfl (by rfl) (by rfl) (by go_simp) ?_
        have HBu0 := HBu
        have HBu : Hid (Below wc.heap.size wc (u.alloc (.cells #[.int .i64 0, .slice none 0 0, .slice none 0 0, .slice none 0 0] 25))) := Lib.hid (HBu0.out.trans (hb.mono HBu0.out.size))
        refine ⟨fun _ => HSS.out _ HBu.out, ?_⟩
        simp only [List.setIfInBounds_toArray, List.set_cons_zero, List.set_cons_succ]
        have q := st_1_4_5_6 _ vt vm m u.heap.size B10 HBu (Lib.hid (HF1.out.below hb)) (Lib.hid (⟨HF4.out.1.below hb, HF4.out.2⟩)) (Lib.hid hf) (Lib.hid (⟨HF6.out.1.below hb HF6.out.1.lt, HF6.out.2⟩)) (Lib.hid (by have q := HF6.out.1.lt; omega))
        rw [HH.out, HT.out] at q
        simp only [List.setIfInBounds_toArray, List.set_cons_zero, List.set_cons_succ] at q ⊢
        exact q
      have st_1_4_5 : ∀ (u : World) (vt : Value) (vm : Value) (m : Raw) (B9 : Nat), Hid (Below wc.heap.size wc u) → Hid (RawO wc.heap.size u vt h.turned) → Hid (RawO wc.heap.size u vm m ∧ (¬ h.ok → m = h) ∧ (h.ok → MovedTo b h m)) → Hid (Blk u B9 #[.int .i64 0, .slice none 0 0, .slice none 0 0, .slice none 0 0] 25 (0, 0) ∧ wc.heap.size ≤ B9) → H 3 #[true, true, true, true, true, true, false, false, false] { tmps := (((T.setIfInBounds 29 (vt)).setIfInBounds 32 (vm)).setIfInBounds 9 (.pointer (some ⟨B9, 0, none⟩))), defers := [] } u := by
        clear HBu
        intro u vt vm m B9 HBu HF1 HF4 HF5
        rw [HH.out, HT.out]
        simp only [List.setIfInBounds_toArray, List.set_cons_zero, List.set_cons_succ]
        refine heldD_one (i := 6) (by kernel_rfl) ?_
        have hb : Below u.heap.size u (u.alloc (.cells #[.int .i64 0, .slice none 0 0, .slice none 0 0, .slice none 0 0] 25)) := (Below.refl _ _).alloc (Nat.le_refl _) _
        have hf : Blk (u.alloc (.cells #[.int .i64 0, .slice none 0 0, .slice none 0 0, .slice none 0 0] 25)) u.heap.size #[.int .i64 0, .slice none 0 0, .slice none 0 0, .slice none 0 0] 25 (0, 0) ∧ wc.heap.size ≤ u.heap.size := ⟨Blk.new _ _ _ _, HBu.out.size⟩
        refine wpOpIn_value (v := .pointer (some ⟨u.heap.size, 0, none⟩)) (w' := u.alloc (.cells #[.int .i64 0, .slice none 0 0, .slice none 0 0, .slice none 0 0] 25)) rfl rfl rfl (by rfl) (by rfl) (by go_simp) ?_
        have HBu0 := HBu
        have HBu : Hid (Below wc.heap.size wc (u.alloc (.cells #[.int .i64 0, .slice none 0 0, .slice none 0 0, .slice none 0 0] 25))) := Lib.hid (HBu0.out.trans (hb.mono HBu0.out.size))
        refine ⟨fun _ => HSS.out _ HBu.out, ?_⟩
        simp only [List.setIfInBounds_toArray, List.set_cons_zero, List.set_cons_succ]
        have q := st_1_4_5_6 _ vt vm m B9 u.heap.size HBu (Lib.hid (HF1.out.below hb)) (Lib.hid (⟨HF4.out.1.below hb, HF4.out.2⟩)) (Lib.hid (⟨HF5.out.1.below hb HF5.out.1.lt, HF5.out.2⟩)) (Lib.hid hf) (Lib.hid (by have q := HF5.out.1.lt; omega))
        rw [HH.out, HT.out] at q
        simp only [List.setIfInBounds_toArray, List.set_cons_zero, List.set_cons_succ] at q ⊢
        exact q
      have st_5_6 : ∀ (u : World) (B9 : Nat) (B10 : Nat), Hid (Below wc.heap.size wc u) → Hid (Blk u B9 #[.int .i64 0, .slice none 0 0, .slice none 0 0, .slice none 0 0] 25 (0, 0) ∧ wc.heap.size ≤ B9) → Hid (Blk u B10 #[.int .i64 0, .slice none 0 0, .slice none 0 0, .slice none 0 0] 25 (0, 0) ∧ wc.heap.size ≤ B10) → Hid (B9 ≠ B10) → H 4 #[true, false, true, true, false, true, true, false, false] { tmps := ((T.setIfInBounds 9 (.pointer (some ⟨B9, 0, none⟩))).setIfInBounds 10 (.pointer (some ⟨B10, 0, none⟩))), defers := [] } u := by
        clear HBu
        intro u B9 B10 HBu HF5 HF6 HN5_6
        rw [HH.out, HT.out]
        simp only [List.setIfInBounds_toArray, List.set_cons_zero, List.set_cons_succ]
        refine heldD_one (i := 1) (by kernel_rfl) ?_
        refine wpOpIn_calls' (f := 24) (args := #[.agg #[.int .i64 h.nodes, vx, vy, va]]) rfl rfl (by rfl) (by go_simp) (turned_any _ h u (HVh.out.below HBu.out) HFew.out) ?_
        rintro e u2 ⟨vt, rfl, hr, hb⟩
        refine ⟨_, rfl, ?_⟩
        have hf : RawO wc.heap.size u2 vt h.turned := hr.le HBu.out.size
        have HBu0 := HBu
        have HBu : Hid (Below wc.heap.size wc u2) := Lib.hid (HBu0.out.trans (hb.mono HBu0.out.size))
        refine ⟨fun _ => HSS.out _ HBu.out, ?_⟩
        simp only [List.setIfInBounds_toArray, List.set_cons_zero, List.set_cons_succ]
        have q := st_1_5_6 _ vt B9 B10 HBu (Lib.hid hf) (Lib.hid (⟨HF5.out.1.below hb HF5.out.1.lt, HF5.out.2⟩)) (Lib.hid (⟨HF6.out.1.below hb HF6.out.1.lt, HF6.out.2⟩)) HN5_6
        rw [HH.out, HT.out] at q
        simp only [List.setIfInBounds_toArray, List.set_cons_zero, List.set_cons_succ] at q ⊢
        exact q
      have st_1_6 : ∀ (u : World) (vt : Value) (B10 : Nat), Hid (Below wc.heap.size wc u) → Hid (RawO wc.heap.size u vt h.turned) → Hid (Blk u B10 #[.int .i64 0, .slice none 0 0, .slice none 0 0, .slice none 0 0] 25 (0, 0) ∧ wc.heap.size ≤ B10) → H 4 #[true, true, true, true, false, false, true, false, false] { tmps := ((T.setIfInBounds 29 (vt)).setIfInBounds 10 (.pointer (some ⟨B10, 0, none⟩))), defers := [] } u := by
        clear HBu
        intro u vt B10 HBu HF1 HF6
        rw [HH.out, HT.out]
        simp only [List.setIfInBounds_toArray, List.set_cons_zero, List.set_cons_succ]
        refine heldD_two (i := 4) (k := 5) (by kernel_rfl) ?_ ?_
        · refine wpOpIn_calls' (f := 26) (args := #[.agg #[.int .i64 h.nodes, vx, vy, va], .int .i64 b]) rfl rfl (by rfl) (by go_simp) (moved_any _ h b u (HVh.out.below HBu.out) HFew.out) ?_
          rintro e u2 ⟨vm, m, rfl, hr, hm1, hm2, hb⟩
          refine ⟨_, rfl, ?_⟩
          have hf : RawO wc.heap.size u2 vm m ∧ (¬ h.ok → m = h) ∧ (h.ok → MovedTo b h m) := ⟨hr.le HBu.out.size, hm1, hm2⟩
          have HBu0 := HBu
          have HBu : Hid (Below wc.heap.size wc u2) := Lib.hid (HBu0.out.trans (hb.mono HBu0.out.size))
          refine ⟨fun _ => HSS.out _ HBu.out, ?_⟩
          simp only [List.setIfInBounds_toArray, List.set_cons_zero, List.set_cons_succ]
          have q := st_1_4_6 _ vt vm m B10 HBu (Lib.hid (HF1.out.below hb)) (Lib.hid hf) (Lib.hid (⟨HF6.out.1.below hb HF6.out.1.lt, HF6.out.2⟩))
          rw [HH.out, HT.out] at q
          simp only [List.setIfInBounds_toArray, List.set_cons_zero, List.set_cons_succ] at q ⊢
          exact q
        · have hb : Below u.heap.size u (u.alloc (.cells #[.int .i64 0, .slice none 0 0, .slice none 0 0, .slice none 0 0] 25)) := (Below.refl _ _).alloc (Nat.le_refl _) _
          have hf : Blk (u.alloc (.cells #[.int .i64 0, .slice none 0 0, .slice none 0 0, .slice none 0 0] 25)) u.heap.size #[.int .i64 0, .slice none 0 0, .slice none 0 0, .slice none 0 0] 25 (0, 0) ∧ wc.heap.size ≤ u.heap.size := ⟨Blk.new _ _ _ _, HBu.out.size⟩
          refine wpOpIn_value (v := .pointer (some ⟨u.heap.size, 0, none⟩)) (w' := u.alloc (.cells #[.int .i64 0, .slice none 0 0, .slice none 0 0, .slice none 0 0] 25)) rfl rfl rfl (by rfl) (by rfl) (by go_simp) ?_
          have HBu0 := HBu
          have HBu : Hid (Below wc.heap.size wc (u.alloc (.cells #[.int .i64 0, .slice none 0 0, .slice none 0 0, .slice none 0 0] 25))) := Lib.hid (HBu0.out.trans (hb.mono HBu0.out.size))
          refine ⟨fun _ => HSS.out _ HBu.out, ?_⟩
          simp only [List.setIfInBounds_toArray, List.set_cons_zero, List.set_cons_succ]
          have q := st_1_5_6 _ vt u.heap.size B10 HBu (Lib.hid (HF1.out.below hb)) (Lib.hid hf) (Lib.hid (⟨HF6.out.1.below hb HF6.out.1.lt, HF6.out.2⟩)) (Lib.hid (by have q := HF6.out.1.lt; omega))
          rw [HH.out, HT.out] at q
          simp only [List.setIfInBounds_toArray, List.set_cons_zero, List.set_cons_succ] at q ⊢
          exact q
      have st_1_5 : ∀ (u : World) (vt : Value) (B9 : Nat), Hid (Below wc.heap.size wc u) → Hid (RawO wc.heap.size u vt h.turned) → Hid (Blk u B9 #[.int .i64 0, .slice none 0 0, .slice none 0 0, .slice none 0 0] 25 (0, 0) ∧ wc.heap.size ≤ B9) → H 4 #[true, true, true, true, false, true, false, false, false] { tmps := ((T.setIfInBounds 29 (vt)).setIfInBounds 9 (.pointer (some ⟨B9, 0, none⟩))), defers := [] } u := by
        clear HBu
        intro u vt B9 HBu HF1 HF5
        rw [HH.out, HT.out]
        simp only [List.setIfInBounds_toArray, List.set_cons_zero, List.set_cons_succ]
        refine heldD_two (i := 4) (k := 6) (by kernel_rfl) ?_ ?_
        · refine wpOpIn_calls' (f := 26) (args := #[.agg #[.int .i64 h.nodes, vx, vy, va], .int .i64 b]) rfl rfl (by rfl) (by go_simp) (moved_any _ h b u (HVh.out.below HBu.out) HFew.out) ?_
          rintro e u2 ⟨vm, m, rfl, hr, hm1, hm2, hb⟩
          refine ⟨_, rfl, ?_⟩
          have hf : RawO wc.heap.size u2 vm m ∧ (¬ h.ok → m = h) ∧ (h.ok → MovedTo b h m) := ⟨hr.le HBu.out.size, hm1, hm2⟩
          have HBu0 := HBu
          have HBu : Hid (Below wc.heap.size wc u2) := Lib.hid (HBu0.out.trans (hb.mono HBu0.out.size))
          refine ⟨fun _ => HSS.out _ HBu.out, ?_⟩
          simp only [List.setIfInBounds_toArray, List.set_cons_zero, List.set_cons_succ]
          have q := st_1_4_5 _ vt vm m B9 HBu (Lib.hid (HF1.out.below hb)) (Lib.hid hf) (Lib.hid (⟨HF5.out.1.below hb HF5.out.1.lt, HF5.out.2⟩))
          rw [HH.out, HT.out] at q
          simp only [List.setIfInBounds_toArray, List.set_cons_zero, List.set_cons_succ] at q ⊢
          exact q
        · have hb : Below u.heap.size u (u.alloc (.cells #[.int .i64 0, .slice none 0 0, .slice none 0 0, .slice none 0 0] 25)) := (Below.refl _ _).alloc (Nat.le_refl _) _
          have hf : Blk (u.alloc (.cells #[.int .i64 0, .slice none 0 0, .slice none 0 0, .slice none 0 0] 25)) u.heap.size #[.int .i64 0, .slice none 0 0, .slice none 0 0, .slice none 0 0] 25 (0, 0) ∧ wc.heap.size ≤ u.heap.size := ⟨Blk.new _ _ _ _, HBu.out.size⟩
          refine wpOpIn_value (v := .pointer (some ⟨u.heap.size, 0, none⟩)) (w' := u.alloc (.cells #[.int .i64 0, .slice none 0 0, .slice none 0 0, .slice none 0 0] 25)) rfl rfl rfl (by rfl) (by rfl) (by go_simp) ?_
          have HBu0 := HBu
          have HBu : Hid (Below wc.heap.size wc (u.alloc (.cells #[.int .i64 0, .slice none 0 0, .slice none 0 0, .slice none 0 0] 25))) := Lib.hid (HBu0.out.trans (hb.mono HBu0.out.size))
          refine ⟨fun _ => HSS.out _ HBu.out, ?_⟩
          simp only [List.setIfInBounds_toArray, List.set_cons_zero, List.set_cons_succ]
          have q := st_1_5_6 _ vt B9 u.heap.size HBu (Lib.hid (HF1.out.below hb)) (Lib.hid (⟨HF5.out.1.below hb HF5.out.1.lt, HF5.out.2⟩)) (Lib.hid hf) (Lib.hid (by have q := HF5.out.1.lt; omega))
          rw [HH.out, HT.out] at q
          simp only [List.setIfInBounds_toArray, List.set_cons_zero, List.set_cons_succ] at q ⊢
          exact q
      have st_1_4 : ∀ (u : World) (vt : Value) (vm : Value) (m : Raw), Hid (Below wc.heap.size wc u) → Hid (RawO wc.heap.size u vt h.turned) → Hid (RawO wc.heap.size u vm m ∧ (¬ h.ok → m = h) ∧ (h.ok → MovedTo b h m)) → H 4 #[true, true, true, true, true, false, false, false, false] { tmps := ((T.setIfInBounds 29 (vt)).setIfInBounds 32 (vm)), defers := [] } u := by
        clear HBu
        intro u vt vm m HBu HF1 HF4
        rw [HH.out, HT.out]
        simp only [List.setIfInBounds_toArray, List.set_cons_zero, List.set_cons_succ]
        refine heldD_two (i := 5) (k := 6) (by kernel_rfl) ?_ ?_
        · have hb : Below u.heap.size u (u.alloc (.cells #[.int .i64 0, .slice none 0 0, .slice none 0 0, .slice none 0 0] 25)) := (Below.refl _ _).alloc (Nat.le_refl _) _
          have hf : Blk (u.alloc (.cells #[.int .i64 0, .slice none 0 0, .slice none 0 0, .slice none 0 0] 25)) u.heap.size #[.int .i64 0, .slice none 0 0, .slice none 0 0, .slice none 0 0] 25 (0, 0) ∧ wc.heap.size ≤ u.heap.size := ⟨Blk.new _ _ _ _, HBu.out.size⟩
          refine wpOpIn_value (v := .pointer (some ⟨u.heap.size, 0, none⟩)) (w' := u.alloc (.cells #[.int .i64 0, .slice none 0 0, .slice none 0 0, .slice none 0 0] 25)) rfl rfl rfl (by rfl) (by rfl) (by go_simp) ?_
          have HBu0 := HBu
          have HBu : Hid (Below wc.heap.size wc (u.alloc (.cells #[.int .i64 0, .slice none 0 0, .slice none 0 0, .slice none 0 0] 25))) := Lib.hid (HBu0.out.trans (hb.mono HBu0.out.size))
          refine ⟨fun _ => HSS.out _ HBu.out, ?_⟩
          simp only [List.setIfInBounds_toArray, List.set_cons_zero, List.set_cons_succ]
          have q := st_1_4_5 _ vt vm m u.heap.size HBu (Lib.hid (HF1.out.below hb)) (Lib.hid (⟨HF4.out.1.below hb, HF4.out.2⟩)) (Lib.hid hf)
          rw [HH.out, HT.out] at q
          simp only [List.setIfInBounds_toArray, List.set_cons_zero, List.set_cons_succ] at q ⊢
          exact q
        · have hb : Below u.heap.size u (u.alloc (.cells #[.int .i64 0, .slice none 0 0, .slice none 0 0, .slice none 0 0] 25)) := (Below.refl _ _).alloc (Nat.le_refl _) _
          have hf : Blk (u.alloc (.cells #[.int .i64 0, .slice none 0 0, .slice none 0 0, .slice none 0 0] 25)) u.heap.size #[.int .i64 0, .slice none 0 0, .slice none 0 0, .slice none 0 0] 25 (0, 0) ∧ wc.heap.size ≤ u.heap.size := ⟨Blk.new _ _ _ _, HBu.out.size⟩
          refine wpOpIn_value (v := .pointer (some ⟨u.heap.size, 0, none⟩)) (w' := u.alloc (.cells #[.int .i64 0, .slice none 0 0, .slice none 0 0, .slice none 0 0] 25)) rfl rfl rfl (by rfl) (by rfl) (by go_simp) ?_
          have HBu0 := HBu
          have HBu : Hid (Below wc.heap.size wc (u.alloc (.cells #[.int .i64 0, .slice none 0 0, .slice none 0 0, .slice none 0 0] 25))) := Lib.hid (HBu0.out.trans (hb.mono HBu0.out.size))
          refine ⟨fun _ => HSS.out _ HBu.out, ?_⟩
          simp only [List.setIfInBounds_toArray, List.set_cons_zero, List.set_cons_succ]
          have q := st_1_4_6 _ vt vm m u.heap.size HBu (Lib.hid (HF1.out.below hb)) (Lib.hid (⟨HF4.out.1.below hb, HF4.out.2⟩)) (Lib.hid hf)
          rw [HH.out, HT.out] at q
          simp only [List.setIfInBounds_toArray, List.set_cons_zero, List.set_cons_succ] at q ⊢
          exact q
      have st_6 : ∀ (u : World) (B10 : Nat), Hid (Below wc.heap.size wc u) → Hid (Blk u B10 #[.int .i64 0, .slice none 0 0, .slice none 0 0, .slice none 0 0] 25 (0, 0) ∧ wc.heap.size ≤ B10) → H 5 #[true, false, true, true, false, false, true, false, false] { tmps := (T.setIfInBounds 10 (.pointer (some ⟨B10, 0, none⟩))), defers := [] } u := by
        clear HBu
        intro u B10 HBu HF6
        rw [HH.out, HT.out]
        simp only [List.setIfInBounds_toArray, List.set_cons_zero, List.set_cons_succ]
        refine heldD_two (i := 1) (k := 5) (by kernel_rfl) ?_ ?_
        · refine wpOpIn_calls' (f := 24) (args := #[.agg #[.int .i64 h.nodes, vx, vy, va]]) rfl rfl (by rfl) (by go_simp) (turned_any _ h u (HVh.out.below HBu.out) HFew.out) ?_
          rintro e u2 ⟨vt, rfl, hr, hb⟩
          refine ⟨_, rfl, ?_⟩
          have hf : RawO wc.heap.size u2 vt h.turned := hr.le HBu.out.size
          have HBu0 := HBu
          have HBu : Hid (Below wc.heap.size wc u2) := Lib.hid (HBu0.out.trans (hb.mono HBu0.out.size))
          refine ⟨fun _ => HSS.out _ HBu.out, ?_⟩
          simp only [List.setIfInBounds_toArray, List.set_cons_zero, List.set_cons_succ]
          have q := st_1_6 _ vt B10 HBu (Lib.hid hf) (Lib.hid (⟨HF6.out.1.below hb HF6.out.1.lt, HF6.out.2⟩))
          rw [HH.out, HT.out] at q
          simp only [List.setIfInBounds_toArray, List.set_cons_zero, List.set_cons_succ] at q ⊢
          exact q
        · have hb : Below u.heap.size u (u.alloc (.cells #[.int .i64 0, .slice none 0 0, .slice none 0 0, .slice none 0 0] 25)) := (Below.refl _ _).alloc (Nat.le_refl _) _
          have hf : Blk (u.alloc (.cells #[.int .i64 0, .slice none 0 0, .slice none 0 0, .slice none 0 0] 25)) u.heap.size #[.int .i64 0, .slice none 0 0, .slice none 0 0, .slice none 0 0] 25 (0, 0) ∧ wc.heap.size ≤ u.heap.size := ⟨Blk.new _ _ _ _, HBu.out.size⟩
          refine wpOpIn_value (v := .pointer (some ⟨u.heap.size, 0, none⟩)) (w' := u.alloc (.cells #[.int .i64 0, .slice none 0 0, .slice none 0 0, .slice none 0 0] 25)) rfl rfl rfl (by rfl) (by rfl) (by go_simp) ?_
          have HBu0 := HBu
          have HBu : Hid (Below wc.heap.size wc (u.alloc (.cells #[.int .i64 0, .slice none 0 0, .slice none 0 0, .slice none 0 0] 25))) := Lib.hid (HBu0.out.trans (hb.mono HBu0.out.size))
          refine ⟨fun _ => HSS.out _ HBu.out, ?_⟩
          simp only [List.setIfInBounds_toArray, List.set_cons_zero, List.set_cons_succ]
          have q := st_5_6 _ u.heap.size B10 HBu (Lib.hid hf) (Lib.hid (⟨HF6.out.1.below hb HF6.out.1.lt, HF6.out.2⟩)) (Lib.hid (by have q := HF6.out.1.lt; omega))
          rw [HH.out, HT.out] at q
          simp only [List.setIfInBounds_toArray, List.set_cons_zero, List.set_cons_succ] at q ⊢
          exact q
      have st_5 : ∀ (u : World) (B9 : Nat), Hid (Below wc.heap.size wc u) → Hid (Blk u B9 #[.int .i64 0, .slice none 0 0, .slice none 0 0, .slice none 0 0] 25 (0, 0) ∧ wc.heap.size ≤ B9) → H 5 #[true, false, true, true, false, true, false, false, false] { tmps := (T.setIfInBounds 9 (.pointer (some ⟨B9, 0, none⟩))), defers := [] } u := by
        clear HBu
        intro u B9 HBu HF5
        rw [HH.out, HT.out]
        simp only [List.setIfInBounds_toArray, List.set_cons_zero, List.set_cons_succ]
        refine heldD_two (i := 1) (k := 6) (by kernel_rfl) ?_ ?_
        · refine wpOpIn_calls' (f := 24) (args := #[.agg #[.int .i64 h.nodes, vx, vy, va]]) rfl rfl (by rfl) (by go_simp) (turned_any _ h u (HVh.out.below HBu.out) HFew.out) ?_
          rintro e u2 ⟨vt, rfl, hr, hb⟩
          refine ⟨_, rfl, ?_⟩
          have hf : RawO wc.heap.size u2 vt h.turned := hr.le HBu.out.size
          have HBu0 := HBu
          have HBu : Hid (Below wc.heap.size wc u2) := Lib.hid (HBu0.out.trans (hb.mono HBu0.out.size))
          refine ⟨fun _ => HSS.out _ HBu.out, ?_⟩
          simp only [List.setIfInBounds_toArray, List.set_cons_zero, List.set_cons_succ]
          have q := st_1_5 _ vt B9 HBu (Lib.hid hf) (Lib.hid (⟨HF5.out.1.below hb HF5.out.1.lt, HF5.out.2⟩))
          rw [HH.out, HT.out] at q
          simp only [List.setIfInBounds_toArray, List.set_cons_zero, List.set_cons_succ] at q ⊢
          exact q
        · have hb : Below u.heap.size u (u.alloc (.cells #[.int .i64 0, .slice none 0 0, .slice none 0 0, .slice none 0 0] 25)) := (Below.refl _ _).alloc (Nat.le_refl _) _
          have hf : Blk (u.alloc (.cells #[.int .i64 0, .slice none 0 0, .slice none 0 0, .slice none 0 0] 25)) u.heap.size #[.int .i64 0, .slice none 0 0, .slice none 0 0, .slice none 0 0] 25 (0, 0) ∧ wc.heap.size ≤ u.heap.size := ⟨Blk.new _ _ _ _, HBu.out.size⟩
          refine wpOpIn_value (v := .pointer (some ⟨u.heap.size, 0, none⟩)) (w' := u.alloc (.cells #[.int .i64 0, .slice none 0 0, .slice none 0 0, .slice none 0 0] 25)) rfl rfl rfl (by rfl) (by rfl) (by go_simp) ?_
          have HBu0 := HBu
          have HBu : Hid (Below wc.heap.size wc (u.alloc (.cells #[.int .i64 0, .slice none 0 0, .slice none 0 0, .slice none 0 0] 25))) := Lib.hid (HBu0.out.trans (hb.mono HBu0.out.size))
          refine ⟨fun _ => HSS.out _ HBu.out, ?_⟩
          simp only [List.setIfInBounds_toArray, List.set_cons_zero, List.set_cons_succ]
          have q := st_5_6 _ B9 u.heap.size HBu (Lib.hid (⟨HF5.out.1.below hb HF5.out.1.lt, HF5.out.2⟩)) (Lib.hid hf) (Lib.hid (by have q := HF5.out.1.lt; omega))
          rw [HH.out, HT.out] at q
          simp only [List.setIfInBounds_toArray, List.set_cons_zero, List.set_cons_succ] at q ⊢
          exact q
      have st_1 : ∀ (u : World) (vt : Value), Hid (Below wc.heap.size wc u) → Hid (RawO wc.heap.size u vt h.turned) → H 5 #[true, true, true, true, false, false, false, false, false] { tmps := (T.setIfInBounds 29 (vt)), defers := [] } u := by
        clear HBu
        intro u vt HBu HF1
        rw [HH.out, HT.out]
        simp only [List.setIfInBounds_toArray, List.set_cons_zero, List.set_cons_succ]
        refine heldD_three (i := 4) (k := 5) (m := 6) (by kernel_rfl) ?_ ?_ ?_
        · refine wpOpIn_calls' (f := 26) (args := #[.agg #[.int .i64 h.nodes, vx, vy, va], .int .i64 b]) rfl rfl (by rfl) (by go_simp) (moved_any _ h b u (HVh.out.below HBu.out) HFew.out) ?_
          rintro e u2 ⟨vm, m, rfl, hr, hm1, hm2, hb⟩
          refine ⟨_, rfl, ?_⟩
          have hf : RawO wc.heap.size u2 vm m ∧ (¬ h.ok → m = h) ∧ (h.ok → MovedTo b h m) := ⟨hr.le HBu.out.size, hm1, hm2⟩
          have HBu0 := HBu
          have HBu : Hid (Below wc.heap.size wc u2) := Lib.hid (HBu0.out.trans (hb.mono HBu0.out.size))
          refine ⟨fun _ => HSS.out _ HBu.out, ?_⟩
          simp only [List.setIfInBounds_toArray, List.set_cons_zero, List.set_cons_succ]
          have q := st_1_4 _ vt vm m HBu (Lib.hid (HF1.out.below hb)) (Lib.hid hf)
          rw [HH.out, HT.out] at q
          simp only [List.setIfInBounds_toArray, List.set_cons_zero, List.set_cons_succ] at q ⊢
          exact q
        · have hb : Below u.heap.size u (u.alloc (.cells #[.int .i64 0, .slice none 0 0, .slice none 0 0, .slice none 0 0] 25)) := (Below.refl _ _).alloc (Nat.le_refl _) _
          have hf : Blk (u.alloc (.cells #[.int .i64 0, .slice none 0 0, .slice none 0 0, .slice none 0 0] 25)) u.heap.size #[.int .i64 0, .slice none 0 0, .slice none 0 0, .slice none 0 0] 25 (0, 0) ∧ wc.heap.size ≤ u.heap.size := ⟨Blk.new _ _ _ _, HBu.out.size⟩
          refine wpOpIn_value (v := .pointer (some ⟨u.heap.size, 0, none⟩)) (w' := u.alloc (.cells #[.int .i64 0, .slice none 0 0, .slice none 0 0, .slice none 0 0] 25)) rfl rfl rfl (by rfl) (by rfl) (by go_simp) ?_
          have HBu0 := HBu
          have HBu : Hid (Below wc.heap.size wc (u.alloc (.cells #[.int .i64 0, .slice none 0 0, .slice none 0 0, .slice none 0 0] 25))) := Lib.hid (HBu0.out.trans (hb.mono HBu0.out.size))
          refine ⟨fun _ => HSS.out _ HBu.out, ?_⟩
          simp only [List.setIfInBounds_toArray, List.set_cons_zero, List.set_cons_succ]
          have q := st_1_5 _ vt u.heap.size HBu (Lib.hid (HF1.out.below hb)) (Lib.hid hf)
          rw [HH.out, HT.out] at q
          simp only [List.setIfInBounds_toArray, List.set_cons_zero, List.set_cons_succ] at q ⊢
          exact q
        · have hb : Below u.heap.size u (u.alloc (.cells #[.int .i64 0, .slice none 0 0, .slice none 0 0, .slice none 0 0] 25)) := (Below.refl _ _).alloc (Nat.le_refl _) _
          have hf : Blk (u.alloc (.cells #[.int .i64 0, .slice none 0 0, .slice none 0 0, .slice none 0 0] 25)) u.heap.size #[.int .i64 0, .slice none 0 0, .slice none 0 0, .slice none 0 0] 25 (0, 0) ∧ wc.heap.size ≤ u.heap.size := ⟨Blk.new _ _ _ _, HBu.out.size⟩
          refine wpOpIn_value (v := .pointer (some ⟨u.heap.size, 0, none⟩)) (w' := u.alloc (.cells #[.int .i64 0, .slice none 0 0, .slice none 0 0, .slice none 0 0] 25)) rfl rfl rfl (by rfl) (by rfl) (by go_simp) ?_
          have HBu0 := HBu
          have HBu : Hid (Below wc.heap.size wc (u.alloc (.cells #[.int .i64 0, .slice none 0 0, .slice none 0 0, .slice none 0 0] 25))) := Lib.hid (HBu0.out.trans (hb.mono HBu0.out.size))
          refine ⟨fun _ => HSS.out _ HBu.out, ?_⟩
          simp only [List.setIfInBounds_toArray, List.set_cons_zero, List.set_cons_succ]
          have q := st_1_6 _ vt u.heap.size HBu (Lib.hid (HF1.out.below hb)) (Lib.hid hf)
          rw [HH.out, HT.out] at q
          simp only [List.setIfInBounds_toArray, List.set_cons_zero, List.set_cons_succ] at q ⊢
          exact q
      have st_ : ∀ (u : World), Hid (Below wc.heap.size wc u) → H 6 #[true, false, true, true, false, false, false, false, false] { tmps := T, defers := [] } u := by
        clear HBu
        intro u HBu
        rw [HH.out, HT.out]
        refine heldD_three (i := 1) (k := 5) (m := 6) (by kernel_rfl) ?_ ?_ ?_
        · refine wpOpIn_calls' (f := 24) (args := #[.agg #[.int .i64 h.nodes, vx, vy, va]]) rfl rfl (by rfl) (by go_simp) (turned_any _ h u (HVh.out.below HBu.out) HFew.out) ?_
          rintro e u2 ⟨vt, rfl, hr, hb⟩
          refine ⟨_, rfl, ?_⟩
          have hf : RawO wc.heap.size u2 vt h.turned := hr.le HBu.out.size
          have HBu0 := HBu
          have HBu : Hid (Below wc.heap.size wc u2) := Lib.hid (HBu0.out.trans (hb.mono HBu0.out.size))
          refine ⟨fun _ => HSS.out _ HBu.out, ?_⟩
          simp only [List.setIfInBounds_toArray, List.set_cons_zero, List.set_cons_succ]
          have q := st_1 _ vt HBu (Lib.hid hf)
          rw [HH.out, HT.out] at q
          simp only [List.setIfInBounds_toArray, List.set_cons_zero, List.set_cons_succ] at q ⊢
          exact q
        · have hb : Below u.heap.size u (u.alloc (.cells #[.int .i64 0, .slice none 0 0, .slice none 0 0, .slice none 0 0] 25)) := (Below.refl _ _).alloc (Nat.le_refl _) _
          have hf : Blk (u.alloc (.cells #[.int .i64 0, .slice none 0 0, .slice none 0 0, .slice none 0 0] 25)) u.heap.size #[.int .i64 0, .slice none 0 0, .slice none 0 0, .slice none 0 0] 25 (0, 0) ∧ wc.heap.size ≤ u.heap.size := ⟨Blk.new _ _ _ _, HBu.out.size⟩
          refine wpOpIn_value (v := .pointer (some ⟨u.heap.size, 0, none⟩)) (w' := u.alloc (.cells #[.int .i64 0, .slice none 0 0, .slice none 0 0, .slice none 0 0] 25)) rfl rfl rfl (by rfl) (by rfl) (by go_simp) ?_
          have HBu0 := HBu
          have HBu : Hid (Below wc.heap.size wc (u.alloc (.cells #[.int .i64 0, .slice none 0 0, .slice none 0 0, .slice none 0 0] 25))) := Lib.hid (HBu0.out.trans (hb.mono HBu0.out.size))
          refine ⟨fun _ => HSS.out _ HBu.out, ?_⟩
          simp only [List.setIfInBounds_toArray, List.set_cons_zero, List.set_cons_succ]
          have q := st_5 _ u.heap.size HBu (Lib.hid hf)
          rw [HH.out, HT.out] at q
          simp only [List.setIfInBounds_toArray, List.set_cons_zero, List.set_cons_succ] at q ⊢
          exact q
        · have hb : Below u.heap.size u (u.alloc (.cells #[.int .i64 0, .slice none 0 0, .slice none 0 0, .slice none 0 0] 25)) := (Below.refl _ _).alloc (Nat.le_refl _) _
          have hf : Blk (u.alloc (.cells #[.int .i64 0, .slice none 0 0, .slice none 0 0, .slice none 0 0] 25)) u.heap.size #[.int .i64 0, .slice none 0 0, .slice none 0 0, .slice none 0 0] 25 (0, 0) ∧ wc.heap.size ≤ u.heap.size := ⟨Blk.new _ _ _ _, HBu.out.size⟩
          refine wpOpIn_value (v := .pointer (some ⟨u.heap.size, 0, none⟩)) (w' := u.alloc (.cells #[.int .i64 0, .slice none 0 0, .slice none 0 0, .slice none 0 0] 25)) rfl rfl rfl (by rfl) (by rfl) (by go_simp) ?_
          have HBu0 := HBu
          have HBu : Hid (Below wc.heap.size wc (u.alloc (.cells #[.int .i64 0, .slice none 0 0, .slice none 0 0, .slice none 0 0] 25))) := Lib.hid (HBu0.out.trans (hb.mono HBu0.out.size))
          refine ⟨fun _ => HSS.out _ HBu.out, ?_⟩
          simp only [List.setIfInBounds_toArray, List.set_cons_zero, List.set_cons_succ]
          have q := st_6 _ u.heap.size HBu (Lib.hid hf)
          rw [HH.out, HT.out] at q
          simp only [List.setIfInBounds_toArray, List.set_cons_zero, List.set_cons_succ] at q ⊢
          exact q
      exact st_ wk0 HBu
    clear HBu
    intro u vt vm m B9 B10 HBu HF1 HF4 HF5 HF6 HN5_6
    rw [HH.out, HT.out]
    simp only [List.setIfInBounds_toArray, List.set_cons_zero, List.set_cons_succ]
    clear HH HT
    obtain ⟨_, _, _, rfl, hOT⟩ := HF1.out
    obtain ⟨⟨_, _, _, rfl, hOM⟩, hmA, hmB⟩ := HF4.out
    have hOT : Own3 _ _ _ _ _ _ := hOT
    have hOM : Own3 _ _ _ _ _ _ := hOM
    obtain ⟨txa, txc, rfl, fx⟩ := ownForm hOT.1
    obtain ⟨tya, tyc, rfl, _⟩ := ownForm hOT.2.1
    obtain ⟨tza, tzc, rfl, fz⟩ := ownForm hOT.2.2.1
    obtain ⟨mxa, mxc, rfl, _⟩ := ownForm hOM.1
    obtain ⟨mya, myc, rfl, _⟩ := ownForm hOM.2.1
    obtain ⟨mza, mzc, rfl, _⟩ := ownForm hOM.2.2.1
    have HTx := Lib.hid fx; have HTz := Lib.hid fz; have HMA := Lib.hid (And.intro hmA hmB)
    have hend := two_raw (n := h.turned.nodes) (k := m.nodes) rfl rfl HBu.out HF5.out.1 HF6.out.1 HF5.out.2 HF6.out.2 HN5_6.out hOT hOM rfl
    have e0 := HF5.out.1.cell 0; have e1 := HF5.out.1.cell 1; have e2 := HF5.out.1.cell 2; have e3 := HF5.out.1.cell 3
    have j0 := HF6.out.1.cell 0; have j1 := HF6.out.1.cell 1; have j2 := HF6.out.1.cell 2; have j3 := HF6.out.1.cell 3
    simp only [List.getElem?_toArray, List.getElem?_cons_succ, List.getElem?_cons_zero] at e0 e1 e2 e3 j0 j1 j2 j3
    have fr := fun i => HF5.out.1.free i (Or.inr (Nat.zero_le _))
    have f0 := fr 0; have f1 := fr 1; have f2 := fr 2; have f3 := fr 3
    have gr := fun i => HF6.out.1.free i (Or.inr (Nat.zero_le _))
    have i0 := gr 0; have i1 := gr 1; have i2 := gr 2; have i3 := gr 3
    have hne := HN5_6.out
    have hne2 : B10 ≠ B9 := fun e => hne e.symm
    have HEnd := Lib.hid hend
    clear hend fr gr fx fz hmA hmB hOT hOM
    refine heldD_one (i := 7) (by kernel_rfl) ?_
    refine wpOpIn_skip (w' := (((u.setCell ⟨B9, 0, none⟩ (.int .i64 h.turned.nodes)).setCell ⟨B9, 1, none⟩ (.slice txa h.turned.X.length txc)).setCell ⟨B9, 2, none⟩ (.slice tya h.turned.Y.length tyc)).setCell ⟨B9, 3, none⟩ (.slice tza h.turned.arcs.length tzc)) rfl rfl rfl (by rfl) (by rfl) (by go_simp) ?_
    refine ⟨fun _ => HSS.out _ ((((HBu.out.setCell (p := ⟨B9, 0, none⟩) HF5.out.2 _).setCell (p := ⟨B9, 1, none⟩) HF5.out.2 _).setCell (p := ⟨B9, 2, none⟩) HF5.out.2 _).setCell (p := ⟨B9, 3, none⟩) HF5.out.2 _), ?_⟩
    refine heldD_one (i := 8) (by kernel_rfl) ?_
    refine wpOpIn_skip (w' := (((((((u.setCell ⟨B9, 0, none⟩ (.int .i64 h.turned.nodes)).setCell ⟨B9, 1, none⟩ (.slice txa h.turned.X.length txc)).setCell ⟨B9, 2, none⟩ (.slice tya h.turned.Y.length tyc)).setCell ⟨B9, 3, none⟩ (.slice tza h.turned.arcs.length tzc)).setCell ⟨B10, 0, none⟩ (.int .i64 m.nodes)).setCell ⟨B10, 1, none⟩ (.slice mxa m.X.length mxc)).setCell ⟨B10, 2, none⟩ (.slice mya m.Y.length myc)).setCell ⟨B10, 3, none⟩ (.slice mza m.arcs.length mzc)) rfl rfl rfl (by rfl) (by rfl) (by go_simp) ?_
    refine ⟨fun h => (by cases h), ?_⟩
    refine heldD_done (by kernel_rfl) ?_ _
    clear c0 c1 c2 c3 e0 e1 e2 e3 f0 f1 f2 f3 j0 j1 j2 j3 i0 i1 i2 i3 hne hne2 HF1 HF4
    generalize (((((((u.setCell ⟨B9, 0, none⟩ (.int .i64 h.turned.nodes)).setCell ⟨B9, 1, none⟩ (.slice txa h.turned.X.length txc)).setCell ⟨B9, 2, none⟩ (.slice tya h.turned.Y.length tyc)).setCell ⟨B9, 3, none⟩ (.slice tza h.turned.arcs.length tzc)).setCell ⟨B10, 0, none⟩ (.int .i64 m.nodes)).setCell ⟨B10, 1, none⟩ (.slice mxa m.X.length mxc)).setCell ⟨B10, 2, none⟩ (.slice mya m.Y.length myc)).setCell ⟨B10, 3, none⟩ (.slice mza m.arcs.length mzc) = W8 at *
    obtain ⟨mx, hmx⟩ : ∃ mx, (if (1 : Int) < h.nodes then h.nodes else 1) = mx := ⟨_, rfl⟩
    have hmx1 : 1 ≤ mx := by rw [← hmx]; split <;> omega
    have hmx0 : ¬ mx = 0 := by omega
    have hmxb : (mx == 0) = false := by simpa using hmx0
    obtain ⟨rm, hrm⟩ : ∃ rm, b.tmod mx = rm := ⟨_, rfl⟩
    have c0 := ((HK8.out.below HEnd.out.2.2.2.2 HK8.out.lt)).cell 0
    change W8.cell? ⟨B8, 0, none⟩ = some (.int .i64 h.nodes) at c0
    clear hmx1
    obtain ⟨bk, hbk⟩ : ∃ bk, wrap64 (-rm) = bk := ⟨_, rfl⟩
    have HTv := Lib.hid (show ∀ u, Below W8.heap.size W8 u → RawV u (.agg #[.int .i64 h.turned.nodes, .slice txa h.turned.X.length txc, .slice tya h.turned.Y.length tyc, .slice tza h.turned.arcs.length tzc]) h.turned from fun u hu => RawV.below (RawO.raw (⟨_, _, _, rfl, HEnd.out.2.2.1⟩ : RawO wc.heap.size W8 _ _)) hu)
    have HMv := Lib.hid (show ∀ u, Below W8.heap.size W8 u → RawV u (.agg #[.int .i64 m.nodes, .slice mxa m.X.length mxc, .slice mya m.Y.length myc, .slice mza m.arcs.length mzc]) m from fun u hu => RawV.below (RawO.raw (⟨_, _, _, rfl, HEnd.out.2.2.2.1⟩ : RawO wc.heap.size W8 _ _)) hu)
    have HHv := Lib.hid (show ∀ u, Below W8.heap.size W8 u → RawV u (.agg #[.int .i64 h.nodes, vx, vy, va]) h from fun u hu => HVh.out.below (HEnd.out.2.2.2.2.next' hu))
    have HG8 := Lib.hid (HGc.out.later HEnd.out.2.2.2.2)
    have HFt := Lib.hid (show h.turned.few from ⟨HFew.out.1, HFew.out.2.1, by show (h.arcs.map turnA).length ≤ _; rw [List.length_map]; exact HFew.out.2.2⟩)
    have HFm := Lib.hid (show m.few from by
      by_cases hk : h.ok
      · obtain hm := HMA.out.2 hk
        exact ⟨by rw [hm.lenX]; exact HFew.out.1, by rw [hm.lenY]; exact HFew.out.2.1, by rw [hm.arcs, List.length_map]; exact HFew.out.2.2⟩
      · rw [HMA.out.1 hk]; exact HFew.out)
    have HBack := Lib.hid (show ∀ q, (¬ m.ok → q = m) → (m.ok → MovedTo bk m q) → q = h from by
      intro q h1 h2
      by_cases hk : h.ok
      · have hm := HMA.out.2 hk
        have hok := (Raw.ok_iff h).1 hk
        have hn := hok.nodes
        have hbk' : bk = -(b.tmod h.nodes) := by
          have e : mx = h.nodes := by rw [← hmx]; split <;> omega
          have := tmod_bounds b h.nodes hn.1
          rw [← hbk, ← hrm, e]
          unfold wrap64
          omega
        have hq := h2 ((Raw.ok_iff m).2 (moved_ok hok hm))
        rw [hbk'] at hq
        exact moved_back hok hm hq
      · have e := HMA.out.1 hk
        rw [e] at h1
        exact h1 hk)
    have HS8 := Lib.hid (show ∀ u, Below W8.heap.size W8 u → (u.cell? ⟨B8, 0, none⟩ = some (.int .i64 h.nodes) ∧ u.cell? ⟨B8, 1, none⟩ = some (vx) ∧ u.cell? ⟨B8, 2, none⟩ = some (vy) ∧ u.cell? ⟨B8, 3, none⟩ = some (va) ∧ u.cell? ⟨B9, 0, none⟩ = some (.int .i64 h.turned.nodes) ∧ u.cell? ⟨B9, 1, none⟩ = some (.slice txa h.turned.X.length txc) ∧ u.cell? ⟨B9, 2, none⟩ = some (.slice tya h.turned.Y.length tyc) ∧ u.cell? ⟨B9, 3, none⟩ = some (.slice tza h.turned.arcs.length tzc) ∧ u.cell? ⟨B10, 0, none⟩ = some (.int .i64 m.nodes) ∧ u.cell? ⟨B10, 1, none⟩ = some (.slice mxa m.X.length mxc) ∧ u.cell? ⟨B10, 2, none⟩ = some (.slice mya m.Y.length myc) ∧ u.cell? ⟨B10, 3, none⟩ = some (.slice mza m.arcs.length mzc)) from fun u hu => by
      have k8 := HK8.out.below (HEnd.out.2.2.2.2.next' hu) HK8.out.lt; have k9 := HEnd.out.1.below hu HEnd.out.1.lt; have k10 := HEnd.out.2.1.below hu HEnd.out.2.1.lt
      exact ⟨k8.cell 0, k8.cell 1, k8.cell 2, k8.cell 3, k9.cell 0, k9.cell 1, k9.cell 2, k9.cell 3, k10.cell 0, k10.cell 1, k10.cell 2, k10.cell 3⟩)
    by_cases hok : h.ok
    case pos =>
      have hC := check_raw _ h W8 (HHv.out W8 (Below.refl _ _))
      have HHok := Lib.hid hok
      obtain ⟨_, c1, c2, c3, _⟩ := HS8.out W8 (Below.refl _ _)
      clear hok
      go_upto_region 9 with fail
      go_wp2_with fail
      clear c0 c1 c2 c3
      refine hC.mono ?_
      rintro e w9 ⟨u9, rfl, hi, hb9⟩
      clear hC
      have hz : h.wrong.1 = 0 := h.wrong_zero.2 HHok.out
      rcases hi.form with ⟨rfl, _⟩ | ⟨_, h'⟩
      case inr => exact (h' hz).elim
      clear hi hz
      have HB9 := Lib.hid hb9
      have HS := Lib.hid (show ∀ u, Below w9.heap.size w9 u → (u.cell? ⟨B8, 0, none⟩ = some (.int .i64 h.nodes) ∧ u.cell? ⟨B8, 1, none⟩ = some (vx) ∧ u.cell? ⟨B8, 2, none⟩ = some (vy) ∧ u.cell? ⟨B8, 3, none⟩ = some (va) ∧ u.cell? ⟨B9, 0, none⟩ = some (.int .i64 h.turned.nodes) ∧ u.cell? ⟨B9, 1, none⟩ = some (.slice txa h.turned.X.length txc) ∧ u.cell? ⟨B9, 2, none⟩ = some (.slice tya h.turned.Y.length tyc) ∧ u.cell? ⟨B9, 3, none⟩ = some (.slice tza h.turned.arcs.length tzc) ∧ u.cell? ⟨B10, 0, none⟩ = some (.int .i64 m.nodes) ∧ u.cell? ⟨B10, 1, none⟩ = some (.slice mxa m.X.length mxc) ∧ u.cell? ⟨B10, 2, none⟩ = some (.slice mya m.Y.length myc) ∧ u.cell? ⟨B10, 3, none⟩ = some (.slice mza m.arcs.length mzc)) from fun u hu => HS8.out u (HB9.out.next' hu))
      have HBel := Lib.hid (Below.refl w9.heap.size w9)
      clear hb9
      go_wp2_with fail
      refine wp_region_held (S := fun w' => w'.cell? ⟨B8, 0, none⟩ = some (.int .i64 h.nodes) ∧ w'.cell? ⟨B8, 1, none⟩ = some (vx) ∧ w'.cell? ⟨B8, 2, none⟩ = some (vy) ∧ w'.cell? ⟨B8, 3, none⟩ = some (va) ∧ w'.cell? ⟨B9, 0, none⟩ = some (.int .i64 h.turned.nodes) ∧ w'.cell? ⟨B9, 1, none⟩ = some (.slice txa h.turned.X.length txc) ∧ w'.cell? ⟨B9, 2, none⟩ = some (.slice tya h.turned.Y.length tyc) ∧ w'.cell? ⟨B9, 3, none⟩ = some (.slice tza h.turned.arcs.length tzc) ∧ w'.cell? ⟨B10, 0, none⟩ = some (.int .i64 m.nodes) ∧ w'.cell? ⟨B10, 1, none⟩ = some (.slice mxa m.X.length mxc) ∧ w'.cell? ⟨B10, 2, none⟩ = some (.slice mya m.Y.length myc) ∧ w'.cell? ⟨B10, 3, none⟩ = some (.slice mza m.arcs.length mzc)) rfl ?_
      have hS0 := HS.out w9.drew (HBel.out.drew)
      change wpAnyH _ _ _ _ _ 32 _ _ w9.drew
      have HBe := Lib.hid (HBel.out.drew)
      refine heldA_take (i := 0) (v := .agg #[.int .i64 h.turned.nodes, .slice txa h.turned.X.length txc, .slice tya h.turned.Y.length tyc, .slice tza h.turned.arcs.length tzc]) rfl rfl (by kernel_rfl) (by kernel_rfl) (by kernel_rfl) (fun _ _ _ h => h) (by rfl) (fun w hS => by obtain ⟨hS1, hS2, hS3, hS4, hS5, hS6, hS7, hS8, hS9, hS10, hS11, hS12⟩ := hS; go_simp) hS0 ?_
      simp only [List.setIfInBounds_toArray, List.set_cons_zero, List.set_cons_succ]
      refine heldA_take (i := 2) (v := .agg #[.int .i64 h.nodes, vx, vy, va]) rfl rfl (by kernel_rfl) (by kernel_rfl) (by kernel_rfl) (fun _ _ _ h => h) (by rfl) (fun w hS => by obtain ⟨hS1, hS2, hS3, hS4, hS5, hS6, hS7, hS8, hS9, hS10, hS11, hS12⟩ := hS; go_simp) hS0 ?_
      simp only [List.setIfInBounds_toArray, List.set_cons_zero, List.set_cons_succ]
      refine heldA_one (i := 1) (by kernel_rfl) ?_
      refine wpOp_calls (f := 24) rfl rfl (by rfl) (by go_simp) (turned_any (.agg #[.int .i64 h.turned.nodes, .slice txa h.turned.X.length txc, .slice tya h.turned.Y.length tyc, .slice tza h.turned.arcs.length tzc]) h.turned w9.drew (HTv.out _ (HB9.out.next' HBe.out)) HFt.out) ?_ (by rintro _ _ ⟨_, h, _⟩; cases h) (by rintro _ ⟨_, h, _⟩; cases h)
      rintro v43 u43 ⟨_, ⟨rfl⟩, hr, hb⟩
      have HBn := Lib.hid (HBe.out.trans (hb.mono HBe.out.size))
      rw [Raw.turned_twice] at hr
      have HR43 := Lib.hid hr.raw
      clear hr
      replace HBe := HBn
      clear HBn hb hS0
      have hS0 := HS.out u43 HBe.out
      refine ⟨hS0, ?_⟩
      simp only [List.setIfInBounds_toArray, List.set_cons_zero, List.set_cons_succ]
      refine heldA_one (i := 3) (by kernel_rfl) ?_
      refine wpOp_calls (f := 22) rfl rfl (by rfl) (by go_simp) (same_is v43 (.agg #[.int .i64 h.nodes, vx, vy, va]) h h true u43 HR43.out (HHv.out _ (HB9.out.next' HBe.out)) (same_self h)) ?_ (by rintro _ _ ⟨h, _⟩; cases h) (by rintro _ ⟨h, _⟩; cases h)
      rintro _ u45 ⟨⟨rfl⟩, hb⟩
      have HBn := Lib.hid (HBe.out.trans (hb.mono HBe.out.size))
      replace HBe := HBn
      clear HBn hb hS0
      have hS0 := HS.out u45 HBe.out
      refine ⟨hS0, ?_⟩
      simp only [List.setIfInBounds_toArray, List.set_cons_zero, List.set_cons_succ]
      refine heldA_take (i := 4) (v := .bool false) rfl rfl (by kernel_rfl) (by kernel_rfl) (by kernel_rfl) (fun _ _ _ h => h) (by rfl) (fun w hS => by obtain ⟨hS1, hS2, hS3, hS4, hS5, hS6, hS7, hS8, hS9, hS10, hS11, hS12⟩ := hS; go_simp) hS0 ?_
      simp only [List.setIfInBounds_toArray, List.set_cons_zero, List.set_cons_succ]
      refine heldA_take (i := 5) (v := .bool false) rfl rfl (by kernel_rfl) (by kernel_rfl) (by kernel_rfl) (fun _ _ _ h => h) (by rfl) (fun w hS => by obtain ⟨hS1, hS2, hS3, hS4, hS5, hS6, hS7, hS8, hS9, hS10, hS11, hS12⟩ := hS; go_simp) hS0 ?_
      simp only [List.setIfInBounds_toArray, List.set_cons_zero, List.set_cons_succ]
      refine heldA_take (i := 6) (v := .agg #[.int .i64 m.nodes, .slice mxa m.X.length mxc, .slice mya m.Y.length myc, .slice mza m.arcs.length mzc]) rfl rfl (by kernel_rfl) (by kernel_rfl) (by kernel_rfl) (fun _ _ _ h => h) (by rfl) (fun w hS => by obtain ⟨hS1, hS2, hS3, hS4, hS5, hS6, hS7, hS8, hS9, hS10, hS11, hS12⟩ := hS; go_simp) hS0 ?_
      simp only [List.setIfInBounds_toArray, List.set_cons_zero, List.set_cons_succ]
      refine heldA_take (i := 7) (v := .int .i64 bk) rfl rfl (by kernel_rfl) (by kernel_rfl) (by kernel_rfl) (fun _ _ _ h => h) (by rfl) (fun w hS => by obtain ⟨hS1, hS2, hS3, hS4, hS5, hS6, hS7, hS8, hS9, hS10, hS11, hS12⟩ := hS; go_simp) hS0 ?_
      simp only [List.setIfInBounds_toArray, List.set_cons_zero, List.set_cons_succ]
      refine heldA_take (i := 9) (v := .agg #[.int .i64 h.nodes, vx, vy, va]) rfl rfl (by kernel_rfl) (by kernel_rfl) (by kernel_rfl) (fun _ _ _ h => h) (by rfl) (fun w hS => by obtain ⟨hS1, hS2, hS3, hS4, hS5, hS6, hS7, hS8, hS9, hS10, hS11, hS12⟩ := hS; go_simp) hS0 ?_
      simp only [List.setIfInBounds_toArray, List.set_cons_zero, List.set_cons_succ]
      refine heldA_one (i := 8) (by kernel_rfl) ?_
      refine wpOp_calls (f := 26) rfl rfl (by rfl) (by go_simp) (moved_any (.agg #[.int .i64 m.nodes, .slice mxa m.X.length mxc, .slice mya m.Y.length myc, .slice mza m.arcs.length mzc]) m bk u45 (HMv.out _ (HB9.out.next' HBe.out)) HFm.out) ?_ (by rintro _ _ ⟨_, _, h, _⟩; cases h) (by rintro _ ⟨_, _, h, _⟩; cases h)
      rintro v50 u50 ⟨_, q50, ⟨rfl⟩, hr, hm1, hm2, hb⟩
      have HBn := Lib.hid (HBe.out.trans (hb.mono HBe.out.size))
      rw [HBack.out q50 hm1 hm2] at hr
      have HR50 := Lib.hid hr.raw
      clear hr hm1 hm2
      replace HBe := HBn
      clear HBn hb hS0
      have hS0 := HS.out u50 HBe.out
      refine ⟨hS0, ?_⟩
      simp only [List.setIfInBounds_toArray, List.set_cons_zero, List.set_cons_succ]
      refine heldA_one (i := 10) (by kernel_rfl) ?_
      refine wpOp_calls (f := 22) rfl rfl (by rfl) (by go_simp) (same_is v50 (.agg #[.int .i64 h.nodes, vx, vy, va]) h h true u50 HR50.out (HHv.out _ (HB9.out.next' HBe.out)) (same_self h)) ?_ (by rintro _ _ ⟨h, _⟩; cases h) (by rintro _ ⟨h, _⟩; cases h)
      rintro _ u52 ⟨⟨rfl⟩, hb⟩
      have HBn := Lib.hid (HBe.out.trans (hb.mono HBe.out.size))
      replace HBe := HBn
      clear HBn hb hS0
      have hS0 := HS.out u52 HBe.out
      refine ⟨hS0, ?_⟩
      simp only [List.setIfInBounds_toArray, List.set_cons_zero, List.set_cons_succ]
      refine heldA_take (i := 11) (v := .bool false) rfl rfl (by kernel_rfl) (by kernel_rfl) (by kernel_rfl) (fun _ _ _ h => h) (by rfl) (fun w hS => by obtain ⟨hS1, hS2, hS3, hS4, hS5, hS6, hS7, hS8, hS9, hS10, hS11, hS12⟩ := hS; go_simp) hS0 ?_
      simp only [List.setIfInBounds_toArray, List.set_cons_zero, List.set_cons_succ]
      refine heldA_take (i := 12) (v := .bool false) rfl rfl (by kernel_rfl) (by kernel_rfl) (by kernel_rfl) (fun _ _ _ h => h) (by rfl) (fun w hS => by obtain ⟨hS1, hS2, hS3, hS4, hS5, hS6, hS7, hS8, hS9, hS10, hS11, hS12⟩ := hS; go_simp) hS0 ?_
      simp only [List.setIfInBounds_toArray, List.set_cons_zero, List.set_cons_succ]
      refine heldA_take (i := 13) (v := .bool false) rfl rfl (by kernel_rfl) (by kernel_rfl) (by kernel_rfl) (fun _ _ _ h => h) (by rfl) (fun w hS => by obtain ⟨hS1, hS2, hS3, hS4, hS5, hS6, hS7, hS8, hS9, hS10, hS11, hS12⟩ := hS; go_simp) hS0 ?_
      simp only [List.setIfInBounds_toArray, List.set_cons_zero, List.set_cons_succ]
      refine heldA_take (i := 14) (v := .bool true) rfl rfl (by kernel_rfl) (by kernel_rfl) (by kernel_rfl) (fun _ _ _ h => h) (by rfl) (fun w hS => by obtain ⟨hS1, hS2, hS3, hS4, hS5, hS6, hS7, hS8, hS9, hS10, hS11, hS12⟩ := hS; go_simp) hS0 ?_
      simp only [List.setIfInBounds_toArray, List.set_cons_zero, List.set_cons_succ]
      refine heldA_take (i := 15) (v := .bool true) rfl rfl (by kernel_rfl) (by kernel_rfl) (by kernel_rfl) (fun _ _ _ h => h) (by rfl) (fun w hS => by obtain ⟨hS1, hS2, hS3, hS4, hS5, hS6, hS7, hS8, hS9, hS10, hS11, hS12⟩ := hS; go_simp) hS0 ?_
      simp only [List.setIfInBounds_toArray, List.set_cons_zero, List.set_cons_succ]
      refine heldA_take (i := 16) (v := .agg #[.int .i64 h.turned.nodes, .slice txa h.turned.X.length txc, .slice tya h.turned.Y.length tyc, .slice tza h.turned.arcs.length tzc]) rfl rfl (by kernel_rfl) (by kernel_rfl) (by kernel_rfl) (fun _ _ _ h => h) (by rfl) (fun w hS => by obtain ⟨hS1, hS2, hS3, hS4, hS5, hS6, hS7, hS8, hS9, hS10, hS11, hS12⟩ := hS; go_simp) hS0 ?_
      simp only [List.setIfInBounds_toArray, List.set_cons_zero, List.set_cons_succ]
      refine heldA_one (i := 17) (by kernel_rfl) ?_
      refine wpOp_calls (f := 15) rfl rfl (by rfl) (by go_simp) (check_ok (.agg #[.int .i64 h.turned.nodes, .slice txa h.turned.X.length txc, .slice tya h.turned.Y.length tyc, .slice tza h.turned.arcs.length tzc]) (h.turned) u52 (HTv.out _ (HB9.out.next' HBe.out)) ((Raw.ok_iff _).2 (Raw.turned_okB ((Raw.ok_iff _).1 HHok.out)))) ?_ (by rintro _ _ ⟨h, _⟩; cases h) (by rintro _ ⟨h, _⟩; cases h)
      rintro _ u59 ⟨⟨rfl⟩, hb⟩
      have HBn := Lib.hid (HBe.out.trans (hb.mono HBe.out.size))
      replace HBe := HBn
      clear HBn hb hS0
      have hS0 := HS.out u59 HBe.out
      refine ⟨hS0, ?_⟩
      simp only [List.setIfInBounds_toArray, List.set_cons_zero, List.set_cons_succ]
      refine heldA_take (i := 18) (v := .bool false) rfl rfl (by kernel_rfl) (by kernel_rfl) (by kernel_rfl) (fun _ _ _ h => h) (by rfl) (fun w hS => by obtain ⟨hS1, hS2, hS3, hS4, hS5, hS6, hS7, hS8, hS9, hS10, hS11, hS12⟩ := hS; go_simp) hS0 ?_
      simp only [List.setIfInBounds_toArray, List.set_cons_zero, List.set_cons_succ]
      refine heldA_take (i := 19) (v := .bool false) rfl rfl (by kernel_rfl) (by kernel_rfl) (by kernel_rfl) (fun _ _ _ h => h) (by rfl) (fun w hS => by obtain ⟨hS1, hS2, hS3, hS4, hS5, hS6, hS7, hS8, hS9, hS10, hS11, hS12⟩ := hS; go_simp) hS0 ?_
      simp only [List.setIfInBounds_toArray, List.set_cons_zero, List.set_cons_succ]
      refine heldA_take (i := 20) (v := .agg #[.int .i64 m.nodes, .slice mxa m.X.length mxc, .slice mya m.Y.length myc, .slice mza m.arcs.length mzc]) rfl rfl (by kernel_rfl) (by kernel_rfl) (by kernel_rfl) (fun _ _ _ h => h) (by rfl) (fun w hS => by obtain ⟨hS1, hS2, hS3, hS4, hS5, hS6, hS7, hS8, hS9, hS10, hS11, hS12⟩ := hS; go_simp) hS0 ?_
      simp only [List.setIfInBounds_toArray, List.set_cons_zero, List.set_cons_succ]
      refine heldA_one (i := 21) (by kernel_rfl) ?_
      refine wpOp_calls (f := 15) rfl rfl (by rfl) (by go_simp) (check_ok (.agg #[.int .i64 m.nodes, .slice mxa m.X.length mxc, .slice mya m.Y.length myc, .slice mza m.arcs.length mzc]) (m) u59 (HMv.out _ (HB9.out.next' HBe.out)) ((Raw.ok_iff _).2 (moved_ok ((Raw.ok_iff _).1 HHok.out) (HMA.out.2 HHok.out)))) ?_ (by rintro _ _ ⟨h, _⟩; cases h) (by rintro _ ⟨h, _⟩; cases h)
      rintro _ u63 ⟨⟨rfl⟩, hb⟩
      have HBn := Lib.hid (HBe.out.trans (hb.mono HBe.out.size))
      replace HBe := HBn
      clear HBn hb hS0
      have hS0 := HS.out u63 HBe.out
      refine ⟨hS0, ?_⟩
      simp only [List.setIfInBounds_toArray, List.set_cons_zero, List.set_cons_succ]
      refine heldA_take (i := 22) (v := .bool false) rfl rfl (by kernel_rfl) (by kernel_rfl) (by kernel_rfl) (fun _ _ _ h => h) (by rfl) (fun w hS => by obtain ⟨hS1, hS2, hS3, hS4, hS5, hS6, hS7, hS8, hS9, hS10, hS11, hS12⟩ := hS; go_simp) hS0 ?_
      simp only [List.setIfInBounds_toArray, List.set_cons_zero, List.set_cons_succ]
      refine heldA_take (i := 23) (v := .bool false) rfl rfl (by kernel_rfl) (by kernel_rfl) (by kernel_rfl) (fun _ _ _ h => h) (by rfl) (fun w hS => by obtain ⟨hS1, hS2, hS3, hS4, hS5, hS6, hS7, hS8, hS9, hS10, hS11, hS12⟩ := hS; go_simp) hS0 ?_
      simp only [List.setIfInBounds_toArray, List.set_cons_zero, List.set_cons_succ]
      refine heldA_take (i := 24) (v := .bool false) rfl rfl (by kernel_rfl) (by kernel_rfl) (by kernel_rfl) (fun _ _ _ h => h) (by rfl) (fun w hS => by obtain ⟨hS1, hS2, hS3, hS4, hS5, hS6, hS7, hS8, hS9, hS10, hS11, hS12⟩ := hS; go_simp) hS0 ?_
      simp only [List.setIfInBounds_toArray, List.set_cons_zero, List.set_cons_succ]
      refine heldA_take (i := 25) (v := .bool false) rfl rfl (by kernel_rfl) (by kernel_rfl) (by kernel_rfl) (fun _ _ _ h => h) (by rfl) (fun w hS => by obtain ⟨hS1, hS2, hS3, hS4, hS5, hS6, hS7, hS8, hS9, hS10, hS11, hS12⟩ := hS; go_simp) hS0 ?_
      simp only [List.setIfInBounds_toArray, List.set_cons_zero, List.set_cons_succ]
      refine heldA_take (i := 26) (v := .bool false) rfl rfl (by kernel_rfl) (by kernel_rfl) (by kernel_rfl) (fun _ _ _ h => h) (by rfl) (fun w hS => by obtain ⟨hS1, hS2, hS3, hS4, hS5, hS6, hS7, hS8, hS9, hS10, hS11, hS12⟩ := hS; go_simp) hS0 ?_
      simp only [List.setIfInBounds_toArray, List.set_cons_zero, List.set_cons_succ]
      refine heldA_take (i := 27) (v := .agg #[.int .i64 h.nodes, vx, vy, va]) rfl rfl (by kernel_rfl) (by kernel_rfl) (by kernel_rfl) (fun _ _ _ h => h) (by rfl) (fun w hS => by obtain ⟨hS1, hS2, hS3, hS4, hS5, hS6, hS7, hS8, hS9, hS10, hS11, hS12⟩ := hS; go_simp) hS0 ?_
      simp only [List.setIfInBounds_toArray, List.set_cons_zero, List.set_cons_succ]
      refine heldA_take (i := 28) (v := .agg #[.int .i64 h.nodes, vx, vy, va]) rfl rfl (by kernel_rfl) (by kernel_rfl) (by kernel_rfl) (fun _ _ _ h => h) (by rfl) (fun w hS => by obtain ⟨hS1, hS2, hS3, hS4, hS5, hS6, hS7, hS8, hS9, hS10, hS11, hS12⟩ := hS; go_simp) hS0 ?_
      simp only [List.setIfInBounds_toArray, List.set_cons_zero, List.set_cons_succ]
      refine heldA_one (i := 29) (by kernel_rfl) ?_
      refine wpOp_calls (f := 22) rfl rfl (by rfl) (by go_simp) (same_is (.agg #[.int .i64 h.nodes, vx, vy, va]) (.agg #[.int .i64 h.nodes, vx, vy, va]) h h true u63 (HHv.out _ (HB9.out.next' HBe.out)) (HHv.out _ (HB9.out.next' HBe.out)) (same_self h)) ?_ (by rintro _ _ ⟨h, _⟩; cases h) (by rintro _ ⟨h, _⟩; cases h)
      rintro _ u71 ⟨⟨rfl⟩, hb⟩
      have HBn := Lib.hid (HBe.out.trans (hb.mono HBe.out.size))
      replace HBe := HBn
      clear HBn hb hS0
      have hS0 := HS.out u71 HBe.out
      refine ⟨hS0, ?_⟩
      simp only [List.setIfInBounds_toArray, List.set_cons_zero, List.set_cons_succ]
      refine heldA_take (i := 30) (v := .bool false) rfl rfl (by kernel_rfl) (by kernel_rfl) (by kernel_rfl) (fun _ _ _ h => h) (by rfl) (fun w hS => by obtain ⟨hS1, hS2, hS3, hS4, hS5, hS6, hS7, hS8, hS9, hS10, hS11, hS12⟩ := hS; go_simp) hS0 ?_
      simp only [List.setIfInBounds_toArray, List.set_cons_zero, List.set_cons_succ]
      refine heldA_take (i := 31) (v := .bool false) rfl rfl (by kernel_rfl) (by kernel_rfl) (by kernel_rfl) (fun _ _ _ h => h) (by rfl) (fun w hS => by obtain ⟨hS1, hS2, hS3, hS4, hS5, hS6, hS7, hS8, hS9, hS10, hS11, hS12⟩ := hS; go_simp) hS0 ?_
      simp only [List.setIfInBounds_toArray, List.set_cons_zero, List.set_cons_succ]
      refine wpAnyH_done (by kernel_rfl) ?_ _
      have HBz := Lib.hid (HB9.out.next' HBe.out)
      obtain ⟨c0, c1, c2, c3, _⟩ := HS8.out u71 HBz.out
      clear hS0 HBel HBe HS HB9
      go_wp2_with fail
      clear c0 c1 c2 c3
      refine (turned_any (.agg #[.int .i64 h.nodes, vx, vy, va]) h u71 (HHv.out _ HBz.out) HFew.out).mono ?_
      rintro e w11 ⟨v11, rfl, hr11, hb11⟩
      obtain ⟨_, _, _, rfl, hOs⟩ := id hr11
      have hOs : Own3 _ _ _ _ _ _ := hOs
      obtain ⟨sxa, sxc, rfl, _⟩ := ownForm hOs.1
      obtain ⟨sya, syc, rfl, _⟩ := ownForm hOs.2.1
      obtain ⟨sza, szc, rfl, _⟩ := ownForm hOs.2.2.1
      obtain ⟨B13, hB13⟩ : ∃ b, b = w11.heap.size := ⟨_, rfl⟩
      obtain ⟨W12, hW12⟩ : ∃ u, u = w11.alloc (.cells #[.int .i64 h.turned.nodes, .slice sxa h.turned.X.length sxc, .slice sya h.turned.Y.length syc, .slice sza h.turned.arcs.length szc] 25) := ⟨_, rfl⟩
      have hb12 : Below w11.heap.size w11 W12 := by rw [hW12]; exact (Below.refl _ _).alloc (Nat.le_refl _) _
      have K13 : Blk W12 B13 #[.int .i64 h.turned.nodes, .slice sxa h.turned.X.length sxc, .slice sya h.turned.Y.length syc, .slice sza h.turned.arcs.length szc] 25 (0, 0) := by rw [hW12, hB13]; exact Blk.new _ _ _ _
      have hb8 := (HBz.out.next' hb11).next' hb12
      have hbc := HEnd.out.2.2.2.2.next' hb8
      have hK9 := HEnd.out.1.below hb8 HEnd.out.1.lt
      have hOT := HEnd.out.2.2.1.below hb8
      have hlt : ∀ {e : TypeId} {size : Nat} {x : Value} {n : Nat} {xs : List Value}, W8.ownsRow wc.heap.size e size x n xs → ∀ k, x.ownBlock = some k → k < u71.heap.size := fun hr k hk => Nat.lt_of_lt_of_le (ownsRow_blk' hr hk).2.choose_spec.lt HBz.out.size
      have HLt := Lib.hid (show (∀ k, (Value.slice txa h.turned.X.length txc).ownBlock = some k → k < u71.heap.size) ∧ (∀ k, (Value.slice tza h.turned.arcs.length tzc).ownBlock = some k → k < u71.heap.size) from ⟨hlt HEnd.out.2.2.1.1, hlt HEnd.out.2.2.1.2.2.1⟩)
      have HO12 := Lib.hid (show OutI wc B9 (.slice txa h.turned.X.length txc) (.slice tya h.turned.Y.length tyc) (.slice tza h.turned.arcs.length tzc) h.turned W12 from ⟨hK9, hOT, ⟨hbc.os, hbc.tape, hbc.output, hbc.size, fun k hk _ => hbc.block k hk⟩⟩)
      have HS12 := Lib.hid (hr11.below hb12); have HK13 := Lib.hid K13; have HK8' := Lib.hid (HK8.out.below hbc HK8.out.lt)
      have HW12 := Lib.hid hW12; have HE13 := Lib.hid hB13; have HL9 := Lib.hid (show wc.heap.size ≤ B9 from HF5.out.2)
      clear hr11 hb11 hOs hW12 hB13 hb12 K13 hb8 hbc hK9 hOT hlt
      go_wp2_with fail
      rw [← HW12.out, ← HE13.out]
      clear HW12 HE13
      obtain ⟨N, hN⟩ : ∃ N, N = h.turned.X.length := ⟨_, rfl⟩
      obtain ⟨M, hM⟩ : ∃ M, M = h.turned.arcs.length := ⟨_, rfl⟩
      have HN := Lib.hid hN; have HM := Lib.hid hM
      have hNb : N ≤ 60 := by rw [hN]; exact HLh.out.1
      have hMb : M ≤ 60 := by rw [hM]; show (h.arcs.map turnA).length ≤ 60; rw [List.length_map]; exact HLh.out.2.2
      rw [← hN, ← hM] at HO12 HLt HK13
      rw [← hN] at HTx
      rw [← hM] at HTz
      rw [← hN, ← hM]
      clear hN hM
      have hwN : ∀ j : Nat, j < 60 → IntKind.i64.wrap ((j : Int) + 1) = ((j + 1 : Nat) : Int) := fun j hj => by rw [IntKind.wrap_i64]; omega
      have HwN := Lib.hid hwN
      clear hwN
      go_loopw [14] (fun i wr => ∃ j : Nat, j ≤ N ∧ i = .int .i64 j ∧ Hid (OutI wc B9 (.slice txa N txc) (.slice tya h.turned.Y.length tyc) (.slice tza M tzc) { h.turned with X := (h.turned.X.take j).map bumpX ++ h.turned.X.drop j } wr ∧ Kept (fun k => (Value.slice txa N txc).ownBlock = some k ∨ (Value.slice tza M tzc).ownBlock = some k) W12 wr)) (fun i _ => N - (intOf i).toNat)
      case atStart =>
        exact ⟨0, by omega, rfl, Lib.hid ⟨HO12.out, Kept.refl _ _⟩⟩
      obtain ⟨j, hj, rfl, hrel⟩ := hrel
      have HO := Lib.hid hrel.out.1; have HKj := Lib.hid hrel.out.2
      clear hrel
      have o1 := HO.out.blk.cell 1
      change wr.cell? ⟨B9, 1, none⟩ = some (.slice txa N txc) at o1
      by_cases hjn : j < N
      case pos =>
        obtain ⟨gx, rfl⟩ := HTx.out (by omega)
        have hlen : ((h.turned.X.take j).map bumpX ++ h.turned.X.drop j).length = N := by rw [bump_len]; exact HN.out.symm
        have hjX : j < h.turned.X.length := by rw [← HN.out]; exact hjn
        have hown := HO.out.own.1
        dsimp only at hown
        rw [hlen] at hown
        obtain ⟨b0, off, e0, hcell⟩ := (slX_own hlen hown).at j (by rw [hlen]; exact hjn)
        obtain ⟨rfl, rfl⟩ : gx = b0 ∧ 0 = off := by simpa using e0
        rw [Nat.zero_add, bump_at bumpX _ _ hjX] at hcell
        obtain ⟨xj, hxj⟩ : ∃ x, x = h.turned.X[j] := ⟨_, rfl⟩
        have hI := HO.out.setX hlen j (by dsimp only; rw [hlen]; exact hjn) (bumpX xj)
        have hff := (HO.out.cellX hlen j hjn).2
        dsimp only at hI
        rw [hxj, bump_step bumpX _ _ hjX] at hI
        rw [← hxj] at hI hcell
        obtain ⟨yj, hyj⟩ : ∃ y, y = bumpX xj := ⟨_, rfl⟩
        have hy2 : IntKind.i64.wrap (xj + 1) = yj := hyj.symm
        rw [← hyj] at hI
        have hKn := HKj.out.setCell (p := ⟨gx, j, none⟩) (Or.inl rfl) (.int .i64 yj)
        have HI := Lib.hid hI; have HKn := Lib.hid hKn
        have hj0 : (0 : Int) ≤ (j : Int) := by omega
        have hj1 : (j : Int) < (N : Int) := by omega
        have hj2 := HwN.out j (by omega)
        clear hI hKn hown e0 hlen hxj hyj
        go_wp2_with fail
        go_roundw
        case rel => exact ⟨j + 1, by omega, by go_num, Lib.hid ⟨HI.out, HKn.out⟩⟩
        case measure => simp [intOf]; omega
      case neg =>
        obtain rfl : N = j := by omega
        have eX : (h.turned.X.take N).map bumpX ++ h.turned.X.drop N = h.turned.X.map bumpX := by rw [HN.out, List.take_length, List.drop_length, List.append_nil]
        rw [eX] at HO
        clear eX
        go_wp2_with fail
        clear o1
        go_loopw [15] (fun i wr => ∃ j : Nat, j ≤ M ∧ i = .int .i64 j ∧ Hid (OutI wc B9 (.slice txa N txc) (.slice tya h.turned.Y.length tyc) (.slice tza M tzc) { h.turned with X := h.turned.X.map bumpX, arcs := (h.turned.arcs.take j).map bumpA ++ h.turned.arcs.drop j } wr ∧ Kept (fun k => (Value.slice txa N txc).ownBlock = some k ∨ (Value.slice tza M tzc).ownBlock = some k) W12 wr)) (fun i _ => M - (intOf i).toNat)
        case atStart =>
          exact ⟨0, by omega, rfl, Lib.hid ⟨HO.out, HKj.out⟩⟩
        clear HO HKj
        obtain ⟨j, hj, rfl, hrel⟩ := hrel
        have HO := Lib.hid hrel.out.1; have HKj := Lib.hid hrel.out.2
        clear hrel
        have o3 := HO.out.blk.cell 3
        change wr.cell? ⟨B9, 3, none⟩ = some (.slice tza M tzc) at o3
        by_cases hjn : j < M
        case pos =>
          obtain ⟨ga, rfl⟩ := HTz.out (by omega)
          have hlen : ((h.turned.arcs.take j).map bumpA ++ h.turned.arcs.drop j).length = M := by rw [bump_len]; exact HM.out.symm
          have hjA : j < h.turned.arcs.length := by rw [← HM.out]; exact hjn
          have hown := HO.out.own.2.2.1
          dsimp only at hown
          rw [hlen] at hown
          obtain ⟨b0, off, e0, hd0, hd1, hcell⟩ := (slA_own hlen hown).at j (by rw [hlen]; exact hjn)
          obtain ⟨rfl, rfl⟩ : ga = b0 ∧ 0 = off := by simpa using e0
          rw [Nat.zero_add, bump_at bumpA _ _ hjA] at hcell
          have hjl : j < ((h.turned.arcs.take j).map bumpA ++ h.turned.arcs.drop j).length := by rw [hlen]; exact hjn
          have hI := HO.out.setA hlen j 2 hjl (by omega) (bumpA h.turned.arcs[j]).2.2 (o := j * 3 + 2) rfl
          have hff := (HO.out.cellA hlen j 2 hjl (by omega)).2
          dsimp only at hI
          rw [bump_at bumpA _ _ hjA, show setArc 2 (bumpA h.turned.arcs[j]).2.2 h.turned.arcs[j] = bumpA h.turned.arcs[j] from rfl, bump_step bumpA _ _ hjA] at hI
          obtain ⟨xj, hxj⟩ : ∃ x, x = h.turned.arcs[j].2.2 := ⟨_, rfl⟩
          rw [← hxj] at hcell
          obtain ⟨yj, hyj⟩ : ∃ y, y = (bumpA h.turned.arcs[j]).2.2 := ⟨_, rfl⟩
          have hy2 : IntKind.i64.wrap (xj + 1) = yj := by rw [hyj, hxj]; rfl
          rw [← hyj] at hI
          have hKn := HKj.out.setCell (p := ⟨ga, j * 3 + 2, none⟩) (Or.inr rfl) (.int .i64 yj)
          have HI := Lib.hid hI; have HKn := Lib.hid hKn
          have hj0 : (0 : Int) ≤ (j : Int) := by omega
          have hj1 : (j : Int) < (M : Int) := by omega
          have hj2 := HwN.out j (by omega)
          clear hd0 hd1 hI hKn hown e0 hlen hxj hyj hjl
          go_wp2_with fail
          go_roundw
          case rel => exact ⟨j + 1, by omega, by go_num, Lib.hid ⟨HI.out, HKn.out⟩⟩
          case measure => simp [intOf]; omega
        case neg =>
          obtain rfl : M = j := by omega
          have eA : (h.turned.arcs.take M).map bumpA ++ h.turned.arcs.drop M = h.turned.arcs.map bumpA := by rw [HM.out, List.take_length, List.drop_length, List.append_nil]
          rw [eA] at HO
          clear eA
          have hb21 : Below wc.heap.size wc wr := below_of (Below.refl _ _) HO.out.kept HL9.out
          have hn8 : ¬ (fun k => (Value.slice txa N txc).ownBlock = some k ∨ (Value.slice tza M tzc).ownBlock = some k) B8 := fun e => e.elim (ownDiff HO12.out.own.1 HK8'.out (by decide)) (ownDiff HO12.out.own.2.2.1 HK8'.out (by decide))
          have hn13 : ¬ (fun k => (Value.slice txa N txc).ownBlock = some k ∨ (Value.slice tza M tzc).ownBlock = some k) B13 := fun e => e.elim (ownDiff HO12.out.own.1 HK13.out (by decide)) (ownDiff HO12.out.own.2.2.1 HK13.out (by decide))
          have k8 := HKj.out.blk HK8'.out hn8
          have k13 := HKj.out.blk HK13.out hn13
          have hS21 := HS12.out.kept HKj.out (fun k hk e => e.elim (fun e => by have := HLt.out.1 k e; omega) (fun e => by have := HLt.out.2 k e; omega))
          have HB21 := Lib.hid hb21; have HK8z := Lib.hid k8; have HK13z := Lib.hid k13; have HS21 := Lib.hid hS21.raw; have HO21 := Lib.hid HO.out
          clear hb21 hn8 hn13 k8 k13 hS21 HO HKj HO12
          have HS := Lib.hid (show ∀ u, Below wr.heap.size wr u → (u.cell? ⟨B8, 0, none⟩ = some (.int .i64 h.nodes) ∧ u.cell? ⟨B8, 1, none⟩ = some (vx) ∧ u.cell? ⟨B8, 2, none⟩ = some (vy) ∧ u.cell? ⟨B8, 3, none⟩ = some (va) ∧ u.cell? ⟨B9, 0, none⟩ = some (.int .i64 h.turned.nodes) ∧ u.cell? ⟨B9, 1, none⟩ = some (.slice txa N txc) ∧ u.cell? ⟨B9, 2, none⟩ = some (.slice tya h.turned.Y.length tyc) ∧ u.cell? ⟨B9, 3, none⟩ = some (.slice tza M tzc) ∧ u.cell? ⟨B13, 0, none⟩ = some (.int .i64 h.turned.nodes) ∧ u.cell? ⟨B13, 1, none⟩ = some (.slice sxa N sxc) ∧ u.cell? ⟨B13, 2, none⟩ = some (.slice sya h.turned.Y.length syc) ∧ u.cell? ⟨B13, 3, none⟩ = some (.slice sza M szc)) from fun u hu => by
            have k8 := HK8z.out.below hu HK8z.out.lt; have k9 := HO21.out.blk.below hu HO21.out.blk.lt; have k13 := HK13z.out.below hu HK13z.out.lt
            exact ⟨k8.cell 0, k8.cell 1, k8.cell 2, k8.cell 3, k9.cell 0, k9.cell 1, k9.cell 2, k9.cell 3, k13.cell 0, k13.cell 1, k13.cell 2, k13.cell 3⟩)
          have HHz := Lib.hid (show ∀ u, Below wr.heap.size wr u → RawV u (.agg #[.int .i64 h.nodes, vx, vy, va]) h from fun u hu => HVh.out.below (HB21.out.next' hu))
          have HTz2 := Lib.hid (show ∀ u, Below wr.heap.size wr u → RawV u (.agg #[.int .i64 h.turned.nodes, .slice txa N txc, .slice tya h.turned.Y.length tyc, .slice tza M tzc]) h.turned.bumped from fun u hu => RawV.below (RawO.raw HO21.out.raw) hu)
          have HSz := Lib.hid (show ∀ u, Below wr.heap.size wr u → RawV u (.agg #[.int .i64 h.turned.nodes, .slice sxa N sxc, .slice sya h.turned.Y.length syc, .slice sza M szc]) h.turned from fun u hu => by rw [HN.out, HM.out]; exact HS21.out.below hu)
          obtain ⟨NS, hNS⟩ : ∃ q : Nat, q = N + M := ⟨_, rfl⟩
          have hadd : IntKind.i64.wrap ((N : Int) + (M : Int)) = (NS : Int) := by rw [IntKind.wrap_i64]; omega
          have HSum := Lib.hid (show decide (h.turned.X.length + h.turned.arcs.length = 0) = decide (NS = 0) from by rw [← HN.out, ← HM.out, hNS])
          have HBel := Lib.hid (Below.refl wr.heap.size wr)
          clear hNS
          by_cases hNS0 : NS = 0
          case pos =>
            have hsb : ((NS : Int) == 0) = true := by simpa using hNS0
            have HSb := Lib.hid (show sameB h.turned.bumped h.turned = true from by rw [bumped_same, HSum.out]; simpa using hNS0)
            clear hNS0
            go_wp2_with fail
            clear o3
            refine wp_region_held (S := fun w' => w'.cell? ⟨B8, 0, none⟩ = some (.int .i64 h.nodes) ∧ w'.cell? ⟨B8, 1, none⟩ = some (vx) ∧ w'.cell? ⟨B8, 2, none⟩ = some (vy) ∧ w'.cell? ⟨B8, 3, none⟩ = some (va) ∧ w'.cell? ⟨B9, 0, none⟩ = some (.int .i64 h.turned.nodes) ∧ w'.cell? ⟨B9, 1, none⟩ = some (.slice txa N txc) ∧ w'.cell? ⟨B9, 2, none⟩ = some (.slice tya h.turned.Y.length tyc) ∧ w'.cell? ⟨B9, 3, none⟩ = some (.slice tza M tzc) ∧ w'.cell? ⟨B13, 0, none⟩ = some (.int .i64 h.turned.nodes) ∧ w'.cell? ⟨B13, 1, none⟩ = some (.slice sxa N sxc) ∧ w'.cell? ⟨B13, 2, none⟩ = some (.slice sya h.turned.Y.length syc) ∧ w'.cell? ⟨B13, 3, none⟩ = some (.slice sza M szc)) rfl ?_
            have hS0 := HS.out wr.drew (HBel.out.drew)
            change wpAnyH _ _ _ _ _ 19 _ _ wr.drew
            have HBe := Lib.hid (HBel.out.drew)
            refine heldA_take (i := 0) (v := .agg #[.int .i64 h.nodes, vx, vy, va]) rfl rfl (by kernel_rfl) (by kernel_rfl) (by kernel_rfl) (fun _ _ _ h => h) (by rfl) (fun w hS => by obtain ⟨hS1, hS2, hS3, hS4, hS5, hS6, hS7, hS8, hS9, hS10, hS11, hS12⟩ := hS; go_simp) hS0 ?_
            simp only [List.setIfInBounds_toArray, List.set_cons_zero, List.set_cons_succ]
            refine heldA_take (i := 2) (v := .agg #[.int .i64 h.turned.nodes, .slice sxa N sxc, .slice sya h.turned.Y.length syc, .slice sza M szc]) rfl rfl (by kernel_rfl) (by kernel_rfl) (by kernel_rfl) (fun _ _ _ h => h) (by rfl) (fun w hS => by obtain ⟨hS1, hS2, hS3, hS4, hS5, hS6, hS7, hS8, hS9, hS10, hS11, hS12⟩ := hS; go_simp) hS0 ?_
            simp only [List.setIfInBounds_toArray, List.set_cons_zero, List.set_cons_succ]
            refine heldA_one (i := 1) (by kernel_rfl) ?_
            refine wpOp_calls (f := 24) rfl rfl (by rfl) (by go_simp) (turned_any (.agg #[.int .i64 h.nodes, vx, vy, va]) h wr.drew (HHz.out _ HBe.out) HFew.out) ?_ (by rintro _ _ ⟨_, h, _⟩; cases h) (by rintro _ ⟨_, h, _⟩; cases h)
            rintro v107 u107 ⟨_, ⟨rfl⟩, hr, hb⟩
            have HBn := Lib.hid (HBe.out.trans (hb.mono HBe.out.size))
            have HR107 := Lib.hid hr.raw
            clear hr
            replace HBe := HBn
            clear HBn hb hS0
            have hS0 := HS.out u107 HBe.out
            refine ⟨hS0, ?_⟩
            simp only [List.setIfInBounds_toArray, List.set_cons_zero, List.set_cons_succ]
            refine heldA_one (i := 3) (by kernel_rfl) ?_
            refine wpOp_calls (f := 22) rfl rfl (by rfl) (by go_simp) (same_is v107 (.agg #[.int .i64 h.turned.nodes, .slice sxa N sxc, .slice sya h.turned.Y.length syc, .slice sza M szc]) h.turned h.turned true u107 HR107.out (HSz.out _ HBe.out) (same_self h.turned)) ?_ (by rintro _ _ ⟨h, _⟩; cases h) (by rintro _ ⟨h, _⟩; cases h)
            rintro _ u109 ⟨⟨rfl⟩, hb⟩
            have HBn := Lib.hid (HBe.out.trans (hb.mono HBe.out.size))
            replace HBe := HBn
            clear HBn hb hS0
            have hS0 := HS.out u109 HBe.out
            refine ⟨hS0, ?_⟩
            simp only [List.setIfInBounds_toArray, List.set_cons_zero, List.set_cons_succ]
            refine heldA_take (i := 4) (v := .bool false) rfl rfl (by kernel_rfl) (by kernel_rfl) (by kernel_rfl) (fun _ _ _ h => h) (by rfl) (fun w hS => by obtain ⟨hS1, hS2, hS3, hS4, hS5, hS6, hS7, hS8, hS9, hS10, hS11, hS12⟩ := hS; go_simp) hS0 ?_
            simp only [List.setIfInBounds_toArray, List.set_cons_zero, List.set_cons_succ]
            refine heldA_take (i := 5) (v := .bool false) rfl rfl (by kernel_rfl) (by kernel_rfl) (by kernel_rfl) (fun _ _ _ h => h) (by rfl) (fun w hS => by obtain ⟨hS1, hS2, hS3, hS4, hS5, hS6, hS7, hS8, hS9, hS10, hS11, hS12⟩ := hS; go_simp) hS0 ?_
            simp only [List.setIfInBounds_toArray, List.set_cons_zero, List.set_cons_succ]
            refine heldA_take (i := 6) (v := .agg #[.int .i64 h.turned.nodes, .slice txa N txc, .slice tya h.turned.Y.length tyc, .slice tza M tzc]) rfl rfl (by kernel_rfl) (by kernel_rfl) (by kernel_rfl) (fun _ _ _ h => h) (by rfl) (fun w hS => by obtain ⟨hS1, hS2, hS3, hS4, hS5, hS6, hS7, hS8, hS9, hS10, hS11, hS12⟩ := hS; go_simp) hS0 ?_
            simp only [List.setIfInBounds_toArray, List.set_cons_zero, List.set_cons_succ]
            refine heldA_take (i := 7) (v := .agg #[.int .i64 h.turned.nodes, .slice sxa N sxc, .slice sya h.turned.Y.length syc, .slice sza M szc]) rfl rfl (by kernel_rfl) (by kernel_rfl) (by kernel_rfl) (fun _ _ _ h => h) (by rfl) (fun w hS => by obtain ⟨hS1, hS2, hS3, hS4, hS5, hS6, hS7, hS8, hS9, hS10, hS11, hS12⟩ := hS; go_simp) hS0 ?_
            simp only [List.setIfInBounds_toArray, List.set_cons_zero, List.set_cons_succ]
            refine heldA_take (i := 9) (v := .pointer (some ⟨B9, 1, none⟩)) rfl rfl (by kernel_rfl) (by kernel_rfl) (by kernel_rfl) (fun _ _ _ h => h) (by rfl) (fun w hS => by obtain ⟨hS1, hS2, hS3, hS4, hS5, hS6, hS7, hS8, hS9, hS10, hS11, hS12⟩ := hS; go_simp) hS0 ?_
            simp only [List.setIfInBounds_toArray, List.set_cons_zero, List.set_cons_succ]
            refine heldA_take (i := 10) (v := .slice txa N txc) rfl rfl (by kernel_rfl) (by kernel_rfl) (by kernel_rfl) (fun _ _ _ h => h) (by rfl) (fun w hS => by obtain ⟨hS1, hS2, hS3, hS4, hS5, hS6, hS7, hS8, hS9, hS10, hS11, hS12⟩ := hS; go_simp) hS0 ?_
            simp only [List.setIfInBounds_toArray, List.set_cons_zero, List.set_cons_succ]
            refine heldA_take (i := 11) (v := .int .i64 (N : Nat)) rfl rfl (by kernel_rfl) (by kernel_rfl) (by kernel_rfl) (fun _ _ _ h => h) (by rfl) (fun w hS => by obtain ⟨hS1, hS2, hS3, hS4, hS5, hS6, hS7, hS8, hS9, hS10, hS11, hS12⟩ := hS; go_simp) hS0 ?_
            simp only [List.setIfInBounds_toArray, List.set_cons_zero, List.set_cons_succ]
            refine heldA_take (i := 12) (v := .pointer (some ⟨B9, 3, none⟩)) rfl rfl (by kernel_rfl) (by kernel_rfl) (by kernel_rfl) (fun _ _ _ h => h) (by rfl) (fun w hS => by obtain ⟨hS1, hS2, hS3, hS4, hS5, hS6, hS7, hS8, hS9, hS10, hS11, hS12⟩ := hS; go_simp) hS0 ?_
            simp only [List.setIfInBounds_toArray, List.set_cons_zero, List.set_cons_succ]
            refine heldA_take (i := 13) (v := .slice tza M tzc) rfl rfl (by kernel_rfl) (by kernel_rfl) (by kernel_rfl) (fun _ _ _ h => h) (by rfl) (fun w hS => by obtain ⟨hS1, hS2, hS3, hS4, hS5, hS6, hS7, hS8, hS9, hS10, hS11, hS12⟩ := hS; go_simp) hS0 ?_
            simp only [List.setIfInBounds_toArray, List.set_cons_zero, List.set_cons_succ]
            refine heldA_take (i := 14) (v := .int .i64 (M : Nat)) rfl rfl (by kernel_rfl) (by kernel_rfl) (by kernel_rfl) (fun _ _ _ h => h) (by rfl) (fun w hS => by obtain ⟨hS1, hS2, hS3, hS4, hS5, hS6, hS7, hS8, hS9, hS10, hS11, hS12⟩ := hS; go_simp) hS0 ?_
            simp only [List.setIfInBounds_toArray, List.set_cons_zero, List.set_cons_succ]
            refine heldA_take (i := 15) (v := .int .i64 (NS : Nat)) rfl rfl (by kernel_rfl) (by kernel_rfl) (by kernel_rfl) (fun _ _ _ h => h) (by rfl) (fun w hS => by obtain ⟨hS1, hS2, hS3, hS4, hS5, hS6, hS7, hS8, hS9, hS10, hS11, hS12⟩ := hS; go_simp) hS0 ?_
            simp only [List.setIfInBounds_toArray, List.set_cons_zero, List.set_cons_succ]
            refine heldA_take (i := 16) (v := .bool true) rfl rfl (by kernel_rfl) (by kernel_rfl) (by kernel_rfl) (fun _ _ _ h => h) (by rfl) (fun w hS => by obtain ⟨hS1, hS2, hS3, hS4, hS5, hS6, hS7, hS8, hS9, hS10, hS11, hS12⟩ := hS; go_simp) hS0 ?_
            simp only [List.setIfInBounds_toArray, List.set_cons_zero, List.set_cons_succ]
            refine heldA_one (i := 8) (by kernel_rfl) ?_
            refine wpOp_calls (f := 22) rfl rfl (by rfl) (by go_simp) (same_is (.agg #[.int .i64 h.turned.nodes, .slice txa N txc, .slice tya h.turned.Y.length tyc, .slice tza M tzc]) (.agg #[.int .i64 h.turned.nodes, .slice sxa N sxc, .slice sya h.turned.Y.length syc, .slice sza M szc]) h.turned.bumped h.turned true u109 (HTz2.out _ HBe.out) (HSz.out _ HBe.out) HSb.out) ?_ (by rintro _ _ ⟨h, _⟩; cases h) (by rintro _ ⟨h, _⟩; cases h)
            rintro _ u114 ⟨⟨rfl⟩, hb⟩
            have HBn := Lib.hid (HBe.out.trans (hb.mono HBe.out.size))
            replace HBe := HBn
            clear HBn hb hS0
            have hS0 := HS.out u114 HBe.out
            refine ⟨hS0, ?_⟩
            simp only [List.setIfInBounds_toArray, List.set_cons_zero, List.set_cons_succ]
            refine heldA_take (i := 17) (v := .bool false) rfl rfl (by kernel_rfl) (by kernel_rfl) (by kernel_rfl) (fun _ _ _ h => h) (by rfl) (fun w hS => by obtain ⟨hS1, hS2, hS3, hS4, hS5, hS6, hS7, hS8, hS9, hS10, hS11, hS12⟩ := hS; go_simp) hS0 ?_
            simp only [List.setIfInBounds_toArray, List.set_cons_zero, List.set_cons_succ]
            refine heldA_take (i := 18) (v := .bool false) rfl rfl (by kernel_rfl) (by kernel_rfl) (by kernel_rfl) (fun _ _ _ h => h) (by rfl) (fun w hS => by obtain ⟨hS1, hS2, hS3, hS4, hS5, hS6, hS7, hS8, hS9, hS10, hS11, hS12⟩ := hS; go_simp) hS0 ?_
            simp only [List.setIfInBounds_toArray, List.set_cons_zero, List.set_cons_succ]
            refine wpAnyH_done (by kernel_rfl) ?_ _
            have HZ := Lib.hid (HR.out.next' (HB21.out.next' HBe.out))
            clear hS0 HBel HBe HS hsb hadd
            go_wp2_with fail
            go_roundw
            case rel => exact ⟨k + 1, by omega, by go_num, Lib.hid HZ.out⟩
            case measure => simp [intOf]; omega
          case neg =>
            have hsb : ((NS : Int) == 0) = false := by simpa using hNS0
            have HSb := Lib.hid (show sameB h.turned.bumped h.turned = false from by rw [bumped_same, HSum.out]; simpa using hNS0)
            clear hNS0
            go_wp2_with fail
            clear o3
            refine wp_region_held (S := fun w' => w'.cell? ⟨B8, 0, none⟩ = some (.int .i64 h.nodes) ∧ w'.cell? ⟨B8, 1, none⟩ = some (vx) ∧ w'.cell? ⟨B8, 2, none⟩ = some (vy) ∧ w'.cell? ⟨B8, 3, none⟩ = some (va) ∧ w'.cell? ⟨B9, 0, none⟩ = some (.int .i64 h.turned.nodes) ∧ w'.cell? ⟨B9, 1, none⟩ = some (.slice txa N txc) ∧ w'.cell? ⟨B9, 2, none⟩ = some (.slice tya h.turned.Y.length tyc) ∧ w'.cell? ⟨B9, 3, none⟩ = some (.slice tza M tzc) ∧ w'.cell? ⟨B13, 0, none⟩ = some (.int .i64 h.turned.nodes) ∧ w'.cell? ⟨B13, 1, none⟩ = some (.slice sxa N sxc) ∧ w'.cell? ⟨B13, 2, none⟩ = some (.slice sya h.turned.Y.length syc) ∧ w'.cell? ⟨B13, 3, none⟩ = some (.slice sza M szc)) rfl ?_
            have hS0 := HS.out wr.drew (HBel.out.drew)
            change wpAnyH _ _ _ _ _ 19 _ _ wr.drew
            have HBe := Lib.hid (HBel.out.drew)
            refine heldA_take (i := 0) (v := .agg #[.int .i64 h.nodes, vx, vy, va]) rfl rfl (by kernel_rfl) (by kernel_rfl) (by kernel_rfl) (fun _ _ _ h => h) (by rfl) (fun w hS => by obtain ⟨hS1, hS2, hS3, hS4, hS5, hS6, hS7, hS8, hS9, hS10, hS11, hS12⟩ := hS; go_simp) hS0 ?_
            simp only [List.setIfInBounds_toArray, List.set_cons_zero, List.set_cons_succ]
            refine heldA_take (i := 2) (v := .agg #[.int .i64 h.turned.nodes, .slice sxa N sxc, .slice sya h.turned.Y.length syc, .slice sza M szc]) rfl rfl (by kernel_rfl) (by kernel_rfl) (by kernel_rfl) (fun _ _ _ h => h) (by rfl) (fun w hS => by obtain ⟨hS1, hS2, hS3, hS4, hS5, hS6, hS7, hS8, hS9, hS10, hS11, hS12⟩ := hS; go_simp) hS0 ?_
            simp only [List.setIfInBounds_toArray, List.set_cons_zero, List.set_cons_succ]
            refine heldA_one (i := 1) (by kernel_rfl) ?_
            refine wpOp_calls (f := 24) rfl rfl (by rfl) (by go_simp) (turned_any (.agg #[.int .i64 h.nodes, vx, vy, va]) h wr.drew (HHz.out _ HBe.out) HFew.out) ?_ (by rintro _ _ ⟨_, h, _⟩; cases h) (by rintro _ ⟨_, h, _⟩; cases h)
            rintro v107 u107 ⟨_, ⟨rfl⟩, hr, hb⟩
            have HBn := Lib.hid (HBe.out.trans (hb.mono HBe.out.size))
            have HR107 := Lib.hid hr.raw
            clear hr
            replace HBe := HBn
            clear HBn hb hS0
            have hS0 := HS.out u107 HBe.out
            refine ⟨hS0, ?_⟩
            simp only [List.setIfInBounds_toArray, List.set_cons_zero, List.set_cons_succ]
            refine heldA_one (i := 3) (by kernel_rfl) ?_
            refine wpOp_calls (f := 22) rfl rfl (by rfl) (by go_simp) (same_is v107 (.agg #[.int .i64 h.turned.nodes, .slice sxa N sxc, .slice sya h.turned.Y.length syc, .slice sza M szc]) h.turned h.turned true u107 HR107.out (HSz.out _ HBe.out) (same_self h.turned)) ?_ (by rintro _ _ ⟨h, _⟩; cases h) (by rintro _ ⟨h, _⟩; cases h)
            rintro _ u109 ⟨⟨rfl⟩, hb⟩
            have HBn := Lib.hid (HBe.out.trans (hb.mono HBe.out.size))
            replace HBe := HBn
            clear HBn hb hS0
            have hS0 := HS.out u109 HBe.out
            refine ⟨hS0, ?_⟩
            simp only [List.setIfInBounds_toArray, List.set_cons_zero, List.set_cons_succ]
            refine heldA_take (i := 4) (v := .bool false) rfl rfl (by kernel_rfl) (by kernel_rfl) (by kernel_rfl) (fun _ _ _ h => h) (by rfl) (fun w hS => by obtain ⟨hS1, hS2, hS3, hS4, hS5, hS6, hS7, hS8, hS9, hS10, hS11, hS12⟩ := hS; go_simp) hS0 ?_
            simp only [List.setIfInBounds_toArray, List.set_cons_zero, List.set_cons_succ]
            refine heldA_take (i := 5) (v := .bool false) rfl rfl (by kernel_rfl) (by kernel_rfl) (by kernel_rfl) (fun _ _ _ h => h) (by rfl) (fun w hS => by obtain ⟨hS1, hS2, hS3, hS4, hS5, hS6, hS7, hS8, hS9, hS10, hS11, hS12⟩ := hS; go_simp) hS0 ?_
            simp only [List.setIfInBounds_toArray, List.set_cons_zero, List.set_cons_succ]
            refine heldA_take (i := 6) (v := .agg #[.int .i64 h.turned.nodes, .slice txa N txc, .slice tya h.turned.Y.length tyc, .slice tza M tzc]) rfl rfl (by kernel_rfl) (by kernel_rfl) (by kernel_rfl) (fun _ _ _ h => h) (by rfl) (fun w hS => by obtain ⟨hS1, hS2, hS3, hS4, hS5, hS6, hS7, hS8, hS9, hS10, hS11, hS12⟩ := hS; go_simp) hS0 ?_
            simp only [List.setIfInBounds_toArray, List.set_cons_zero, List.set_cons_succ]
            refine heldA_take (i := 7) (v := .agg #[.int .i64 h.turned.nodes, .slice sxa N sxc, .slice sya h.turned.Y.length syc, .slice sza M szc]) rfl rfl (by kernel_rfl) (by kernel_rfl) (by kernel_rfl) (fun _ _ _ h => h) (by rfl) (fun w hS => by obtain ⟨hS1, hS2, hS3, hS4, hS5, hS6, hS7, hS8, hS9, hS10, hS11, hS12⟩ := hS; go_simp) hS0 ?_
            simp only [List.setIfInBounds_toArray, List.set_cons_zero, List.set_cons_succ]
            refine heldA_take (i := 9) (v := .pointer (some ⟨B9, 1, none⟩)) rfl rfl (by kernel_rfl) (by kernel_rfl) (by kernel_rfl) (fun _ _ _ h => h) (by rfl) (fun w hS => by obtain ⟨hS1, hS2, hS3, hS4, hS5, hS6, hS7, hS8, hS9, hS10, hS11, hS12⟩ := hS; go_simp) hS0 ?_
            simp only [List.setIfInBounds_toArray, List.set_cons_zero, List.set_cons_succ]
            refine heldA_take (i := 10) (v := .slice txa N txc) rfl rfl (by kernel_rfl) (by kernel_rfl) (by kernel_rfl) (fun _ _ _ h => h) (by rfl) (fun w hS => by obtain ⟨hS1, hS2, hS3, hS4, hS5, hS6, hS7, hS8, hS9, hS10, hS11, hS12⟩ := hS; go_simp) hS0 ?_
            simp only [List.setIfInBounds_toArray, List.set_cons_zero, List.set_cons_succ]
            refine heldA_take (i := 11) (v := .int .i64 (N : Nat)) rfl rfl (by kernel_rfl) (by kernel_rfl) (by kernel_rfl) (fun _ _ _ h => h) (by rfl) (fun w hS => by obtain ⟨hS1, hS2, hS3, hS4, hS5, hS6, hS7, hS8, hS9, hS10, hS11, hS12⟩ := hS; go_simp) hS0 ?_
            simp only [List.setIfInBounds_toArray, List.set_cons_zero, List.set_cons_succ]
            refine heldA_take (i := 12) (v := .pointer (some ⟨B9, 3, none⟩)) rfl rfl (by kernel_rfl) (by kernel_rfl) (by kernel_rfl) (fun _ _ _ h => h) (by rfl) (fun w hS => by obtain ⟨hS1, hS2, hS3, hS4, hS5, hS6, hS7, hS8, hS9, hS10, hS11, hS12⟩ := hS; go_simp) hS0 ?_
            simp only [List.setIfInBounds_toArray, List.set_cons_zero, List.set_cons_succ]
            refine heldA_take (i := 13) (v := .slice tza M tzc) rfl rfl (by kernel_rfl) (by kernel_rfl) (by kernel_rfl) (fun _ _ _ h => h) (by rfl) (fun w hS => by obtain ⟨hS1, hS2, hS3, hS4, hS5, hS6, hS7, hS8, hS9, hS10, hS11, hS12⟩ := hS; go_simp) hS0 ?_
            simp only [List.setIfInBounds_toArray, List.set_cons_zero, List.set_cons_succ]
            refine heldA_take (i := 14) (v := .int .i64 (M : Nat)) rfl rfl (by kernel_rfl) (by kernel_rfl) (by kernel_rfl) (fun _ _ _ h => h) (by rfl) (fun w hS => by obtain ⟨hS1, hS2, hS3, hS4, hS5, hS6, hS7, hS8, hS9, hS10, hS11, hS12⟩ := hS; go_simp) hS0 ?_
            simp only [List.setIfInBounds_toArray, List.set_cons_zero, List.set_cons_succ]
            refine heldA_take (i := 15) (v := .int .i64 (NS : Nat)) rfl rfl (by kernel_rfl) (by kernel_rfl) (by kernel_rfl) (fun _ _ _ h => h) (by rfl) (fun w hS => by obtain ⟨hS1, hS2, hS3, hS4, hS5, hS6, hS7, hS8, hS9, hS10, hS11, hS12⟩ := hS; go_simp) hS0 ?_
            simp only [List.setIfInBounds_toArray, List.set_cons_zero, List.set_cons_succ]
            refine heldA_take (i := 16) (v := .bool false) rfl rfl (by kernel_rfl) (by kernel_rfl) (by kernel_rfl) (fun _ _ _ h => h) (by rfl) (fun w hS => by obtain ⟨hS1, hS2, hS3, hS4, hS5, hS6, hS7, hS8, hS9, hS10, hS11, hS12⟩ := hS; go_simp) hS0 ?_
            simp only [List.setIfInBounds_toArray, List.set_cons_zero, List.set_cons_succ]
            refine heldA_one (i := 8) (by kernel_rfl) ?_
            refine wpOp_calls (f := 22) rfl rfl (by rfl) (by go_simp) (same_is (.agg #[.int .i64 h.turned.nodes, .slice txa N txc, .slice tya h.turned.Y.length tyc, .slice tza M tzc]) (.agg #[.int .i64 h.turned.nodes, .slice sxa N sxc, .slice sya h.turned.Y.length syc, .slice sza M szc]) h.turned.bumped h.turned false u109 (HTz2.out _ HBe.out) (HSz.out _ HBe.out) HSb.out) ?_ (by rintro _ _ ⟨h, _⟩; cases h) (by rintro _ ⟨h, _⟩; cases h)
            rintro _ u114 ⟨⟨rfl⟩, hb⟩
            have HBn := Lib.hid (HBe.out.trans (hb.mono HBe.out.size))
            replace HBe := HBn
            clear HBn hb hS0
            have hS0 := HS.out u114 HBe.out
            refine ⟨hS0, ?_⟩
            simp only [List.setIfInBounds_toArray, List.set_cons_zero, List.set_cons_succ]
            refine heldA_take (i := 17) (v := .bool false) rfl rfl (by kernel_rfl) (by kernel_rfl) (by kernel_rfl) (fun _ _ _ h => h) (by rfl) (fun w hS => by obtain ⟨hS1, hS2, hS3, hS4, hS5, hS6, hS7, hS8, hS9, hS10, hS11, hS12⟩ := hS; go_simp) hS0 ?_
            simp only [List.setIfInBounds_toArray, List.set_cons_zero, List.set_cons_succ]
            refine heldA_take (i := 18) (v := .bool false) rfl rfl (by kernel_rfl) (by kernel_rfl) (by kernel_rfl) (fun _ _ _ h => h) (by rfl) (fun w hS => by obtain ⟨hS1, hS2, hS3, hS4, hS5, hS6, hS7, hS8, hS9, hS10, hS11, hS12⟩ := hS; go_simp) hS0 ?_
            simp only [List.setIfInBounds_toArray, List.set_cons_zero, List.set_cons_succ]
            refine wpAnyH_done (by kernel_rfl) ?_ _
            have HZ := Lib.hid (HR.out.next' (HB21.out.next' HBe.out))
            clear hS0 HBel HBe HS hsb hadd
            go_wp2_with fail
            go_roundw
            case rel => exact ⟨k + 1, by omega, by go_num, Lib.hid HZ.out⟩
            case measure => simp [intOf]; omega
    case neg =>
      have hC := check_raw _ h W8 (HHv.out W8 (Below.refl _ _))
      have HHok := Lib.hid hok
      obtain ⟨_, c1, c2, c3, _⟩ := HS8.out W8 (Below.refl _ _)
      clear hok
      go_upto_region 9 with fail
      go_wp2_with fail
      clear c0 c1 c2 c3
      refine hC.mono ?_
      rintro e w9 ⟨u9, rfl, hi, hb9⟩
      clear hC
      have hz : h.wrong.1 ≠ 0 := fun e => HHok.out (h.wrong_zero.1 e)
      rcases hi.form with ⟨_, h'⟩ | ⟨⟨ety, ev, rfl⟩, _⟩
      case inl => exact (hz h').elim
      clear hi hz
      have HB9 := Lib.hid hb9
      have HS := Lib.hid (show ∀ u, Below w9.heap.size w9 u → (u.cell? ⟨B8, 0, none⟩ = some (.int .i64 h.nodes) ∧ u.cell? ⟨B8, 1, none⟩ = some (vx) ∧ u.cell? ⟨B8, 2, none⟩ = some (vy) ∧ u.cell? ⟨B8, 3, none⟩ = some (va) ∧ u.cell? ⟨B9, 0, none⟩ = some (.int .i64 h.turned.nodes) ∧ u.cell? ⟨B9, 1, none⟩ = some (.slice txa h.turned.X.length txc) ∧ u.cell? ⟨B9, 2, none⟩ = some (.slice tya h.turned.Y.length tyc) ∧ u.cell? ⟨B9, 3, none⟩ = some (.slice tza h.turned.arcs.length tzc) ∧ u.cell? ⟨B10, 0, none⟩ = some (.int .i64 m.nodes) ∧ u.cell? ⟨B10, 1, none⟩ = some (.slice mxa m.X.length mxc) ∧ u.cell? ⟨B10, 2, none⟩ = some (.slice mya m.Y.length myc) ∧ u.cell? ⟨B10, 3, none⟩ = some (.slice mza m.arcs.length mzc)) from fun u hu => HS8.out u (HB9.out.next' hu))
      have HBel := Lib.hid (Below.refl w9.heap.size w9)
      clear hb9
      go_wp2_with fail
      refine wp_region_held (S := fun w' => w'.cell? ⟨B8, 0, none⟩ = some (.int .i64 h.nodes) ∧ w'.cell? ⟨B8, 1, none⟩ = some (vx) ∧ w'.cell? ⟨B8, 2, none⟩ = some (vy) ∧ w'.cell? ⟨B8, 3, none⟩ = some (va) ∧ w'.cell? ⟨B9, 0, none⟩ = some (.int .i64 h.turned.nodes) ∧ w'.cell? ⟨B9, 1, none⟩ = some (.slice txa h.turned.X.length txc) ∧ w'.cell? ⟨B9, 2, none⟩ = some (.slice tya h.turned.Y.length tyc) ∧ w'.cell? ⟨B9, 3, none⟩ = some (.slice tza h.turned.arcs.length tzc) ∧ w'.cell? ⟨B10, 0, none⟩ = some (.int .i64 m.nodes) ∧ w'.cell? ⟨B10, 1, none⟩ = some (.slice mxa m.X.length mxc) ∧ w'.cell? ⟨B10, 2, none⟩ = some (.slice mya m.Y.length myc) ∧ w'.cell? ⟨B10, 3, none⟩ = some (.slice mza m.arcs.length mzc)) rfl ?_
      have hS0 := HS.out w9.drew (HBel.out.drew)
      change wpAnyH _ _ _ _ _ 32 _ _ w9.drew
      have HBe := Lib.hid (HBel.out.drew)
      refine heldA_take (i := 0) (v := .agg #[.int .i64 h.turned.nodes, .slice txa h.turned.X.length txc, .slice tya h.turned.Y.length tyc, .slice tza h.turned.arcs.length tzc]) rfl rfl (by kernel_rfl) (by kernel_rfl) (by kernel_rfl) (fun _ _ _ h => h) (by rfl) (fun w hS => by obtain ⟨hS1, hS2, hS3, hS4, hS5, hS6, hS7, hS8, hS9, hS10, hS11, hS12⟩ := hS; go_simp) hS0 ?_
      simp only [List.setIfInBounds_toArray, List.set_cons_zero, List.set_cons_succ]
      refine heldA_take (i := 2) (v := .agg #[.int .i64 h.nodes, vx, vy, va]) rfl rfl (by kernel_rfl) (by kernel_rfl) (by kernel_rfl) (fun _ _ _ h => h) (by rfl) (fun w hS => by obtain ⟨hS1, hS2, hS3, hS4, hS5, hS6, hS7, hS8, hS9, hS10, hS11, hS12⟩ := hS; go_simp) hS0 ?_
      simp only [List.setIfInBounds_toArray, List.set_cons_zero, List.set_cons_succ]
      refine heldA_one (i := 1) (by kernel_rfl) ?_
      refine wpOp_calls (f := 24) rfl rfl (by rfl) (by go_simp) (turned_any (.agg #[.int .i64 h.turned.nodes, .slice txa h.turned.X.length txc, .slice tya h.turned.Y.length tyc, .slice tza h.turned.arcs.length tzc]) h.turned w9.drew (HTv.out _ (HB9.out.next' HBe.out)) HFt.out) ?_ (by rintro _ _ ⟨_, h, _⟩; cases h) (by rintro _ ⟨_, h, _⟩; cases h)
      rintro v43 u43 ⟨_, ⟨rfl⟩, hr, hb⟩
      have HBn := Lib.hid (HBe.out.trans (hb.mono HBe.out.size))
      rw [Raw.turned_twice] at hr
      have HR43 := Lib.hid hr.raw
      clear hr
      replace HBe := HBn
      clear HBn hb hS0
      have hS0 := HS.out u43 HBe.out
      refine ⟨hS0, ?_⟩
      simp only [List.setIfInBounds_toArray, List.set_cons_zero, List.set_cons_succ]
      refine heldA_one (i := 3) (by kernel_rfl) ?_
      refine wpOp_calls (f := 22) rfl rfl (by rfl) (by go_simp) (same_is v43 (.agg #[.int .i64 h.nodes, vx, vy, va]) h h true u43 HR43.out (HHv.out _ (HB9.out.next' HBe.out)) (same_self h)) ?_ (by rintro _ _ ⟨h, _⟩; cases h) (by rintro _ ⟨h, _⟩; cases h)
      rintro _ u45 ⟨⟨rfl⟩, hb⟩
      have HBn := Lib.hid (HBe.out.trans (hb.mono HBe.out.size))
      replace HBe := HBn
      clear HBn hb hS0
      have hS0 := HS.out u45 HBe.out
      refine ⟨hS0, ?_⟩
      simp only [List.setIfInBounds_toArray, List.set_cons_zero, List.set_cons_succ]
      refine heldA_take (i := 4) (v := .bool false) rfl rfl (by kernel_rfl) (by kernel_rfl) (by kernel_rfl) (fun _ _ _ h => h) (by rfl) (fun w hS => by obtain ⟨hS1, hS2, hS3, hS4, hS5, hS6, hS7, hS8, hS9, hS10, hS11, hS12⟩ := hS; go_simp) hS0 ?_
      simp only [List.setIfInBounds_toArray, List.set_cons_zero, List.set_cons_succ]
      refine heldA_take (i := 5) (v := .bool false) rfl rfl (by kernel_rfl) (by kernel_rfl) (by kernel_rfl) (fun _ _ _ h => h) (by rfl) (fun w hS => by obtain ⟨hS1, hS2, hS3, hS4, hS5, hS6, hS7, hS8, hS9, hS10, hS11, hS12⟩ := hS; go_simp) hS0 ?_
      simp only [List.setIfInBounds_toArray, List.set_cons_zero, List.set_cons_succ]
      refine heldA_take (i := 6) (v := .agg #[.int .i64 m.nodes, .slice mxa m.X.length mxc, .slice mya m.Y.length myc, .slice mza m.arcs.length mzc]) rfl rfl (by kernel_rfl) (by kernel_rfl) (by kernel_rfl) (fun _ _ _ h => h) (by rfl) (fun w hS => by obtain ⟨hS1, hS2, hS3, hS4, hS5, hS6, hS7, hS8, hS9, hS10, hS11, hS12⟩ := hS; go_simp) hS0 ?_
      simp only [List.setIfInBounds_toArray, List.set_cons_zero, List.set_cons_succ]
      refine heldA_take (i := 7) (v := .int .i64 bk) rfl rfl (by kernel_rfl) (by kernel_rfl) (by kernel_rfl) (fun _ _ _ h => h) (by rfl) (fun w hS => by obtain ⟨hS1, hS2, hS3, hS4, hS5, hS6, hS7, hS8, hS9, hS10, hS11, hS12⟩ := hS; go_simp) hS0 ?_
      simp only [List.setIfInBounds_toArray, List.set_cons_zero, List.set_cons_succ]
      refine heldA_take (i := 9) (v := .agg #[.int .i64 h.nodes, vx, vy, va]) rfl rfl (by kernel_rfl) (by kernel_rfl) (by kernel_rfl) (fun _ _ _ h => h) (by rfl) (fun w hS => by obtain ⟨hS1, hS2, hS3, hS4, hS5, hS6, hS7, hS8, hS9, hS10, hS11, hS12⟩ := hS; go_simp) hS0 ?_
      simp only [List.setIfInBounds_toArray, List.set_cons_zero, List.set_cons_succ]
      refine heldA_one (i := 8) (by kernel_rfl) ?_
      refine wpOp_calls (f := 26) rfl rfl (by rfl) (by go_simp) (moved_any (.agg #[.int .i64 m.nodes, .slice mxa m.X.length mxc, .slice mya m.Y.length myc, .slice mza m.arcs.length mzc]) m bk u45 (HMv.out _ (HB9.out.next' HBe.out)) HFm.out) ?_ (by rintro _ _ ⟨_, _, h, _⟩; cases h) (by rintro _ ⟨_, _, h, _⟩; cases h)
      rintro v50 u50 ⟨_, q50, ⟨rfl⟩, hr, hm1, hm2, hb⟩
      have HBn := Lib.hid (HBe.out.trans (hb.mono HBe.out.size))
      rw [HBack.out q50 hm1 hm2] at hr
      have HR50 := Lib.hid hr.raw
      clear hr hm1 hm2
      replace HBe := HBn
      clear HBn hb hS0
      have hS0 := HS.out u50 HBe.out
      refine ⟨hS0, ?_⟩
      simp only [List.setIfInBounds_toArray, List.set_cons_zero, List.set_cons_succ]
      refine heldA_one (i := 10) (by kernel_rfl) ?_
      refine wpOp_calls (f := 22) rfl rfl (by rfl) (by go_simp) (same_is v50 (.agg #[.int .i64 h.nodes, vx, vy, va]) h h true u50 HR50.out (HHv.out _ (HB9.out.next' HBe.out)) (same_self h)) ?_ (by rintro _ _ ⟨h, _⟩; cases h) (by rintro _ ⟨h, _⟩; cases h)
      rintro _ u52 ⟨⟨rfl⟩, hb⟩
      have HBn := Lib.hid (HBe.out.trans (hb.mono HBe.out.size))
      replace HBe := HBn
      clear HBn hb hS0
      have hS0 := HS.out u52 HBe.out
      refine ⟨hS0, ?_⟩
      simp only [List.setIfInBounds_toArray, List.set_cons_zero, List.set_cons_succ]
      refine heldA_take (i := 11) (v := .bool false) rfl rfl (by kernel_rfl) (by kernel_rfl) (by kernel_rfl) (fun _ _ _ h => h) (by rfl) (fun w hS => by obtain ⟨hS1, hS2, hS3, hS4, hS5, hS6, hS7, hS8, hS9, hS10, hS11, hS12⟩ := hS; go_simp) hS0 ?_
      simp only [List.setIfInBounds_toArray, List.set_cons_zero, List.set_cons_succ]
      refine heldA_take (i := 12) (v := .bool false) rfl rfl (by kernel_rfl) (by kernel_rfl) (by kernel_rfl) (fun _ _ _ h => h) (by rfl) (fun w hS => by obtain ⟨hS1, hS2, hS3, hS4, hS5, hS6, hS7, hS8, hS9, hS10, hS11, hS12⟩ := hS; go_simp) hS0 ?_
      simp only [List.setIfInBounds_toArray, List.set_cons_zero, List.set_cons_succ]
      refine heldA_take (i := 13) (v := .bool false) rfl rfl (by kernel_rfl) (by kernel_rfl) (by kernel_rfl) (fun _ _ _ h => h) (by rfl) (fun w hS => by obtain ⟨hS1, hS2, hS3, hS4, hS5, hS6, hS7, hS8, hS9, hS10, hS11, hS12⟩ := hS; go_simp) hS0 ?_
      simp only [List.setIfInBounds_toArray, List.set_cons_zero, List.set_cons_succ]
      refine heldA_take (i := 14) (v := .bool false) rfl rfl (by kernel_rfl) (by kernel_rfl) (by kernel_rfl) (fun _ _ _ h => h) (by rfl) (fun w hS => by obtain ⟨hS1, hS2, hS3, hS4, hS5, hS6, hS7, hS8, hS9, hS10, hS11, hS12⟩ := hS; go_simp) hS0 ?_
      simp only [List.setIfInBounds_toArray, List.set_cons_zero, List.set_cons_succ]
      refine heldA_take (i := 15) (v := .bool false) rfl rfl (by kernel_rfl) (by kernel_rfl) (by kernel_rfl) (fun _ _ _ h => h) (by rfl) (fun w hS => by obtain ⟨hS1, hS2, hS3, hS4, hS5, hS6, hS7, hS8, hS9, hS10, hS11, hS12⟩ := hS; go_simp) hS0 ?_
      simp only [List.setIfInBounds_toArray, List.set_cons_zero, List.set_cons_succ]
      refine heldA_skip (i := 16) rfl rfl (by kernel_rfl) (by kernel_rfl) (by kernel_rfl) (fun _ _ _ h => h) (by rfl) hS0 ?_
      simp only [List.setIfInBounds_toArray, List.set_cons_zero, List.set_cons_succ]
      refine heldA_skip (i := 17) rfl rfl (by kernel_rfl) (by kernel_rfl) (by kernel_rfl) (fun _ _ _ h => h) (by rfl) hS0 ?_
      simp only [List.setIfInBounds_toArray, List.set_cons_zero, List.set_cons_succ]
      refine heldA_skip (i := 18) rfl rfl (by kernel_rfl) (by kernel_rfl) (by kernel_rfl) (fun _ _ _ h => h) (by rfl) hS0 ?_
      simp only [List.setIfInBounds_toArray, List.set_cons_zero, List.set_cons_succ]
      refine heldA_skip (i := 19) rfl rfl (by kernel_rfl) (by kernel_rfl) (by kernel_rfl) (fun _ _ _ h => h) (by rfl) hS0 ?_
      simp only [List.setIfInBounds_toArray, List.set_cons_zero, List.set_cons_succ]
      refine heldA_skip (i := 20) rfl rfl (by kernel_rfl) (by kernel_rfl) (by kernel_rfl) (fun _ _ _ h => h) (by rfl) hS0 ?_
      simp only [List.setIfInBounds_toArray, List.set_cons_zero, List.set_cons_succ]
      refine heldA_skip (i := 21) rfl rfl (by kernel_rfl) (by kernel_rfl) (by kernel_rfl) (fun _ _ _ h => h) (by rfl) hS0 ?_
      simp only [List.setIfInBounds_toArray, List.set_cons_zero, List.set_cons_succ]
      refine heldA_skip (i := 22) rfl rfl (by kernel_rfl) (by kernel_rfl) (by kernel_rfl) (fun _ _ _ h => h) (by rfl) hS0 ?_
      simp only [List.setIfInBounds_toArray, List.set_cons_zero, List.set_cons_succ]
      refine heldA_skip (i := 23) rfl rfl (by kernel_rfl) (by kernel_rfl) (by kernel_rfl) (fun _ _ _ h => h) (by rfl) hS0 ?_
      simp only [List.setIfInBounds_toArray, List.set_cons_zero, List.set_cons_succ]
      refine heldA_take (i := 24) (v := .bool false) rfl rfl (by kernel_rfl) (by kernel_rfl) (by kernel_rfl) (fun _ _ _ h => h) (by rfl) (fun w hS => by obtain ⟨hS1, hS2, hS3, hS4, hS5, hS6, hS7, hS8, hS9, hS10, hS11, hS12⟩ := hS; go_simp) hS0 ?_
      simp only [List.setIfInBounds_toArray, List.set_cons_zero, List.set_cons_succ]
      refine heldA_take (i := 25) (v := .bool false) rfl rfl (by kernel_rfl) (by kernel_rfl) (by kernel_rfl) (fun _ _ _ h => h) (by rfl) (fun w hS => by obtain ⟨hS1, hS2, hS3, hS4, hS5, hS6, hS7, hS8, hS9, hS10, hS11, hS12⟩ := hS; go_simp) hS0 ?_
      simp only [List.setIfInBounds_toArray, List.set_cons_zero, List.set_cons_succ]
      refine heldA_take (i := 26) (v := .bool false) rfl rfl (by kernel_rfl) (by kernel_rfl) (by kernel_rfl) (fun _ _ _ h => h) (by rfl) (fun w hS => by obtain ⟨hS1, hS2, hS3, hS4, hS5, hS6, hS7, hS8, hS9, hS10, hS11, hS12⟩ := hS; go_simp) hS0 ?_
      simp only [List.setIfInBounds_toArray, List.set_cons_zero, List.set_cons_succ]
      refine heldA_take (i := 27) (v := .agg #[.int .i64 h.nodes, vx, vy, va]) rfl rfl (by kernel_rfl) (by kernel_rfl) (by kernel_rfl) (fun _ _ _ h => h) (by rfl) (fun w hS => by obtain ⟨hS1, hS2, hS3, hS4, hS5, hS6, hS7, hS8, hS9, hS10, hS11, hS12⟩ := hS; go_simp) hS0 ?_
      simp only [List.setIfInBounds_toArray, List.set_cons_zero, List.set_cons_succ]
      refine heldA_take (i := 28) (v := .agg #[.int .i64 h.nodes, vx, vy, va]) rfl rfl (by kernel_rfl) (by kernel_rfl) (by kernel_rfl) (fun _ _ _ h => h) (by rfl) (fun w hS => by obtain ⟨hS1, hS2, hS3, hS4, hS5, hS6, hS7, hS8, hS9, hS10, hS11, hS12⟩ := hS; go_simp) hS0 ?_
      simp only [List.setIfInBounds_toArray, List.set_cons_zero, List.set_cons_succ]
      refine heldA_one (i := 29) (by kernel_rfl) ?_
      refine wpOp_calls (f := 22) rfl rfl (by rfl) (by go_simp) (same_is (.agg #[.int .i64 h.nodes, vx, vy, va]) (.agg #[.int .i64 h.nodes, vx, vy, va]) h h true u52 (HHv.out _ (HB9.out.next' HBe.out)) (HHv.out _ (HB9.out.next' HBe.out)) (same_self h)) ?_ (by rintro _ _ ⟨h, _⟩; cases h) (by rintro _ ⟨h, _⟩; cases h)
      rintro _ u71 ⟨⟨rfl⟩, hb⟩
      have HBn := Lib.hid (HBe.out.trans (hb.mono HBe.out.size))
      replace HBe := HBn
      clear HBn hb hS0
      have hS0 := HS.out u71 HBe.out
      refine ⟨hS0, ?_⟩
      simp only [List.setIfInBounds_toArray, List.set_cons_zero, List.set_cons_succ]
      refine heldA_take (i := 30) (v := .bool false) rfl rfl (by kernel_rfl) (by kernel_rfl) (by kernel_rfl) (fun _ _ _ h => h) (by rfl) (fun w hS => by obtain ⟨hS1, hS2, hS3, hS4, hS5, hS6, hS7, hS8, hS9, hS10, hS11, hS12⟩ := hS; go_simp) hS0 ?_
      simp only [List.setIfInBounds_toArray, List.set_cons_zero, List.set_cons_succ]
      refine heldA_take (i := 31) (v := .bool false) rfl rfl (by kernel_rfl) (by kernel_rfl) (by kernel_rfl) (fun _ _ _ h => h) (by rfl) (fun w hS => by obtain ⟨hS1, hS2, hS3, hS4, hS5, hS6, hS7, hS8, hS9, hS10, hS11, hS12⟩ := hS; go_simp) hS0 ?_
      simp only [List.setIfInBounds_toArray, List.set_cons_zero, List.set_cons_succ]
      refine wpAnyH_done (by kernel_rfl) ?_ _
      have HBz := Lib.hid (HB9.out.next' HBe.out)
      obtain ⟨c0, c1, c2, c3, _⟩ := HS8.out u71 HBz.out
      clear hS0 HBel HBe HS HB9
      go_wp2_with fail
      clear c0 c1 c2 c3
      refine (turned_any (.agg #[.int .i64 h.nodes, vx, vy, va]) h u71 (HHv.out _ HBz.out) HFew.out).mono ?_
      rintro e w11 ⟨v11, rfl, hr11, hb11⟩
      obtain ⟨_, _, _, rfl, hOs⟩ := id hr11
      have hOs : Own3 _ _ _ _ _ _ := hOs
      obtain ⟨sxa, sxc, rfl, _⟩ := ownForm hOs.1
      obtain ⟨sya, syc, rfl, _⟩ := ownForm hOs.2.1
      obtain ⟨sza, szc, rfl, _⟩ := ownForm hOs.2.2.1
      obtain ⟨B13, hB13⟩ : ∃ b, b = w11.heap.size := ⟨_, rfl⟩
      obtain ⟨W12, hW12⟩ : ∃ u, u = w11.alloc (.cells #[.int .i64 h.turned.nodes, .slice sxa h.turned.X.length sxc, .slice sya h.turned.Y.length syc, .slice sza h.turned.arcs.length szc] 25) := ⟨_, rfl⟩
      have hb12 : Below w11.heap.size w11 W12 := by rw [hW12]; exact (Below.refl _ _).alloc (Nat.le_refl _) _
      have K13 : Blk W12 B13 #[.int .i64 h.turned.nodes, .slice sxa h.turned.X.length sxc, .slice sya h.turned.Y.length syc, .slice sza h.turned.arcs.length szc] 25 (0, 0) := by rw [hW12, hB13]; exact Blk.new _ _ _ _
      have hb8 := (HBz.out.next' hb11).next' hb12
      have hbc := HEnd.out.2.2.2.2.next' hb8
      have hK9 := HEnd.out.1.below hb8 HEnd.out.1.lt
      have hOT := HEnd.out.2.2.1.below hb8
      have hlt : ∀ {e : TypeId} {size : Nat} {x : Value} {n : Nat} {xs : List Value}, W8.ownsRow wc.heap.size e size x n xs → ∀ k, x.ownBlock = some k → k < u71.heap.size := fun hr k hk => Nat.lt_of_lt_of_le (ownsRow_blk' hr hk).2.choose_spec.lt HBz.out.size
      have HLt := Lib.hid (show (∀ k, (Value.slice txa h.turned.X.length txc).ownBlock = some k → k < u71.heap.size) ∧ (∀ k, (Value.slice tza h.turned.arcs.length tzc).ownBlock = some k → k < u71.heap.size) from ⟨hlt HEnd.out.2.2.1.1, hlt HEnd.out.2.2.1.2.2.1⟩)
      have HO12 := Lib.hid (show OutI wc B9 (.slice txa h.turned.X.length txc) (.slice tya h.turned.Y.length tyc) (.slice tza h.turned.arcs.length tzc) h.turned W12 from ⟨hK9, hOT, ⟨hbc.os, hbc.tape, hbc.output, hbc.size, fun k hk _ => hbc.block k hk⟩⟩)
      have HS12 := Lib.hid (hr11.below hb12); have HK13 := Lib.hid K13; have HK8' := Lib.hid (HK8.out.below hbc HK8.out.lt)
      have HW12 := Lib.hid hW12; have HE13 := Lib.hid hB13; have HL9 := Lib.hid (show wc.heap.size ≤ B9 from HF5.out.2)
      clear hr11 hb11 hOs hW12 hB13 hb12 K13 hb8 hbc hK9 hOT hlt
      go_wp2_with fail
      rw [← HW12.out, ← HE13.out]
      clear HW12 HE13
      obtain ⟨N, hN⟩ : ∃ N, N = h.turned.X.length := ⟨_, rfl⟩
      obtain ⟨M, hM⟩ : ∃ M, M = h.turned.arcs.length := ⟨_, rfl⟩
      have HN := Lib.hid hN; have HM := Lib.hid hM
      have hNb : N ≤ 60 := by rw [hN]; exact HLh.out.1
      have hMb : M ≤ 60 := by rw [hM]; show (h.arcs.map turnA).length ≤ 60; rw [List.length_map]; exact HLh.out.2.2
      rw [← hN, ← hM] at HO12 HLt HK13
      rw [← hN] at HTx
      rw [← hM] at HTz
      rw [← hN, ← hM]
      clear hN hM
      have hwN : ∀ j : Nat, j < 60 → IntKind.i64.wrap ((j : Int) + 1) = ((j + 1 : Nat) : Int) := fun j hj => by rw [IntKind.wrap_i64]; omega
      have HwN := Lib.hid hwN
      clear hwN
      go_loopw [14] (fun i wr => ∃ j : Nat, j ≤ N ∧ i = .int .i64 j ∧ Hid (OutI wc B9 (.slice txa N txc) (.slice tya h.turned.Y.length tyc) (.slice tza M tzc) { h.turned with X := (h.turned.X.take j).map bumpX ++ h.turned.X.drop j } wr ∧ Kept (fun k => (Value.slice txa N txc).ownBlock = some k ∨ (Value.slice tza M tzc).ownBlock = some k) W12 wr)) (fun i _ => N - (intOf i).toNat)
      case atStart =>
        exact ⟨0, by omega, rfl, Lib.hid ⟨HO12.out, Kept.refl _ _⟩⟩
      obtain ⟨j, hj, rfl, hrel⟩ := hrel
      have HO := Lib.hid hrel.out.1; have HKj := Lib.hid hrel.out.2
      clear hrel
      have o1 := HO.out.blk.cell 1
      change wr.cell? ⟨B9, 1, none⟩ = some (.slice txa N txc) at o1
      by_cases hjn : j < N
      case pos =>
        obtain ⟨gx, rfl⟩ := HTx.out (by omega)
        have hlen : ((h.turned.X.take j).map bumpX ++ h.turned.X.drop j).length = N := by rw [bump_len]; exact HN.out.symm
        have hjX : j < h.turned.X.length := by rw [← HN.out]; exact hjn
        have hown := HO.out.own.1
        dsimp only at hown
        rw [hlen] at hown
        obtain ⟨b0, off, e0, hcell⟩ := (slX_own hlen hown).at j (by rw [hlen]; exact hjn)
        obtain ⟨rfl, rfl⟩ : gx = b0 ∧ 0 = off := by simpa using e0
        rw [Nat.zero_add, bump_at bumpX _ _ hjX] at hcell
        obtain ⟨xj, hxj⟩ : ∃ x, x = h.turned.X[j] := ⟨_, rfl⟩
        have hI := HO.out.setX hlen j (by dsimp only; rw [hlen]; exact hjn) (bumpX xj)
        have hff := (HO.out.cellX hlen j hjn).2
        dsimp only at hI
        rw [hxj, bump_step bumpX _ _ hjX] at hI
        rw [← hxj] at hI hcell
        obtain ⟨yj, hyj⟩ : ∃ y, y = bumpX xj := ⟨_, rfl⟩
        have hy2 : IntKind.i64.wrap (xj + 1) = yj := hyj.symm
        rw [← hyj] at hI
        have hKn := HKj.out.setCell (p := ⟨gx, j, none⟩) (Or.inl rfl) (.int .i64 yj)
        have HI := Lib.hid hI; have HKn := Lib.hid hKn
        have hj0 : (0 : Int) ≤ (j : Int) := by omega
        have hj1 : (j : Int) < (N : Int) := by omega
        have hj2 := HwN.out j (by omega)
        clear hI hKn hown e0 hlen hxj hyj
        go_wp2_with fail
        go_roundw
        case rel => exact ⟨j + 1, by omega, by go_num, Lib.hid ⟨HI.out, HKn.out⟩⟩
        case measure => simp [intOf]; omega
      case neg =>
        obtain rfl : N = j := by omega
        have eX : (h.turned.X.take N).map bumpX ++ h.turned.X.drop N = h.turned.X.map bumpX := by rw [HN.out, List.take_length, List.drop_length, List.append_nil]
        rw [eX] at HO
        clear eX
        go_wp2_with fail
        clear o1
        go_loopw [15] (fun i wr => ∃ j : Nat, j ≤ M ∧ i = .int .i64 j ∧ Hid (OutI wc B9 (.slice txa N txc) (.slice tya h.turned.Y.length tyc) (.slice tza M tzc) { h.turned with X := h.turned.X.map bumpX, arcs := (h.turned.arcs.take j).map bumpA ++ h.turned.arcs.drop j } wr ∧ Kept (fun k => (Value.slice txa N txc).ownBlock = some k ∨ (Value.slice tza M tzc).ownBlock = some k) W12 wr)) (fun i _ => M - (intOf i).toNat)
        case atStart =>
          exact ⟨0, by omega, rfl, Lib.hid ⟨HO.out, HKj.out⟩⟩
        clear HO HKj
        obtain ⟨j, hj, rfl, hrel⟩ := hrel
        have HO := Lib.hid hrel.out.1; have HKj := Lib.hid hrel.out.2
        clear hrel
        have o3 := HO.out.blk.cell 3
        change wr.cell? ⟨B9, 3, none⟩ = some (.slice tza M tzc) at o3
        by_cases hjn : j < M
        case pos =>
          obtain ⟨ga, rfl⟩ := HTz.out (by omega)
          have hlen : ((h.turned.arcs.take j).map bumpA ++ h.turned.arcs.drop j).length = M := by rw [bump_len]; exact HM.out.symm
          have hjA : j < h.turned.arcs.length := by rw [← HM.out]; exact hjn
          have hown := HO.out.own.2.2.1
          dsimp only at hown
          rw [hlen] at hown
          obtain ⟨b0, off, e0, hd0, hd1, hcell⟩ := (slA_own hlen hown).at j (by rw [hlen]; exact hjn)
          obtain ⟨rfl, rfl⟩ : ga = b0 ∧ 0 = off := by simpa using e0
          rw [Nat.zero_add, bump_at bumpA _ _ hjA] at hcell
          have hjl : j < ((h.turned.arcs.take j).map bumpA ++ h.turned.arcs.drop j).length := by rw [hlen]; exact hjn
          have hI := HO.out.setA hlen j 2 hjl (by omega) (bumpA h.turned.arcs[j]).2.2 (o := j * 3 + 2) rfl
          have hff := (HO.out.cellA hlen j 2 hjl (by omega)).2
          dsimp only at hI
          rw [bump_at bumpA _ _ hjA, show setArc 2 (bumpA h.turned.arcs[j]).2.2 h.turned.arcs[j] = bumpA h.turned.arcs[j] from rfl, bump_step bumpA _ _ hjA] at hI
          obtain ⟨xj, hxj⟩ : ∃ x, x = h.turned.arcs[j].2.2 := ⟨_, rfl⟩
          rw [← hxj] at hcell
          obtain ⟨yj, hyj⟩ : ∃ y, y = (bumpA h.turned.arcs[j]).2.2 := ⟨_, rfl⟩
          have hy2 : IntKind.i64.wrap (xj + 1) = yj := by rw [hyj, hxj]; rfl
          rw [← hyj] at hI
          have hKn := HKj.out.setCell (p := ⟨ga, j * 3 + 2, none⟩) (Or.inr rfl) (.int .i64 yj)
          have HI := Lib.hid hI; have HKn := Lib.hid hKn
          have hj0 : (0 : Int) ≤ (j : Int) := by omega
          have hj1 : (j : Int) < (M : Int) := by omega
          have hj2 := HwN.out j (by omega)
          clear hd0 hd1 hI hKn hown e0 hlen hxj hyj hjl
          go_wp2_with fail
          go_roundw
          case rel => exact ⟨j + 1, by omega, by go_num, Lib.hid ⟨HI.out, HKn.out⟩⟩
          case measure => simp [intOf]; omega
        case neg =>
          obtain rfl : M = j := by omega
          have eA : (h.turned.arcs.take M).map bumpA ++ h.turned.arcs.drop M = h.turned.arcs.map bumpA := by rw [HM.out, List.take_length, List.drop_length, List.append_nil]
          rw [eA] at HO
          clear eA
          have hb21 : Below wc.heap.size wc wr := below_of (Below.refl _ _) HO.out.kept HL9.out
          have hn8 : ¬ (fun k => (Value.slice txa N txc).ownBlock = some k ∨ (Value.slice tza M tzc).ownBlock = some k) B8 := fun e => e.elim (ownDiff HO12.out.own.1 HK8'.out (by decide)) (ownDiff HO12.out.own.2.2.1 HK8'.out (by decide))
          have hn13 : ¬ (fun k => (Value.slice txa N txc).ownBlock = some k ∨ (Value.slice tza M tzc).ownBlock = some k) B13 := fun e => e.elim (ownDiff HO12.out.own.1 HK13.out (by decide)) (ownDiff HO12.out.own.2.2.1 HK13.out (by decide))
          have k8 := HKj.out.blk HK8'.out hn8
          have k13 := HKj.out.blk HK13.out hn13
          have hS21 := HS12.out.kept HKj.out (fun k hk e => e.elim (fun e => by have := HLt.out.1 k e; omega) (fun e => by have := HLt.out.2 k e; omega))
          have HB21 := Lib.hid hb21; have HK8z := Lib.hid k8; have HK13z := Lib.hid k13; have HS21 := Lib.hid hS21.raw; have HO21 := Lib.hid HO.out
          clear hb21 hn8 hn13 k8 k13 hS21 HO HKj HO12
          have HS := Lib.hid (show ∀ u, Below wr.heap.size wr u → (u.cell? ⟨B8, 0, none⟩ = some (.int .i64 h.nodes) ∧ u.cell? ⟨B8, 1, none⟩ = some (vx) ∧ u.cell? ⟨B8, 2, none⟩ = some (vy) ∧ u.cell? ⟨B8, 3, none⟩ = some (va) ∧ u.cell? ⟨B9, 0, none⟩ = some (.int .i64 h.turned.nodes) ∧ u.cell? ⟨B9, 1, none⟩ = some (.slice txa N txc) ∧ u.cell? ⟨B9, 2, none⟩ = some (.slice tya h.turned.Y.length tyc) ∧ u.cell? ⟨B9, 3, none⟩ = some (.slice tza M tzc) ∧ u.cell? ⟨B13, 0, none⟩ = some (.int .i64 h.turned.nodes) ∧ u.cell? ⟨B13, 1, none⟩ = some (.slice sxa N sxc) ∧ u.cell? ⟨B13, 2, none⟩ = some (.slice sya h.turned.Y.length syc) ∧ u.cell? ⟨B13, 3, none⟩ = some (.slice sza M szc)) from fun u hu => by
            have k8 := HK8z.out.below hu HK8z.out.lt; have k9 := HO21.out.blk.below hu HO21.out.blk.lt; have k13 := HK13z.out.below hu HK13z.out.lt
            exact ⟨k8.cell 0, k8.cell 1, k8.cell 2, k8.cell 3, k9.cell 0, k9.cell 1, k9.cell 2, k9.cell 3, k13.cell 0, k13.cell 1, k13.cell 2, k13.cell 3⟩)
          have HHz := Lib.hid (show ∀ u, Below wr.heap.size wr u → RawV u (.agg #[.int .i64 h.nodes, vx, vy, va]) h from fun u hu => HVh.out.below (HB21.out.next' hu))
          have HTz2 := Lib.hid (show ∀ u, Below wr.heap.size wr u → RawV u (.agg #[.int .i64 h.turned.nodes, .slice txa N txc, .slice tya h.turned.Y.length tyc, .slice tza M tzc]) h.turned.bumped from fun u hu => RawV.below (RawO.raw HO21.out.raw) hu)
          have HSz := Lib.hid (show ∀ u, Below wr.heap.size wr u → RawV u (.agg #[.int .i64 h.turned.nodes, .slice sxa N sxc, .slice sya h.turned.Y.length syc, .slice sza M szc]) h.turned from fun u hu => by rw [HN.out, HM.out]; exact HS21.out.below hu)
          obtain ⟨NS, hNS⟩ : ∃ q : Nat, q = N + M := ⟨_, rfl⟩
          have hadd : IntKind.i64.wrap ((N : Int) + (M : Int)) = (NS : Int) := by rw [IntKind.wrap_i64]; omega
          have HSum := Lib.hid (show decide (h.turned.X.length + h.turned.arcs.length = 0) = decide (NS = 0) from by rw [← HN.out, ← HM.out, hNS])
          have HBel := Lib.hid (Below.refl wr.heap.size wr)
          clear hNS
          by_cases hNS0 : NS = 0
          case pos =>
            have hsb : ((NS : Int) == 0) = true := by simpa using hNS0
            have HSb := Lib.hid (show sameB h.turned.bumped h.turned = true from by rw [bumped_same, HSum.out]; simpa using hNS0)
            clear hNS0
            go_wp2_with fail
            clear o3
            refine wp_region_held (S := fun w' => w'.cell? ⟨B8, 0, none⟩ = some (.int .i64 h.nodes) ∧ w'.cell? ⟨B8, 1, none⟩ = some (vx) ∧ w'.cell? ⟨B8, 2, none⟩ = some (vy) ∧ w'.cell? ⟨B8, 3, none⟩ = some (va) ∧ w'.cell? ⟨B9, 0, none⟩ = some (.int .i64 h.turned.nodes) ∧ w'.cell? ⟨B9, 1, none⟩ = some (.slice txa N txc) ∧ w'.cell? ⟨B9, 2, none⟩ = some (.slice tya h.turned.Y.length tyc) ∧ w'.cell? ⟨B9, 3, none⟩ = some (.slice tza M tzc) ∧ w'.cell? ⟨B13, 0, none⟩ = some (.int .i64 h.turned.nodes) ∧ w'.cell? ⟨B13, 1, none⟩ = some (.slice sxa N sxc) ∧ w'.cell? ⟨B13, 2, none⟩ = some (.slice sya h.turned.Y.length syc) ∧ w'.cell? ⟨B13, 3, none⟩ = some (.slice sza M szc)) rfl ?_
            have hS0 := HS.out wr.drew (HBel.out.drew)
            change wpAnyH _ _ _ _ _ 19 _ _ wr.drew
            have HBe := Lib.hid (HBel.out.drew)
            refine heldA_take (i := 0) (v := .agg #[.int .i64 h.nodes, vx, vy, va]) rfl rfl (by kernel_rfl) (by kernel_rfl) (by kernel_rfl) (fun _ _ _ h => h) (by rfl) (fun w hS => by obtain ⟨hS1, hS2, hS3, hS4, hS5, hS6, hS7, hS8, hS9, hS10, hS11, hS12⟩ := hS; go_simp) hS0 ?_
            simp only [List.setIfInBounds_toArray, List.set_cons_zero, List.set_cons_succ]
            refine heldA_take (i := 2) (v := .agg #[.int .i64 h.turned.nodes, .slice sxa N sxc, .slice sya h.turned.Y.length syc, .slice sza M szc]) rfl rfl (by kernel_rfl) (by kernel_rfl) (by kernel_rfl) (fun _ _ _ h => h) (by rfl) (fun w hS => by obtain ⟨hS1, hS2, hS3, hS4, hS5, hS6, hS7, hS8, hS9, hS10, hS11, hS12⟩ := hS; go_simp) hS0 ?_
            simp only [List.setIfInBounds_toArray, List.set_cons_zero, List.set_cons_succ]
            refine heldA_one (i := 1) (by kernel_rfl) ?_
            refine wpOp_calls (f := 24) rfl rfl (by rfl) (by go_simp) (turned_any (.agg #[.int .i64 h.nodes, vx, vy, va]) h wr.drew (HHz.out _ HBe.out) HFew.out) ?_ (by rintro _ _ ⟨_, h, _⟩; cases h) (by rintro _ ⟨_, h, _⟩; cases h)
            rintro v107 u107 ⟨_, ⟨rfl⟩, hr, hb⟩
            have HBn := Lib.hid (HBe.out.trans (hb.mono HBe.out.size))
            have HR107 := Lib.hid hr.raw
            clear hr
            replace HBe := HBn
            clear HBn hb hS0
            have hS0 := HS.out u107 HBe.out
            refine ⟨hS0, ?_⟩
            simp only [List.setIfInBounds_toArray, List.set_cons_zero, List.set_cons_succ]
            refine heldA_one (i := 3) (by kernel_rfl) ?_
            refine wpOp_calls (f := 22) rfl rfl (by rfl) (by go_simp) (same_is v107 (.agg #[.int .i64 h.turned.nodes, .slice sxa N sxc, .slice sya h.turned.Y.length syc, .slice sza M szc]) h.turned h.turned true u107 HR107.out (HSz.out _ HBe.out) (same_self h.turned)) ?_ (by rintro _ _ ⟨h, _⟩; cases h) (by rintro _ ⟨h, _⟩; cases h)
            rintro _ u109 ⟨⟨rfl⟩, hb⟩
            have HBn := Lib.hid (HBe.out.trans (hb.mono HBe.out.size))
            replace HBe := HBn
            clear HBn hb hS0
            have hS0 := HS.out u109 HBe.out
            refine ⟨hS0, ?_⟩
            simp only [List.setIfInBounds_toArray, List.set_cons_zero, List.set_cons_succ]
            refine heldA_take (i := 4) (v := .bool false) rfl rfl (by kernel_rfl) (by kernel_rfl) (by kernel_rfl) (fun _ _ _ h => h) (by rfl) (fun w hS => by obtain ⟨hS1, hS2, hS3, hS4, hS5, hS6, hS7, hS8, hS9, hS10, hS11, hS12⟩ := hS; go_simp) hS0 ?_
            simp only [List.setIfInBounds_toArray, List.set_cons_zero, List.set_cons_succ]
            refine heldA_take (i := 5) (v := .bool false) rfl rfl (by kernel_rfl) (by kernel_rfl) (by kernel_rfl) (fun _ _ _ h => h) (by rfl) (fun w hS => by obtain ⟨hS1, hS2, hS3, hS4, hS5, hS6, hS7, hS8, hS9, hS10, hS11, hS12⟩ := hS; go_simp) hS0 ?_
            simp only [List.setIfInBounds_toArray, List.set_cons_zero, List.set_cons_succ]
            refine heldA_take (i := 6) (v := .agg #[.int .i64 h.turned.nodes, .slice txa N txc, .slice tya h.turned.Y.length tyc, .slice tza M tzc]) rfl rfl (by kernel_rfl) (by kernel_rfl) (by kernel_rfl) (fun _ _ _ h => h) (by rfl) (fun w hS => by obtain ⟨hS1, hS2, hS3, hS4, hS5, hS6, hS7, hS8, hS9, hS10, hS11, hS12⟩ := hS; go_simp) hS0 ?_
            simp only [List.setIfInBounds_toArray, List.set_cons_zero, List.set_cons_succ]
            refine heldA_take (i := 7) (v := .agg #[.int .i64 h.turned.nodes, .slice sxa N sxc, .slice sya h.turned.Y.length syc, .slice sza M szc]) rfl rfl (by kernel_rfl) (by kernel_rfl) (by kernel_rfl) (fun _ _ _ h => h) (by rfl) (fun w hS => by obtain ⟨hS1, hS2, hS3, hS4, hS5, hS6, hS7, hS8, hS9, hS10, hS11, hS12⟩ := hS; go_simp) hS0 ?_
            simp only [List.setIfInBounds_toArray, List.set_cons_zero, List.set_cons_succ]
            refine heldA_take (i := 9) (v := .pointer (some ⟨B9, 1, none⟩)) rfl rfl (by kernel_rfl) (by kernel_rfl) (by kernel_rfl) (fun _ _ _ h => h) (by rfl) (fun w hS => by obtain ⟨hS1, hS2, hS3, hS4, hS5, hS6, hS7, hS8, hS9, hS10, hS11, hS12⟩ := hS; go_simp) hS0 ?_
            simp only [List.setIfInBounds_toArray, List.set_cons_zero, List.set_cons_succ]
            refine heldA_take (i := 10) (v := .slice txa N txc) rfl rfl (by kernel_rfl) (by kernel_rfl) (by kernel_rfl) (fun _ _ _ h => h) (by rfl) (fun w hS => by obtain ⟨hS1, hS2, hS3, hS4, hS5, hS6, hS7, hS8, hS9, hS10, hS11, hS12⟩ := hS; go_simp) hS0 ?_
            simp only [List.setIfInBounds_toArray, List.set_cons_zero, List.set_cons_succ]
            refine heldA_take (i := 11) (v := .int .i64 (N : Nat)) rfl rfl (by kernel_rfl) (by kernel_rfl) (by kernel_rfl) (fun _ _ _ h => h) (by rfl) (fun w hS => by obtain ⟨hS1, hS2, hS3, hS4, hS5, hS6, hS7, hS8, hS9, hS10, hS11, hS12⟩ := hS; go_simp) hS0 ?_
            simp only [List.setIfInBounds_toArray, List.set_cons_zero, List.set_cons_succ]
            refine heldA_take (i := 12) (v := .pointer (some ⟨B9, 3, none⟩)) rfl rfl (by kernel_rfl) (by kernel_rfl) (by kernel_rfl) (fun _ _ _ h => h) (by rfl) (fun w hS => by obtain ⟨hS1, hS2, hS3, hS4, hS5, hS6, hS7, hS8, hS9, hS10, hS11, hS12⟩ := hS; go_simp) hS0 ?_
            simp only [List.setIfInBounds_toArray, List.set_cons_zero, List.set_cons_succ]
            refine heldA_take (i := 13) (v := .slice tza M tzc) rfl rfl (by kernel_rfl) (by kernel_rfl) (by kernel_rfl) (fun _ _ _ h => h) (by rfl) (fun w hS => by obtain ⟨hS1, hS2, hS3, hS4, hS5, hS6, hS7, hS8, hS9, hS10, hS11, hS12⟩ := hS; go_simp) hS0 ?_
            simp only [List.setIfInBounds_toArray, List.set_cons_zero, List.set_cons_succ]
            refine heldA_take (i := 14) (v := .int .i64 (M : Nat)) rfl rfl (by kernel_rfl) (by kernel_rfl) (by kernel_rfl) (fun _ _ _ h => h) (by rfl) (fun w hS => by obtain ⟨hS1, hS2, hS3, hS4, hS5, hS6, hS7, hS8, hS9, hS10, hS11, hS12⟩ := hS; go_simp) hS0 ?_
            simp only [List.setIfInBounds_toArray, List.set_cons_zero, List.set_cons_succ]
            refine heldA_take (i := 15) (v := .int .i64 (NS : Nat)) rfl rfl (by kernel_rfl) (by kernel_rfl) (by kernel_rfl) (fun _ _ _ h => h) (by rfl) (fun w hS => by obtain ⟨hS1, hS2, hS3, hS4, hS5, hS6, hS7, hS8, hS9, hS10, hS11, hS12⟩ := hS; go_simp) hS0 ?_
            simp only [List.setIfInBounds_toArray, List.set_cons_zero, List.set_cons_succ]
            refine heldA_take (i := 16) (v := .bool true) rfl rfl (by kernel_rfl) (by kernel_rfl) (by kernel_rfl) (fun _ _ _ h => h) (by rfl) (fun w hS => by obtain ⟨hS1, hS2, hS3, hS4, hS5, hS6, hS7, hS8, hS9, hS10, hS11, hS12⟩ := hS; go_simp) hS0 ?_
            simp only [List.setIfInBounds_toArray, List.set_cons_zero, List.set_cons_succ]
            refine heldA_one (i := 8) (by kernel_rfl) ?_
            refine wpOp_calls (f := 22) rfl rfl (by rfl) (by go_simp) (same_is (.agg #[.int .i64 h.turned.nodes, .slice txa N txc, .slice tya h.turned.Y.length tyc, .slice tza M tzc]) (.agg #[.int .i64 h.turned.nodes, .slice sxa N sxc, .slice sya h.turned.Y.length syc, .slice sza M szc]) h.turned.bumped h.turned true u109 (HTz2.out _ HBe.out) (HSz.out _ HBe.out) HSb.out) ?_ (by rintro _ _ ⟨h, _⟩; cases h) (by rintro _ ⟨h, _⟩; cases h)
            rintro _ u114 ⟨⟨rfl⟩, hb⟩
            have HBn := Lib.hid (HBe.out.trans (hb.mono HBe.out.size))
            replace HBe := HBn
            clear HBn hb hS0
            have hS0 := HS.out u114 HBe.out
            refine ⟨hS0, ?_⟩
            simp only [List.setIfInBounds_toArray, List.set_cons_zero, List.set_cons_succ]
            refine heldA_take (i := 17) (v := .bool false) rfl rfl (by kernel_rfl) (by kernel_rfl) (by kernel_rfl) (fun _ _ _ h => h) (by rfl) (fun w hS => by obtain ⟨hS1, hS2, hS3, hS4, hS5, hS6, hS7, hS8, hS9, hS10, hS11, hS12⟩ := hS; go_simp) hS0 ?_
            simp only [List.setIfInBounds_toArray, List.set_cons_zero, List.set_cons_succ]
            refine heldA_take (i := 18) (v := .bool false) rfl rfl (by kernel_rfl) (by kernel_rfl) (by kernel_rfl) (fun _ _ _ h => h) (by rfl) (fun w hS => by obtain ⟨hS1, hS2, hS3, hS4, hS5, hS6, hS7, hS8, hS9, hS10, hS11, hS12⟩ := hS; go_simp) hS0 ?_
            simp only [List.setIfInBounds_toArray, List.set_cons_zero, List.set_cons_succ]
            refine wpAnyH_done (by kernel_rfl) ?_ _
            have HZ := Lib.hid (HR.out.next' (HB21.out.next' HBe.out))
            clear hS0 HBel HBe HS hsb hadd
            go_wp2_with fail
            go_roundw
            case rel => exact ⟨k + 1, by omega, by go_num, Lib.hid HZ.out⟩
            case measure => simp [intOf]; omega
          case neg =>
            have hsb : ((NS : Int) == 0) = false := by simpa using hNS0
            have HSb := Lib.hid (show sameB h.turned.bumped h.turned = false from by rw [bumped_same, HSum.out]; simpa using hNS0)
            clear hNS0
            go_wp2_with fail
            clear o3
            refine wp_region_held (S := fun w' => w'.cell? ⟨B8, 0, none⟩ = some (.int .i64 h.nodes) ∧ w'.cell? ⟨B8, 1, none⟩ = some (vx) ∧ w'.cell? ⟨B8, 2, none⟩ = some (vy) ∧ w'.cell? ⟨B8, 3, none⟩ = some (va) ∧ w'.cell? ⟨B9, 0, none⟩ = some (.int .i64 h.turned.nodes) ∧ w'.cell? ⟨B9, 1, none⟩ = some (.slice txa N txc) ∧ w'.cell? ⟨B9, 2, none⟩ = some (.slice tya h.turned.Y.length tyc) ∧ w'.cell? ⟨B9, 3, none⟩ = some (.slice tza M tzc) ∧ w'.cell? ⟨B13, 0, none⟩ = some (.int .i64 h.turned.nodes) ∧ w'.cell? ⟨B13, 1, none⟩ = some (.slice sxa N sxc) ∧ w'.cell? ⟨B13, 2, none⟩ = some (.slice sya h.turned.Y.length syc) ∧ w'.cell? ⟨B13, 3, none⟩ = some (.slice sza M szc)) rfl ?_
            have hS0 := HS.out wr.drew (HBel.out.drew)
            change wpAnyH _ _ _ _ _ 19 _ _ wr.drew
            have HBe := Lib.hid (HBel.out.drew)
            refine heldA_take (i := 0) (v := .agg #[.int .i64 h.nodes, vx, vy, va]) rfl rfl (by kernel_rfl) (by kernel_rfl) (by kernel_rfl) (fun _ _ _ h => h) (by rfl) (fun w hS => by obtain ⟨hS1, hS2, hS3, hS4, hS5, hS6, hS7, hS8, hS9, hS10, hS11, hS12⟩ := hS; go_simp) hS0 ?_
            simp only [List.setIfInBounds_toArray, List.set_cons_zero, List.set_cons_succ]
            refine heldA_take (i := 2) (v := .agg #[.int .i64 h.turned.nodes, .slice sxa N sxc, .slice sya h.turned.Y.length syc, .slice sza M szc]) rfl rfl (by kernel_rfl) (by kernel_rfl) (by kernel_rfl) (fun _ _ _ h => h) (by rfl) (fun w hS => by obtain ⟨hS1, hS2, hS3, hS4, hS5, hS6, hS7, hS8, hS9, hS10, hS11, hS12⟩ := hS; go_simp) hS0 ?_
            simp only [List.setIfInBounds_toArray, List.set_cons_zero, List.set_cons_succ]
            refine heldA_one (i := 1) (by kernel_rfl) ?_
            refine wpOp_calls (f := 24) rfl rfl (by rfl) (by go_simp) (turned_any (.agg #[.int .i64 h.nodes, vx, vy, va]) h wr.drew (HHz.out _ HBe.out) HFew.out) ?_ (by rintro _ _ ⟨_, h, _⟩; cases h) (by rintro _ ⟨_, h, _⟩; cases h)
            rintro v107 u107 ⟨_, ⟨rfl⟩, hr, hb⟩
            have HBn := Lib.hid (HBe.out.trans (hb.mono HBe.out.size))
            have HR107 := Lib.hid hr.raw
            clear hr
            replace HBe := HBn
            clear HBn hb hS0
            have hS0 := HS.out u107 HBe.out
            refine ⟨hS0, ?_⟩
            simp only [List.setIfInBounds_toArray, List.set_cons_zero, List.set_cons_succ]
            refine heldA_one (i := 3) (by kernel_rfl) ?_
            refine wpOp_calls (f := 22) rfl rfl (by rfl) (by go_simp) (same_is v107 (.agg #[.int .i64 h.turned.nodes, .slice sxa N sxc, .slice sya h.turned.Y.length syc, .slice sza M szc]) h.turned h.turned true u107 HR107.out (HSz.out _ HBe.out) (same_self h.turned)) ?_ (by rintro _ _ ⟨h, _⟩; cases h) (by rintro _ ⟨h, _⟩; cases h)
            rintro _ u109 ⟨⟨rfl⟩, hb⟩
            have HBn := Lib.hid (HBe.out.trans (hb.mono HBe.out.size))
            replace HBe := HBn
            clear HBn hb hS0
            have hS0 := HS.out u109 HBe.out
            refine ⟨hS0, ?_⟩
            simp only [List.setIfInBounds_toArray, List.set_cons_zero, List.set_cons_succ]
            refine heldA_take (i := 4) (v := .bool false) rfl rfl (by kernel_rfl) (by kernel_rfl) (by kernel_rfl) (fun _ _ _ h => h) (by rfl) (fun w hS => by obtain ⟨hS1, hS2, hS3, hS4, hS5, hS6, hS7, hS8, hS9, hS10, hS11, hS12⟩ := hS; go_simp) hS0 ?_
            simp only [List.setIfInBounds_toArray, List.set_cons_zero, List.set_cons_succ]
            refine heldA_take (i := 5) (v := .bool false) rfl rfl (by kernel_rfl) (by kernel_rfl) (by kernel_rfl) (fun _ _ _ h => h) (by rfl) (fun w hS => by obtain ⟨hS1, hS2, hS3, hS4, hS5, hS6, hS7, hS8, hS9, hS10, hS11, hS12⟩ := hS; go_simp) hS0 ?_
            simp only [List.setIfInBounds_toArray, List.set_cons_zero, List.set_cons_succ]
            refine heldA_take (i := 6) (v := .agg #[.int .i64 h.turned.nodes, .slice txa N txc, .slice tya h.turned.Y.length tyc, .slice tza M tzc]) rfl rfl (by kernel_rfl) (by kernel_rfl) (by kernel_rfl) (fun _ _ _ h => h) (by rfl) (fun w hS => by obtain ⟨hS1, hS2, hS3, hS4, hS5, hS6, hS7, hS8, hS9, hS10, hS11, hS12⟩ := hS; go_simp) hS0 ?_
            simp only [List.setIfInBounds_toArray, List.set_cons_zero, List.set_cons_succ]
            refine heldA_take (i := 7) (v := .agg #[.int .i64 h.turned.nodes, .slice sxa N sxc, .slice sya h.turned.Y.length syc, .slice sza M szc]) rfl rfl (by kernel_rfl) (by kernel_rfl) (by kernel_rfl) (fun _ _ _ h => h) (by rfl) (fun w hS => by obtain ⟨hS1, hS2, hS3, hS4, hS5, hS6, hS7, hS8, hS9, hS10, hS11, hS12⟩ := hS; go_simp) hS0 ?_
            simp only [List.setIfInBounds_toArray, List.set_cons_zero, List.set_cons_succ]
            refine heldA_take (i := 9) (v := .pointer (some ⟨B9, 1, none⟩)) rfl rfl (by kernel_rfl) (by kernel_rfl) (by kernel_rfl) (fun _ _ _ h => h) (by rfl) (fun w hS => by obtain ⟨hS1, hS2, hS3, hS4, hS5, hS6, hS7, hS8, hS9, hS10, hS11, hS12⟩ := hS; go_simp) hS0 ?_
            simp only [List.setIfInBounds_toArray, List.set_cons_zero, List.set_cons_succ]
            refine heldA_take (i := 10) (v := .slice txa N txc) rfl rfl (by kernel_rfl) (by kernel_rfl) (by kernel_rfl) (fun _ _ _ h => h) (by rfl) (fun w hS => by obtain ⟨hS1, hS2, hS3, hS4, hS5, hS6, hS7, hS8, hS9, hS10, hS11, hS12⟩ := hS; go_simp) hS0 ?_
            simp only [List.setIfInBounds_toArray, List.set_cons_zero, List.set_cons_succ]
            refine heldA_take (i := 11) (v := .int .i64 (N : Nat)) rfl rfl (by kernel_rfl) (by kernel_rfl) (by kernel_rfl) (fun _ _ _ h => h) (by rfl) (fun w hS => by obtain ⟨hS1, hS2, hS3, hS4, hS5, hS6, hS7, hS8, hS9, hS10, hS11, hS12⟩ := hS; go_simp) hS0 ?_
            simp only [List.setIfInBounds_toArray, List.set_cons_zero, List.set_cons_succ]
            refine heldA_take (i := 12) (v := .pointer (some ⟨B9, 3, none⟩)) rfl rfl (by kernel_rfl) (by kernel_rfl) (by kernel_rfl) (fun _ _ _ h => h) (by rfl) (fun w hS => by obtain ⟨hS1, hS2, hS3, hS4, hS5, hS6, hS7, hS8, hS9, hS10, hS11, hS12⟩ := hS; go_simp) hS0 ?_
            simp only [List.setIfInBounds_toArray, List.set_cons_zero, List.set_cons_succ]
            refine heldA_take (i := 13) (v := .slice tza M tzc) rfl rfl (by kernel_rfl) (by kernel_rfl) (by kernel_rfl) (fun _ _ _ h => h) (by rfl) (fun w hS => by obtain ⟨hS1, hS2, hS3, hS4, hS5, hS6, hS7, hS8, hS9, hS10, hS11, hS12⟩ := hS; go_simp) hS0 ?_
            simp only [List.setIfInBounds_toArray, List.set_cons_zero, List.set_cons_succ]
            refine heldA_take (i := 14) (v := .int .i64 (M : Nat)) rfl rfl (by kernel_rfl) (by kernel_rfl) (by kernel_rfl) (fun _ _ _ h => h) (by rfl) (fun w hS => by obtain ⟨hS1, hS2, hS3, hS4, hS5, hS6, hS7, hS8, hS9, hS10, hS11, hS12⟩ := hS; go_simp) hS0 ?_
            simp only [List.setIfInBounds_toArray, List.set_cons_zero, List.set_cons_succ]
            refine heldA_take (i := 15) (v := .int .i64 (NS : Nat)) rfl rfl (by kernel_rfl) (by kernel_rfl) (by kernel_rfl) (fun _ _ _ h => h) (by rfl) (fun w hS => by obtain ⟨hS1, hS2, hS3, hS4, hS5, hS6, hS7, hS8, hS9, hS10, hS11, hS12⟩ := hS; go_simp) hS0 ?_
            simp only [List.setIfInBounds_toArray, List.set_cons_zero, List.set_cons_succ]
            refine heldA_take (i := 16) (v := .bool false) rfl rfl (by kernel_rfl) (by kernel_rfl) (by kernel_rfl) (fun _ _ _ h => h) (by rfl) (fun w hS => by obtain ⟨hS1, hS2, hS3, hS4, hS5, hS6, hS7, hS8, hS9, hS10, hS11, hS12⟩ := hS; go_simp) hS0 ?_
            simp only [List.setIfInBounds_toArray, List.set_cons_zero, List.set_cons_succ]
            refine heldA_one (i := 8) (by kernel_rfl) ?_
            refine wpOp_calls (f := 22) rfl rfl (by rfl) (by go_simp) (same_is (.agg #[.int .i64 h.turned.nodes, .slice txa N txc, .slice tya h.turned.Y.length tyc, .slice tza M tzc]) (.agg #[.int .i64 h.turned.nodes, .slice sxa N sxc, .slice sya h.turned.Y.length syc, .slice sza M szc]) h.turned.bumped h.turned false u109 (HTz2.out _ HBe.out) (HSz.out _ HBe.out) HSb.out) ?_ (by rintro _ _ ⟨h, _⟩; cases h) (by rintro _ ⟨h, _⟩; cases h)
            rintro _ u114 ⟨⟨rfl⟩, hb⟩
            have HBn := Lib.hid (HBe.out.trans (hb.mono HBe.out.size))
            replace HBe := HBn
            clear HBn hb hS0
            have hS0 := HS.out u114 HBe.out
            refine ⟨hS0, ?_⟩
            simp only [List.setIfInBounds_toArray, List.set_cons_zero, List.set_cons_succ]
            refine heldA_take (i := 17) (v := .bool false) rfl rfl (by kernel_rfl) (by kernel_rfl) (by kernel_rfl) (fun _ _ _ h => h) (by rfl) (fun w hS => by obtain ⟨hS1, hS2, hS3, hS4, hS5, hS6, hS7, hS8, hS9, hS10, hS11, hS12⟩ := hS; go_simp) hS0 ?_
            simp only [List.setIfInBounds_toArray, List.set_cons_zero, List.set_cons_succ]
            refine heldA_take (i := 18) (v := .bool false) rfl rfl (by kernel_rfl) (by kernel_rfl) (by kernel_rfl) (fun _ _ _ h => h) (by rfl) (fun w hS => by obtain ⟨hS1, hS2, hS3, hS4, hS5, hS6, hS7, hS8, hS9, hS10, hS11, hS12⟩ := hS; go_simp) hS0 ?_
            simp only [List.setIfInBounds_toArray, List.set_cons_zero, List.set_cons_succ]
            refine wpAnyH_done (by kernel_rfl) ?_ _
            have HZ := Lib.hid (HR.out.next' (HB21.out.next' HBe.out))
            clear hS0 HBel HBe HS hsb hadd
            go_wp2_with fail
            go_roundw
            case rel => exact ⟨k + 1, by omega, by go_num, Lib.hid HZ.out⟩
            case measure => simp [intOf]; omega
  case neg =>
    obtain rfl : k = 2 := by omega
    have HZ := Lib.hid (HBw.out.next' HR.out)
    go_wp2_with fail
    go_ret
    exact ⟨rfl, HZ.out⟩
end Go.Proofs.YtnkcmlngoeofgaaDoor
