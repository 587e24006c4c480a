/- Texts of the law GraphTells, merged: GrTurn. -/
import Derived.Test.YtnkcmlngoeofgaaDoorPGraphTells07
/- GraphTells: turned (one thing otherwise): it answers some graph, whose lists are not much longer. -/
namespace Go.Proofs.YtnkcmlngoeofgaaDoor
open Go.RowKit
theorem SlX.drop1 {w : World} {b n cap : Nat} {off : Nat} {L : List Int} (h : SlX w (.slice (some ⟨b, off, none⟩) n cap) L) (hL : 0 < L.length) : SlX w (.slice (some ⟨b, off + 1, none⟩) (n - 1) (cap - 1)) (L.drop 1) := by
  obtain ⟨a', cap', e, h1, h2, h3⟩ := h
  obtain ⟨rfl, rfl, rfl⟩ : some (⟨b, off, none⟩ : Addr) = a' ∧ n = L.length ∧ cap = cap' := by simpa using e
  refine ⟨_, cap - 1, by rw [List.length_drop], by rw [List.length_drop]; omega, by omega, fun i hi => ?_⟩
  rw [List.length_drop] at hi
  obtain ⟨b', o', cs, t, fr, e2, h4, h5⟩ := h3 (i + 1) (by omega)
  obtain ⟨rfl, rfl⟩ : b = b' ∧ off = o' := by simpa using e2
  refine ⟨b, off + 1, cs, t, fr, rfl, h4, ?_⟩
  rw [List.getElem_drop, show off + 1 + i = off + (i + 1) by omega]
  simpa [Nat.add_comm] using h5
theorem SlX.drop0 {w : World} {b n cap : Nat} {off : Nat} {L : List Int} (h : SlX w (.slice (some ⟨b, off, none⟩) n cap) L) (hL : 0 < L.length) : SlX w (.slice (if cap = 1 then some ⟨b, off, none⟩ else some ⟨b, off + 1, none⟩) (n - 1) (cap - 1)) (L.drop 1) := by
  split
  · rename_i hc
    obtain ⟨a', cap', e, h1, h2, h3⟩ := id h
    obtain ⟨rfl, rfl, rfl⟩ : some (⟨b, off, none⟩ : Addr) = a' ∧ n = L.length ∧ cap = cap' := by simpa using e
    have hd : L.drop 1 = [] := List.drop_eq_nil_of_le (by omega)
    rw [hd]
    exact ⟨_, cap - 1, by rw [show L.length - 1 = 0 by omega]; rfl, by simp, by omega, fun i hi => by simp at hi⟩
  · exact h.drop1 hL
theorem RawO.seen {base lo : Nat} {w u : World} {v : Value} {r : Raw} (h : RawO base w v r) (hl : lo ≤ base) (hu : ∀ k, lo ≤ k → k < w.heap.size → u.heap[k]? = w.heap[k]?) : RawO base u v r := by
  obtain ⟨vx, vy, va, e, h1, h2, h3, h4⟩ := h
  have g : ∀ {e : TypeId} {size : Nat} {x : Value} {n : Nat} {xs : List Value}, w.ownsRow base e size x n xs → u.ownsRow base e size x n xs := fun hr => ownsRow_agree' hr fun k hb => hu k (Nat.le_trans hl (ownsRow_blk' hr hb).1) (ownsRow_blk' hr hb).2.choose_spec.lt
  exact ⟨vx, vy, va, e, g h1, g h2, g h3, h4⟩
/-- what is answered, stored -/
theorem turn_end {w w1 W W' : World} {Bo B4 : Nat} {vx vy va : Value} {r : Raw} {y0 y1 y2 y3 : Value} (n : Int) (vy' : Value) (hn : n = r.nodes) (hb1 : Below w.heap.size w w1) (hbl : w1.heap.size ≤ Bo) (hk : Kept (· = Bo) w1 W) (hO : Own3 w1.heap.size W vx vy va r) (k4 : Blk W B4 #[y0, y1, y2, y3] 25 (0, 0)) (h4 : w.heap.size ≤ B4)
    (hW : W' = (((W.setCell ⟨B4, 0, none⟩ (.int .i64 n)).setCell ⟨B4, 1, none⟩ vx).setCell ⟨B4, 2, none⟩ vy').setCell ⟨B4, 3, none⟩ va) :
    Blk W' B4 #[.int .i64 n, vx, vy', va] 25 (0, 0) ∧ Own3 w1.heap.size W' vx vy va r ∧ Below w.heap.size w W' := by
  subst hn
  have hbW := hb1.next' (below_of (Below.refl _ _) hk hbl)
  rw [hW]
  refine ⟨(((k4.set 0 (.int .i64 r.nodes)).set 1 vx).set 2 vy').set 3 va, ?_, (((hbW.setCell (p := ⟨B4, 0, none⟩) h4 _).setCell (p := ⟨B4, 1, none⟩) h4 _).setCell (p := ⟨B4, 2, none⟩) h4 _).setCell (p := ⟨B4, 3, none⟩) h4 _⟩
  exact (((hO.set (p := ⟨B4, 0, none⟩) k4 (by decide) (by decide) _).set (p := ⟨B4, 1, none⟩) (k4.set 0 (.int .i64 r.nodes)) (by decide) (by decide) _).set (p := ⟨B4, 2, none⟩) ((k4.set 0 (.int .i64 r.nodes)).set 1 vx) (by decide) (by decide) _).set (p := ⟨B4, 3, none⟩) (((k4.set 0 (.int .i64 r.nodes)).set 1 vx).set 2 vy') (by decide) (by decide) _
set_option maxRecDepth 100000 in
set_option maxHeartbeats 32000000 in
theorem turn_any (v : Value) (r : Raw) (what at_ : Nat) (nn : Int) (w : World) (h : RawV w v r) (hs : r.X.length ≤ 1000 ∧ r.Y.length ≤ 1000 ∧ r.arcs.length ≤ 1000) (hw : what < 256) (ha : at_ < 256) : Calls Tryd.prog 19 #[.agg #[.int .u8 (what : Nat), .int .u8 (at_ : Nat), .int .i64 nn], v] w fun e w' =>
    ∃ v', e = .returned v' ∧ (∃ r', (∀ u, (∀ k, w.heap.size ≤ k → k < w'.heap.size → u.heap[k]? = w'.heap[k]?) → RawV u v' r') ∧ r'.X.length ≤ r.X.length + 1 ∧ r'.Y.length ≤ r.Y.length ∧ r'.arcs.length ≤ r.arcs.length) ∧ Below w.heap.size w w' := by
  obtain ⟨vx, vy, va, rfl, hx, hy, ha0⟩ := h
  have fx := hx.form; have fy := hy.form
  have fa : ∃ a c, va = .slice a r.arcs.length c := by obtain ⟨a, c, e, _⟩ := ha0; exact ⟨a, c, e⟩
  obtain ⟨B2, hB2⟩ : ∃ b, b = w.heap.size := ⟨_, rfl⟩
  obtain ⟨Br, hBr⟩ : ∃ b, b = w.heap.size + 1 := ⟨_, rfl⟩
  obtain ⟨B4, hB4⟩ : ∃ b, b = w.heap.size + 1 + 1 := ⟨_, rfl⟩
  obtain ⟨w1, hw1⟩ : ∃ w1, w1 = ((w.alloc (.cells #[.int .u8 (what : Nat), .int .u8 (at_ : Nat), .int .i64 nn] 42)).alloc (.cells #[.int .i64 r.nodes, vx, vy, va] 25)).alloc (.cells #[.int .i64 0, .slice none 0 0, .slice none 0 0, .slice none 0 0] 25) := ⟨_, rfl⟩
  have hb1 : Below w.heap.size w w1 := by rw [hw1]; exact (((Below.refl _ _).alloc (Nat.le_refl _) _).alloc (by simp) _).alloc (by simp; omega) _
  have K2 : Blk w1 B2 #[.int .u8 (what : Nat), .int .u8 (at_ : Nat), .int .i64 nn] 42 (0, 0) := by rw [hw1, hB2]; exact ((Blk.new _ _ _ _).alloc _).alloc _
  have KR : Blk w1 Br #[.int .i64 r.nodes, vx, vy, va] 25 (0, 0) := by
    rw [hw1, hBr]
    have h := Blk.new (w.alloc (.cells #[.int .u8 (what : Nat), .int .u8 (at_ : Nat), .int .i64 nn] 42)) #[.int .i64 r.nodes, vx, vy, va] 25 (0, 0)
    rw [World.size_alloc] at h
    exact h.alloc _
  have K4 : Blk w1 B4 #[.int .i64 0, .slice none 0 0, .slice none 0 0, .slice none 0 0] 25 (0, 0) := by
    rw [hw1, hB4]
    have h := Blk.new ((w.alloc (.cells #[.int .u8 (what : Nat), .int .u8 (at_ : Nat), .int .i64 nn] 42)).alloc (.cells #[.int .i64 r.nodes, vx, vy, va] 25)) #[.int .i64 0, .slice none 0 0, .slice none 0 0, .slice none 0 0] 25 (0, 0)
    rwa [World.size_alloc, World.size_alloc] at h
  have kp := fun u (hu : Below w1.heap.size w1 u) => (KpC.of_below hb1).trans (KpC.of_below hu)
  have HVx := Lib.hid (show ∀ u, Below w1.heap.size w1 u → SlX u vx r.X from fun u hu => hx.keep (kp u hu))
  have HVy := Lib.hid (show ∀ u, Below w1.heap.size w1 u → SlX u vy r.Y from fun u hu => hy.keep (kp u hu))
  have HVa := Lib.hid (show ∀ u, Below w1.heap.size w1 u → SlA u va r.arcs from fun u hu => ha0.keep (kp u hu))
  have HB1 := Lib.hid hb1; have HK2 := Lib.hid K2; have HBr := Lib.hid KR; have HK4 := Lib.hid K4; have HW1 := Lib.hid hw1; have HLn := Lib.hid hs
  have HFew := Lib.hid (show r.few from ⟨by omega, by omega, by omega⟩)
  have HE2 := Lib.hid hB2; have HEr := Lib.hid hBr; have HE4 := Lib.hid hB4
  have HL4 := Lib.hid (show w.heap.size ≤ B4 by omega)
  clear hx hy ha0 hb1 K2 KR K4 hw1 kp
  obtain ⟨_, _, _, rfl⟩ := fx
  obtain ⟨_, _, _, rfl⟩ := fy
  obtain ⟨_, _, rfl⟩ := fa
  rename_i x1 x2 x3 y1 y2 y3 z1 z3
  go_enter Tryd.func19, Tryd.ntmps19
  go_wp2_with fail
  rw [← HW1.out, ← HE4.out, ← HEr.out, ← HE2.out]
  clear hB2 hBr hB4
  obtain ⟨vx, hvx⟩ : ∃ v, v = Value.slice x1 x2 x3 := ⟨_, rfl⟩
  obtain ⟨vy, hvy⟩ : ∃ v, v = Value.slice y1 y2 y3 := ⟨_, rfl⟩
  obtain ⟨va, hva⟩ : ∃ v, v = Value.slice z1 r.arcs.length z3 := ⟨_, rfl⟩
  rw [← hvx] at HVx HBr ⊢; rw [← hvy] at HVy HBr ⊢; rw [← hva] at HVa HBr ⊢
  clear hvx hvy hva HW1 HEr HE2 HE4
  refine wp_region_heldD (fun w' => w'.cell? ⟨Br, 0, none⟩ = some (.int .i64 r.nodes) ∧ w'.cell? ⟨Br, 1, none⟩ = some (vx) ∧ w'.cell? ⟨Br, 2, none⟩ = some (vy) ∧ w'.cell? ⟨Br, 3, none⟩ = some (va)) 16 rfl ?_
  change heldD _ _ _ _ _ _ _ 17 _ _ w1.drew
  obtain ⟨wk0, hu0⟩ : ∃ u, u = w1.drew := ⟨_, rfl⟩
  have HBw0 := Lib.hid (show Below w1.heap.size w1 wk0 by rw [hu0]; exact (Below.refl _ _).drew)
  have HSS := Lib.hid (show ∀ u, Below w1.heap.size w1 u → (u.cell? ⟨Br, 0, none⟩ = some (.int .i64 r.nodes) ∧ u.cell? ⟨Br, 1, none⟩ = some (vx) ∧ u.cell? ⟨Br, 2, none⟩ = some (vy) ∧ u.cell? ⟨Br, 3, none⟩ = some (va)) from fun u hu => ⟨(HBr.out.below hu HBr.out.lt).cell 0, (HBr.out.below hu HBr.out.lt).cell 1, (HBr.out.below hu HBr.out.lt).cell 2, (HBr.out.below hu HBr.out.lt).cell 3⟩)
  have hS0 := HSS.out wk0 HBw0.out
  rw [← hu0]
  clear hu0
  refine heldD_takeF (i := 0) (v := .pointer (some ⟨Br, 0, none⟩)) rfl rfl rfl (by kernel_rfl) (by kernel_rfl) (by kernel_rfl) (by kernel_rfl) (fun _ _ _ h => h) (by rfl) (fun w => ⟨by rfl, by go_simp⟩) (fun _ => hS0) ?_
  simp only [List.setIfInBounds_toArray, List.set_cons_zero, List.set_cons_succ]
  refine heldD_take (i := 1) (v := .int .i64 r.nodes) rfl rfl rfl (by kernel_rfl) (by kernel_rfl) (by kernel_rfl) (by kernel_rfl) (by kernel_rfl) (by kernel_rfl) (fun _ _ _ h => h) (by rfl) (fun w hS => ⟨by rfl, by obtain ⟨hS1, hS2, hS3, hS4⟩ := hS; go_simp⟩) hS0 ?_
  simp only [List.setIfInBounds_toArray, List.set_cons_zero, List.set_cons_succ]
  refine heldD_takeF (i := 3) (v := .pointer (some ⟨Br, 1, none⟩)) rfl rfl rfl (by kernel_rfl) (by kernel_rfl) (by kernel_rfl) (by kernel_rfl) (fun _ _ _ h => h) (by rfl) (fun w => ⟨by rfl, by go_simp⟩) (fun _ => hS0) ?_
  simp only [List.setIfInBounds_toArray, List.set_cons_zero, List.set_cons_succ]
  refine heldD_take (i := 4) (v := vx) rfl rfl rfl (by kernel_rfl) (by kernel_rfl) (by kernel_rfl) (by kernel_rfl) (by kernel_rfl) (by kernel_rfl) (fun _ _ _ h => h) (by rfl) (fun w hS => ⟨by rfl, by obtain ⟨hS1, hS2, hS3, hS4⟩ := hS; go_simp⟩) hS0 ?_
  simp only [List.setIfInBounds_toArray, List.set_cons_zero, List.set_cons_succ]
  refine heldD_takeF (i := 7) (v := .pointer (some ⟨Br, 2, none⟩)) rfl rfl rfl (by kernel_rfl) (by kernel_rfl) (by kernel_rfl) (by kernel_rfl) (fun _ _ _ h => h) (by rfl) (fun w => ⟨by rfl, by go_simp⟩) (fun _ => hS0) ?_
  simp only [List.setIfInBounds_toArray, List.set_cons_zero, List.set_cons_succ]
  refine heldD_take (i := 8) (v := vy) rfl rfl rfl (by kernel_rfl) (by kernel_rfl) (by kernel_rfl) (by kernel_rfl) (by kernel_rfl) (by kernel_rfl) (fun _ _ _ h => h) (by rfl) (fun w hS => ⟨by rfl, by obtain ⟨hS1, hS2, hS3, hS4⟩ := hS; go_simp⟩) hS0 ?_
  simp only [List.setIfInBounds_toArray, List.set_cons_zero, List.set_cons_succ]
  refine heldD_takeF (i := 11) (v := .pointer (some ⟨Br, 3, none⟩)) rfl rfl rfl (by kernel_rfl) (by kernel_rfl) (by kernel_rfl) (by kernel_rfl) (fun _ _ _ h => h) (by rfl) (fun w => ⟨by rfl, by go_simp⟩) (fun _ => hS0) ?_
  simp only [List.setIfInBounds_toArray, List.set_cons_zero, List.set_cons_succ]
  refine heldD_take (i := 12) (v := va) rfl rfl rfl (by kernel_rfl) (by kernel_rfl) (by kernel_rfl) (by kernel_rfl) (by kernel_rfl) (by kernel_rfl) (fun _ _ _ h => h) (by rfl) (fun w hS => ⟨by rfl, by obtain ⟨hS1, hS2, hS3, hS4⟩ := hS; go_simp⟩) hS0 ?_
  simp only [List.setIfInBounds_toArray, List.set_cons_zero, List.set_cons_succ]
  clear hS0
  refine heldD_HT ?_
  intro H hH T hT
  have HH := Lib.hid hH; have HT := Lib.hid hT
  clear hH hT
  suffices st_11131 : ∀ (u : World) (v0 v1 v2 l0 l1 l2 : Value) (Bo : Nat), Cp w1 u r 2 2 2 v0 v1 v2 → Blk u Bo #[.int .i64 0, .slice none 0 0, .slice none 0 0, .slice none 0 0] 25 (0, 0) → w1.heap.size ≤ Bo → H 1 #[true, true, true, true, true, true, true, true, true, true, true, true, true, true, true, true, false] { tmps := ((((((((T.setIfInBounds 9 l0).setIfInBounds 13 l1).setIfInBounds 17 l2).setIfInBounds 12 v0).setIfInBounds 16 v1).setIfInBounds 20 v2).setIfInBounds 5 (.pointer (some ⟨Bo, 0, none⟩))).setIfInBounds 21 (.agg #[.int .i64 r.nodes, v0, v1, v2])), defers := [] } u from by
    have st_11121 : ∀ (u : World) (v0 v1 v2 l0 l1 l2 : Value) (Bo : Nat), Cp w1 u r 2 2 1 v0 v1 v2 → v2 = l2 → Blk u Bo #[.int .i64 0, .slice none 0 0, .slice none 0 0, .slice none 0 0] 25 (0, 0) → w1.heap.size ≤ Bo → H 3 #[true, true, true, true, true, true, true, true, true, true, true, true, true, false, false, true, false] { tmps := ((((((T.setIfInBounds 9 l0).setIfInBounds 13 l1).setIfInBounds 17 l2).setIfInBounds 12 v0).setIfInBounds 16 v1).setIfInBounds 5 (.pointer (some ⟨Bo, 0, none⟩))), defers := [] } u := by
      intro u v0 v1 v2 l0 l1 l2 Bo hc e2 hB hBl
      rw [HH.out, HT.out]
      subst e2
      simp only [List.setIfInBounds_toArray, List.set_cons_zero, List.set_cons_succ]
      refine heldD_one (i := 13) (by kernel_rfl) ?_
      obtain ⟨a, n, c, w', hr, hc', hgr⟩ := hc.appA HVa.out HFew.out
      have HR := Lib.hid hr
      clear hr
      obtain ⟨xa, xc, rfl, _⟩ := ownForm hc'.own.1
      obtain ⟨ya, yc, rfl, _⟩ := ownForm hc'.own.2.1
      obtain ⟨za, zc, hz, _⟩ := ownForm hc'.own.2.2.1
      obtain ⟨rfl, rfl, rfl⟩ : za = a ∧ n = r.arcs.length ∧ zc = c := by simp only [Value.slice.injEq] at hz; exact ⟨hz.1.symm, hz.2.1, hz.2.2.symm⟩
      refine wpOpIn_append rfl rfl rfl (by rfl) _ _ _ _ rfl HR.out ?_
      refine ⟨fun _ => HSS.out _ hc'.below, ?_⟩
      simp only [List.setIfInBounds_toArray, List.set_cons_zero, List.set_cons_succ]
      refine heldD_takeF (i := 14) (v := .agg #[.int .i64 r.nodes, (.slice xa r.X.length xc), (.slice ya r.Y.length yc), (.slice za r.arcs.length zc)]) rfl rfl rfl (by kernel_rfl) (by kernel_rfl) (by kernel_rfl) (by kernel_rfl) (fun _ _ _ h => h) (by rfl) (fun w => ⟨by rfl, by go_simp⟩) (fun _ => HSS.out _ hc'.below) ?_
      simp only [List.setIfInBounds_toArray, List.set_cons_zero, List.set_cons_succ]
      have q := st_11131 w' (.slice xa r.X.length xc) (.slice ya r.Y.length yc) (.slice za r.arcs.length zc) l0 l1 v2 Bo hc' (hgr hB (by decide)) hBl
      rw [HH.out, HT.out] at q
      simp only [List.setIfInBounds_toArray, List.set_cons_zero, List.set_cons_succ] at q ⊢
      exact q
    have st_11130 : ∀ (u : World) (v0 v1 v2 l0 l1 l2 : Value) (Bo : Nat), Cp w1 u r 2 2 2 v0 v1 v2 → H 3 #[true, true, true, true, true, true, true, true, true, true, true, true, true, true, false, false, false] { tmps := ((((((T.setIfInBounds 9 l0).setIfInBounds 13 l1).setIfInBounds 17 l2).setIfInBounds 12 v0).setIfInBounds 16 v1).setIfInBounds 20 v2), defers := [] } u := by
      intro u v0 v1 v2 l0 l1 l2 Bo hc
      rw [HH.out, HT.out]
      simp only [List.setIfInBounds_toArray, List.set_cons_zero, List.set_cons_succ]
      obtain ⟨xa, xc, rfl, _⟩ := ownForm hc.own.1
      obtain ⟨ya, yc, rfl, _⟩ := ownForm hc.own.2.1
      obtain ⟨za, zc, rfl, _⟩ := ownForm hc.own.2.2.1
      refine heldD_takeF (i := 14) (v := .agg #[.int .i64 r.nodes, (.slice xa r.X.length xc), (.slice ya r.Y.length yc), (.slice za r.arcs.length zc)]) rfl rfl rfl (by kernel_rfl) (by kernel_rfl) (by kernel_rfl) (by kernel_rfl) (fun _ _ _ h => h) (by rfl) (fun w => ⟨by rfl, by go_simp⟩) (fun _ => HSS.out _ hc.below) ?_
      simp only [List.setIfInBounds_toArray, List.set_cons_zero, List.set_cons_succ]
      refine heldD_one (i := 15) (by kernel_rfl) ?_
      have hb : Below u.heap.size u (u.alloc (.cells #[.int .i64 0, .slice none 0 0, .slice none 0 0, .slice none 0 0] 25)) := (Below.refl _ _).alloc (Nat.le_refl _) _
      have hc' := hc.keep hb
      refine wpOpIn_value (v := .pointer (some ⟨u.heap.size, 0, none⟩)) (w' := u.alloc (.cells #[.int .i64 0, .slice none 0 0, .slice none 0 0, .slice none 0 0] 25)) rfl rfl rfl (by rfl) (by rfl) (by go_simp) ?_
      refine ⟨fun _ => HSS.out _ hc'.below, ?_⟩
      have q := st_11131 _ (.slice xa r.X.length xc) (.slice ya r.Y.length yc) (.slice za r.arcs.length zc) l0 l1 l2 u.heap.size hc' (Blk.new _ _ _ _) hc.below.size
      rw [HH.out, HT.out] at q
      simp only [List.setIfInBounds_toArray, List.set_cons_zero, List.set_cons_succ] at q ⊢
      exact q
    have st_11111 : ∀ (u : World) (v0 v1 v2 l0 l1 l2 : Value) (Bo : Nat), Cp w1 u r 2 1 1 v0 v1 v2 → v1 = l1 → v2 = l2 → Blk u Bo #[.int .i64 0, .slice none 0 0, .slice none 0 0, .slice none 0 0] 25 (0, 0) → w1.heap.size ≤ Bo → H 4 #[true, true, true, true, true, true, true, true, true, false, true, true, true, false, false, true, false] { tmps := (((((T.setIfInBounds 9 l0).setIfInBounds 13 l1).setIfInBounds 17 l2).setIfInBounds 12 v0).setIfInBounds 5 (.pointer (some ⟨Bo, 0, none⟩))), defers := [] } u := by
      intro u v0 v1 v2 l0 l1 l2 Bo hc e1 e2 hB hBl
      rw [HH.out, HT.out]
      subst e1
      subst e2
      simp only [List.setIfInBounds_toArray, List.set_cons_zero, List.set_cons_succ]
      refine heldD_one (i := 9) (by kernel_rfl) ?_
      obtain ⟨a, n, c, w', hr, hc', hgr⟩ := hc.appY HVy.out HFew.out
      have HR := Lib.hid hr
      clear hr
      refine wpOpIn_append rfl rfl rfl (by rfl) _ _ _ _ rfl HR.out ?_
      refine ⟨fun _ => HSS.out _ hc'.below, ?_⟩
      have q := st_11121 w' v0 (.slice a n c) v2 l0 v1 v2 Bo hc' rfl (hgr hB (by decide)) hBl
      rw [HH.out, HT.out] at q
      simp only [List.setIfInBounds_toArray, List.set_cons_zero, List.set_cons_succ] at q ⊢
      exact q
    have st_11021 : ∀ (u : World) (v0 v1 v2 l0 l1 l2 : Value) (Bo : Nat), Cp w1 u r 2 2 0 v0 v1 v2 → Blk u Bo #[.int .i64 0, .slice none 0 0, .slice none 0 0, .slice none 0 0] 25 (0, 0) → w1.heap.size ≤ Bo → H 4 #[true, true, true, true, true, true, true, true, true, true, false, true, true, false, false, true, false] { tmps := (((((T.setIfInBounds 9 l0).setIfInBounds 13 l1).setIfInBounds 12 v0).setIfInBounds 16 v1).setIfInBounds 5 (.pointer (some ⟨Bo, 0, none⟩))), defers := [] } u := by
      intro u v0 v1 v2 l0 l1 l2 Bo hc hB hBl
      rw [HH.out, HT.out]
      simp only [List.setIfInBounds_toArray, List.set_cons_zero, List.set_cons_succ]
      refine heldD_one (i := 10) (by kernel_rfl) ?_
      have hc' := hc.litA
      refine wpOpIn_value (v := .slice (some ⟨u.heap.size, 0, none⟩) 0 0) (w' := u.alloc (.cells #[] 54)) rfl rfl rfl (by rfl) (by rfl) (by go_simp) ?_
      refine ⟨fun _ => HSS.out _ hc'.below, ?_⟩
      have q := st_11121 _ v0 v1 (.slice (some ⟨u.heap.size, 0, none⟩) 0 0) l0 l1 (.slice (some ⟨u.heap.size, 0, none⟩) 0 0) Bo hc' rfl (hB.below ((Below.refl _ _).alloc (Nat.le_refl _) _) hB.lt) hBl
      rw [HH.out, HT.out] at q
      simp only [List.setIfInBounds_toArray, List.set_cons_zero, List.set_cons_succ] at q ⊢
      exact q
    have st_11120 : ∀ (u : World) (v0 v1 v2 l0 l1 l2 : Value) (Bo : Nat), Cp w1 u r 2 2 1 v0 v1 v2 → v2 = l2 → H 4 #[true, true, true, true, true, true, true, true, true, true, true, true, true, false, false, false, false] { tmps := (((((T.setIfInBounds 9 l0).setIfInBounds 13 l1).setIfInBounds 17 l2).setIfInBounds 12 v0).setIfInBounds 16 v1), defers := [] } u := by
      intro u v0 v1 v2 l0 l1 l2 Bo hc e2
      rw [HH.out, HT.out]
      subst e2
      simp only [List.setIfInBounds_toArray, List.set_cons_zero, List.set_cons_succ]
      refine heldD_two (i := 13) (k := 15) (by kernel_rfl) ?_ ?_
      · obtain ⟨a, n, c, w', hr, hc', _⟩ := hc.appA HVa.out HFew.out
        have HR := Lib.hid hr
        clear hr
        refine wpOpIn_append rfl rfl rfl (by rfl) _ _ _ _ rfl HR.out ?_
        refine ⟨fun _ => HSS.out _ hc'.below, ?_⟩
        have q := st_11130 w' v0 v1 (.slice a n c) l0 l1 v2 Bo hc'
        rw [HH.out, HT.out] at q
        simp only [List.setIfInBounds_toArray, List.set_cons_zero, List.set_cons_succ] at q ⊢
        exact q
      · have hb : Below u.heap.size u (u.alloc (.cells #[.int .i64 0, .slice none 0 0, .slice none 0 0, .slice none 0 0] 25)) := (Below.refl _ _).alloc (Nat.le_refl _) _
        have hc' := hc.keep hb
        refine wpOpIn_value (v := .pointer (some ⟨u.heap.size, 0, none⟩)) (w' := u.alloc (.cells #[.int .i64 0, .slice none 0 0, .slice none 0 0, .slice none 0 0] 25)) rfl rfl rfl (by rfl) (by rfl) (by go_simp) ?_
        refine ⟨fun _ => HSS.out _ hc'.below, ?_⟩
        have q := st_11121 _ v0 v1 v2 l0 l1 v2 u.heap.size hc' rfl (Blk.new _ _ _ _) hc.below.size
        rw [HH.out, HT.out] at q
        simp only [List.setIfInBounds_toArray, List.set_cons_zero, List.set_cons_succ] at q ⊢
        exact q
    have st_11101 : ∀ (u : World) (v0 v1 v2 l0 l1 l2 : Value) (Bo : Nat), Cp w1 u r 1 1 1 v0 v1 v2 → v0 = l0 → v1 = l1 → v2 = l2 → Blk u Bo #[.int .i64 0, .slice none 0 0, .slice none 0 0, .slice none 0 0] 25 (0, 0) → w1.heap.size ≤ Bo → H 5 #[true, true, true, true, true, false, true, true, true, false, true, true, true, false, false, true, false] { tmps := ((((T.setIfInBounds 9 l0).setIfInBounds 13 l1).setIfInBounds 17 l2).setIfInBounds 5 (.pointer (some ⟨Bo, 0, none⟩))), defers := [] } u := by
      intro u v0 v1 v2 l0 l1 l2 Bo hc e0 e1 e2 hB hBl
      rw [HH.out, HT.out]
      subst e0
      subst e1
      subst e2
      simp only [List.setIfInBounds_toArray, List.set_cons_zero, List.set_cons_succ]
      refine heldD_one (i := 5) (by kernel_rfl) ?_
      obtain ⟨a, n, c, w', hr, hc', hgr⟩ := hc.appX HVx.out HFew.out
      have HR := Lib.hid hr
      clear hr
      refine wpOpIn_append rfl rfl rfl (by rfl) _ _ _ _ rfl HR.out ?_
      refine ⟨fun _ => HSS.out _ hc'.below, ?_⟩
      have q := st_11111 w' (.slice a n c) v1 v2 v0 v1 v2 Bo hc' rfl rfl (hgr hB (by decide)) hBl
      rw [HH.out, HT.out] at q
      simp only [List.setIfInBounds_toArray, List.set_cons_zero, List.set_cons_succ] at q ⊢
      exact q
    have st_11011 : ∀ (u : World) (v0 v1 v2 l0 l1 l2 : Value) (Bo : Nat), Cp w1 u r 2 1 0 v0 v1 v2 → v1 = l1 → Blk u Bo #[.int .i64 0, .slice none 0 0, .slice none 0 0, .slice none 0 0] 25 (0, 0) → w1.heap.size ≤ Bo → H 5 #[true, true, true, true, true, true, true, true, true, false, false, true, true, false, false, true, false] { tmps := ((((T.setIfInBounds 9 l0).setIfInBounds 13 l1).setIfInBounds 12 v0).setIfInBounds 5 (.pointer (some ⟨Bo, 0, none⟩))), defers := [] } u := by
      intro u v0 v1 v2 l0 l1 l2 Bo hc e1 hB hBl
      rw [HH.out, HT.out]
      subst e1
      simp only [List.setIfInBounds_toArray, List.set_cons_zero, List.set_cons_succ]
      refine heldD_two (i := 9) (k := 10) (by kernel_rfl) ?_ ?_
      · obtain ⟨a, n, c, w', hr, hc', hgr⟩ := hc.appY HVy.out HFew.out
        have HR := Lib.hid hr
        clear hr
        refine wpOpIn_append rfl rfl rfl (by rfl) _ _ _ _ rfl HR.out ?_
        refine ⟨fun _ => HSS.out _ hc'.below, ?_⟩
        have q := st_11021 w' v0 (.slice a n c) v2 l0 v1 l2 Bo hc' (hgr hB (by decide)) hBl
        rw [HH.out, HT.out] at q
        simp only [List.setIfInBounds_toArray, List.set_cons_zero, List.set_cons_succ] at q ⊢
        exact q
      · have hc' := hc.litA
        refine wpOpIn_value (v := .slice (some ⟨u.heap.size, 0, none⟩) 0 0) (w' := u.alloc (.cells #[] 54)) rfl rfl rfl (by rfl) (by rfl) (by go_simp) ?_
        refine ⟨fun _ => HSS.out _ hc'.below, ?_⟩
        have q := st_11111 _ v0 v1 (.slice (some ⟨u.heap.size, 0, none⟩) 0 0) l0 v1 (.slice (some ⟨u.heap.size, 0, none⟩) 0 0) Bo hc' rfl rfl (hB.below ((Below.refl _ _).alloc (Nat.le_refl _) _) hB.lt) hBl
        rw [HH.out, HT.out] at q
        simp only [List.setIfInBounds_toArray, List.set_cons_zero, List.set_cons_succ] at q ⊢
        exact q
    have st_10111 : ∀ (u : World) (v0 v1 v2 l0 l1 l2 : Value) (Bo : Nat), Cp w1 u r 2 0 1 v0 v1 v2 → v2 = l2 → Blk u Bo #[.int .i64 0, .slice none 0 0, .slice none 0 0, .slice none 0 0] 25 (0, 0) → w1.heap.size ≤ Bo → H 5 #[true, true, true, true, true, true, false, true, true, false, true, true, true, false, false, true, false] { tmps := ((((T.setIfInBounds 9 l0).setIfInBounds 17 l2).setIfInBounds 12 v0).setIfInBounds 5 (.pointer (some ⟨Bo, 0, none⟩))), defers := [] } u := by
      intro u v0 v1 v2 l0 l1 l2 Bo hc e2 hB hBl
      rw [HH.out, HT.out]
      subst e2
      simp only [List.setIfInBounds_toArray, List.set_cons_zero, List.set_cons_succ]
      refine heldD_one (i := 6) (by kernel_rfl) ?_
      have hc' := hc.litY
      refine wpOpIn_value (v := .slice (some ⟨u.heap.size, 0, none⟩) 0 0) (w' := u.alloc (.cells #[] 2)) rfl rfl rfl (by rfl) (by rfl) (by go_simp) ?_
      refine ⟨fun _ => HSS.out _ hc'.below, ?_⟩
      have q := st_11111 _ v0 (.slice (some ⟨u.heap.size, 0, none⟩) 0 0) v2 l0 (.slice (some ⟨u.heap.size, 0, none⟩) 0 0) v2 Bo hc' rfl rfl (hB.below ((Below.refl _ _).alloc (Nat.le_refl _) _) hB.lt) hBl
      rw [HH.out, HT.out] at q
      simp only [List.setIfInBounds_toArray, List.set_cons_zero, List.set_cons_succ] at q ⊢
      exact q
    have st_11110 : ∀ (u : World) (v0 v1 v2 l0 l1 l2 : Value) (Bo : Nat), Cp w1 u r 2 1 1 v0 v1 v2 → v1 = l1 → v2 = l2 → H 5 #[true, true, true, true, true, true, true, true, true, false, true, true, true, false, false, false, false] { tmps := ((((T.setIfInBounds 9 l0).setIfInBounds 13 l1).setIfInBounds 17 l2).setIfInBounds 12 v0), defers := [] } u := by
      intro u v0 v1 v2 l0 l1 l2 Bo hc e1 e2
      rw [HH.out, HT.out]
      subst e1
      subst e2
      simp only [List.setIfInBounds_toArray, List.set_cons_zero, List.set_cons_succ]
      refine heldD_two (i := 9) (k := 15) (by kernel_rfl) ?_ ?_
      · obtain ⟨a, n, c, w', hr, hc', _⟩ := hc.appY HVy.out HFew.out
        have HR := Lib.hid hr
        clear hr
        refine wpOpIn_append rfl rfl rfl (by rfl) _ _ _ _ rfl HR.out ?_
        refine ⟨fun _ => HSS.out _ hc'.below, ?_⟩
        have q := st_11120 w' v0 (.slice a n c) v2 l0 v1 v2 Bo hc' rfl
        rw [HH.out, HT.out] at q
        simp only [List.setIfInBounds_toArray, List.set_cons_zero, List.set_cons_succ] at q ⊢
        exact q
      · have hb : Below u.heap.size u (u.alloc (.cells #[.int .i64 0, .slice none 0 0, .slice none 0 0, .slice none 0 0] 25)) := (Below.refl _ _).alloc (Nat.le_refl _) _
        have hc' := hc.keep hb
        refine wpOpIn_value (v := .pointer (some ⟨u.heap.size, 0, none⟩)) (w' := u.alloc (.cells #[.int .i64 0, .slice none 0 0, .slice none 0 0, .slice none 0 0] 25)) rfl rfl rfl (by rfl) (by rfl) (by go_simp) ?_
        refine ⟨fun _ => HSS.out _ hc'.below, ?_⟩
        have q := st_11111 _ v0 v1 v2 l0 v1 v2 u.heap.size hc' rfl rfl (Blk.new _ _ _ _) hc.below.size
        rw [HH.out, HT.out] at q
        simp only [List.setIfInBounds_toArray, List.set_cons_zero, List.set_cons_succ] at q ⊢
        exact q
    have st_11020 : ∀ (u : World) (v0 v1 v2 l0 l1 l2 : Value) (Bo : Nat), Cp w1 u r 2 2 0 v0 v1 v2 → H 5 #[true, true, true, true, true, true, true, true, true, true, false, true, true, false, false, false, false] { tmps := ((((T.setIfInBounds 9 l0).setIfInBounds 13 l1).setIfInBounds 12 v0).setIfInBounds 16 v1), defers := [] } u := by
      intro u v0 v1 v2 l0 l1 l2 Bo hc
      rw [HH.out, HT.out]
      simp only [List.setIfInBounds_toArray, List.set_cons_zero, List.set_cons_succ]
      refine heldD_two (i := 10) (k := 15) (by kernel_rfl) ?_ ?_
      · have hc' := hc.litA
        refine wpOpIn_value (v := .slice (some ⟨u.heap.size, 0, none⟩) 0 0) (w' := u.alloc (.cells #[] 54)) rfl rfl rfl (by rfl) (by rfl) (by go_simp) ?_
        refine ⟨fun _ => HSS.out _ hc'.below, ?_⟩
        have q := st_11120 _ v0 v1 (.slice (some ⟨u.heap.size, 0, none⟩) 0 0) l0 l1 (.slice (some ⟨u.heap.size, 0, none⟩) 0 0) Bo hc' rfl
        rw [HH.out, HT.out] at q
        simp only [List.setIfInBounds_toArray, List.set_cons_zero, List.set_cons_succ] at q ⊢
        exact q
      · have hb : Below u.heap.size u (u.alloc (.cells #[.int .i64 0, .slice none 0 0, .slice none 0 0, .slice none 0 0] 25)) := (Below.refl _ _).alloc (Nat.le_refl _) _
        have hc' := hc.keep hb
        refine wpOpIn_value (v := .pointer (some ⟨u.heap.size, 0, none⟩)) (w' := u.alloc (.cells #[.int .i64 0, .slice none 0 0, .slice none 0 0, .slice none 0 0] 25)) rfl rfl rfl (by rfl) (by rfl) (by go_simp) ?_
        refine ⟨fun _ => HSS.out _ hc'.below, ?_⟩
        have q := st_11021 _ v0 v1 v2 l0 l1 l2 u.heap.size hc' (Blk.new _ _ _ _) hc.below.size
        rw [HH.out, HT.out] at q
        simp only [List.setIfInBounds_toArray, List.set_cons_zero, List.set_cons_succ] at q ⊢
        exact q
    have st_11001 : ∀ (u : World) (v0 v1 v2 l0 l1 l2 : Value) (Bo : Nat), Cp w1 u r 1 1 0 v0 v1 v2 → v0 = l0 → v1 = l1 → Blk u Bo #[.int .i64 0, .slice none 0 0, .slice none 0 0, .slice none 0 0] 25 (0, 0) → w1.heap.size ≤ Bo → H 6 #[true, true, true, true, true, false, true, true, true, false, false, true, true, false, false, true, false] { tmps := (((T.setIfInBounds 9 l0).setIfInBounds 13 l1).setIfInBounds 5 (.pointer (some ⟨Bo, 0, none⟩))), defers := [] } u := by
      intro u v0 v1 v2 l0 l1 l2 Bo hc e0 e1 hB hBl
      rw [HH.out, HT.out]
      subst e0
      subst e1
      simp only [List.setIfInBounds_toArray, List.set_cons_zero, List.set_cons_succ]
      refine heldD_two (i := 5) (k := 10) (by kernel_rfl) ?_ ?_
      · obtain ⟨a, n, c, w', hr, hc', hgr⟩ := hc.appX HVx.out HFew.out
        have HR := Lib.hid hr
        clear hr
        refine wpOpIn_append rfl rfl rfl (by rfl) _ _ _ _ rfl HR.out ?_
        refine ⟨fun _ => HSS.out _ hc'.below, ?_⟩
        have q := st_11011 w' (.slice a n c) v1 v2 v0 v1 l2 Bo hc' rfl (hgr hB (by decide)) hBl
        rw [HH.out, HT.out] at q
        simp only [List.setIfInBounds_toArray, List.set_cons_zero, List.set_cons_succ] at q ⊢
        exact q
      · have hc' := hc.litA
        refine wpOpIn_value (v := .slice (some ⟨u.heap.size, 0, none⟩) 0 0) (w' := u.alloc (.cells #[] 54)) rfl rfl rfl (by rfl) (by rfl) (by go_simp) ?_
        refine ⟨fun _ => HSS.out _ hc'.below, ?_⟩
        have q := st_11101 _ v0 v1 (.slice (some ⟨u.heap.size, 0, none⟩) 0 0) v0 v1 (.slice (some ⟨u.heap.size, 0, none⟩) 0 0) Bo hc' rfl rfl rfl (hB.below ((Below.refl _ _).alloc (Nat.le_refl _) _) hB.lt) hBl
        rw [HH.out, HT.out] at q
        simp only [List.setIfInBounds_toArray, List.set_cons_zero, List.set_cons_succ] at q ⊢
        exact q
    have st_10101 : ∀ (u : World) (v0 v1 v2 l0 l1 l2 : Value) (Bo : Nat), Cp w1 u r 1 0 1 v0 v1 v2 → v0 = l0 → v2 = l2 → Blk u Bo #[.int .i64 0, .slice none 0 0, .slice none 0 0, .slice none 0 0] 25 (0, 0) → w1.heap.size ≤ Bo → H 6 #[true, true, true, true, true, false, false, true, true, false, true, true, true, false, false, true, false] { tmps := (((T.setIfInBounds 9 l0).setIfInBounds 17 l2).setIfInBounds 5 (.pointer (some ⟨Bo, 0, none⟩))), defers := [] } u := by
      intro u v0 v1 v2 l0 l1 l2 Bo hc e0 e2 hB hBl
      rw [HH.out, HT.out]
      subst e0
      subst e2
      simp only [List.setIfInBounds_toArray, List.set_cons_zero, List.set_cons_succ]
      refine heldD_two (i := 5) (k := 6) (by kernel_rfl) ?_ ?_
      · obtain ⟨a, n, c, w', hr, hc', hgr⟩ := hc.appX HVx.out HFew.out
        have HR := Lib.hid hr
        clear hr
        refine wpOpIn_append rfl rfl rfl (by rfl) _ _ _ _ rfl HR.out ?_
        refine ⟨fun _ => HSS.out _ hc'.below, ?_⟩
        have q := st_10111 w' (.slice a n c) v1 v2 v0 l1 v2 Bo hc' rfl (hgr hB (by decide)) hBl
        rw [HH.out, HT.out] at q
        simp only [List.setIfInBounds_toArray, List.set_cons_zero, List.set_cons_succ] at q ⊢
        exact q
      · have hc' := hc.litY
        refine wpOpIn_value (v := .slice (some ⟨u.heap.size, 0, none⟩) 0 0) (w' := u.alloc (.cells #[] 2)) rfl rfl rfl (by rfl) (by rfl) (by go_simp) ?_
        refine ⟨fun _ => HSS.out _ hc'.below, ?_⟩
        have q := st_11101 _ v0 (.slice (some ⟨u.heap.size, 0, none⟩) 0 0) v2 v0 (.slice (some ⟨u.heap.size, 0, none⟩) 0 0) v2 Bo hc' rfl rfl rfl (hB.below ((Below.refl _ _).alloc (Nat.le_refl _) _) hB.lt) hBl
        rw [HH.out, HT.out] at q
        simp only [List.setIfInBounds_toArray, List.set_cons_zero, List.set_cons_succ] at q ⊢
        exact q
    have st_01101 : ∀ (u : World) (v0 v1 v2 l0 l1 l2 : Value) (Bo : Nat), Cp w1 u r 0 1 1 v0 v1 v2 → v1 = l1 → v2 = l2 → Blk u Bo #[.int .i64 0, .slice none 0 0, .slice none 0 0, .slice none 0 0] 25 (0, 0) → w1.heap.size ≤ Bo → H 6 #[true, true, false, true, true, false, true, true, true, false, true, true, true, false, false, true, false] { tmps := (((T.setIfInBounds 13 l1).setIfInBounds 17 l2).setIfInBounds 5 (.pointer (some ⟨Bo, 0, none⟩))), defers := [] } u := by
      intro u v0 v1 v2 l0 l1 l2 Bo hc e1 e2 hB hBl
      rw [HH.out, HT.out]
      subst e1
      subst e2
      simp only [List.setIfInBounds_toArray, List.set_cons_zero, List.set_cons_succ]
      refine heldD_one (i := 2) (by kernel_rfl) ?_
      have hc' := hc.litX
      refine wpOpIn_value (v := .slice (some ⟨u.heap.size, 0, none⟩) 0 0) (w' := u.alloc (.cells #[] 2)) rfl rfl rfl (by rfl) (by rfl) (by go_simp) ?_
      refine ⟨fun _ => HSS.out _ hc'.below, ?_⟩
      have q := st_11101 _ (.slice (some ⟨u.heap.size, 0, none⟩) 0 0) v1 v2 (.slice (some ⟨u.heap.size, 0, none⟩) 0 0) v1 v2 Bo hc' rfl rfl rfl (hB.below ((Below.refl _ _).alloc (Nat.le_refl _) _) hB.lt) hBl
      rw [HH.out, HT.out] at q
      simp only [List.setIfInBounds_toArray, List.set_cons_zero, List.set_cons_succ] at q ⊢
      exact q
    have st_11100 : ∀ (u : World) (v0 v1 v2 l0 l1 l2 : Value) (Bo : Nat), Cp w1 u r 1 1 1 v0 v1 v2 → v0 = l0 → v1 = l1 → v2 = l2 → H 6 #[true, true, true, true, true, false, true, true, true, false, true, true, true, false, false, false, false] { tmps := (((T.setIfInBounds 9 l0).setIfInBounds 13 l1).setIfInBounds 17 l2), defers := [] } u := by
      intro u v0 v1 v2 l0 l1 l2 Bo hc e0 e1 e2
      rw [HH.out, HT.out]
      subst e0
      subst e1
      subst e2
      simp only [List.setIfInBounds_toArray, List.set_cons_zero, List.set_cons_succ]
      refine heldD_two (i := 5) (k := 15) (by kernel_rfl) ?_ ?_
      · obtain ⟨a, n, c, w', hr, hc', _⟩ := hc.appX HVx.out HFew.out
        have HR := Lib.hid hr
        clear hr
        refine wpOpIn_append rfl rfl rfl (by rfl) _ _ _ _ rfl HR.out ?_
        refine ⟨fun _ => HSS.out _ hc'.below, ?_⟩
        have q := st_11110 w' (.slice a n c) v1 v2 v0 v1 v2 Bo hc' rfl rfl
        rw [HH.out, HT.out] at q
        simp only [List.setIfInBounds_toArray, List.set_cons_zero, List.set_cons_succ] at q ⊢
        exact q
      · have hb : Below u.heap.size u (u.alloc (.cells #[.int .i64 0, .slice none 0 0, .slice none 0 0, .slice none 0 0] 25)) := (Below.refl _ _).alloc (Nat.le_refl _) _
        have hc' := hc.keep hb
        refine wpOpIn_value (v := .pointer (some ⟨u.heap.size, 0, none⟩)) (w' := u.alloc (.cells #[.int .i64 0, .slice none 0 0, .slice none 0 0, .slice none 0 0] 25)) rfl rfl rfl (by rfl) (by rfl) (by go_simp) ?_
        refine ⟨fun _ => HSS.out _ hc'.below, ?_⟩
        have q := st_11101 _ v0 v1 v2 v0 v1 v2 u.heap.size hc' rfl rfl rfl (Blk.new _ _ _ _) hc.below.size
        rw [HH.out, HT.out] at q
        simp only [List.setIfInBounds_toArray, List.set_cons_zero, List.set_cons_succ] at q ⊢
        exact q
    have st_10011 : ∀ (u : World) (v0 v1 v2 l0 l1 l2 : Value) (Bo : Nat), Cp w1 u r 2 0 0 v0 v1 v2 → Blk u Bo #[.int .i64 0, .slice none 0 0, .slice none 0 0, .slice none 0 0] 25 (0, 0) → w1.heap.size ≤ Bo → H 6 #[true, true, true, true, true, true, false, true, true, false, false, true, true, false, false, true, false] { tmps := (((T.setIfInBounds 9 l0).setIfInBounds 12 v0).setIfInBounds 5 (.pointer (some ⟨Bo, 0, none⟩))), defers := [] } u := by
      intro u v0 v1 v2 l0 l1 l2 Bo hc hB hBl
      rw [HH.out, HT.out]
      simp only [List.setIfInBounds_toArray, List.set_cons_zero, List.set_cons_succ]
      refine heldD_two (i := 6) (k := 10) (by kernel_rfl) ?_ ?_
      · have hc' := hc.litY
        refine wpOpIn_value (v := .slice (some ⟨u.heap.size, 0, none⟩) 0 0) (w' := u.alloc (.cells #[] 2)) rfl rfl rfl (by rfl) (by rfl) (by go_simp) ?_
        refine ⟨fun _ => HSS.out _ hc'.below, ?_⟩
        have q := st_11011 _ v0 (.slice (some ⟨u.heap.size, 0, none⟩) 0 0) v2 l0 (.slice (some ⟨u.heap.size, 0, none⟩) 0 0) l2 Bo hc' rfl (hB.below ((Below.refl _ _).alloc (Nat.le_refl _) _) hB.lt) hBl
        rw [HH.out, HT.out] at q
        simp only [List.setIfInBounds_toArray, List.set_cons_zero, List.set_cons_succ] at q ⊢
        exact q
      · have hc' := hc.litA
        refine wpOpIn_value (v := .slice (some ⟨u.heap.size, 0, none⟩) 0 0) (w' := u.alloc (.cells #[] 54)) rfl rfl rfl (by rfl) (by rfl) (by go_simp) ?_
        refine ⟨fun _ => HSS.out _ hc'.below, ?_⟩
        have q := st_10111 _ v0 v1 (.slice (some ⟨u.heap.size, 0, none⟩) 0 0) l0 l1 (.slice (some ⟨u.heap.size, 0, none⟩) 0 0) Bo hc' rfl (hB.below ((Below.refl _ _).alloc (Nat.le_refl _) _) hB.lt) hBl
        rw [HH.out, HT.out] at q
        simp only [List.setIfInBounds_toArray, List.set_cons_zero, List.set_cons_succ] at q ⊢
        exact q
    have st_11010 : ∀ (u : World) (v0 v1 v2 l0 l1 l2 : Value) (Bo : Nat), Cp w1 u r 2 1 0 v0 v1 v2 → v1 = l1 → H 6 #[true, true, true, true, true, true, true, true, true, false, false, true, true, false, false, false, false] { tmps := (((T.setIfInBounds 9 l0).setIfInBounds 13 l1).setIfInBounds 12 v0), defers := [] } u := by
      intro u v0 v1 v2 l0 l1 l2 Bo hc e1
      rw [HH.out, HT.out]
      subst e1
      simp only [List.setIfInBounds_toArray, List.set_cons_zero, List.set_cons_succ]
      refine heldD_three (i := 9) (k := 10) (m := 15) (by kernel_rfl) ?_ ?_ ?_
      · obtain ⟨a, n, c, w', hr, hc', _⟩ := hc.appY HVy.out HFew.out
        have HR := Lib.hid hr
        clear hr
        refine wpOpIn_append rfl rfl rfl (by rfl) _ _ _ _ rfl HR.out ?_
        refine ⟨fun _ => HSS.out _ hc'.below, ?_⟩
        have q := st_11020 w' v0 (.slice a n c) v2 l0 v1 l2 Bo hc'
        rw [HH.out, HT.out] at q
        simp only [List.setIfInBounds_toArray, List.set_cons_zero, List.set_cons_succ] at q ⊢
        exact q
      · have hc' := hc.litA
        refine wpOpIn_value (v := .slice (some ⟨u.heap.size, 0, none⟩) 0 0) (w' := u.alloc (.cells #[] 54)) rfl rfl rfl (by rfl) (by rfl) (by go_simp) ?_
        refine ⟨fun _ => HSS.out _ hc'.below, ?_⟩
        have q := st_11110 _ v0 v1 (.slice (some ⟨u.heap.size, 0, none⟩) 0 0) l0 v1 (.slice (some ⟨u.heap.size, 0, none⟩) 0 0) Bo hc' rfl rfl
        rw [HH.out, HT.out] at q
        simp only [List.setIfInBounds_toArray, List.set_cons_zero, List.set_cons_succ] at q ⊢
        exact q
      · have hb : Below u.heap.size u (u.alloc (.cells #[.int .i64 0, .slice none 0 0, .slice none 0 0, .slice none 0 0] 25)) := (Below.refl _ _).alloc (Nat.le_refl _) _
        have hc' := hc.keep hb
        refine wpOpIn_value (v := .pointer (some ⟨u.heap.size, 0, none⟩)) (w' := u.alloc (.cells #[.int .i64 0, .slice none 0 0, .slice none 0 0, .slice none 0 0] 25)) rfl rfl rfl (by rfl) (by rfl) (by go_simp) ?_
        refine ⟨fun _ => HSS.out _ hc'.below, ?_⟩
        have q := st_11011 _ v0 v1 v2 l0 v1 l2 u.heap.size hc' rfl (Blk.new _ _ _ _) hc.below.size
        rw [HH.out, HT.out] at q
        simp only [List.setIfInBounds_toArray, List.set_cons_zero, List.set_cons_succ] at q ⊢
        exact q
    have st_10110 : ∀ (u : World) (v0 v1 v2 l0 l1 l2 : Value) (Bo : Nat), Cp w1 u r 2 0 1 v0 v1 v2 → v2 = l2 → H 6 #[true, true, true, true, true, true, false, true, true, false, true, true, true, false, false, false, false] { tmps := (((T.setIfInBounds 9 l0).setIfInBounds 17 l2).setIfInBounds 12 v0), defers := [] } u := by
      intro u v0 v1 v2 l0 l1 l2 Bo hc e2
      rw [HH.out, HT.out]
      subst e2
      simp only [List.setIfInBounds_toArray, List.set_cons_zero, List.set_cons_succ]
      refine heldD_two (i := 6) (k := 15) (by kernel_rfl) ?_ ?_
      · have hc' := hc.litY
        refine wpOpIn_value (v := .slice (some ⟨u.heap.size, 0, none⟩) 0 0) (w' := u.alloc (.cells #[] 2)) rfl rfl rfl (by rfl) (by rfl) (by go_simp) ?_
        refine ⟨fun _ => HSS.out _ hc'.below, ?_⟩
        have q := st_11110 _ v0 (.slice (some ⟨u.heap.size, 0, none⟩) 0 0) v2 l0 (.slice (some ⟨u.heap.size, 0, none⟩) 0 0) v2 Bo hc' rfl rfl
        rw [HH.out, HT.out] at q
        simp only [List.setIfInBounds_toArray, List.set_cons_zero, List.set_cons_succ] at q ⊢
        exact q
      · have hb : Below u.heap.size u (u.alloc (.cells #[.int .i64 0, .slice none 0 0, .slice none 0 0, .slice none 0 0] 25)) := (Below.refl _ _).alloc (Nat.le_refl _) _
        have hc' := hc.keep hb
        refine wpOpIn_value (v := .pointer (some ⟨u.heap.size, 0, none⟩)) (w' := u.alloc (.cells #[.int .i64 0, .slice none 0 0, .slice none 0 0, .slice none 0 0] 25)) rfl rfl rfl (by rfl) (by rfl) (by go_simp) ?_
        refine ⟨fun _ => HSS.out _ hc'.below, ?_⟩
        have q := st_10111 _ v0 v1 v2 l0 l1 v2 u.heap.size hc' rfl (Blk.new _ _ _ _) hc.below.size
        rw [HH.out, HT.out] at q
        simp only [List.setIfInBounds_toArray, List.set_cons_zero, List.set_cons_succ] at q ⊢
        exact q
    have st_10001 : ∀ (u : World) (v0 v1 v2 l0 l1 l2 : Value) (Bo : Nat), Cp w1 u r 1 0 0 v0 v1 v2 → v0 = l0 → Blk u Bo #[.int .i64 0, .slice none 0 0, .slice none 0 0, .slice none 0 0] 25 (0, 0) → w1.heap.size ≤ Bo → H 7 #[true, true, true, true, true, false, false, true, true, false, false, true, true, false, false, true, false] { tmps := ((T.setIfInBounds 9 l0).setIfInBounds 5 (.pointer (some ⟨Bo, 0, none⟩))), defers := [] } u := by
      intro u v0 v1 v2 l0 l1 l2 Bo hc e0 hB hBl
      rw [HH.out, HT.out]
      subst e0
      simp only [List.setIfInBounds_toArray, List.set_cons_zero, List.set_cons_succ]
      refine heldD_three (i := 5) (k := 6) (m := 10) (by kernel_rfl) ?_ ?_ ?_
      · obtain ⟨a, n, c, w', hr, hc', hgr⟩ := hc.appX HVx.out HFew.out
        have HR := Lib.hid hr
        clear hr
        refine wpOpIn_append rfl rfl rfl (by rfl) _ _ _ _ rfl HR.out ?_
        refine ⟨fun _ => HSS.out _ hc'.below, ?_⟩
        have q := st_10011 w' (.slice a n c) v1 v2 v0 l1 l2 Bo hc' (hgr hB (by decide)) hBl
        rw [HH.out, HT.out] at q
        simp only [List.setIfInBounds_toArray, List.set_cons_zero, List.set_cons_succ] at q ⊢
        exact q
      · have hc' := hc.litY
        refine wpOpIn_value (v := .slice (some ⟨u.heap.size, 0, none⟩) 0 0) (w' := u.alloc (.cells #[] 2)) rfl rfl rfl (by rfl) (by rfl) (by go_simp) ?_
        refine ⟨fun _ => HSS.out _ hc'.below, ?_⟩
        have q := st_11001 _ v0 (.slice (some ⟨u.heap.size, 0, none⟩) 0 0) v2 v0 (.slice (some ⟨u.heap.size, 0, none⟩) 0 0) l2 Bo hc' rfl rfl (hB.below ((Below.refl _ _).alloc (Nat.le_refl _) _) hB.lt) hBl
        rw [HH.out, HT.out] at q
        simp only [List.setIfInBounds_toArray, List.set_cons_zero, List.set_cons_succ] at q ⊢
        exact q
      · have hc' := hc.litA
        refine wpOpIn_value (v := .slice (some ⟨u.heap.size, 0, none⟩) 0 0) (w' := u.alloc (.cells #[] 54)) rfl rfl rfl (by rfl) (by rfl) (by go_simp) ?_
        refine ⟨fun _ => HSS.out _ hc'.below, ?_⟩
        have q := st_10101 _ v0 v1 (.slice (some ⟨u.heap.size, 0, none⟩) 0 0) v0 l1 (.slice (some ⟨u.heap.size, 0, none⟩) 0 0) Bo hc' rfl rfl (hB.below ((Below.refl _ _).alloc (Nat.le_refl _) _) hB.lt) hBl
        rw [HH.out, HT.out] at q
        simp only [List.setIfInBounds_toArray, List.set_cons_zero, List.set_cons_succ] at q ⊢
        exact q
    have st_01001 : ∀ (u : World) (v0 v1 v2 l0 l1 l2 : Value) (Bo : Nat), Cp w1 u r 0 1 0 v0 v1 v2 → v1 = l1 → Blk u Bo #[.int .i64 0, .slice none 0 0, .slice none 0 0, .slice none 0 0] 25 (0, 0) → w1.heap.size ≤ Bo → H 7 #[true, true, false, true, true, false, true, true, true, false, false, true, true, false, false, true, false] { tmps := ((T.setIfInBounds 13 l1).setIfInBounds 5 (.pointer (some ⟨Bo, 0, none⟩))), defers := [] } u := by
      intro u v0 v1 v2 l0 l1 l2 Bo hc e1 hB hBl
      rw [HH.out, HT.out]
      subst e1
      simp only [List.setIfInBounds_toArray, List.set_cons_zero, List.set_cons_succ]
      refine heldD_two (i := 2) (k := 10) (by kernel_rfl) ?_ ?_
      · have hc' := hc.litX
        refine wpOpIn_value (v := .slice (some ⟨u.heap.size, 0, none⟩) 0 0) (w' := u.alloc (.cells #[] 2)) rfl rfl rfl (by rfl) (by rfl) (by go_simp) ?_
        refine ⟨fun _ => HSS.out _ hc'.below, ?_⟩
        have q := st_11001 _ (.slice (some ⟨u.heap.size, 0, none⟩) 0 0) v1 v2 (.slice (some ⟨u.heap.size, 0, none⟩) 0 0) v1 l2 Bo hc' rfl rfl (hB.below ((Below.refl _ _).alloc (Nat.le_refl _) _) hB.lt) hBl
        rw [HH.out, HT.out] at q
        simp only [List.setIfInBounds_toArray, List.set_cons_zero, List.set_cons_succ] at q ⊢
        exact q
      · have hc' := hc.litA
        refine wpOpIn_value (v := .slice (some ⟨u.heap.size, 0, none⟩) 0 0) (w' := u.alloc (.cells #[] 54)) rfl rfl rfl (by rfl) (by rfl) (by go_simp) ?_
        refine ⟨fun _ => HSS.out _ hc'.below, ?_⟩
        have q := st_01101 _ v0 v1 (.slice (some ⟨u.heap.size, 0, none⟩) 0 0) l0 v1 (.slice (some ⟨u.heap.size, 0, none⟩) 0 0) Bo hc' rfl rfl (hB.below ((Below.refl _ _).alloc (Nat.le_refl _) _) hB.lt) hBl
        rw [HH.out, HT.out] at q
        simp only [List.setIfInBounds_toArray, List.set_cons_zero, List.set_cons_succ] at q ⊢
        exact q
    have st_00101 : ∀ (u : World) (v0 v1 v2 l0 l1 l2 : Value) (Bo : Nat), Cp w1 u r 0 0 1 v0 v1 v2 → v2 = l2 → Blk u Bo #[.int .i64 0, .slice none 0 0, .slice none 0 0, .slice none 0 0] 25 (0, 0) → w1.heap.size ≤ Bo → H 7 #[true, true, false, true, true, false, false, true, true, false, true, true, true, false, false, true, false] { tmps := ((T.setIfInBounds 17 l2).setIfInBounds 5 (.pointer (some ⟨Bo, 0, none⟩))), defers := [] } u := by
      intro u v0 v1 v2 l0 l1 l2 Bo hc e2 hB hBl
      rw [HH.out, HT.out]
      subst e2
      simp only [List.setIfInBounds_toArray, List.set_cons_zero, List.set_cons_succ]
      refine heldD_two (i := 2) (k := 6) (by kernel_rfl) ?_ ?_
      · have hc' := hc.litX
        refine wpOpIn_value (v := .slice (some ⟨u.heap.size, 0, none⟩) 0 0) (w' := u.alloc (.cells #[] 2)) rfl rfl rfl (by rfl) (by rfl) (by go_simp) ?_
        refine ⟨fun _ => HSS.out _ hc'.below, ?_⟩
        have q := st_10101 _ (.slice (some ⟨u.heap.size, 0, none⟩) 0 0) v1 v2 (.slice (some ⟨u.heap.size, 0, none⟩) 0 0) l1 v2 Bo hc' rfl rfl (hB.below ((Below.refl _ _).alloc (Nat.le_refl _) _) hB.lt) hBl
        rw [HH.out, HT.out] at q
        simp only [List.setIfInBounds_toArray, List.set_cons_zero, List.set_cons_succ] at q ⊢
        exact q
      · have hc' := hc.litY
        refine wpOpIn_value (v := .slice (some ⟨u.heap.size, 0, none⟩) 0 0) (w' := u.alloc (.cells #[] 2)) rfl rfl rfl (by rfl) (by rfl) (by go_simp) ?_
        refine ⟨fun _ => HSS.out _ hc'.below, ?_⟩
        have q := st_01101 _ v0 (.slice (some ⟨u.heap.size, 0, none⟩) 0 0) v2 l0 (.slice (some ⟨u.heap.size, 0, none⟩) 0 0) v2 Bo hc' rfl rfl (hB.below ((Below.refl _ _).alloc (Nat.le_refl _) _) hB.lt) hBl
        rw [HH.out, HT.out] at q
        simp only [List.setIfInBounds_toArray, List.set_cons_zero, List.set_cons_succ] at q ⊢
        exact q
    have st_11000 : ∀ (u : World) (v0 v1 v2 l0 l1 l2 : Value) (Bo : Nat), Cp w1 u r 1 1 0 v0 v1 v2 → v0 = l0 → v1 = l1 → H 7 #[true, true, true, true, true, false, true, true, true, false, false, true, true, false, false, false, false] { tmps := ((T.setIfInBounds 9 l0).setIfInBounds 13 l1), defers := [] } u := by
      intro u v0 v1 v2 l0 l1 l2 Bo hc e0 e1
      rw [HH.out, HT.out]
      subst e0
      subst e1
      simp only [List.setIfInBounds_toArray, List.set_cons_zero, List.set_cons_succ]
      refine heldD_three (i := 5) (k := 10) (m := 15) (by kernel_rfl) ?_ ?_ ?_
      · obtain ⟨a, n, c, w', hr, hc', _⟩ := hc.appX HVx.out HFew.out
        have HR := Lib.hid hr
        clear hr
        refine wpOpIn_append rfl rfl rfl (by rfl) _ _ _ _ rfl HR.out ?_
        refine ⟨fun _ => HSS.out _ hc'.below, ?_⟩
        have q := st_11010 w' (.slice a n c) v1 v2 v0 v1 l2 Bo hc' rfl
        rw [HH.out, HT.out] at q
        simp only [List.setIfInBounds_toArray, List.set_cons_zero, List.set_cons_succ] at q ⊢
        exact q
      · have hc' := hc.litA
        refine wpOpIn_value (v := .slice (some ⟨u.heap.size, 0, none⟩) 0 0) (w' := u.alloc (.cells #[] 54)) rfl rfl rfl (by rfl) (by rfl) (by go_simp) ?_
        refine ⟨fun _ => HSS.out _ hc'.below, ?_⟩
        have q := st_11100 _ v0 v1 (.slice (some ⟨u.heap.size, 0, none⟩) 0 0) v0 v1 (.slice (some ⟨u.heap.size, 0, none⟩) 0 0) Bo hc' rfl rfl rfl
        rw [HH.out, HT.out] at q
        simp only [List.setIfInBounds_toArray, List.set_cons_zero, List.set_cons_succ] at q ⊢
        exact q
      · have hb : Below u.heap.size u (u.alloc (.cells #[.int .i64 0, .slice none 0 0, .slice none 0 0, .slice none 0 0] 25)) := (Below.refl _ _).alloc (Nat.le_refl _) _
        have hc' := hc.keep hb
        refine wpOpIn_value (v := .pointer (some ⟨u.heap.size, 0, none⟩)) (w' := u.alloc (.cells #[.int .i64 0, .slice none 0 0, .slice none 0 0, .slice none 0 0] 25)) rfl rfl rfl (by rfl) (by rfl) (by go_simp) ?_
        refine ⟨fun _ => HSS.out _ hc'.below, ?_⟩
        have q := st_11001 _ v0 v1 v2 v0 v1 l2 u.heap.size hc' rfl rfl (Blk.new _ _ _ _) hc.below.size
        rw [HH.out, HT.out] at q
        simp only [List.setIfInBounds_toArray, List.set_cons_zero, List.set_cons_succ] at q ⊢
        exact q
    have st_10100 : ∀ (u : World) (v0 v1 v2 l0 l1 l2 : Value) (Bo : Nat), Cp w1 u r 1 0 1 v0 v1 v2 → v0 = l0 → v2 = l2 → H 7 #[true, true, true, true, true, false, false, true, true, false, true, true, true, false, false, false, false] { tmps := ((T.setIfInBounds 9 l0).setIfInBounds 17 l2), defers := [] } u := by
      intro u v0 v1 v2 l0 l1 l2 Bo hc e0 e2
      rw [HH.out, HT.out]
      subst e0
      subst e2
      simp only [List.setIfInBounds_toArray, List.set_cons_zero, List.set_cons_succ]
      refine heldD_three (i := 5) (k := 6) (m := 15) (by kernel_rfl) ?_ ?_ ?_
      · obtain ⟨a, n, c, w', hr, hc', _⟩ := hc.appX HVx.out HFew.out
        have HR := Lib.hid hr
        clear hr
        refine wpOpIn_append rfl rfl rfl (by rfl) _ _ _ _ rfl HR.out ?_
        refine ⟨fun _ => HSS.out _ hc'.below, ?_⟩
        have q := st_10110 w' (.slice a n c) v1 v2 v0 l1 v2 Bo hc' rfl
        rw [HH.out, HT.out] at q
        simp only [List.setIfInBounds_toArray, List.set_cons_zero, List.set_cons_succ] at q ⊢
        exact q
      · have hc' := hc.litY
        refine wpOpIn_value (v := .slice (some ⟨u.heap.size, 0, none⟩) 0 0) (w' := u.alloc (.cells #[] 2)) rfl rfl rfl (by rfl) (by rfl) (by go_simp) ?_
        refine ⟨fun _ => HSS.out _ hc'.below, ?_⟩
        have q := st_11100 _ v0 (.slice (some ⟨u.heap.size, 0, none⟩) 0 0) v2 v0 (.slice (some ⟨u.heap.size, 0, none⟩) 0 0) v2 Bo hc' rfl rfl rfl
        rw [HH.out, HT.out] at q
        simp only [List.setIfInBounds_toArray, List.set_cons_zero, List.set_cons_succ] at q ⊢
        exact q
      · have hb : Below u.heap.size u (u.alloc (.cells #[.int .i64 0, .slice none 0 0, .slice none 0 0, .slice none 0 0] 25)) := (Below.refl _ _).alloc (Nat.le_refl _) _
        have hc' := hc.keep hb
        refine wpOpIn_value (v := .pointer (some ⟨u.heap.size, 0, none⟩)) (w' := u.alloc (.cells #[.int .i64 0, .slice none 0 0, .slice none 0 0, .slice none 0 0] 25)) rfl rfl rfl (by rfl) (by rfl) (by go_simp) ?_
        refine ⟨fun _ => HSS.out _ hc'.below, ?_⟩
        have q := st_10101 _ v0 v1 v2 v0 l1 v2 u.heap.size hc' rfl rfl (Blk.new _ _ _ _) hc.below.size
        rw [HH.out, HT.out] at q
        simp only [List.setIfInBounds_toArray, List.set_cons_zero, List.set_cons_succ] at q ⊢
        exact q
    have st_01100 : ∀ (u : World) (v0 v1 v2 l0 l1 l2 : Value) (Bo : Nat), Cp w1 u r 0 1 1 v0 v1 v2 → v1 = l1 → v2 = l2 → H 7 #[true, true, false, true, true, false, true, true, true, false, true, true, true, false, false, false, false] { tmps := ((T.setIfInBounds 13 l1).setIfInBounds 17 l2), defers := [] } u := by
      intro u v0 v1 v2 l0 l1 l2 Bo hc e1 e2
      rw [HH.out, HT.out]
      subst e1
      subst e2
      simp only [List.setIfInBounds_toArray, List.set_cons_zero, List.set_cons_succ]
      refine heldD_two (i := 2) (k := 15) (by kernel_rfl) ?_ ?_
      · have hc' := hc.litX
        refine wpOpIn_value (v := .slice (some ⟨u.heap.size, 0, none⟩) 0 0) (w' := u.alloc (.cells #[] 2)) rfl rfl rfl (by rfl) (by rfl) (by go_simp) ?_
        refine ⟨fun _ => HSS.out _ hc'.below, ?_⟩
        have q := st_11100 _ (.slice (some ⟨u.heap.size, 0, none⟩) 0 0) v1 v2 (.slice (some ⟨u.heap.size, 0, none⟩) 0 0) v1 v2 Bo hc' rfl rfl rfl
        rw [HH.out, HT.out] at q
        simp only [List.setIfInBounds_toArray, List.set_cons_zero, List.set_cons_succ] at q ⊢
        exact q
      · have hb : Below u.heap.size u (u.alloc (.cells #[.int .i64 0, .slice none 0 0, .slice none 0 0, .slice none 0 0] 25)) := (Below.refl _ _).alloc (Nat.le_refl _) _
        have hc' := hc.keep hb
        refine wpOpIn_value (v := .pointer (some ⟨u.heap.size, 0, none⟩)) (w' := u.alloc (.cells #[.int .i64 0, .slice none 0 0, .slice none 0 0, .slice none 0 0] 25)) rfl rfl rfl (by rfl) (by rfl) (by go_simp) ?_
        refine ⟨fun _ => HSS.out _ hc'.below, ?_⟩
        have q := st_01101 _ v0 v1 v2 l0 v1 v2 u.heap.size hc' rfl rfl (Blk.new _ _ _ _) hc.below.size
        rw [HH.out, HT.out] at q
        simp only [List.setIfInBounds_toArray, List.set_cons_zero, List.set_cons_succ] at q ⊢
        exact q
    have st_10010 : ∀ (u : World) (v0 v1 v2 l0 l1 l2 : Value) (Bo : Nat), Cp w1 u r 2 0 0 v0 v1 v2 → H 7 #[true, true, true, true, true, true, false, true, true, false, false, true, true, false, false, false, false] { tmps := ((T.setIfInBounds 9 l0).setIfInBounds 12 v0), defers := [] } u := by
      intro u v0 v1 v2 l0 l1 l2 Bo hc
      rw [HH.out, HT.out]
      simp only [List.setIfInBounds_toArray, List.set_cons_zero, List.set_cons_succ]
      refine heldD_three (i := 6) (k := 10) (m := 15) (by kernel_rfl) ?_ ?_ ?_
      · have hc' := hc.litY
        refine wpOpIn_value (v := .slice (some ⟨u.heap.size, 0, none⟩) 0 0) (w' := u.alloc (.cells #[] 2)) rfl rfl rfl (by rfl) (by rfl) (by go_simp) ?_
        refine ⟨fun _ => HSS.out _ hc'.below, ?_⟩
        have q := st_11010 _ v0 (.slice (some ⟨u.heap.size, 0, none⟩) 0 0) v2 l0 (.slice (some ⟨u.heap.size, 0, none⟩) 0 0) l2 Bo hc' rfl
        rw [HH.out, HT.out] at q
        simp only [List.setIfInBounds_toArray, List.set_cons_zero, List.set_cons_succ] at q ⊢
        exact q
      · have hc' := hc.litA
        refine wpOpIn_value (v := .slice (some ⟨u.heap.size, 0, none⟩) 0 0) (w' := u.alloc (.cells #[] 54)) rfl rfl rfl (by rfl) (by rfl) (by go_simp) ?_
        refine ⟨fun _ => HSS.out _ hc'.below, ?_⟩
        have q := st_10110 _ v0 v1 (.slice (some ⟨u.heap.size, 0, none⟩) 0 0) l0 l1 (.slice (some ⟨u.heap.size, 0, none⟩) 0 0) Bo hc' rfl
        rw [HH.out, HT.out] at q
        simp only [List.setIfInBounds_toArray, List.set_cons_zero, List.set_cons_succ] at q ⊢
        exact q
      · have hb : Below u.heap.size u (u.alloc (.cells #[.int .i64 0, .slice none 0 0, .slice none 0 0, .slice none 0 0] 25)) := (Below.refl _ _).alloc (Nat.le_refl _) _
        have hc' := hc.keep hb
        refine wpOpIn_value (v := .pointer (some ⟨u.heap.size, 0, none⟩)) (w' := u.alloc (.cells #[.int .i64 0, .slice none 0 0, .slice none 0 0, .slice none 0 0] 25)) rfl rfl rfl (by rfl) (by rfl) (by go_simp) ?_
        refine ⟨fun _ => HSS.out _ hc'.below, ?_⟩
        have q := st_10011 _ v0 v1 v2 l0 l1 l2 u.heap.size hc' (Blk.new _ _ _ _) hc.below.size
        rw [HH.out, HT.out] at q
        simp only [List.setIfInBounds_toArray, List.set_cons_zero, List.set_cons_succ] at q ⊢
        exact q
    have st_00001 : ∀ (u : World) (v0 v1 v2 l0 l1 l2 : Value) (Bo : Nat), Cp w1 u r 0 0 0 v0 v1 v2 → Blk u Bo #[.int .i64 0, .slice none 0 0, .slice none 0 0, .slice none 0 0] 25 (0, 0) → w1.heap.size ≤ Bo → H 8 #[true, true, false, true, true, false, false, true, true, false, false, true, true, false, false, true, false] { tmps := (T.setIfInBounds 5 (.pointer (some ⟨Bo, 0, none⟩))), defers := [] } u := by
      intro u v0 v1 v2 l0 l1 l2 Bo hc hB hBl
      rw [HH.out, HT.out]
      simp only [List.setIfInBounds_toArray, List.set_cons_zero, List.set_cons_succ]
      refine heldD_three (i := 2) (k := 6) (m := 10) (by kernel_rfl) ?_ ?_ ?_
      · have hc' := hc.litX
        refine wpOpIn_value (v := .slice (some ⟨u.heap.size, 0, none⟩) 0 0) (w' := u.alloc (.cells #[] 2)) rfl rfl rfl (by rfl) (by rfl) (by go_simp) ?_
        refine ⟨fun _ => HSS.out _ hc'.below, ?_⟩
        have q := st_10001 _ (.slice (some ⟨u.heap.size, 0, none⟩) 0 0) v1 v2 (.slice (some ⟨u.heap.size, 0, none⟩) 0 0) l1 l2 Bo hc' rfl (hB.below ((Below.refl _ _).alloc (Nat.le_refl _) _) hB.lt) hBl
        rw [HH.out, HT.out] at q
        simp only [List.setIfInBounds_toArray, List.set_cons_zero, List.set_cons_succ] at q ⊢
        exact q
      · have hc' := hc.litY
        refine wpOpIn_value (v := .slice (some ⟨u.heap.size, 0, none⟩) 0 0) (w' := u.alloc (.cells #[] 2)) rfl rfl rfl (by rfl) (by rfl) (by go_simp) ?_
        refine ⟨fun _ => HSS.out _ hc'.below, ?_⟩
        have q := st_01001 _ v0 (.slice (some ⟨u.heap.size, 0, none⟩) 0 0) v2 l0 (.slice (some ⟨u.heap.size, 0, none⟩) 0 0) l2 Bo hc' rfl (hB.below ((Below.refl _ _).alloc (Nat.le_refl _) _) hB.lt) hBl
        rw [HH.out, HT.out] at q
        simp only [List.setIfInBounds_toArray, List.set_cons_zero, List.set_cons_succ] at q ⊢
        exact q
      · have hc' := hc.litA
        refine wpOpIn_value (v := .slice (some ⟨u.heap.size, 0, none⟩) 0 0) (w' := u.alloc (.cells #[] 54)) rfl rfl rfl (by rfl) (by rfl) (by go_simp) ?_
        refine ⟨fun _ => HSS.out _ hc'.below, ?_⟩
        have q := st_00101 _ v0 v1 (.slice (some ⟨u.heap.size, 0, none⟩) 0 0) l0 l1 (.slice (some ⟨u.heap.size, 0, none⟩) 0 0) Bo hc' rfl (hB.below ((Below.refl _ _).alloc (Nat.le_refl _) _) hB.lt) hBl
        rw [HH.out, HT.out] at q
        simp only [List.setIfInBounds_toArray, List.set_cons_zero, List.set_cons_succ] at q ⊢
        exact q
    have st_10000 : ∀ (u : World) (v0 v1 v2 l0 l1 l2 : Value) (Bo : Nat), Cp w1 u r 1 0 0 v0 v1 v2 → v0 = l0 → H 8 #[true, true, true, true, true, false, false, true, true, false, false, true, true, false, false, false, false] { tmps := (T.setIfInBounds 9 l0), defers := [] } u := by
      intro u v0 v1 v2 l0 l1 l2 Bo hc e0
      rw [HH.out, HT.out]
      subst e0
      simp only [List.setIfInBounds_toArray, List.set_cons_zero, List.set_cons_succ]
      refine heldD_four (i := 5) (k := 6) (m := 10) (o := 15) (by kernel_rfl) ?_ ?_ ?_ ?_
      · obtain ⟨a, n, c, w', hr, hc', _⟩ := hc.appX HVx.out HFew.out
        have HR := Lib.hid hr
        clear hr
        refine wpOpIn_append rfl rfl rfl (by rfl) _ _ _ _ rfl HR.out ?_
        refine ⟨fun _ => HSS.out _ hc'.below, ?_⟩
        have q := st_10010 w' (.slice a n c) v1 v2 v0 l1 l2 Bo hc'
        rw [HH.out, HT.out] at q
        simp only [List.setIfInBounds_toArray, List.set_cons_zero, List.set_cons_succ] at q ⊢
        exact q
      · have hc' := hc.litY
        refine wpOpIn_value (v := .slice (some ⟨u.heap.size, 0, none⟩) 0 0) (w' := u.alloc (.cells #[] 2)) rfl rfl rfl (by rfl) (by rfl) (by go_simp) ?_
        refine ⟨fun _ => HSS.out _ hc'.below, ?_⟩
        have q := st_11000 _ v0 (.slice (some ⟨u.heap.size, 0, none⟩) 0 0) v2 v0 (.slice (some ⟨u.heap.size, 0, none⟩) 0 0) l2 Bo hc' rfl rfl
        rw [HH.out, HT.out] at q
        simp only [List.setIfInBounds_toArray, List.set_cons_zero, List.set_cons_succ] at q ⊢
        exact q
      · have hc' := hc.litA
        refine wpOpIn_value (v := .slice (some ⟨u.heap.size, 0, none⟩) 0 0) (w' := u.alloc (.cells #[] 54)) rfl rfl rfl (by rfl) (by rfl) (by go_simp) ?_
        refine ⟨fun _ => HSS.out _ hc'.below, ?_⟩
        have q := st_10100 _ v0 v1 (.slice (some ⟨u.heap.size, 0, none⟩) 0 0) v0 l1 (.slice (some ⟨u.heap.size, 0, none⟩) 0 0) Bo hc' rfl rfl
        rw [HH.out, HT.out] at q
        simp only [List.setIfInBounds_toArray, List.set_cons_zero, List.set_cons_succ] at q ⊢
        exact q
      · have hb : Below u.heap.size u (u.alloc (.cells #[.int .i64 0, .slice none 0 0, .slice none 0 0, .slice none 0 0] 25)) := (Below.refl _ _).alloc (Nat.le_refl _) _
        have hc' := hc.keep hb
        refine wpOpIn_value (v := .pointer (some ⟨u.heap.size, 0, none⟩)) (w' := u.alloc (.cells #[.int .i64 0, .slice none 0 0, .slice none 0 0, .slice none 0 0] 25)) rfl rfl rfl (by rfl) (by rfl) (by go_simp) ?_
        refine ⟨fun _ => HSS.out _ hc'.below, ?_⟩
        have q := st_10001 _ v0 v1 v2 v0 l1 l2 u.heap.size hc' rfl (Blk.new _ _ _ _) hc.below.size
        rw [HH.out, HT.out] at q
        simp only [List.setIfInBounds_toArray, List.set_cons_zero, List.set_cons_succ] at q ⊢
        exact q
    have st_01000 : ∀ (u : World) (v0 v1 v2 l0 l1 l2 : Value) (Bo : Nat), Cp w1 u r 0 1 0 v0 v1 v2 → v1 = l1 → H 8 #[true, true, false, true, true, false, true, true, true, false, false, true, true, false, false, false, false] { tmps := (T.setIfInBounds 13 l1), defers := [] } u := by
      intro u v0 v1 v2 l0 l1 l2 Bo hc e1
      rw [HH.out, HT.out]
      subst e1
      simp only [List.setIfInBounds_toArray, List.set_cons_zero, List.set_cons_succ]
      refine heldD_three (i := 2) (k := 10) (m := 15) (by kernel_rfl) ?_ ?_ ?_
      · have hc' := hc.litX
        refine wpOpIn_value (v := .slice (some ⟨u.heap.size, 0, none⟩) 0 0) (w' := u.alloc (.cells #[] 2)) rfl rfl rfl (by rfl) (by rfl) (by go_simp) ?_
        refine ⟨fun _ => HSS.out _ hc'.below, ?_⟩
        have q := st_11000 _ (.slice (some ⟨u.heap.size, 0, none⟩) 0 0) v1 v2 (.slice (some ⟨u.heap.size, 0, none⟩) 0 0) v1 l2 Bo hc' rfl rfl
        rw [HH.out, HT.out] at q
        simp only [List.setIfInBounds_toArray, List.set_cons_zero, List.set_cons_succ] at q ⊢
        exact q
      · have hc' := hc.litA
        refine wpOpIn_value (v := .slice (some ⟨u.heap.size, 0, none⟩) 0 0) (w' := u.alloc (.cells #[] 54)) rfl rfl rfl (by rfl) (by rfl) (by go_simp) ?_
        refine ⟨fun _ => HSS.out _ hc'.below, ?_⟩
        have q := st_01100 _ v0 v1 (.slice (some ⟨u.heap.size, 0, none⟩) 0 0) l0 v1 (.slice (some ⟨u.heap.size, 0, none⟩) 0 0) Bo hc' rfl rfl
        rw [HH.out, HT.out] at q
        simp only [List.setIfInBounds_toArray, List.set_cons_zero, List.set_cons_succ] at q ⊢
        exact q
      · have hb : Below u.heap.size u (u.alloc (.cells #[.int .i64 0, .slice none 0 0, .slice none 0 0, .slice none 0 0] 25)) := (Below.refl _ _).alloc (Nat.le_refl _) _
        have hc' := hc.keep hb
        refine wpOpIn_value (v := .pointer (some ⟨u.heap.size, 0, none⟩)) (w' := u.alloc (.cells #[.int .i64 0, .slice none 0 0, .slice none 0 0, .slice none 0 0] 25)) rfl rfl rfl (by rfl) (by rfl) (by go_simp) ?_
        refine ⟨fun _ => HSS.out _ hc'.below, ?_⟩
        have q := st_01001 _ v0 v1 v2 l0 v1 l2 u.heap.size hc' rfl (Blk.new _ _ _ _) hc.below.size
        rw [HH.out, HT.out] at q
        simp only [List.setIfInBounds_toArray, List.set_cons_zero, List.set_cons_succ] at q ⊢
        exact q
    have st_00100 : ∀ (u : World) (v0 v1 v2 l0 l1 l2 : Value) (Bo : Nat), Cp w1 u r 0 0 1 v0 v1 v2 → v2 = l2 → H 8 #[true, true, false, true, true, false, false, true, true, false, true, true, true, false, false, false, false] { tmps := (T.setIfInBounds 17 l2), defers := [] } u := by
      intro u v0 v1 v2 l0 l1 l2 Bo hc e2
      rw [HH.out, HT.out]
      subst e2
      simp only [List.setIfInBounds_toArray, List.set_cons_zero, List.set_cons_succ]
      refine heldD_three (i := 2) (k := 6) (m := 15) (by kernel_rfl) ?_ ?_ ?_
      · have hc' := hc.litX
        refine wpOpIn_value (v := .slice (some ⟨u.heap.size, 0, none⟩) 0 0) (w' := u.alloc (.cells #[] 2)) rfl rfl rfl (by rfl) (by rfl) (by go_simp) ?_
        refine ⟨fun _ => HSS.out _ hc'.below, ?_⟩
        have q := st_10100 _ (.slice (some ⟨u.heap.size, 0, none⟩) 0 0) v1 v2 (.slice (some ⟨u.heap.size, 0, none⟩) 0 0) l1 v2 Bo hc' rfl rfl
        rw [HH.out, HT.out] at q
        simp only [List.setIfInBounds_toArray, List.set_cons_zero, List.set_cons_succ] at q ⊢
        exact q
      · have hc' := hc.litY
        refine wpOpIn_value (v := .slice (some ⟨u.heap.size, 0, none⟩) 0 0) (w' := u.alloc (.cells #[] 2)) rfl rfl rfl (by rfl) (by rfl) (by go_simp) ?_
        refine ⟨fun _ => HSS.out _ hc'.below, ?_⟩
        have q := st_01100 _ v0 (.slice (some ⟨u.heap.size, 0, none⟩) 0 0) v2 l0 (.slice (some ⟨u.heap.size, 0, none⟩) 0 0) v2 Bo hc' rfl rfl
        rw [HH.out, HT.out] at q
        simp only [List.setIfInBounds_toArray, List.set_cons_zero, List.set_cons_succ] at q ⊢
        exact q
      · have hb : Below u.heap.size u (u.alloc (.cells #[.int .i64 0, .slice none 0 0, .slice none 0 0, .slice none 0 0] 25)) := (Below.refl _ _).alloc (Nat.le_refl _) _
        have hc' := hc.keep hb
        refine wpOpIn_value (v := .pointer (some ⟨u.heap.size, 0, none⟩)) (w' := u.alloc (.cells #[.int .i64 0, .slice none 0 0, .slice none 0 0, .slice none 0 0] 25)) rfl rfl rfl (by rfl) (by rfl) (by go_simp) ?_
        refine ⟨fun _ => HSS.out _ hc'.below, ?_⟩
        have q := st_00101 _ v0 v1 v2 l0 l1 v2 u.heap.size hc' rfl (Blk.new _ _ _ _) hc.below.size
        rw [HH.out, HT.out] at q
        simp only [List.setIfInBounds_toArray, List.set_cons_zero, List.set_cons_succ] at q ⊢
        exact q
    have st_00000 : ∀ (u : World) (v0 v1 v2 l0 l1 l2 : Value) (Bo : Nat), Cp w1 u r 0 0 0 v0 v1 v2 → H 9 #[true, true, false, true, true, false, false, true, true, false, false, true, true, false, false, false, false] { tmps := T, defers := [] } u := by
      intro u v0 v1 v2 l0 l1 l2 Bo hc
      rw [HH.out, HT.out]
      refine heldD_four (i := 2) (k := 6) (m := 10) (o := 15) (by kernel_rfl) ?_ ?_ ?_ ?_
      · have hc' := hc.litX
        refine wpOpIn_value (v := .slice (some ⟨u.heap.size, 0, none⟩) 0 0) (w' := u.alloc (.cells #[] 2)) rfl rfl rfl (by rfl) (by rfl) (by go_simp) ?_
        refine ⟨fun _ => HSS.out _ hc'.below, ?_⟩
        have q := st_10000 _ (.slice (some ⟨u.heap.size, 0, none⟩) 0 0) v1 v2 (.slice (some ⟨u.heap.size, 0, none⟩) 0 0) l1 l2 Bo hc' rfl
        rw [HH.out, HT.out] at q
        simp only [List.setIfInBounds_toArray, List.set_cons_zero, List.set_cons_succ] at q ⊢
        exact q
      · have hc' := hc.litY
        refine wpOpIn_value (v := .slice (some ⟨u.heap.size, 0, none⟩) 0 0) (w' := u.alloc (.cells #[] 2)) rfl rfl rfl (by rfl) (by rfl) (by go_simp) ?_
        refine ⟨fun _ => HSS.out _ hc'.below, ?_⟩
        have q := st_01000 _ v0 (.slice (some ⟨u.heap.size, 0, none⟩) 0 0) v2 l0 (.slice (some ⟨u.heap.size, 0, none⟩) 0 0) l2 Bo hc' rfl
        rw [HH.out, HT.out] at q
        simp only [List.setIfInBounds_toArray, List.set_cons_zero, List.set_cons_succ] at q ⊢
        exact q
      · have hc' := hc.litA
        refine wpOpIn_value (v := .slice (some ⟨u.heap.size, 0, none⟩) 0 0) (w' := u.alloc (.cells #[] 54)) rfl rfl rfl (by rfl) (by rfl) (by go_simp) ?_
        refine ⟨fun _ => HSS.out _ hc'.below, ?_⟩
        have q := st_00100 _ v0 v1 (.slice (some ⟨u.heap.size, 0, none⟩) 0 0) l0 l1 (.slice (some ⟨u.heap.size, 0, none⟩) 0 0) Bo hc' rfl
        rw [HH.out, HT.out] at q
        simp only [List.setIfInBounds_toArray, List.set_cons_zero, List.set_cons_succ] at q ⊢
        exact q
      · have hb : Below u.heap.size u (u.alloc (.cells #[.int .i64 0, .slice none 0 0, .slice none 0 0, .slice none 0 0] 25)) := (Below.refl _ _).alloc (Nat.le_refl _) _
        have hc' := hc.keep hb
        refine wpOpIn_value (v := .pointer (some ⟨u.heap.size, 0, none⟩)) (w' := u.alloc (.cells #[.int .i64 0, .slice none 0 0, .slice none 0 0, .slice none 0 0] 25)) rfl rfl rfl (by rfl) (by rfl) (by go_simp) ?_
        refine ⟨fun _ => HSS.out _ hc'.below, ?_⟩
        have q := st_00001 _ v0 v1 v2 l0 l1 l2 u.heap.size hc' (Blk.new _ _ _ _) hc.below.size
        rw [HH.out, HT.out] at q
        simp only [List.setIfInBounds_toArray, List.set_cons_zero, List.set_cons_succ] at q ⊢
        exact q
    have q := st_00000 wk0 undef undef undef undef undef undef 0 (Cp.start HBw0.out _ _ _)
    exact q
  intro u v0 v1 v2 l0 l1 l2 Bo hc hB hBl
  rw [HH.out, HT.out]
  simp only [List.setIfInBounds_toArray, List.set_cons_zero, List.set_cons_succ]
  have HC := Lib.hid hc; have HBo := Lib.hid hB; have HBl := Lib.hid hBl
  clear hc hB hBl HH HT
  obtain ⟨xa, xc, rfl, fx⟩ := ownForm HC.out.own.1
  obtain ⟨ya, yc, rfl, fy⟩ := ownForm HC.out.own.2.1
  obtain ⟨za, zc, rfl, fz⟩ := ownForm HC.out.own.2.2.1
  have HFx := Lib.hid fx; have HFy := Lib.hid fy; have HFz := Lib.hid fz
  clear fx fy fz
  have h4 := store4 HC.out.own HBo.out HBl.out HC.out.below
  have fr := fun i => HBo.out.free i (Or.inr (Nat.zero_le _))
  have f0 := fr 0; have f1 := fr 1; have f2 := fr 2; have f3 := fr 3
  have e0 := HBo.out.cell 0; have e1 := HBo.out.cell 1; have e2 := HBo.out.cell 2; have e3 := HBo.out.cell 3
  change u.cell? ⟨Bo, 0, none⟩ = some (.int .i64 0) at e0
  change u.cell? ⟨Bo, 1, none⟩ = some (.slice none 0 0) at e1
  change u.cell? ⟨Bo, 2, none⟩ = some (.slice none 0 0) at e2
  change u.cell? ⟨Bo, 3, none⟩ = some (.slice none 0 0) at e3
  have H4 := Lib.hid h4
  clear h4 fr
  refine heldD_one (i := 16) (by kernel_rfl) ?_
  refine wpOpIn_skip (w' := (((u.setCell ⟨Bo, 0, none⟩ (.int .i64 r.nodes)).setCell ⟨Bo, 1, none⟩ (.slice xa r.X.length xc)).setCell ⟨Bo, 2, none⟩ (.slice ya r.Y.length yc)).setCell ⟨Bo, 3, none⟩ (.slice za r.arcs.length zc)) rfl rfl rfl (by rfl) (by rfl) (by go_simp) ?_
  refine ⟨fun h => (by cases h), ?_⟩
  refine heldD_done (by kernel_rfl) ?_ _
  clear e0 e1 e2 e3 f0 f1 f2 f3
  have hI : OutI w1 Bo (.slice xa r.X.length xc) (.slice ya r.Y.length yc) (.slice za r.arcs.length zc) r ((((u.setCell ⟨Bo, 0, none⟩ (.int .i64 r.nodes)).setCell ⟨Bo, 1, none⟩ (.slice xa r.X.length xc)).setCell ⟨Bo, 2, none⟩ (.slice ya r.Y.length yc)).setCell ⟨Bo, 3, none⟩ (.slice za r.arcs.length zc)) := ⟨H4.out.1, H4.out.2.1, ⟨H4.out.2.2.os, H4.out.2.2.tape, H4.out.2.2.output, H4.out.2.2.size, fun k hk _ => H4.out.2.2.block k hk⟩⟩
  have HI := Lib.hid hI; have HBz := Lib.hid H4.out.2.2
  clear H4 hI HC HBo
  generalize (((u.setCell ⟨Bo, 0, none⟩ (.int .i64 r.nodes)).setCell ⟨Bo, 1, none⟩ (.slice xa r.X.length xc)).setCell ⟨Bo, 2, none⟩ (.slice ya r.Y.length yc)).setCell ⟨Bo, 3, none⟩ (.slice za r.arcs.length zc) = wz at *
  obtain ⟨w2, hw2⟩ : ∃ q, q = wz := ⟨_, rfl⟩
  rw [← hw2] at HI HBz ⊢
  clear hw2 wz
  have k2 := HK2.out.below HBz.out HK2.out.lt
  have t0 := k2.cell 0; have t1 := k2.cell 1; have t2 := k2.cell 2
  change w2.cell? ⟨B2, 0, none⟩ = some (.int .u8 (what : Nat)) at t0
  change w2.cell? ⟨B2, 1, none⟩ = some (.int .u8 (at_ : Nat)) at t1
  change w2.cell? ⟨B2, 2, none⟩ = some (.int .i64 nn) at t2
  have o0 := HI.out.blk.cell 0; have o1 := HI.out.blk.cell 1; have o2 := HI.out.blk.cell 2; have o3 := HI.out.blk.cell 3
  change w2.cell? ⟨Bo, 0, none⟩ = some (.int .i64 r.nodes) at o0
  change w2.cell? ⟨Bo, 1, none⟩ = some (.slice xa r.X.length xc) at o1
  change w2.cell? ⟨Bo, 2, none⟩ = some (.slice ya r.Y.length yc) at o2
  change w2.cell? ⟨Bo, 3, none⟩ = some (.slice za r.arcs.length zc) at o3
  have fr := fun i => HI.out.blk.free i (Or.inr (Nat.zero_le _))
  have f0 := fr 0; have f1 := fr 1; have f2 := fr 2; have f3 := fr 3
  have n5 : IntKind.i64.wrap (at_ : Int) = (at_ : Int) := wrap_small _ (by omega) (by omega)
  clear k2 fr HSS HBr HVx HVy HVa
  obtain ⟨lX, hlX⟩ : ∃ q, q = r.X.length := ⟨_, rfl⟩
  obtain ⟨lY, hlY⟩ : ∃ q, q = r.Y.length := ⟨_, rfl⟩
  obtain ⟨lA, hlA⟩ : ∃ q, q = r.arcs.length := ⟨_, rfl⟩
  rw [← hlX] at HI HFx o1 ⊢; rw [← hlY] at HI HFy o2 ⊢; rw [← hlA] at HI HFz o3 ⊢
  have HlX := Lib.hid hlX; have HlY := Lib.hid hlY; have HlA := Lib.hid hlA
  have hXb : lX ≤ 1000 := by rw [hlX]; exact hs.1
  have hYb : lY ≤ 1000 := by rw [hlY]; exact hs.2.1
  have hAb : lA ≤ 1000 := by rw [hlA]; exact hs.2.2
  clear hlX hlY hlA hs
  have hc : (what : Int) % 8 = 0 ∨ (what : Int) % 8 = 1 ∨ (what : Int) % 8 = 2 ∨ (what : Int) % 8 = 3 ∨ (what : Int) % 8 = 4 ∨ (what : Int) % 8 = 5 ∨ (what : Int) % 8 = 6 ∨ (what : Int) % 8 = 7 := by omega
  rcases hc with hc | hc | hc | hc | hc | hc | hc | hc
  · have tm0 : (what : Int).tmod 8 = 0 := by rw [Int.tmod_eq_emod_of_nonneg (by omega)]; exact hc
    have HI1 := Lib.hid (HI.out.setN nn)
    go_upto_region 25 with fail
    clear o0 o1 o2 o3 f0 f1 f2 f3 t0 t1 t2
    generalize w2.setCell ⟨Bo, 0, none⟩ (.int .i64 nn) = Wz at *
    have hbW := below_of (Below.refl _ _) HI1.out.kept HBl.out
    have k4 := HK4.out.below hbW HK4.out.lt
    have oo := HI1.out.blk
    have p0 := oo.cell 0; have p1 := oo.cell 1; have p2 := oo.cell 2; have p3 := oo.cell 3
    change Wz.cell? ⟨Bo, 0, none⟩ = some (.int .i64 nn) at p0
    change Wz.cell? ⟨Bo, 1, none⟩ = some (.slice xa lX xc) at p1
    change Wz.cell? ⟨Bo, 2, none⟩ = some (.slice ya lY yc) at p2
    change Wz.cell? ⟨Bo, 3, none⟩ = some (.slice za lA zc) at p3
    have e0 := k4.cell 0; have e1 := k4.cell 1; have e2 := k4.cell 2; have e3 := k4.cell 3
    change Wz.cell? ⟨B4, 0, none⟩ = some (.int .i64 0) at e0
    change Wz.cell? ⟨B4, 1, none⟩ = some (.slice none 0 0) at e1
    change Wz.cell? ⟨B4, 2, none⟩ = some (.slice none 0 0) at e2
    change Wz.cell? ⟨B4, 3, none⟩ = some (.slice none 0 0) at e3
    have fq := fun i => k4.free i (Or.inr (Nat.zero_le _))
    have g0 := fq 0; have g1 := fq 1; have g2 := fq 2; have g3 := fq 3
    have hend := turn_end (W := Wz) (B4 := B4) (r := { r with nodes := nn }) (nn) (.slice ya lY yc) rfl HB1.out HBl.out HI1.out.kept HI1.out.own k4 HL4.out rfl
    have HEnd := Lib.hid hend
    clear hend k4 oo hbW fq
    go_wp2_with fail
    generalize (((Wz.setCell ⟨B4, 0, none⟩ (.int .i64 nn)).setCell ⟨B4, 1, none⟩ (.slice xa lX xc)).setCell ⟨B4, 2, none⟩ (.slice ya lY yc)).setCell ⟨B4, 3, none⟩ (.slice za lA zc) = wf at *
    have z0 := HEnd.out.1.cell 0; have z1 := HEnd.out.1.cell 1; have z2 := HEnd.out.1.cell 2; have z3 := HEnd.out.1.cell 3
    change wf.cell? ⟨B4, 0, none⟩ = some (.int .i64 nn) at z0
    change wf.cell? ⟨B4, 1, none⟩ = some (.slice xa lX xc) at z1
    change wf.cell? ⟨B4, 2, none⟩ = some (.slice ya lY yc) at z2
    change wf.cell? ⟨B4, 3, none⟩ = some (.slice za lA zc) at z3
    have hX := HlX.out; have hY := HlY.out; have hA := HlA.out
    exact bodyPost_ret (v := .agg #[.int .i64 nn, .slice xa lX xc, .slice ya lY yc, .slice za lA zc]) (by simp [results, Tryd.results19, go_sem, z0, z1, z2, z3]) rfl ⟨_, rfl, ⟨{ r with nodes := nn }, (fun u hu => RawO.raw (RawO.seen (⟨_, _, _, rfl, HEnd.out.2.1⟩ : RawO w1.heap.size wf _ _) HB1.out.size hu)), by (try dsimp only); omega, by (try dsimp only); omega, by (try dsimp only); omega⟩, HEnd.out.2.2⟩
  · have tm0 : (what : Int).tmod 8 = 1 := by rw [Int.tmod_eq_emod_of_nonneg (by omega)]; exact hc
    obtain ⟨wa, hwa⟩ : ∃ wa, wa = w2.alloc (.cells #[.int .i64 nn] 2) := ⟨_, rfl⟩
    have hba : Below w2.heap.size w2 wa := by rw [hwa]; exact (Below.refl _ _).alloc (Nat.le_refl _) _
    have hBa : Blk wa w2.heap.size (inC nn).toArray 2 (0, 0) := by rw [hwa]; exact Blk.new _ _ _ _
    obtain ⟨v1, W1, hr1, ⟨a1, n1, c1, hv1⟩, hb1, hkg1, hI1⟩ := (HI.out.below hba).pushX hBa (by have := HlX.out; omega)
    subst hv1
    have p1 := hb1.cell 1; have pf1 := hb1.free 1 (Or.inr (Nat.zero_le _))
    simp only [List.getElem?_toArray, List.getElem?_cons_succ, List.getElem?_cons_zero] at p1
    have HR1 := Lib.hid hr1; have HI1 := Lib.hid hI1
    rw [hwa] at HR1
    clear hwa hba hBa hr1 hb1 hkg1 hI1
    go_upto_region 25 with (at_builtin; refine wpList_append_run rfl _ _ _ _ rfl HR1.out ?_)
    clear o0 o1 o2 o3 f0 f1 f2 f3 t0 t1 t2 p1 pf1
    generalize W1.setCell ⟨Bo, 1, none⟩ (.slice a1 n1 c1) = Wz at *
    have hbW := below_of (Below.refl _ _) HI1.out.kept HBl.out
    have k4 := HK4.out.below hbW HK4.out.lt
    have oo := HI1.out.blk
    have p0 := oo.cell 0; have p1 := oo.cell 1; have p2 := oo.cell 2; have p3 := oo.cell 3
    change Wz.cell? ⟨Bo, 0, none⟩ = some (.int .i64 r.nodes) at p0
    change Wz.cell? ⟨Bo, 1, none⟩ = some (.slice a1 n1 c1) at p1
    change Wz.cell? ⟨Bo, 2, none⟩ = some (.slice ya lY yc) at p2
    change Wz.cell? ⟨Bo, 3, none⟩ = some (.slice za lA zc) at p3
    have e0 := k4.cell 0; have e1 := k4.cell 1; have e2 := k4.cell 2; have e3 := k4.cell 3
    change Wz.cell? ⟨B4, 0, none⟩ = some (.int .i64 0) at e0
    change Wz.cell? ⟨B4, 1, none⟩ = some (.slice none 0 0) at e1
    change Wz.cell? ⟨B4, 2, none⟩ = some (.slice none 0 0) at e2
    change Wz.cell? ⟨B4, 3, none⟩ = some (.slice none 0 0) at e3
    have fq := fun i => k4.free i (Or.inr (Nat.zero_le _))
    have g0 := fq 0; have g1 := fq 1; have g2 := fq 2; have g3 := fq 3
    have hend := turn_end (W := Wz) (B4 := B4) (r := { r with X := r.X ++ [nn] }) (r.nodes) (.slice ya lY yc) rfl HB1.out HBl.out HI1.out.kept HI1.out.own k4 HL4.out rfl
    have HEnd := Lib.hid hend
    clear hend k4 oo hbW fq
    go_wp2_with fail
    generalize (((Wz.setCell ⟨B4, 0, none⟩ (.int .i64 r.nodes)).setCell ⟨B4, 1, none⟩ (.slice a1 n1 c1)).setCell ⟨B4, 2, none⟩ (.slice ya lY yc)).setCell ⟨B4, 3, none⟩ (.slice za lA zc) = wf at *
    have z0 := HEnd.out.1.cell 0; have z1 := HEnd.out.1.cell 1; have z2 := HEnd.out.1.cell 2; have z3 := HEnd.out.1.cell 3
    change wf.cell? ⟨B4, 0, none⟩ = some (.int .i64 r.nodes) at z0
    change wf.cell? ⟨B4, 1, none⟩ = some (.slice a1 n1 c1) at z1
    change wf.cell? ⟨B4, 2, none⟩ = some (.slice ya lY yc) at z2
    change wf.cell? ⟨B4, 3, none⟩ = some (.slice za lA zc) at z3
    skip
    exact bodyPost_ret (v := .agg #[.int .i64 r.nodes, .slice a1 n1 c1, .slice ya lY yc, .slice za lA zc]) (by simp [results, Tryd.results19, go_sem, z0, z1, z2, z3]) rfl ⟨_, rfl, ⟨{ r with X := r.X ++ [nn] }, (fun u hu => RawO.raw (RawO.seen (⟨_, _, _, rfl, HEnd.out.2.1⟩ : RawO w1.heap.size wf _ _) HB1.out.size hu)), by (try dsimp only); rw [List.length_append]; simp, by (try dsimp only); omega, by (try dsimp only); omega⟩, HEnd.out.2.2⟩
  · have tm0 : (what : Int).tmod 8 = 2 := by rw [Int.tmod_eq_emod_of_nonneg (by omega)]; exact hc
    by_cases hz : lY = 0
    · have hzb : decide ((0 : Int) < (lY : Int)) = false := decide_eq_false (by omega)
      have HI1 := HI
      have hz0 : ¬ 0 < lY := by omega
      have hz1 : ¬ (0 : Int) < (lY : Int) := by omega
      have hz2 : decide (0 < lY) = false := decide_eq_false hz0
      clear hz
      go_upto_region 25 with fail
      clear o0 o1 o2 o3 f0 f1 f2 f3 t0 t1 t2 hzb
      obtain ⟨Wz, hWz⟩ : ∃ q, q = w2 := ⟨_, rfl⟩
      rw [← hWz] at HI1 ⊢
      clear hWz
      have hbW := below_of (Below.refl _ _) HI1.out.kept HBl.out
      have k4 := HK4.out.below hbW HK4.out.lt
      have oo := HI1.out.blk
      have p0 := oo.cell 0; have p1 := oo.cell 1; have p2 := oo.cell 2; have p3 := oo.cell 3
      change Wz.cell? ⟨Bo, 0, none⟩ = some (.int .i64 r.nodes) at p0
      change Wz.cell? ⟨Bo, 1, none⟩ = some (.slice xa lX xc) at p1
      change Wz.cell? ⟨Bo, 2, none⟩ = some (.slice ya lY yc) at p2
      change Wz.cell? ⟨Bo, 3, none⟩ = some (.slice za lA zc) at p3
      have e0 := k4.cell 0; have e1 := k4.cell 1; have e2 := k4.cell 2; have e3 := k4.cell 3
      change Wz.cell? ⟨B4, 0, none⟩ = some (.int .i64 0) at e0
      change Wz.cell? ⟨B4, 1, none⟩ = some (.slice none 0 0) at e1
      change Wz.cell? ⟨B4, 2, none⟩ = some (.slice none 0 0) at e2
      change Wz.cell? ⟨B4, 3, none⟩ = some (.slice none 0 0) at e3
      have fq := fun i => k4.free i (Or.inr (Nat.zero_le _))
      have g0 := fq 0; have g1 := fq 1; have g2 := fq 2; have g3 := fq 3
      have hend := turn_end (W := Wz) (B4 := B4) (r := r) (r.nodes) (.slice ya lY yc) rfl HB1.out HBl.out HI1.out.kept HI1.out.own k4 HL4.out rfl
      have HEnd := Lib.hid hend
      clear hend k4 oo hbW fq
      go_wp2_with fail
      generalize (((Wz.setCell ⟨B4, 0, none⟩ (.int .i64 r.nodes)).setCell ⟨B4, 1, none⟩ (.slice xa lX xc)).setCell ⟨B4, 2, none⟩ (.slice ya lY yc)).setCell ⟨B4, 3, none⟩ (.slice za lA zc) = wf at *
      have z0 := HEnd.out.1.cell 0; have z1 := HEnd.out.1.cell 1; have z2 := HEnd.out.1.cell 2; have z3 := HEnd.out.1.cell 3
      change wf.cell? ⟨B4, 0, none⟩ = some (.int .i64 r.nodes) at z0
      change wf.cell? ⟨B4, 1, none⟩ = some (.slice xa lX xc) at z1
      change wf.cell? ⟨B4, 2, none⟩ = some (.slice ya lY yc) at z2
      change wf.cell? ⟨B4, 3, none⟩ = some (.slice za lA zc) at z3
      have hX := HlX.out; have hY := HlY.out; have hA := HlA.out
      exact bodyPost_ret (v := .agg #[.int .i64 r.nodes, .slice xa lX xc, .slice ya lY yc, .slice za lA zc]) (by simp [results, Tryd.results19, go_sem, z0, z1, z2, z3]) rfl ⟨_, rfl, ⟨r, (fun u hu => RawO.raw (RawO.seen (⟨_, _, _, rfl, HEnd.out.2.1⟩ : RawO w1.heap.size wf _ _) HB1.out.size hu)), by (try dsimp only); omega, by (try dsimp only); omega, by (try dsimp only); omega⟩, HEnd.out.2.2⟩
    · have hzb : decide ((0 : Int) < (lY : Int)) = true := decide_eq_true (by omega)
      have hz0 : 0 < lY := by omega
      have hz1 : (0 : Int) < (lY : Int) := by omega
      obtain ⟨gy, rfl⟩ := HFy.out (by omega)
      have hyc : lY ≤ yc := by obtain ⟨_, h2⟩ := HI.out.own.2.1; rcases h2 with ⟨e, _⟩ | ⟨g', cap', cur, ev, _, _, hnc, _⟩ <;> first | (cases e; done) | (simp only [Value.slice.injEq] at ev; have := HlY.out; omega)
      have hy1 : (1 : Int) ≤ (lY : Int) := by omega
      have hy1' : 1 ≤ lY := by omega
      have hy2 : (lY : Int) ≤ (yc : Int) := by omega
      obtain ⟨ga, hga⟩ : ∃ a, (if yc = 1 then some (⟨gy, 0, none⟩ : Addr) else some ⟨gy, 1, none⟩) = a := ⟨_, rfl⟩
      have HGa := Lib.hid hga
      have hkp := HI.out.kept.setCell (p := ⟨Bo, 2, none⟩) rfl (.slice ga (lY - 1) (yc - 1))
      have hOw := HI.out.own.set (p := ⟨Bo, 2, none⟩) HI.out.blk (by decide) (by decide) (.slice ga (lY - 1) (yc - 1))
      have hBk := HI.out.blk.set 2 (.slice ga (lY - 1) (yc - 1))
      have HI1 := Lib.hid (And.intro hBk (And.intro hOw hkp))
      clear hkp hOw hBk
      go_upto_region 25 with fail
      clear o0 o1 o2 o3 f0 f1 f2 f3 t0 t1 t2 hzb hy1 hy1' hy2 hga
      generalize w2.setCell ⟨Bo, 2, none⟩ (.slice ga (lY - 1) (yc - 1)) = Wz at *
      have hbW := below_of (Below.refl _ _) HI1.out.2.2 HBl.out
      have k4 := HK4.out.below hbW HK4.out.lt
      have oo := HI1.out.1
      have p0 := oo.cell 0; have p1 := oo.cell 1; have p2 := oo.cell 2; have p3 := oo.cell 3
      change Wz.cell? ⟨Bo, 0, none⟩ = some (.int .i64 r.nodes) at p0
      change Wz.cell? ⟨Bo, 1, none⟩ = some (.slice xa lX xc) at p1
      change Wz.cell? ⟨Bo, 2, none⟩ = some (.slice ga (lY - 1) (yc - 1)) at p2
      change Wz.cell? ⟨Bo, 3, none⟩ = some (.slice za lA zc) at p3
      have e0 := k4.cell 0; have e1 := k4.cell 1; have e2 := k4.cell 2; have e3 := k4.cell 3
      change Wz.cell? ⟨B4, 0, none⟩ = some (.int .i64 0) at e0
      change Wz.cell? ⟨B4, 1, none⟩ = some (.slice none 0 0) at e1
      change Wz.cell? ⟨B4, 2, none⟩ = some (.slice none 0 0) at e2
      change Wz.cell? ⟨B4, 3, none⟩ = some (.slice none 0 0) at e3
      have fq := fun i => k4.free i (Or.inr (Nat.zero_le _))
      have g0 := fq 0; have g1 := fq 1; have g2 := fq 2; have g3 := fq 3
      have hend := turn_end (W := Wz) (B4 := B4) (r := r) (r.nodes) (.slice ga (lY - 1) (yc - 1)) rfl HB1.out HBl.out HI1.out.2.2 HI1.out.2.1 k4 HL4.out rfl
      have HEnd := Lib.hid hend
      clear hend k4 oo hbW fq
      go_wp2_with fail
      generalize (((Wz.setCell ⟨B4, 0, none⟩ (.int .i64 r.nodes)).setCell ⟨B4, 1, none⟩ (.slice xa lX xc)).setCell ⟨B4, 2, none⟩ (.slice ga (lY - 1) (yc - 1))).setCell ⟨B4, 3, none⟩ (.slice za lA zc) = wf at *
      have z0 := HEnd.out.1.cell 0; have z1 := HEnd.out.1.cell 1; have z2 := HEnd.out.1.cell 2; have z3 := HEnd.out.1.cell 3
      change wf.cell? ⟨B4, 0, none⟩ = some (.int .i64 r.nodes) at z0
      change wf.cell? ⟨B4, 1, none⟩ = some (.slice xa lX xc) at z1
      change wf.cell? ⟨B4, 2, none⟩ = some (.slice ga (lY - 1) (yc - 1)) at z2
      change wf.cell? ⟨B4, 3, none⟩ = some (.slice za lA zc) at z3
      have hX := HlX.out; have hY := HlY.out; have hA := HlA.out
      exact bodyPost_ret (v := .agg #[.int .i64 r.nodes, .slice xa lX xc, .slice ga (lY - 1) (yc - 1), .slice za lA zc]) (by simp [results, Tryd.results19, go_sem, z0, z1, z2, z3]) rfl ⟨_, rfl, ⟨{ r with Y := r.Y.drop 1 }, (fun u hu => by obtain ⟨_, _, _, e, k1, k2, k3⟩ := (RawO.raw (RawO.seen (⟨_, _, _, rfl, HEnd.out.2.1⟩ : RawO w1.heap.size wf _ r) HB1.out.size hu)); cases e; exact ⟨_, _, _, rfl, k1, (by have q := SlX.drop0 k2 (by omega); rwa [HGa.out] at q), k3⟩), by (try dsimp only); omega, by (try dsimp only); rw [List.length_drop]; omega, by (try dsimp only); omega⟩, HEnd.out.2.2⟩
  · have tm0 : (what : Int).tmod 8 = 3 := by rw [Int.tmod_eq_emod_of_nonneg (by omega)]; exact hc
    by_cases hz : lX = 0
    · have hzb : decide ((0 : Int) < (lX : Int)) = false := decide_eq_false (by omega)
      have HI1 := HI
      have hz0 : ¬ 0 < lX := by omega
      have hz1 : ¬ (0 : Int) < (lX : Int) := by omega
      have hz2 : decide (0 < lX) = false := decide_eq_false hz0
      clear hz
      go_upto_region 25 with fail
      clear o0 o1 o2 o3 f0 f1 f2 f3 t0 t1 t2 hzb
      obtain ⟨Wz, hWz⟩ : ∃ q, q = w2 := ⟨_, rfl⟩
      rw [← hWz] at HI1 ⊢
      clear hWz
      have hbW := below_of (Below.refl _ _) HI1.out.kept HBl.out
      have k4 := HK4.out.below hbW HK4.out.lt
      have oo := HI1.out.blk
      have p0 := oo.cell 0; have p1 := oo.cell 1; have p2 := oo.cell 2; have p3 := oo.cell 3
      change Wz.cell? ⟨Bo, 0, none⟩ = some (.int .i64 r.nodes) at p0
      change Wz.cell? ⟨Bo, 1, none⟩ = some (.slice xa lX xc) at p1
      change Wz.cell? ⟨Bo, 2, none⟩ = some (.slice ya lY yc) at p2
      change Wz.cell? ⟨Bo, 3, none⟩ = some (.slice za lA zc) at p3
      have e0 := k4.cell 0; have e1 := k4.cell 1; have e2 := k4.cell 2; have e3 := k4.cell 3
      change Wz.cell? ⟨B4, 0, none⟩ = some (.int .i64 0) at e0
      change Wz.cell? ⟨B4, 1, none⟩ = some (.slice none 0 0) at e1
      change Wz.cell? ⟨B4, 2, none⟩ = some (.slice none 0 0) at e2
      change Wz.cell? ⟨B4, 3, none⟩ = some (.slice none 0 0) at e3
      have fq := fun i => k4.free i (Or.inr (Nat.zero_le _))
      have g0 := fq 0; have g1 := fq 1; have g2 := fq 2; have g3 := fq 3
      have hend := turn_end (W := Wz) (B4 := B4) (r := r) (r.nodes) (.slice ya lY yc) rfl HB1.out HBl.out HI1.out.kept HI1.out.own k4 HL4.out rfl
      have HEnd := Lib.hid hend
      clear hend k4 oo hbW fq
      go_wp2_with fail
      generalize (((Wz.setCell ⟨B4, 0, none⟩ (.int .i64 r.nodes)).setCell ⟨B4, 1, none⟩ (.slice xa lX xc)).setCell ⟨B4, 2, none⟩ (.slice ya lY yc)).setCell ⟨B4, 3, none⟩ (.slice za lA zc) = wf at *
      have z0 := HEnd.out.1.cell 0; have z1 := HEnd.out.1.cell 1; have z2 := HEnd.out.1.cell 2; have z3 := HEnd.out.1.cell 3
      change wf.cell? ⟨B4, 0, none⟩ = some (.int .i64 r.nodes) at z0
      change wf.cell? ⟨B4, 1, none⟩ = some (.slice xa lX xc) at z1
      change wf.cell? ⟨B4, 2, none⟩ = some (.slice ya lY yc) at z2
      change wf.cell? ⟨B4, 3, none⟩ = some (.slice za lA zc) at z3
      have hX := HlX.out; have hY := HlY.out; have hA := HlA.out
      exact bodyPost_ret (v := .agg #[.int .i64 r.nodes, .slice xa lX xc, .slice ya lY yc, .slice za lA zc]) (by simp [results, Tryd.results19, go_sem, z0, z1, z2, z3]) rfl ⟨_, rfl, ⟨r, (fun u hu => RawO.raw (RawO.seen (⟨_, _, _, rfl, HEnd.out.2.1⟩ : RawO w1.heap.size wf _ _) HB1.out.size hu)), by (try dsimp only); omega, by (try dsimp only); omega, by (try dsimp only); omega⟩, HEnd.out.2.2⟩
    · have hzb : decide ((0 : Int) < (lX : Int)) = true := decide_eq_true (by omega)
      have hz0 : 0 < lX := by omega
      have hz1 : (0 : Int) < (lX : Int) := by omega
      obtain ⟨gx, rfl⟩ := HFx.out (by omega)
      obtain ⟨m, hm⟩ : ∃ m, m = at_ % lX := ⟨_, rfl⟩
      have hmb : m < lX := by rw [hm]; exact Nat.mod_lt _ (by omega)
      have q0 : (at_ : Int).tmod (lX : Int) = (m : Int) := by rw [hm]; rfl
      have q1 : (at_ : Int) % (lX : Int) = (m : Int) := by rw [hm]; rfl
      have q2 : IntKind.i64.wrap (m : Int) = (m : Int) := wrap_small _ (by omega) (by omega)
      have q3 : ¬ (lX : Int) = 0 := by omega
      have q5 : ((lX : Int) == 0) = false := by simpa using q3
      have q6 : (m : Int) < (lX : Int) := by omega
      have q7 : (0 : Int) ≤ (m : Int) := by omega
      clear hm
      have HSS := Lib.hid (show ∀ u, Below w2.heap.size w2 u → (u.cell? ⟨Bo, 1, none⟩ = some (.slice (some ⟨gx, 0, none⟩) lX xc) ∧ u.cell? ⟨B2, 2, none⟩ = some (.int .i64 nn)) from fun u hu => ⟨(HI.out.blk.below hu HI.out.blk.lt).cell 1, (HK2.out.below (HBz.out.next' hu) HK2.out.lt).cell 2⟩)
      go_upto_region 15 with fail
      refine wp_region_heldD (fun w' => w'.cell? ⟨Bo, 1, none⟩ = some (.slice (some ⟨gx, 0, none⟩) lX xc) ∧ w'.cell? ⟨B2, 2, none⟩ = some (.int .i64 nn)) 10 rfl ?_
      change heldD _ _ _ _ _ _ _ 11 _ _ w2.drew
      obtain ⟨wk0, hu0⟩ : ∃ u, u = w2.drew := ⟨_, rfl⟩
      have HBu := Lib.hid (show Below w2.heap.size w2 wk0 by rw [hu0]; exact (Below.refl _ _).drew)
      rw [← hu0]
      clear hu0
      refine heldD_takeF (i := 0) (v := .pointer (some ⟨Bo, 1, none⟩)) rfl rfl rfl (by kernel_rfl) (by kernel_rfl) (by kernel_rfl) (by kernel_rfl) (fun _ _ _ h => h) (by rfl) (fun w => ⟨by rfl, by go_simp⟩) (fun _ => HSS.out _ HBu.out) ?_
      simp only [List.setIfInBounds_toArray, List.set_cons_zero, List.set_cons_succ]
      refine heldD_take (i := 1) (v := .slice (some ⟨gx, 0, none⟩) lX xc) rfl rfl rfl (by kernel_rfl) (by kernel_rfl) (by kernel_rfl) (by kernel_rfl) (by kernel_rfl) (by kernel_rfl) (fun _ _ _ h => h) (by rfl) (fun w hS => ⟨by rfl, by obtain ⟨hS1, hS2⟩ := hS; go_simp⟩) (HSS.out _ HBu.out) ?_
      simp only [List.setIfInBounds_toArray, List.set_cons_zero, List.set_cons_succ]
      refine heldD_takeF (i := 2) (v := .int .i64 (at_ : Nat)) rfl rfl rfl (by kernel_rfl) (by kernel_rfl) (by kernel_rfl) (by kernel_rfl) (fun _ _ _ h => h) (by rfl) (fun w => ⟨by rfl, by go_simp⟩) (fun _ => HSS.out _ HBu.out) ?_
      simp only [List.setIfInBounds_toArray, List.set_cons_zero, List.set_cons_succ]
      refine heldD_takeF (i := 3) (v := .pointer (some ⟨Bo, 1, none⟩)) rfl rfl rfl (by kernel_rfl) (by kernel_rfl) (by kernel_rfl) (by kernel_rfl) (fun _ _ _ h => h) (by rfl) (fun w => ⟨by rfl, by go_simp⟩) (fun _ => HSS.out _ HBu.out) ?_
      simp only [List.setIfInBounds_toArray, List.set_cons_zero, List.set_cons_succ]
      refine heldD_take (i := 4) (v := .slice (some ⟨gx, 0, none⟩) lX xc) rfl rfl rfl (by kernel_rfl) (by kernel_rfl) (by kernel_rfl) (by kernel_rfl) (by kernel_rfl) (by kernel_rfl) (fun _ _ _ h => h) (by rfl) (fun w hS => ⟨by rfl, by obtain ⟨hS1, hS2⟩ := hS; go_simp⟩) (HSS.out _ HBu.out) ?_
      simp only [List.setIfInBounds_toArray, List.set_cons_zero, List.set_cons_succ]
      refine heldD_takeF (i := 5) (v := .int .i64 (lX : Nat)) rfl rfl rfl (by kernel_rfl) (by kernel_rfl) (by kernel_rfl) (by kernel_rfl) (fun _ _ _ h => h) (by rfl) (fun w => ⟨by rfl, by go_simp⟩) (fun _ => HSS.out _ HBu.out) ?_
      simp only [List.setIfInBounds_toArray, List.set_cons_zero, List.set_cons_succ]
      refine heldD_takeF (i := 6) (v := .int .i64 (m : Nat)) rfl rfl rfl (by kernel_rfl) (by kernel_rfl) (by kernel_rfl) (by kernel_rfl) (fun _ _ _ h => h) (by rfl) (fun w => ⟨by rfl, by go_simp⟩) (fun _ => HSS.out _ HBu.out) ?_
      simp only [List.setIfInBounds_toArray, List.set_cons_zero, List.set_cons_succ]
      refine heldD_takeF (i := 7) (v := .pointer (some ⟨B2, 2, none⟩)) rfl rfl rfl (by kernel_rfl) (by kernel_rfl) (by kernel_rfl) (by kernel_rfl) (fun _ _ _ h => h) (by rfl) (fun w => ⟨by rfl, by go_simp⟩) (fun _ => HSS.out _ HBu.out) ?_
      simp only [List.setIfInBounds_toArray, List.set_cons_zero, List.set_cons_succ]
      refine heldD_take (i := 8) (v := .int .i64 nn) rfl rfl rfl (by kernel_rfl) (by kernel_rfl) (by kernel_rfl) (by kernel_rfl) (by kernel_rfl) (by kernel_rfl) (fun _ _ _ h => h) (by rfl) (fun w hS => ⟨by rfl, by obtain ⟨hS1, hS2⟩ := hS; go_simp⟩) (HSS.out _ HBu.out) ?_
      simp only [List.setIfInBounds_toArray, List.set_cons_zero, List.set_cons_succ]
      refine heldD_takeF (i := 9) (v := .pointer (some ⟨gx, m, none⟩)) rfl rfl rfl (by kernel_rfl) (by kernel_rfl) (by kernel_rfl) (by kernel_rfl) (fun _ _ _ h => h) (by rfl) (fun w => ⟨by rfl, by go_simp⟩) (fun _ => HSS.out _ HBu.out) ?_
      simp only [List.setIfInBounds_toArray, List.set_cons_zero, List.set_cons_succ]
      refine heldD_HT ?_
      intro H hH T hT
      have HH := Lib.hid hH; have HT := Lib.hid hT
      clear hH hT
      suffices st_ : ∀ (u : World), Hid (Below w2.heap.size w2 u) → H 1 #[true, true, true, true, true, true, true, true, true, true, false] { tmps := T, defers := [] } u from by
        exact st_ wk0 HBu
      clear HBu
      intro u HBu
      rw [HH.out, HT.out]
      clear HH HT
      have hIu := HI.out.below HBu.out
      have hml : m < r.X.length := by have := HlX.out; omega
      have hI1 := hIu.setX HlX.out.symm m hml nn
      obtain ⟨⟨q8, e8⟩, ff8⟩ := hIu.cellX HlX.out.symm m hmb
      have HI1 := Lib.hid hI1
      clear hI1 hIu
      refine heldD_one (i := 10) (by kernel_rfl) ?_
      refine wpOpIn_skip (w' := u.setCell ⟨gx, m, none⟩ (.int .i64 nn)) rfl rfl rfl (by rfl) (by rfl) (by go_simp) ?_
      refine ⟨fun h => (by cases h), ?_⟩
      refine heldD_done (by kernel_rfl) ?_ _
      go_upto_region 25 with fail
      clear o0 o1 o2 o3 f0 f1 f2 f3 t0 t1 t2 hzb e8 ff8 q0 q1 q2 q3 q5 q6 q7
      generalize u.setCell ⟨gx, m, none⟩ (.int .i64 nn) = Wz at *
      have hbW := below_of (Below.refl _ _) HI1.out.kept HBl.out
      have k4 := HK4.out.below hbW HK4.out.lt
      have oo := HI1.out.blk
      have p0 := oo.cell 0; have p1 := oo.cell 1; have p2 := oo.cell 2; have p3 := oo.cell 3
      change Wz.cell? ⟨Bo, 0, none⟩ = some (.int .i64 r.nodes) at p0
      change Wz.cell? ⟨Bo, 1, none⟩ = some (.slice (some ⟨gx, 0, none⟩) lX xc) at p1
      change Wz.cell? ⟨Bo, 2, none⟩ = some (.slice ya lY yc) at p2
      change Wz.cell? ⟨Bo, 3, none⟩ = some (.slice za lA zc) at p3
      have e0 := k4.cell 0; have e1 := k4.cell 1; have e2 := k4.cell 2; have e3 := k4.cell 3
      change Wz.cell? ⟨B4, 0, none⟩ = some (.int .i64 0) at e0
      change Wz.cell? ⟨B4, 1, none⟩ = some (.slice none 0 0) at e1
      change Wz.cell? ⟨B4, 2, none⟩ = some (.slice none 0 0) at e2
      change Wz.cell? ⟨B4, 3, none⟩ = some (.slice none 0 0) at e3
      have fq := fun i => k4.free i (Or.inr (Nat.zero_le _))
      have g0 := fq 0; have g1 := fq 1; have g2 := fq 2; have g3 := fq 3
      have hend := turn_end (W := Wz) (B4 := B4) (r := { r with X := r.X.set m nn }) (r.nodes) (.slice ya lY yc) rfl HB1.out HBl.out HI1.out.kept HI1.out.own k4 HL4.out rfl
      have HEnd := Lib.hid hend
      clear hend k4 oo hbW fq
      go_wp2_with fail
      generalize (((Wz.setCell ⟨B4, 0, none⟩ (.int .i64 r.nodes)).setCell ⟨B4, 1, none⟩ (.slice (some ⟨gx, 0, none⟩) lX xc)).setCell ⟨B4, 2, none⟩ (.slice ya lY yc)).setCell ⟨B4, 3, none⟩ (.slice za lA zc) = wf at *
      have z0 := HEnd.out.1.cell 0; have z1 := HEnd.out.1.cell 1; have z2 := HEnd.out.1.cell 2; have z3 := HEnd.out.1.cell 3
      change wf.cell? ⟨B4, 0, none⟩ = some (.int .i64 r.nodes) at z0
      change wf.cell? ⟨B4, 1, none⟩ = some (.slice (some ⟨gx, 0, none⟩) lX xc) at z1
      change wf.cell? ⟨B4, 2, none⟩ = some (.slice ya lY yc) at z2
      change wf.cell? ⟨B4, 3, none⟩ = some (.slice za lA zc) at z3
      have hX := HlX.out; have hY := HlY.out; have hA := HlA.out
      exact bodyPost_ret (v := .agg #[.int .i64 r.nodes, .slice (some ⟨gx, 0, none⟩) lX xc, .slice ya lY yc, .slice za lA zc]) (by simp [results, Tryd.results19, go_sem, z0, z1, z2, z3]) rfl ⟨_, rfl, ⟨{ r with X := r.X.set m nn }, (fun u hu => RawO.raw (RawO.seen (⟨_, _, _, rfl, HEnd.out.2.1⟩ : RawO w1.heap.size wf _ _) HB1.out.size hu)), by (try dsimp only); (try rw [List.length_set]); omega, by (try dsimp only); (try rw [List.length_set]); omega, by (try dsimp only); (try rw [List.length_set]); omega⟩, HEnd.out.2.2⟩
  · have tm0 : (what : Int).tmod 8 = 4 := by rw [Int.tmod_eq_emod_of_nonneg (by omega)]; exact hc
    by_cases hz : lY = 0
    · have hzb : decide ((0 : Int) < (lY : Int)) = false := decide_eq_false (by omega)
      have HI1 := HI
      have hz0 : ¬ 0 < lY := by omega
      have hz1 : ¬ (0 : Int) < (lY : Int) := by omega
      have hz2 : decide (0 < lY) = false := decide_eq_false hz0
      clear hz
      go_upto_region 25 with fail
      clear o0 o1 o2 o3 f0 f1 f2 f3 t0 t1 t2 hzb
      obtain ⟨Wz, hWz⟩ : ∃ q, q = w2 := ⟨_, rfl⟩
      rw [← hWz] at HI1 ⊢
      clear hWz
      have hbW := below_of (Below.refl _ _) HI1.out.kept HBl.out
      have k4 := HK4.out.below hbW HK4.out.lt
      have oo := HI1.out.blk
      have p0 := oo.cell 0; have p1 := oo.cell 1; have p2 := oo.cell 2; have p3 := oo.cell 3
      change Wz.cell? ⟨Bo, 0, none⟩ = some (.int .i64 r.nodes) at p0
      change Wz.cell? ⟨Bo, 1, none⟩ = some (.slice xa lX xc) at p1
      change Wz.cell? ⟨Bo, 2, none⟩ = some (.slice ya lY yc) at p2
      change Wz.cell? ⟨Bo, 3, none⟩ = some (.slice za lA zc) at p3
      have e0 := k4.cell 0; have e1 := k4.cell 1; have e2 := k4.cell 2; have e3 := k4.cell 3
      change Wz.cell? ⟨B4, 0, none⟩ = some (.int .i64 0) at e0
      change Wz.cell? ⟨B4, 1, none⟩ = some (.slice none 0 0) at e1
      change Wz.cell? ⟨B4, 2, none⟩ = some (.slice none 0 0) at e2
      change Wz.cell? ⟨B4, 3, none⟩ = some (.slice none 0 0) at e3
      have fq := fun i => k4.free i (Or.inr (Nat.zero_le _))
      have g0 := fq 0; have g1 := fq 1; have g2 := fq 2; have g3 := fq 3
      have hend := turn_end (W := Wz) (B4 := B4) (r := r) (r.nodes) (.slice ya lY yc) rfl HB1.out HBl.out HI1.out.kept HI1.out.own k4 HL4.out rfl
      have HEnd := Lib.hid hend
      clear hend k4 oo hbW fq
      go_wp2_with fail
      generalize (((Wz.setCell ⟨B4, 0, none⟩ (.int .i64 r.nodes)).setCell ⟨B4, 1, none⟩ (.slice xa lX xc)).setCell ⟨B4, 2, none⟩ (.slice ya lY yc)).setCell ⟨B4, 3, none⟩ (.slice za lA zc) = wf at *
      have z0 := HEnd.out.1.cell 0; have z1 := HEnd.out.1.cell 1; have z2 := HEnd.out.1.cell 2; have z3 := HEnd.out.1.cell 3
      change wf.cell? ⟨B4, 0, none⟩ = some (.int .i64 r.nodes) at z0
      change wf.cell? ⟨B4, 1, none⟩ = some (.slice xa lX xc) at z1
      change wf.cell? ⟨B4, 2, none⟩ = some (.slice ya lY yc) at z2
      change wf.cell? ⟨B4, 3, none⟩ = some (.slice za lA zc) at z3
      have hX := HlX.out; have hY := HlY.out; have hA := HlA.out
      exact bodyPost_ret (v := .agg #[.int .i64 r.nodes, .slice xa lX xc, .slice ya lY yc, .slice za lA zc]) (by simp [results, Tryd.results19, go_sem, z0, z1, z2, z3]) rfl ⟨_, rfl, ⟨r, (fun u hu => RawO.raw (RawO.seen (⟨_, _, _, rfl, HEnd.out.2.1⟩ : RawO w1.heap.size wf _ _) HB1.out.size hu)), by (try dsimp only); omega, by (try dsimp only); omega, by (try dsimp only); omega⟩, HEnd.out.2.2⟩
    · have hzb : decide ((0 : Int) < (lY : Int)) = true := decide_eq_true (by omega)
      have hz0 : 0 < lY := by omega
      have hz1 : (0 : Int) < (lY : Int) := by omega
      obtain ⟨gy, rfl⟩ := HFy.out (by omega)
      obtain ⟨m, hm⟩ : ∃ m, m = at_ % lY := ⟨_, rfl⟩
      have hmb : m < lY := by rw [hm]; exact Nat.mod_lt _ (by omega)
      have q0 : (at_ : Int).tmod (lY : Int) = (m : Int) := by rw [hm]; rfl
      have q1 : (at_ : Int) % (lY : Int) = (m : Int) := by rw [hm]; rfl
      have q2 : IntKind.i64.wrap (m : Int) = (m : Int) := wrap_small _ (by omega) (by omega)
      have q3 : ¬ (lY : Int) = 0 := by omega
      have q5 : ((lY : Int) == 0) = false := by simpa using q3
      have q6 : (m : Int) < (lY : Int) := by omega
      have q7 : (0 : Int) ≤ (m : Int) := by omega
      clear hm
      have HSS := Lib.hid (show ∀ u, Below w2.heap.size w2 u → (u.cell? ⟨Bo, 2, none⟩ = some (.slice (some ⟨gy, 0, none⟩) lY yc) ∧ u.cell? ⟨B2, 2, none⟩ = some (.int .i64 nn)) from fun u hu => ⟨(HI.out.blk.below hu HI.out.blk.lt).cell 2, (HK2.out.below (HBz.out.next' hu) HK2.out.lt).cell 2⟩)
      go_upto_region 18 with fail
      refine wp_region_heldD (fun w' => w'.cell? ⟨Bo, 2, none⟩ = some (.slice (some ⟨gy, 0, none⟩) lY yc) ∧ w'.cell? ⟨B2, 2, none⟩ = some (.int .i64 nn)) 10 rfl ?_
      change heldD _ _ _ _ _ _ _ 11 _ _ w2.drew
      obtain ⟨wk0, hu0⟩ : ∃ u, u = w2.drew := ⟨_, rfl⟩
      have HBu := Lib.hid (show Below w2.heap.size w2 wk0 by rw [hu0]; exact (Below.refl _ _).drew)
      rw [← hu0]
      clear hu0
      refine heldD_takeF (i := 0) (v := .pointer (some ⟨Bo, 2, none⟩)) rfl rfl rfl (by kernel_rfl) (by kernel_rfl) (by kernel_rfl) (by kernel_rfl) (fun _ _ _ h => h) (by rfl) (fun w => ⟨by rfl, by go_simp⟩) (fun _ => HSS.out _ HBu.out) ?_
      simp only [List.setIfInBounds_toArray, List.set_cons_zero, List.set_cons_succ]
      refine heldD_take (i := 1) (v := .slice (some ⟨gy, 0, none⟩) lY yc) rfl rfl rfl (by kernel_rfl) (by kernel_rfl) (by kernel_rfl) (by kernel_rfl) (by kernel_rfl) (by kernel_rfl) (fun _ _ _ h => h) (by rfl) (fun w hS => ⟨by rfl, by obtain ⟨hS1, hS2⟩ := hS; go_simp⟩) (HSS.out _ HBu.out) ?_
      simp only [List.setIfInBounds_toArray, List.set_cons_zero, List.set_cons_succ]
      refine heldD_takeF (i := 2) (v := .int .i64 (at_ : Nat)) rfl rfl rfl (by kernel_rfl) (by kernel_rfl) (by kernel_rfl) (by kernel_rfl) (fun _ _ _ h => h) (by rfl) (fun w => ⟨by rfl, by go_simp⟩) (fun _ => HSS.out _ HBu.out) ?_
      simp only [List.setIfInBounds_toArray, List.set_cons_zero, List.set_cons_succ]
      refine heldD_takeF (i := 3) (v := .pointer (some ⟨Bo, 2, none⟩)) rfl rfl rfl (by kernel_rfl) (by kernel_rfl) (by kernel_rfl) (by kernel_rfl) (fun _ _ _ h => h) (by rfl) (fun w => ⟨by rfl, by go_simp⟩) (fun _ => HSS.out _ HBu.out) ?_
      simp only [List.setIfInBounds_toArray, List.set_cons_zero, List.set_cons_succ]
      refine heldD_take (i := 4) (v := .slice (some ⟨gy, 0, none⟩) lY yc) rfl rfl rfl (by kernel_rfl) (by kernel_rfl) (by kernel_rfl) (by kernel_rfl) (by kernel_rfl) (by kernel_rfl) (fun _ _ _ h => h) (by rfl) (fun w hS => ⟨by rfl, by obtain ⟨hS1, hS2⟩ := hS; go_simp⟩) (HSS.out _ HBu.out) ?_
      simp only [List.setIfInBounds_toArray, List.set_cons_zero, List.set_cons_succ]
      refine heldD_takeF (i := 5) (v := .int .i64 (lY : Nat)) rfl rfl rfl (by kernel_rfl) (by kernel_rfl) (by kernel_rfl) (by kernel_rfl) (fun _ _ _ h => h) (by rfl) (fun w => ⟨by rfl, by go_simp⟩) (fun _ => HSS.out _ HBu.out) ?_
      simp only [List.setIfInBounds_toArray, List.set_cons_zero, List.set_cons_succ]
      refine heldD_takeF (i := 6) (v := .int .i64 (m : Nat)) rfl rfl rfl (by kernel_rfl) (by kernel_rfl) (by kernel_rfl) (by kernel_rfl) (fun _ _ _ h => h) (by rfl) (fun w => ⟨by rfl, by go_simp⟩) (fun _ => HSS.out _ HBu.out) ?_
      simp only [List.setIfInBounds_toArray, List.set_cons_zero, List.set_cons_succ]
      refine heldD_takeF (i := 7) (v := .pointer (some ⟨B2, 2, none⟩)) rfl rfl rfl (by kernel_rfl) (by kernel_rfl) (by kernel_rfl) (by kernel_rfl) (fun _ _ _ h => h) (by rfl) (fun w => ⟨by rfl, by go_simp⟩) (fun _ => HSS.out _ HBu.out) ?_
      simp only [List.setIfInBounds_toArray, List.set_cons_zero, List.set_cons_succ]
      refine heldD_take (i := 8) (v := .int .i64 nn) rfl rfl rfl (by kernel_rfl) (by kernel_rfl) (by kernel_rfl) (by kernel_rfl) (by kernel_rfl) (by kernel_rfl) (fun _ _ _ h => h) (by rfl) (fun w hS => ⟨by rfl, by obtain ⟨hS1, hS2⟩ := hS; go_simp⟩) (HSS.out _ HBu.out) ?_
      simp only [List.setIfInBounds_toArray, List.set_cons_zero, List.set_cons_succ]
      refine heldD_takeF (i := 9) (v := .pointer (some ⟨gy, m, none⟩)) rfl rfl rfl (by kernel_rfl) (by kernel_rfl) (by kernel_rfl) (by kernel_rfl) (fun _ _ _ h => h) (by rfl) (fun w => ⟨by rfl, by go_simp⟩) (fun _ => HSS.out _ HBu.out) ?_
      simp only [List.setIfInBounds_toArray, List.set_cons_zero, List.set_cons_succ]
      refine heldD_HT ?_
      intro H hH T hT
      have HH := Lib.hid hH; have HT := Lib.hid hT
      clear hH hT
      suffices st_ : ∀ (u : World), Hid (Below w2.heap.size w2 u) → H 1 #[true, true, true, true, true, true, true, true, true, true, false] { tmps := T, defers := [] } u from by
        exact st_ wk0 HBu
      clear HBu
      intro u HBu
      rw [HH.out, HT.out]
      clear HH HT
      have hIu := HI.out.below HBu.out
      have hml : m < r.Y.length := by have := HlY.out; omega
      have hI1 := hIu.setY HlY.out.symm m hml nn
      obtain ⟨⟨q8, e8⟩, ff8⟩ := hIu.cellY HlY.out.symm m hmb
      have HI1 := Lib.hid hI1
      clear hI1 hIu
      refine heldD_one (i := 10) (by kernel_rfl) ?_
      refine wpOpIn_skip (w' := u.setCell ⟨gy, m, none⟩ (.int .i64 nn)) rfl rfl rfl (by rfl) (by rfl) (by go_simp) ?_
      refine ⟨fun h => (by cases h), ?_⟩
      refine heldD_done (by kernel_rfl) ?_ _
      go_upto_region 25 with fail
      clear o0 o1 o2 o3 f0 f1 f2 f3 t0 t1 t2 hzb e8 ff8 q0 q1 q2 q3 q5 q6 q7
      generalize u.setCell ⟨gy, m, none⟩ (.int .i64 nn) = Wz at *
      have hbW := below_of (Below.refl _ _) HI1.out.kept HBl.out
      have k4 := HK4.out.below hbW HK4.out.lt
      have oo := HI1.out.blk
      have p0 := oo.cell 0; have p1 := oo.cell 1; have p2 := oo.cell 2; have p3 := oo.cell 3
      change Wz.cell? ⟨Bo, 0, none⟩ = some (.int .i64 r.nodes) at p0
      change Wz.cell? ⟨Bo, 1, none⟩ = some (.slice xa lX xc) at p1
      change Wz.cell? ⟨Bo, 2, none⟩ = some (.slice (some ⟨gy, 0, none⟩) lY yc) at p2
      change Wz.cell? ⟨Bo, 3, none⟩ = some (.slice za lA zc) at p3
      have e0 := k4.cell 0; have e1 := k4.cell 1; have e2 := k4.cell 2; have e3 := k4.cell 3
      change Wz.cell? ⟨B4, 0, none⟩ = some (.int .i64 0) at e0
      change Wz.cell? ⟨B4, 1, none⟩ = some (.slice none 0 0) at e1
      change Wz.cell? ⟨B4, 2, none⟩ = some (.slice none 0 0) at e2
      change Wz.cell? ⟨B4, 3, none⟩ = some (.slice none 0 0) at e3
      have fq := fun i => k4.free i (Or.inr (Nat.zero_le _))
      have g0 := fq 0; have g1 := fq 1; have g2 := fq 2; have g3 := fq 3
      have hend := turn_end (W := Wz) (B4 := B4) (r := { r with Y := r.Y.set m nn }) (r.nodes) (.slice (some ⟨gy, 0, none⟩) lY yc) rfl HB1.out HBl.out HI1.out.kept HI1.out.own k4 HL4.out rfl
      have HEnd := Lib.hid hend
      clear hend k4 oo hbW fq
      go_wp2_with fail
      generalize (((Wz.setCell ⟨B4, 0, none⟩ (.int .i64 r.nodes)).setCell ⟨B4, 1, none⟩ (.slice xa lX xc)).setCell ⟨B4, 2, none⟩ (.slice (some ⟨gy, 0, none⟩) lY yc)).setCell ⟨B4, 3, none⟩ (.slice za lA zc) = wf at *
      have z0 := HEnd.out.1.cell 0; have z1 := HEnd.out.1.cell 1; have z2 := HEnd.out.1.cell 2; have z3 := HEnd.out.1.cell 3
      change wf.cell? ⟨B4, 0, none⟩ = some (.int .i64 r.nodes) at z0
      change wf.cell? ⟨B4, 1, none⟩ = some (.slice xa lX xc) at z1
      change wf.cell? ⟨B4, 2, none⟩ = some (.slice (some ⟨gy, 0, none⟩) lY yc) at z2
      change wf.cell? ⟨B4, 3, none⟩ = some (.slice za lA zc) at z3
      have hX := HlX.out; have hY := HlY.out; have hA := HlA.out
      exact bodyPost_ret (v := .agg #[.int .i64 r.nodes, .slice xa lX xc, .slice (some ⟨gy, 0, none⟩) lY yc, .slice za lA zc]) (by simp [results, Tryd.results19, go_sem, z0, z1, z2, z3]) rfl ⟨_, rfl, ⟨{ r with Y := r.Y.set m nn }, (fun u hu => RawO.raw (RawO.seen (⟨_, _, _, rfl, HEnd.out.2.1⟩ : RawO w1.heap.size wf _ _) HB1.out.size hu)), by (try dsimp only); (try rw [List.length_set]); omega, by (try dsimp only); (try rw [List.length_set]); omega, by (try dsimp only); (try rw [List.length_set]); omega⟩, HEnd.out.2.2⟩
  · have tm0 : (what : Int).tmod 8 = 5 := by rw [Int.tmod_eq_emod_of_nonneg (by omega)]; exact hc
    by_cases hz : lA = 0
    · have hzb : decide ((0 : Int) < (lA : Int)) = false := decide_eq_false (by omega)
      have HI1 := HI
      have hz0 : ¬ 0 < lA := by omega
      have hz1 : ¬ (0 : Int) < (lA : Int) := by omega
      have hz2 : decide (0 < lA) = false := decide_eq_false hz0
      clear hz
      go_upto_region 25 with fail
      clear o0 o1 o2 o3 f0 f1 f2 f3 t0 t1 t2 hzb
      obtain ⟨Wz, hWz⟩ : ∃ q, q = w2 := ⟨_, rfl⟩
      rw [← hWz] at HI1 ⊢
      clear hWz
      have hbW := below_of (Below.refl _ _) HI1.out.kept HBl.out
      have k4 := HK4.out.below hbW HK4.out.lt
      have oo := HI1.out.blk
      have p0 := oo.cell 0; have p1 := oo.cell 1; have p2 := oo.cell 2; have p3 := oo.cell 3
      change Wz.cell? ⟨Bo, 0, none⟩ = some (.int .i64 r.nodes) at p0
      change Wz.cell? ⟨Bo, 1, none⟩ = some (.slice xa lX xc) at p1
      change Wz.cell? ⟨Bo, 2, none⟩ = some (.slice ya lY yc) at p2
      change Wz.cell? ⟨Bo, 3, none⟩ = some (.slice za lA zc) at p3
      have e0 := k4.cell 0; have e1 := k4.cell 1; have e2 := k4.cell 2; have e3 := k4.cell 3
      change Wz.cell? ⟨B4, 0, none⟩ = some (.int .i64 0) at e0
      change Wz.cell? ⟨B4, 1, none⟩ = some (.slice none 0 0) at e1
      change Wz.cell? ⟨B4, 2, none⟩ = some (.slice none 0 0) at e2
      change Wz.cell? ⟨B4, 3, none⟩ = some (.slice none 0 0) at e3
      have fq := fun i => k4.free i (Or.inr (Nat.zero_le _))
      have g0 := fq 0; have g1 := fq 1; have g2 := fq 2; have g3 := fq 3
      have hend := turn_end (W := Wz) (B4 := B4) (r := r) (r.nodes) (.slice ya lY yc) rfl HB1.out HBl.out HI1.out.kept HI1.out.own k4 HL4.out rfl
      have HEnd := Lib.hid hend
      clear hend k4 oo hbW fq
      go_wp2_with fail
      generalize (((Wz.setCell ⟨B4, 0, none⟩ (.int .i64 r.nodes)).setCell ⟨B4, 1, none⟩ (.slice xa lX xc)).setCell ⟨B4, 2, none⟩ (.slice ya lY yc)).setCell ⟨B4, 3, none⟩ (.slice za lA zc) = wf at *
      have z0 := HEnd.out.1.cell 0; have z1 := HEnd.out.1.cell 1; have z2 := HEnd.out.1.cell 2; have z3 := HEnd.out.1.cell 3
      change wf.cell? ⟨B4, 0, none⟩ = some (.int .i64 r.nodes) at z0
      change wf.cell? ⟨B4, 1, none⟩ = some (.slice xa lX xc) at z1
      change wf.cell? ⟨B4, 2, none⟩ = some (.slice ya lY yc) at z2
      change wf.cell? ⟨B4, 3, none⟩ = some (.slice za lA zc) at z3
      have hX := HlX.out; have hY := HlY.out; have hA := HlA.out
      exact bodyPost_ret (v := .agg #[.int .i64 r.nodes, .slice xa lX xc, .slice ya lY yc, .slice za lA zc]) (by simp [results, Tryd.results19, go_sem, z0, z1, z2, z3]) rfl ⟨_, rfl, ⟨r, (fun u hu => RawO.raw (RawO.seen (⟨_, _, _, rfl, HEnd.out.2.1⟩ : RawO w1.heap.size wf _ _) HB1.out.size hu)), by (try dsimp only); omega, by (try dsimp only); omega, by (try dsimp only); omega⟩, HEnd.out.2.2⟩
    · have hzb : decide ((0 : Int) < (lA : Int)) = true := decide_eq_true (by omega)
      have hz0 : 0 < lA := by omega
      have hz1 : (0 : Int) < (lA : Int) := by omega
      obtain ⟨gz, rfl⟩ := HFz.out (by omega)
      obtain ⟨m, hm⟩ : ∃ m, m = at_ % lA := ⟨_, rfl⟩
      have hmb : m < lA := by rw [hm]; exact Nat.mod_lt _ (by omega)
      have q0 : (at_ : Int).tmod (lA : Int) = (m : Int) := by rw [hm]; rfl
      have q1 : (at_ : Int) % (lA : Int) = (m : Int) := by rw [hm]; rfl
      have q2 : IntKind.i64.wrap (m : Int) = (m : Int) := wrap_small _ (by omega) (by omega)
      have q3 : ¬ (lA : Int) = 0 := by omega
      have q5 : ((lA : Int) == 0) = false := by simpa using q3
      have q6 : (m : Int) < (lA : Int) := by omega
      have q7 : (0 : Int) ≤ (m : Int) := by omega
      clear hm
      have HSS := Lib.hid (show ∀ u, Below w2.heap.size w2 u → (u.cell? ⟨Bo, 3, none⟩ = some (.slice (some ⟨gz, 0, none⟩) lA zc) ∧ u.cell? ⟨B2, 2, none⟩ = some (.int .i64 nn)) from fun u hu => ⟨(HI.out.blk.below hu HI.out.blk.lt).cell 3, (HK2.out.below (HBz.out.next' hu) HK2.out.lt).cell 2⟩)
      go_upto_region 21 with fail
      refine wp_region_heldD (fun w' => w'.cell? ⟨Bo, 3, none⟩ = some (.slice (some ⟨gz, 0, none⟩) lA zc) ∧ w'.cell? ⟨B2, 2, none⟩ = some (.int .i64 nn)) 11 rfl ?_
      change heldD _ _ _ _ _ _ _ 12 _ _ w2.drew
      obtain ⟨wk0, hu0⟩ : ∃ u, u = w2.drew := ⟨_, rfl⟩
      have HBu := Lib.hid (show Below w2.heap.size w2 wk0 by rw [hu0]; exact (Below.refl _ _).drew)
      rw [← hu0]
      clear hu0
      refine heldD_takeF (i := 0) (v := .pointer (some ⟨Bo, 3, none⟩)) rfl rfl rfl (by kernel_rfl) (by kernel_rfl) (by kernel_rfl) (by kernel_rfl) (fun _ _ _ h => h) (by rfl) (fun w => ⟨by rfl, by go_simp⟩) (fun _ => HSS.out _ HBu.out) ?_
      simp only [List.setIfInBounds_toArray, List.set_cons_zero, List.set_cons_succ]
      refine heldD_take (i := 1) (v := .slice (some ⟨gz, 0, none⟩) lA zc) rfl rfl rfl (by kernel_rfl) (by kernel_rfl) (by kernel_rfl) (by kernel_rfl) (by kernel_rfl) (by kernel_rfl) (fun _ _ _ h => h) (by rfl) (fun w hS => ⟨by rfl, by obtain ⟨hS1, hS2⟩ := hS; go_simp⟩) (HSS.out _ HBu.out) ?_
      simp only [List.setIfInBounds_toArray, List.set_cons_zero, List.set_cons_succ]
      refine heldD_takeF (i := 2) (v := .int .i64 (at_ : Nat)) rfl rfl rfl (by kernel_rfl) (by kernel_rfl) (by kernel_rfl) (by kernel_rfl) (fun _ _ _ h => h) (by rfl) (fun w => ⟨by rfl, by go_simp⟩) (fun _ => HSS.out _ HBu.out) ?_
      simp only [List.setIfInBounds_toArray, List.set_cons_zero, List.set_cons_succ]
      refine heldD_takeF (i := 3) (v := .pointer (some ⟨Bo, 3, none⟩)) rfl rfl rfl (by kernel_rfl) (by kernel_rfl) (by kernel_rfl) (by kernel_rfl) (fun _ _ _ h => h) (by rfl) (fun w => ⟨by rfl, by go_simp⟩) (fun _ => HSS.out _ HBu.out) ?_
      simp only [List.setIfInBounds_toArray, List.set_cons_zero, List.set_cons_succ]
      refine heldD_take (i := 4) (v := .slice (some ⟨gz, 0, none⟩) lA zc) rfl rfl rfl (by kernel_rfl) (by kernel_rfl) (by kernel_rfl) (by kernel_rfl) (by kernel_rfl) (by kernel_rfl) (fun _ _ _ h => h) (by rfl) (fun w hS => ⟨by rfl, by obtain ⟨hS1, hS2⟩ := hS; go_simp⟩) (HSS.out _ HBu.out) ?_
      simp only [List.setIfInBounds_toArray, List.set_cons_zero, List.set_cons_succ]
      refine heldD_takeF (i := 5) (v := .int .i64 (lA : Nat)) rfl rfl rfl (by kernel_rfl) (by kernel_rfl) (by kernel_rfl) (by kernel_rfl) (fun _ _ _ h => h) (by rfl) (fun w => ⟨by rfl, by go_simp⟩) (fun _ => HSS.out _ HBu.out) ?_
      simp only [List.setIfInBounds_toArray, List.set_cons_zero, List.set_cons_succ]
      refine heldD_takeF (i := 6) (v := .int .i64 (m : Nat)) rfl rfl rfl (by kernel_rfl) (by kernel_rfl) (by kernel_rfl) (by kernel_rfl) (fun _ _ _ h => h) (by rfl) (fun w => ⟨by rfl, by go_simp⟩) (fun _ => HSS.out _ HBu.out) ?_
      simp only [List.setIfInBounds_toArray, List.set_cons_zero, List.set_cons_succ]
      refine heldD_takeF (i := 7) (v := .pointer (some ⟨B2, 2, none⟩)) rfl rfl rfl (by kernel_rfl) (by kernel_rfl) (by kernel_rfl) (by kernel_rfl) (fun _ _ _ h => h) (by rfl) (fun w => ⟨by rfl, by go_simp⟩) (fun _ => HSS.out _ HBu.out) ?_
      simp only [List.setIfInBounds_toArray, List.set_cons_zero, List.set_cons_succ]
      refine heldD_take (i := 8) (v := .int .i64 nn) rfl rfl rfl (by kernel_rfl) (by kernel_rfl) (by kernel_rfl) (by kernel_rfl) (by kernel_rfl) (by kernel_rfl) (fun _ _ _ h => h) (by rfl) (fun w hS => ⟨by rfl, by obtain ⟨hS1, hS2⟩ := hS; go_simp⟩) (HSS.out _ HBu.out) ?_
      simp only [List.setIfInBounds_toArray, List.set_cons_zero, List.set_cons_succ]
      refine heldD_takeF (i := 9) (v := .pointer (some ⟨gz, m * 3, none⟩)) rfl rfl rfl (by kernel_rfl) (by kernel_rfl) (by kernel_rfl) (by kernel_rfl) (fun _ _ _ h => h) (by rfl) (fun w => ⟨by rfl, by go_simp⟩) (fun _ => HSS.out _ HBu.out) ?_
      simp only [List.setIfInBounds_toArray, List.set_cons_zero, List.set_cons_succ]
      refine heldD_takeF (i := 10) (v := .pointer (some ⟨gz, m * 3, none⟩)) rfl rfl rfl (by kernel_rfl) (by kernel_rfl) (by kernel_rfl) (by kernel_rfl) (fun _ _ _ h => h) (by rfl) (fun w => ⟨by rfl, by go_simp⟩) (fun _ => HSS.out _ HBu.out) ?_
      simp only [List.setIfInBounds_toArray, List.set_cons_zero, List.set_cons_succ]
      refine heldD_HT ?_
      intro H hH T hT
      have HH := Lib.hid hH; have HT := Lib.hid hT
      clear hH hT
      suffices st_ : ∀ (u : World), Hid (Below w2.heap.size w2 u) → H 1 #[true, true, true, true, true, true, true, true, true, true, true, false] { tmps := T, defers := [] } u from by
        exact st_ wk0 HBu
      clear HBu
      intro u HBu
      rw [HH.out, HT.out]
      clear HH HT
      have hIu := HI.out.below HBu.out
      have hml : m < r.arcs.length := by have := HlA.out; omega
      have hI1 := hIu.setA HlA.out.symm m 0 hml (by omega) nn (o := m * 3) rfl
      obtain ⟨⟨q8, e8⟩, ff8⟩ := hIu.cellA HlA.out.symm m 0 hml (by omega)
      change u.cell? ⟨gz, m * 3, none⟩ = some q8 at e8
      change u.frozen? ⟨gz, m * 3, none⟩ = false at ff8
      have HI1 := Lib.hid hI1
      clear hI1 hIu
      refine heldD_one (i := 11) (by kernel_rfl) ?_
      refine wpOpIn_skip (w' := u.setCell ⟨gz, m * 3, none⟩ (.int .i64 nn)) rfl rfl rfl (by rfl) (by rfl) (by go_simp) ?_
      refine ⟨fun h => (by cases h), ?_⟩
      refine heldD_done (by kernel_rfl) ?_ _
      go_upto_region 25 with fail
      clear o0 o1 o2 o3 f0 f1 f2 f3 t0 t1 t2 hzb e8 ff8 q0 q1 q2 q3 q5 q6 q7
      generalize u.setCell ⟨gz, m * 3, none⟩ (.int .i64 nn) = Wz at *
      have hbW := below_of (Below.refl _ _) HI1.out.kept HBl.out
      have k4 := HK4.out.below hbW HK4.out.lt
      have oo := HI1.out.blk
      have p0 := oo.cell 0; have p1 := oo.cell 1; have p2 := oo.cell 2; have p3 := oo.cell 3
      change Wz.cell? ⟨Bo, 0, none⟩ = some (.int .i64 r.nodes) at p0
      change Wz.cell? ⟨Bo, 1, none⟩ = some (.slice xa lX xc) at p1
      change Wz.cell? ⟨Bo, 2, none⟩ = some (.slice ya lY yc) at p2
      change Wz.cell? ⟨Bo, 3, none⟩ = some (.slice (some ⟨gz, 0, none⟩) lA zc) at p3
      have e0 := k4.cell 0; have e1 := k4.cell 1; have e2 := k4.cell 2; have e3 := k4.cell 3
      change Wz.cell? ⟨B4, 0, none⟩ = some (.int .i64 0) at e0
      change Wz.cell? ⟨B4, 1, none⟩ = some (.slice none 0 0) at e1
      change Wz.cell? ⟨B4, 2, none⟩ = some (.slice none 0 0) at e2
      change Wz.cell? ⟨B4, 3, none⟩ = some (.slice none 0 0) at e3
      have fq := fun i => k4.free i (Or.inr (Nat.zero_le _))
      have g0 := fq 0; have g1 := fq 1; have g2 := fq 2; have g3 := fq 3
      have hend := turn_end (W := Wz) (B4 := B4) (r := { r with arcs := r.arcs.set m (setArc 0 nn r.arcs[m]) }) (r.nodes) (.slice ya lY yc) rfl HB1.out HBl.out HI1.out.kept HI1.out.own k4 HL4.out rfl
      have HEnd := Lib.hid hend
      clear hend k4 oo hbW fq
      go_wp2_with fail
      generalize (((Wz.setCell ⟨B4, 0, none⟩ (.int .i64 r.nodes)).setCell ⟨B4, 1, none⟩ (.slice xa lX xc)).setCell ⟨B4, 2, none⟩ (.slice ya lY yc)).setCell ⟨B4, 3, none⟩ (.slice (some ⟨gz, 0, none⟩) lA zc) = wf at *
      have z0 := HEnd.out.1.cell 0; have z1 := HEnd.out.1.cell 1; have z2 := HEnd.out.1.cell 2; have z3 := HEnd.out.1.cell 3
      change wf.cell? ⟨B4, 0, none⟩ = some (.int .i64 r.nodes) at z0
      change wf.cell? ⟨B4, 1, none⟩ = some (.slice xa lX xc) at z1
      change wf.cell? ⟨B4, 2, none⟩ = some (.slice ya lY yc) at z2
      change wf.cell? ⟨B4, 3, none⟩ = some (.slice (some ⟨gz, 0, none⟩) lA zc) at z3
      have hX := HlX.out; have hY := HlY.out; have hA := HlA.out
      exact bodyPost_ret (v := .agg #[.int .i64 r.nodes, .slice xa lX xc, .slice ya lY yc, .slice (some ⟨gz, 0, none⟩) lA zc]) (by simp [results, Tryd.results19, go_sem, z0, z1, z2, z3]) rfl ⟨_, rfl, ⟨{ r with arcs := r.arcs.set m (setArc 0 nn r.arcs[m]) }, (fun u hu => RawO.raw (RawO.seen (⟨_, _, _, rfl, HEnd.out.2.1⟩ : RawO w1.heap.size wf _ _) HB1.out.size hu)), by (try dsimp only); (try rw [List.length_set]); omega, by (try dsimp only); (try rw [List.length_set]); omega, by (try dsimp only); (try rw [List.length_set]); omega⟩, HEnd.out.2.2⟩
  · have tm0 : (what : Int).tmod 8 = 6 := by rw [Int.tmod_eq_emod_of_nonneg (by omega)]; exact hc
    by_cases hz : lA = 0
    · have hzb : decide ((0 : Int) < (lA : Int)) = false := decide_eq_false (by omega)
      have HI1 := HI
      have hz0 : ¬ 0 < lA := by omega
      have hz1 : ¬ (0 : Int) < (lA : Int) := by omega
      have hz2 : decide (0 < lA) = false := decide_eq_false hz0
      clear hz
      go_upto_region 25 with fail
      clear o0 o1 o2 o3 f0 f1 f2 f3 t0 t1 t2 hzb
      obtain ⟨Wz, hWz⟩ : ∃ q, q = w2 := ⟨_, rfl⟩
      rw [← hWz] at HI1 ⊢
      clear hWz
      have hbW := below_of (Below.refl _ _) HI1.out.kept HBl.out
      have k4 := HK4.out.below hbW HK4.out.lt
      have oo := HI1.out.blk
      have p0 := oo.cell 0; have p1 := oo.cell 1; have p2 := oo.cell 2; have p3 := oo.cell 3
      change Wz.cell? ⟨Bo, 0, none⟩ = some (.int .i64 r.nodes) at p0
      change Wz.cell? ⟨Bo, 1, none⟩ = some (.slice xa lX xc) at p1
      change Wz.cell? ⟨Bo, 2, none⟩ = some (.slice ya lY yc) at p2
      change Wz.cell? ⟨Bo, 3, none⟩ = some (.slice za lA zc) at p3
      have e0 := k4.cell 0; have e1 := k4.cell 1; have e2 := k4.cell 2; have e3 := k4.cell 3
      change Wz.cell? ⟨B4, 0, none⟩ = some (.int .i64 0) at e0
      change Wz.cell? ⟨B4, 1, none⟩ = some (.slice none 0 0) at e1
      change Wz.cell? ⟨B4, 2, none⟩ = some (.slice none 0 0) at e2
      change Wz.cell? ⟨B4, 3, none⟩ = some (.slice none 0 0) at e3
      have fq := fun i => k4.free i (Or.inr (Nat.zero_le _))
      have g0 := fq 0; have g1 := fq 1; have g2 := fq 2; have g3 := fq 3
      have hend := turn_end (W := Wz) (B4 := B4) (r := r) (r.nodes) (.slice ya lY yc) rfl HB1.out HBl.out HI1.out.kept HI1.out.own k4 HL4.out rfl
      have HEnd := Lib.hid hend
      clear hend k4 oo hbW fq
      go_wp2_with fail
      generalize (((Wz.setCell ⟨B4, 0, none⟩ (.int .i64 r.nodes)).setCell ⟨B4, 1, none⟩ (.slice xa lX xc)).setCell ⟨B4, 2, none⟩ (.slice ya lY yc)).setCell ⟨B4, 3, none⟩ (.slice za lA zc) = wf at *
      have z0 := HEnd.out.1.cell 0; have z1 := HEnd.out.1.cell 1; have z2 := HEnd.out.1.cell 2; have z3 := HEnd.out.1.cell 3
      change wf.cell? ⟨B4, 0, none⟩ = some (.int .i64 r.nodes) at z0
      change wf.cell? ⟨B4, 1, none⟩ = some (.slice xa lX xc) at z1
      change wf.cell? ⟨B4, 2, none⟩ = some (.slice ya lY yc) at z2
      change wf.cell? ⟨B4, 3, none⟩ = some (.slice za lA zc) at z3
      have hX := HlX.out; have hY := HlY.out; have hA := HlA.out
      exact bodyPost_ret (v := .agg #[.int .i64 r.nodes, .slice xa lX xc, .slice ya lY yc, .slice za lA zc]) (by simp [results, Tryd.results19, go_sem, z0, z1, z2, z3]) rfl ⟨_, rfl, ⟨r, (fun u hu => RawO.raw (RawO.seen (⟨_, _, _, rfl, HEnd.out.2.1⟩ : RawO w1.heap.size wf _ _) HB1.out.size hu)), by (try dsimp only); omega, by (try dsimp only); omega, by (try dsimp only); omega⟩, HEnd.out.2.2⟩
    · have hzb : decide ((0 : Int) < (lA : Int)) = true := decide_eq_true (by omega)
      have hz0 : 0 < lA := by omega
      have hz1 : (0 : Int) < (lA : Int) := by omega
      obtain ⟨gz, rfl⟩ := HFz.out (by omega)
      obtain ⟨m, hm⟩ : ∃ m, m = at_ % lA := ⟨_, rfl⟩
      have hmb : m < lA := by rw [hm]; exact Nat.mod_lt _ (by omega)
      have q0 : (at_ : Int).tmod (lA : Int) = (m : Int) := by rw [hm]; rfl
      have q1 : (at_ : Int) % (lA : Int) = (m : Int) := by rw [hm]; rfl
      have q2 : IntKind.i64.wrap (m : Int) = (m : Int) := wrap_small _ (by omega) (by omega)
      have q3 : ¬ (lA : Int) = 0 := by omega
      have q5 : ((lA : Int) == 0) = false := by simpa using q3
      have q6 : (m : Int) < (lA : Int) := by omega
      have q7 : (0 : Int) ≤ (m : Int) := by omega
      clear hm
      have HSS := Lib.hid (show ∀ u, Below w2.heap.size w2 u → (u.cell? ⟨Bo, 3, none⟩ = some (.slice (some ⟨gz, 0, none⟩) lA zc) ∧ u.cell? ⟨B2, 2, none⟩ = some (.int .i64 nn)) from fun u hu => ⟨(HI.out.blk.below hu HI.out.blk.lt).cell 3, (HK2.out.below (HBz.out.next' hu) HK2.out.lt).cell 2⟩)
      go_upto_region 24 with fail
      refine wp_region_heldD (fun w' => w'.cell? ⟨Bo, 3, none⟩ = some (.slice (some ⟨gz, 0, none⟩) lA zc) ∧ w'.cell? ⟨B2, 2, none⟩ = some (.int .i64 nn)) 11 rfl ?_
      change heldD _ _ _ _ _ _ _ 12 _ _ w2.drew
      obtain ⟨wk0, hu0⟩ : ∃ u, u = w2.drew := ⟨_, rfl⟩
      have HBu := Lib.hid (show Below w2.heap.size w2 wk0 by rw [hu0]; exact (Below.refl _ _).drew)
      rw [← hu0]
      clear hu0
      refine heldD_takeF (i := 0) (v := .pointer (some ⟨Bo, 3, none⟩)) rfl rfl rfl (by kernel_rfl) (by kernel_rfl) (by kernel_rfl) (by kernel_rfl) (fun _ _ _ h => h) (by rfl) (fun w => ⟨by rfl, by go_simp⟩) (fun _ => HSS.out _ HBu.out) ?_
      simp only [List.setIfInBounds_toArray, List.set_cons_zero, List.set_cons_succ]
      refine heldD_take (i := 1) (v := .slice (some ⟨gz, 0, none⟩) lA zc) rfl rfl rfl (by kernel_rfl) (by kernel_rfl) (by kernel_rfl) (by kernel_rfl) (by kernel_rfl) (by kernel_rfl) (fun _ _ _ h => h) (by rfl) (fun w hS => ⟨by rfl, by obtain ⟨hS1, hS2⟩ := hS; go_simp⟩) (HSS.out _ HBu.out) ?_
      simp only [List.setIfInBounds_toArray, List.set_cons_zero, List.set_cons_succ]
      refine heldD_takeF (i := 2) (v := .int .i64 (at_ : Nat)) rfl rfl rfl (by kernel_rfl) (by kernel_rfl) (by kernel_rfl) (by kernel_rfl) (fun _ _ _ h => h) (by rfl) (fun w => ⟨by rfl, by go_simp⟩) (fun _ => HSS.out _ HBu.out) ?_
      simp only [List.setIfInBounds_toArray, List.set_cons_zero, List.set_cons_succ]
      refine heldD_takeF (i := 3) (v := .pointer (some ⟨Bo, 3, none⟩)) rfl rfl rfl (by kernel_rfl) (by kernel_rfl) (by kernel_rfl) (by kernel_rfl) (fun _ _ _ h => h) (by rfl) (fun w => ⟨by rfl, by go_simp⟩) (fun _ => HSS.out _ HBu.out) ?_
      simp only [List.setIfInBounds_toArray, List.set_cons_zero, List.set_cons_succ]
      refine heldD_take (i := 4) (v := .slice (some ⟨gz, 0, none⟩) lA zc) rfl rfl rfl (by kernel_rfl) (by kernel_rfl) (by kernel_rfl) (by kernel_rfl) (by kernel_rfl) (by kernel_rfl) (fun _ _ _ h => h) (by rfl) (fun w hS => ⟨by rfl, by obtain ⟨hS1, hS2⟩ := hS; go_simp⟩) (HSS.out _ HBu.out) ?_
      simp only [List.setIfInBounds_toArray, List.set_cons_zero, List.set_cons_succ]
      refine heldD_takeF (i := 5) (v := .int .i64 (lA : Nat)) rfl rfl rfl (by kernel_rfl) (by kernel_rfl) (by kernel_rfl) (by kernel_rfl) (fun _ _ _ h => h) (by rfl) (fun w => ⟨by rfl, by go_simp⟩) (fun _ => HSS.out _ HBu.out) ?_
      simp only [List.setIfInBounds_toArray, List.set_cons_zero, List.set_cons_succ]
      refine heldD_takeF (i := 6) (v := .int .i64 (m : Nat)) rfl rfl rfl (by kernel_rfl) (by kernel_rfl) (by kernel_rfl) (by kernel_rfl) (fun _ _ _ h => h) (by rfl) (fun w => ⟨by rfl, by go_simp⟩) (fun _ => HSS.out _ HBu.out) ?_
      simp only [List.setIfInBounds_toArray, List.set_cons_zero, List.set_cons_succ]
      refine heldD_takeF (i := 7) (v := .pointer (some ⟨B2, 2, none⟩)) rfl rfl rfl (by kernel_rfl) (by kernel_rfl) (by kernel_rfl) (by kernel_rfl) (fun _ _ _ h => h) (by rfl) (fun w => ⟨by rfl, by go_simp⟩) (fun _ => HSS.out _ HBu.out) ?_
      simp only [List.setIfInBounds_toArray, List.set_cons_zero, List.set_cons_succ]
      refine heldD_take (i := 8) (v := .int .i64 nn) rfl rfl rfl (by kernel_rfl) (by kernel_rfl) (by kernel_rfl) (by kernel_rfl) (by kernel_rfl) (by kernel_rfl) (fun _ _ _ h => h) (by rfl) (fun w hS => ⟨by rfl, by obtain ⟨hS1, hS2⟩ := hS; go_simp⟩) (HSS.out _ HBu.out) ?_
      simp only [List.setIfInBounds_toArray, List.set_cons_zero, List.set_cons_succ]
      refine heldD_takeF (i := 9) (v := .pointer (some ⟨gz, m * 3, none⟩)) rfl rfl rfl (by kernel_rfl) (by kernel_rfl) (by kernel_rfl) (by kernel_rfl) (fun _ _ _ h => h) (by rfl) (fun w => ⟨by rfl, by go_simp⟩) (fun _ => HSS.out _ HBu.out) ?_
      simp only [List.setIfInBounds_toArray, List.set_cons_zero, List.set_cons_succ]
      refine heldD_takeF (i := 10) (v := .pointer (some ⟨gz, m * 3 + 1, none⟩)) rfl rfl rfl (by kernel_rfl) (by kernel_rfl) (by kernel_rfl) (by kernel_rfl) (fun _ _ _ h => h) (by rfl) (fun w => ⟨by rfl, by go_simp⟩) (fun _ => HSS.out _ HBu.out) ?_
      simp only [List.setIfInBounds_toArray, List.set_cons_zero, List.set_cons_succ]
      refine heldD_HT ?_
      intro H hH T hT
      have HH := Lib.hid hH; have HT := Lib.hid hT
      clear hH hT
      suffices st_ : ∀ (u : World), Hid (Below w2.heap.size w2 u) → H 1 #[true, true, true, true, true, true, true, true, true, true, true, false] { tmps := T, defers := [] } u from by
        exact st_ wk0 HBu
      clear HBu
      intro u HBu
      rw [HH.out, HT.out]
      clear HH HT
      have hIu := HI.out.below HBu.out
      have hml : m < r.arcs.length := by have := HlA.out; omega
      have hI1 := hIu.setA HlA.out.symm m 1 hml (by omega) nn (o := m * 3 + 1) rfl
      obtain ⟨⟨q8, e8⟩, ff8⟩ := hIu.cellA HlA.out.symm m 1 hml (by omega)
      have HI1 := Lib.hid hI1
      clear hI1 hIu
      refine heldD_one (i := 11) (by kernel_rfl) ?_
      refine wpOpIn_skip (w' := u.setCell ⟨gz, m * 3 + 1, none⟩ (.int .i64 nn)) rfl rfl rfl (by rfl) (by rfl) (by go_simp) ?_
      refine ⟨fun h => (by cases h), ?_⟩
      refine heldD_done (by kernel_rfl) ?_ _
      go_upto_region 25 with fail
      clear o0 o1 o2 o3 f0 f1 f2 f3 t0 t1 t2 hzb e8 ff8 q0 q1 q2 q3 q5 q6 q7
      generalize u.setCell ⟨gz, m * 3 + 1, none⟩ (.int .i64 nn) = Wz at *
      have hbW := below_of (Below.refl _ _) HI1.out.kept HBl.out
      have k4 := HK4.out.below hbW HK4.out.lt
      have oo := HI1.out.blk
      have p0 := oo.cell 0; have p1 := oo.cell 1; have p2 := oo.cell 2; have p3 := oo.cell 3
      change Wz.cell? ⟨Bo, 0, none⟩ = some (.int .i64 r.nodes) at p0
      change Wz.cell? ⟨Bo, 1, none⟩ = some (.slice xa lX xc) at p1
      change Wz.cell? ⟨Bo, 2, none⟩ = some (.slice ya lY yc) at p2
      change Wz.cell? ⟨Bo, 3, none⟩ = some (.slice (some ⟨gz, 0, none⟩) lA zc) at p3
      have e0 := k4.cell 0; have e1 := k4.cell 1; have e2 := k4.cell 2; have e3 := k4.cell 3
      change Wz.cell? ⟨B4, 0, none⟩ = some (.int .i64 0) at e0
      change Wz.cell? ⟨B4, 1, none⟩ = some (.slice none 0 0) at e1
      change Wz.cell? ⟨B4, 2, none⟩ = some (.slice none 0 0) at e2
      change Wz.cell? ⟨B4, 3, none⟩ = some (.slice none 0 0) at e3
      have fq := fun i => k4.free i (Or.inr (Nat.zero_le _))
      have g0 := fq 0; have g1 := fq 1; have g2 := fq 2; have g3 := fq 3
      have hend := turn_end (W := Wz) (B4 := B4) (r := { r with arcs := r.arcs.set m (setArc 1 nn r.arcs[m]) }) (r.nodes) (.slice ya lY yc) rfl HB1.out HBl.out HI1.out.kept HI1.out.own k4 HL4.out rfl
      have HEnd := Lib.hid hend
      clear hend k4 oo hbW fq
      go_wp2_with fail
      generalize (((Wz.setCell ⟨B4, 0, none⟩ (.int .i64 r.nodes)).setCell ⟨B4, 1, none⟩ (.slice xa lX xc)).setCell ⟨B4, 2, none⟩ (.slice ya lY yc)).setCell ⟨B4, 3, none⟩ (.slice (some ⟨gz, 0, none⟩) lA zc) = wf at *
      have z0 := HEnd.out.1.cell 0; have z1 := HEnd.out.1.cell 1; have z2 := HEnd.out.1.cell 2; have z3 := HEnd.out.1.cell 3
      change wf.cell? ⟨B4, 0, none⟩ = some (.int .i64 r.nodes) at z0
      change wf.cell? ⟨B4, 1, none⟩ = some (.slice xa lX xc) at z1
      change wf.cell? ⟨B4, 2, none⟩ = some (.slice ya lY yc) at z2
      change wf.cell? ⟨B4, 3, none⟩ = some (.slice (some ⟨gz, 0, none⟩) lA zc) at z3
      have hX := HlX.out; have hY := HlY.out; have hA := HlA.out
      exact bodyPost_ret (v := .agg #[.int .i64 r.nodes, .slice xa lX xc, .slice ya lY yc, .slice (some ⟨gz, 0, none⟩) lA zc]) (by simp [results, Tryd.results19, go_sem, z0, z1, z2, z3]) rfl ⟨_, rfl, ⟨{ r with arcs := r.arcs.set m (setArc 1 nn r.arcs[m]) }, (fun u hu => RawO.raw (RawO.seen (⟨_, _, _, rfl, HEnd.out.2.1⟩ : RawO w1.heap.size wf _ _) HB1.out.size hu)), by (try dsimp only); (try rw [List.length_set]); omega, by (try dsimp only); (try rw [List.length_set]); omega, by (try dsimp only); (try rw [List.length_set]); omega⟩, HEnd.out.2.2⟩
  · have tm0 : (what : Int).tmod 8 = 7 := by rw [Int.tmod_eq_emod_of_nonneg (by omega)]; exact hc
    by_cases hz : lA = 0
    · have hzb : decide ((0 : Int) < (lA : Int)) = false := decide_eq_false (by omega)
      have HI1 := HI
      have hz0 : ¬ 0 < lA := by omega
      have hz1 : ¬ (0 : Int) < (lA : Int) := by omega
      have hz2 : decide (0 < lA) = false := decide_eq_false hz0
      clear hz
      go_upto_region 25 with fail
      clear o0 o1 o2 o3 f0 f1 f2 f3 t0 t1 t2 hzb
      obtain ⟨Wz, hWz⟩ : ∃ q, q = w2 := ⟨_, rfl⟩
      rw [← hWz] at HI1 ⊢
      clear hWz
      have hbW := below_of (Below.refl _ _) HI1.out.kept HBl.out
      have k4 := HK4.out.below hbW HK4.out.lt
      have oo := HI1.out.blk
      have p0 := oo.cell 0; have p1 := oo.cell 1; have p2 := oo.cell 2; have p3 := oo.cell 3
      change Wz.cell? ⟨Bo, 0, none⟩ = some (.int .i64 r.nodes) at p0
      change Wz.cell? ⟨Bo, 1, none⟩ = some (.slice xa lX xc) at p1
      change Wz.cell? ⟨Bo, 2, none⟩ = some (.slice ya lY yc) at p2
      change Wz.cell? ⟨Bo, 3, none⟩ = some (.slice za lA zc) at p3
      have e0 := k4.cell 0; have e1 := k4.cell 1; have e2 := k4.cell 2; have e3 := k4.cell 3
      change Wz.cell? ⟨B4, 0, none⟩ = some (.int .i64 0) at e0
      change Wz.cell? ⟨B4, 1, none⟩ = some (.slice none 0 0) at e1
      change Wz.cell? ⟨B4, 2, none⟩ = some (.slice none 0 0) at e2
      change Wz.cell? ⟨B4, 3, none⟩ = some (.slice none 0 0) at e3
      have fq := fun i => k4.free i (Or.inr (Nat.zero_le _))
      have g0 := fq 0; have g1 := fq 1; have g2 := fq 2; have g3 := fq 3
      have hend := turn_end (W := Wz) (B4 := B4) (r := r) (r.nodes) (.slice ya lY yc) rfl HB1.out HBl.out HI1.out.kept HI1.out.own k4 HL4.out rfl
      have HEnd := Lib.hid hend
      clear hend k4 oo hbW fq
      go_wp2_with fail
      generalize (((Wz.setCell ⟨B4, 0, none⟩ (.int .i64 r.nodes)).setCell ⟨B4, 1, none⟩ (.slice xa lX xc)).setCell ⟨B4, 2, none⟩ (.slice ya lY yc)).setCell ⟨B4, 3, none⟩ (.slice za lA zc) = wf at *
      have z0 := HEnd.out.1.cell 0; have z1 := HEnd.out.1.cell 1; have z2 := HEnd.out.1.cell 2; have z3 := HEnd.out.1.cell 3
      change wf.cell? ⟨B4, 0, none⟩ = some (.int .i64 r.nodes) at z0
      change wf.cell? ⟨B4, 1, none⟩ = some (.slice xa lX xc) at z1
      change wf.cell? ⟨B4, 2, none⟩ = some (.slice ya lY yc) at z2
      change wf.cell? ⟨B4, 3, none⟩ = some (.slice za lA zc) at z3
      have hX := HlX.out; have hY := HlY.out; have hA := HlA.out
      exact bodyPost_ret (v := .agg #[.int .i64 r.nodes, .slice xa lX xc, .slice ya lY yc, .slice za lA zc]) (by simp [results, Tryd.results19, go_sem, z0, z1, z2, z3]) rfl ⟨_, rfl, ⟨r, (fun u hu => RawO.raw (RawO.seen (⟨_, _, _, rfl, HEnd.out.2.1⟩ : RawO w1.heap.size wf _ _) HB1.out.size hu)), by (try dsimp only); omega, by (try dsimp only); omega, by (try dsimp only); omega⟩, HEnd.out.2.2⟩
    · have hzb : decide ((0 : Int) < (lA : Int)) = true := decide_eq_true (by omega)
      have hz0 : 0 < lA := by omega
      have hz1 : (0 : Int) < (lA : Int) := by omega
      obtain ⟨gz, rfl⟩ := HFz.out (by omega)
      obtain ⟨m, hm⟩ : ∃ m, m = at_ % lA := ⟨_, rfl⟩
      have hmb : m < lA := by rw [hm]; exact Nat.mod_lt _ (by omega)
      have q0 : (at_ : Int).tmod (lA : Int) = (m : Int) := by rw [hm]; rfl
      have q1 : (at_ : Int) % (lA : Int) = (m : Int) := by rw [hm]; rfl
      have q2 : IntKind.i64.wrap (m : Int) = (m : Int) := wrap_small _ (by omega) (by omega)
      have q3 : ¬ (lA : Int) = 0 := by omega
      have q5 : ((lA : Int) == 0) = false := by simpa using q3
      have q6 : (m : Int) < (lA : Int) := by omega
      have q7 : (0 : Int) ≤ (m : Int) := by omega
      clear hm
      have HSS := Lib.hid (show ∀ u, Below w2.heap.size w2 u → (u.cell? ⟨Bo, 3, none⟩ = some (.slice (some ⟨gz, 0, none⟩) lA zc) ∧ u.cell? ⟨B2, 2, none⟩ = some (.int .i64 nn)) from fun u hu => ⟨(HI.out.blk.below hu HI.out.blk.lt).cell 3, (HK2.out.below (HBz.out.next' hu) HK2.out.lt).cell 2⟩)
      go_upto_region 5 with fail
      refine wp_region_heldD (fun w' => w'.cell? ⟨Bo, 3, none⟩ = some (.slice (some ⟨gz, 0, none⟩) lA zc) ∧ w'.cell? ⟨B2, 2, none⟩ = some (.int .i64 nn)) 11 rfl ?_
      change heldD _ _ _ _ _ _ _ 12 _ _ w2.drew
      obtain ⟨wk0, hu0⟩ : ∃ u, u = w2.drew := ⟨_, rfl⟩
      have HBu := Lib.hid (show Below w2.heap.size w2 wk0 by rw [hu0]; exact (Below.refl _ _).drew)
      rw [← hu0]
      clear hu0
      refine heldD_takeF (i := 0) (v := .pointer (some ⟨Bo, 3, none⟩)) rfl rfl rfl (by kernel_rfl) (by kernel_rfl) (by kernel_rfl) (by kernel_rfl) (fun _ _ _ h => h) (by rfl) (fun w => ⟨by rfl, by go_simp⟩) (fun _ => HSS.out _ HBu.out) ?_
      simp only [List.setIfInBounds_toArray, List.set_cons_zero, List.set_cons_succ]
      refine heldD_take (i := 1) (v := .slice (some ⟨gz, 0, none⟩) lA zc) rfl rfl rfl (by kernel_rfl) (by kernel_rfl) (by kernel_rfl) (by kernel_rfl) (by kernel_rfl) (by kernel_rfl) (fun _ _ _ h => h) (by rfl) (fun w hS => ⟨by rfl, by obtain ⟨hS1, hS2⟩ := hS; go_simp⟩) (HSS.out _ HBu.out) ?_
      simp only [List.setIfInBounds_toArray, List.set_cons_zero, List.set_cons_succ]
      refine heldD_takeF (i := 2) (v := .int .i64 (at_ : Nat)) rfl rfl rfl (by kernel_rfl) (by kernel_rfl) (by kernel_rfl) (by kernel_rfl) (fun _ _ _ h => h) (by rfl) (fun w => ⟨by rfl, by go_simp⟩) (fun _ => HSS.out _ HBu.out) ?_
      simp only [List.setIfInBounds_toArray, List.set_cons_zero, List.set_cons_succ]
      refine heldD_takeF (i := 3) (v := .pointer (some ⟨Bo, 3, none⟩)) rfl rfl rfl (by kernel_rfl) (by kernel_rfl) (by kernel_rfl) (by kernel_rfl) (fun _ _ _ h => h) (by rfl) (fun w => ⟨by rfl, by go_simp⟩) (fun _ => HSS.out _ HBu.out) ?_
      simp only [List.setIfInBounds_toArray, List.set_cons_zero, List.set_cons_succ]
      refine heldD_take (i := 4) (v := .slice (some ⟨gz, 0, none⟩) lA zc) rfl rfl rfl (by kernel_rfl) (by kernel_rfl) (by kernel_rfl) (by kernel_rfl) (by kernel_rfl) (by kernel_rfl) (fun _ _ _ h => h) (by rfl) (fun w hS => ⟨by rfl, by obtain ⟨hS1, hS2⟩ := hS; go_simp⟩) (HSS.out _ HBu.out) ?_
      simp only [List.setIfInBounds_toArray, List.set_cons_zero, List.set_cons_succ]
      refine heldD_takeF (i := 5) (v := .int .i64 (lA : Nat)) rfl rfl rfl (by kernel_rfl) (by kernel_rfl) (by kernel_rfl) (by kernel_rfl) (fun _ _ _ h => h) (by rfl) (fun w => ⟨by rfl, by go_simp⟩) (fun _ => HSS.out _ HBu.out) ?_
      simp only [List.setIfInBounds_toArray, List.set_cons_zero, List.set_cons_succ]
      refine heldD_takeF (i := 6) (v := .int .i64 (m : Nat)) rfl rfl rfl (by kernel_rfl) (by kernel_rfl) (by kernel_rfl) (by kernel_rfl) (fun _ _ _ h => h) (by rfl) (fun w => ⟨by rfl, by go_simp⟩) (fun _ => HSS.out _ HBu.out) ?_
      simp only [List.setIfInBounds_toArray, List.set_cons_zero, List.set_cons_succ]
      refine heldD_takeF (i := 7) (v := .pointer (some ⟨B2, 2, none⟩)) rfl rfl rfl (by kernel_rfl) (by kernel_rfl) (by kernel_rfl) (by kernel_rfl) (fun _ _ _ h => h) (by rfl) (fun w => ⟨by rfl, by go_simp⟩) (fun _ => HSS.out _ HBu.out) ?_
      simp only [List.setIfInBounds_toArray, List.set_cons_zero, List.set_cons_succ]
      refine heldD_take (i := 8) (v := .int .i64 nn) rfl rfl rfl (by kernel_rfl) (by kernel_rfl) (by kernel_rfl) (by kernel_rfl) (by kernel_rfl) (by kernel_rfl) (fun _ _ _ h => h) (by rfl) (fun w hS => ⟨by rfl, by obtain ⟨hS1, hS2⟩ := hS; go_simp⟩) (HSS.out _ HBu.out) ?_
      simp only [List.setIfInBounds_toArray, List.set_cons_zero, List.set_cons_succ]
      refine heldD_takeF (i := 9) (v := .pointer (some ⟨gz, m * 3, none⟩)) rfl rfl rfl (by kernel_rfl) (by kernel_rfl) (by kernel_rfl) (by kernel_rfl) (fun _ _ _ h => h) (by rfl) (fun w => ⟨by rfl, by go_simp⟩) (fun _ => HSS.out _ HBu.out) ?_
      simp only [List.setIfInBounds_toArray, List.set_cons_zero, List.set_cons_succ]
      refine heldD_takeF (i := 10) (v := .pointer (some ⟨gz, m * 3 + 2, none⟩)) rfl rfl rfl (by kernel_rfl) (by kernel_rfl) (by kernel_rfl) (by kernel_rfl) (fun _ _ _ h => h) (by rfl) (fun w => ⟨by rfl, by go_simp⟩) (fun _ => HSS.out _ HBu.out) ?_
      simp only [List.setIfInBounds_toArray, List.set_cons_zero, List.set_cons_succ]
      refine heldD_HT ?_
      intro H hH T hT
      have HH := Lib.hid hH; have HT := Lib.hid hT
      clear hH hT
      suffices st_ : ∀ (u : World), Hid (Below w2.heap.size w2 u) → H 1 #[true, true, true, true, true, true, true, true, true, true, true, false] { tmps := T, defers := [] } u from by
        exact st_ wk0 HBu
      clear HBu
      intro u HBu
      rw [HH.out, HT.out]
      clear HH HT
      have hIu := HI.out.below HBu.out
      have hml : m < r.arcs.length := by have := HlA.out; omega
      have hI1 := hIu.setA HlA.out.symm m 2 hml (by omega) nn (o := m * 3 + 2) rfl
      obtain ⟨⟨q8, e8⟩, ff8⟩ := hIu.cellA HlA.out.symm m 2 hml (by omega)
      have HI1 := Lib.hid hI1
      clear hI1 hIu
      refine heldD_one (i := 11) (by kernel_rfl) ?_
      refine wpOpIn_skip (w' := u.setCell ⟨gz, m * 3 + 2, none⟩ (.int .i64 nn)) rfl rfl rfl (by rfl) (by rfl) (by go_simp) ?_
      refine ⟨fun h => (by cases h), ?_⟩
      refine heldD_done (by kernel_rfl) ?_ _
      go_upto_region 25 with fail
      clear o0 o1 o2 o3 f0 f1 f2 f3 t0 t1 t2 hzb e8 ff8 q0 q1 q2 q3 q5 q6 q7
      generalize u.setCell ⟨gz, m * 3 + 2, none⟩ (.int .i64 nn) = Wz at *
      have hbW := below_of (Below.refl _ _) HI1.out.kept HBl.out
      have k4 := HK4.out.below hbW HK4.out.lt
      have oo := HI1.out.blk
      have p0 := oo.cell 0; have p1 := oo.cell 1; have p2 := oo.cell 2; have p3 := oo.cell 3
      change Wz.cell? ⟨Bo, 0, none⟩ = some (.int .i64 r.nodes) at p0
      change Wz.cell? ⟨Bo, 1, none⟩ = some (.slice xa lX xc) at p1
      change Wz.cell? ⟨Bo, 2, none⟩ = some (.slice ya lY yc) at p2
      change Wz.cell? ⟨Bo, 3, none⟩ = some (.slice (some ⟨gz, 0, none⟩) lA zc) at p3
      have e0 := k4.cell 0; have e1 := k4.cell 1; have e2 := k4.cell 2; have e3 := k4.cell 3
      change Wz.cell? ⟨B4, 0, none⟩ = some (.int .i64 0) at e0
      change Wz.cell? ⟨B4, 1, none⟩ = some (.slice none 0 0) at e1
      change Wz.cell? ⟨B4, 2, none⟩ = some (.slice none 0 0) at e2
      change Wz.cell? ⟨B4, 3, none⟩ = some (.slice none 0 0) at e3
      have fq := fun i => k4.free i (Or.inr (Nat.zero_le _))
      have g0 := fq 0; have g1 := fq 1; have g2 := fq 2; have g3 := fq 3
      have hend := turn_end (W := Wz) (B4 := B4) (r := { r with arcs := r.arcs.set m (setArc 2 nn r.arcs[m]) }) (r.nodes) (.slice ya lY yc) rfl HB1.out HBl.out HI1.out.kept HI1.out.own k4 HL4.out rfl
      have HEnd := Lib.hid hend
      clear hend k4 oo hbW fq
      go_wp2_with fail
      generalize (((Wz.setCell ⟨B4, 0, none⟩ (.int .i64 r.nodes)).setCell ⟨B4, 1, none⟩ (.slice xa lX xc)).setCell ⟨B4, 2, none⟩ (.slice ya lY yc)).setCell ⟨B4, 3, none⟩ (.slice (some ⟨gz, 0, none⟩) lA zc) = wf at *
      have z0 := HEnd.out.1.cell 0; have z1 := HEnd.out.1.cell 1; have z2 := HEnd.out.1.cell 2; have z3 := HEnd.out.1.cell 3
      change wf.cell? ⟨B4, 0, none⟩ = some (.int .i64 r.nodes) at z0
      change wf.cell? ⟨B4, 1, none⟩ = some (.slice xa lX xc) at z1
      change wf.cell? ⟨B4, 2, none⟩ = some (.slice ya lY yc) at z2
      change wf.cell? ⟨B4, 3, none⟩ = some (.slice (some ⟨gz, 0, none⟩) lA zc) at z3
      have hX := HlX.out; have hY := HlY.out; have hA := HlA.out
      exact bodyPost_ret (v := .agg #[.int .i64 r.nodes, .slice xa lX xc, .slice ya lY yc, .slice (some ⟨gz, 0, none⟩) lA zc]) (by simp [results, Tryd.results19, go_sem, z0, z1, z2, z3]) rfl ⟨_, rfl, ⟨{ r with arcs := r.arcs.set m (setArc 2 nn r.arcs[m]) }, (fun u hu => RawO.raw (RawO.seen (⟨_, _, _, rfl, HEnd.out.2.1⟩ : RawO w1.heap.size wf _ _) HB1.out.size hu)), by (try dsimp only); (try rw [List.length_set]); omega, by (try dsimp only); (try rw [List.length_set]); omega, by (try dsimp only); (try rw [List.length_set]); omega⟩, HEnd.out.2.2⟩
end Go.Proofs.YtnkcmlngoeofgaaDoor
