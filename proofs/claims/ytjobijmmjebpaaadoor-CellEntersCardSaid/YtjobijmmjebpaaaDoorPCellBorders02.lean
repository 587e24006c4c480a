/- Texts of the law CellBorders, merged: CellDrawn, CellBorders, CellBordersL. -/
import Derived.Test.YtjobijmmjebpaaaDoorPCellBorders01
import Derived.Test.YtjobijmmjebpaaaDoorPCellBorders00
import Derived.Test.YtjobijmmjebpaaaDoorPCellNorms11
/- the cell laws' drawn: a graph that may be. -/
namespace Go.Proofs.YtjobijmmjebpaaaDoor
open Go.RowKit
set_option maxRecDepth 100000 in
set_option maxHeartbeats 4000000 in
theorem drawn23_any (v : Value) (l : List Int) (w : World) (h : SlI w v .u8 l) :
    Calls Tryd.prog 7 #[v] w fun e w' => ∃ v' g, e = .returned v' ∧ RawO w.heap.size w' v' g ∧ g.Ok ∧ (g.nodes ≤ 12 ∧ g.arcs.length ≤ 84) ∧ Below w.heap.size w w' := by
  obtain ⟨a, cap, rfl, h1, h2, h3⟩ := h
  unfold maxLen at h2
  obtain ⟨m, hm⟩ : ∃ m : Nat, m = min l.length 80 := ⟨_, rfl⟩
  have f1 : (if (80 : Int) < (l.length : Int) then (80 : Int) else (l.length : Int)) = (m : Int) := by split <;> omega
  have hm1 : m ≤ cap := by omega
  have hm2 : (m : Int) ≤ (cap : Int) := by omega
  have hm0 : (0 : Int) ≤ (m : Int) := by omega
  obtain ⟨B2, hB2⟩ : ∃ b, b = w.heap.size := ⟨_, rfl⟩
  obtain ⟨p, hp⟩ : ∃ b, b = w.heap.size + 1 := ⟨_, rfl⟩
  obtain ⟨w1, hw1⟩ : ∃ w1, w1 = (w.alloc (.cells #[.int .i64 0, .slice none 0 0, .slice none 0 0, .slice none 0 0] 26)).alloc (.cells #[.slice a m cap, .int .i64 0] 52) := ⟨_, rfl⟩
  have hb1 : Below w.heap.size w w1 := by rw [hw1]; exact ((Below.refl _ _).alloc (Nat.le_refl _) _).alloc (by simp) _
  have K2 : Blk w1 B2 #[.int .i64 0, .slice none 0 0, .slice none 0 0, .slice none 0 0] 26 (0, 0) := by rw [hw1, hB2]; exact (Blk.new _ _ _ _).alloc _
  have Kp : Blk w1 p #[.slice a m cap, .int .i64 0] 52 (0, 0) := by
    rw [hw1, hp]
    have h := Blk.new (w.alloc (.cells #[.int .i64 0, .slice none 0 0, .slice none 0 0, .slice none 0 0] 26)) #[.slice a m cap, .int .i64 0] 52 (0, 0)
    rwa [World.size_alloc] at h
  have htl : (l.take m).length = m := by rw [List.length_take]; omega
  have hD : DrS w1 p ⟨w.heap.size, a, cap, l.take m⟩ 0 := by
    refine ⟨by dsimp only; rw [htl]; exact Kp, by dsimp only; omega, by omega, fun i hi => ?_⟩
    dsimp only at hi ⊢
    obtain ⟨b, off, ha, hc⟩ := h3 i (by omega)
    have hlt := block_lt_of_cell hc
    refine ⟨b, off, ha, by have := hlt; dsimp only at this; omega, hlt, ?_⟩
    rw [List.getElem_take]
    exact (World.cell?_of_block (hb1.block b hlt)).trans hc
  have C := Lib.hid (rawD_any p ⟨w.heap.size, a, cap, l.take m⟩ w1 hD hb1.size)
  have HB1 := Lib.hid hb1; have HK2 := Lib.hid K2; have HW1 := Lib.hid hw1; have HB2 := Lib.hid hB2; have HP := Lib.hid hp; have HM := Lib.hid hm
  clear hb1 K2 Kp hw1 hB2 hp htl hD h3
  go_enter Tryd.func7, Tryd.ntmps7
  go_wp2_with fail
  rw [← HM.out, ← HW1.out, ← HP.out, ← HB2.out]
  clear hm f1 hm1 hm2 hm0
  refine C.out.mono ?_
  rintro e w2 ⟨v, g, rfl, ⟨vx, vy, va, rfl, o1, o2, o3, o4⟩, hok, hgl, hkk⟩
  have fx := ownForm o1; have fy := ownForm o2; have fa := ownForm o3
  obtain ⟨xa, xc, rfl, _⟩ := fx
  obtain ⟨ya, yc, rfl, _⟩ := fy
  obtain ⟨za, zc, rfl, _⟩ := fa
  have hB2e := HB2.out; have hPe := HP.out
  have bC3 := hkk.blk HK2.out (by omega)
  have e0 := bC3.cell 0; have e1 := bC3.cell 1; have e2 := bC3.cell 2; have e3 := bC3.cell 3
  change w2.cell? ⟨B2, 0, none⟩ = some (.int .i64 0) at e0
  change w2.cell? ⟨B2, 1, none⟩ = some (.slice none 0 0) at e1
  change w2.cell? ⟨B2, 2, none⟩ = some (.slice none 0 0) at e2
  change w2.cell? ⟨B2, 3, none⟩ = some (.slice none 0 0) at e3
  have fr := fun i => bC3.free i (Or.inr (Nat.zero_le _))
  have f0 := fr 0; have f1 := fr 1; have f2 := fr 2; have f3 := fr 3
  have bZ := (((bC3.set 0 (.int .i64 g.nodes)).set 1 (.slice xa g.X.length xc)).set 2 (.slice ya g.Y.length yc)).set 3 (.slice za g.arcs.length zc)
  have hO : Own3 w1.heap.size w2 (.slice xa g.X.length xc) (.slice ya g.Y.length yc) (.slice za g.arcs.length zc) g := ⟨o1, o2, o3, o4⟩
  have R2 := (((hO.set (p := ⟨B2, 0, none⟩) bC3 (by decide) (by decide) (.int .i64 g.nodes)).set (p := ⟨B2, 1, none⟩) (bC3.set 0 (.int .i64 g.nodes)) (by decide) (by decide) (.slice xa g.X.length xc)).set (p := ⟨B2, 2, none⟩) ((bC3.set 0 (.int .i64 g.nodes)).set 1 (.slice xa g.X.length xc)) (by decide) (by decide) (.slice ya g.Y.length yc)).set (p := ⟨B2, 3, none⟩) (((bC3.set 0 (.int .i64 g.nodes)).set 1 (.slice xa g.X.length xc)).set 2 (.slice ya g.Y.length yc)) (by decide) (by decide) (.slice za g.arcs.length zc)
  have hle : w.heap.size ≤ B2 := by omega
  have hb2 : Below w.heap.size w w2 := below_of HB1.out hkk (by omega)
  have KZ := (((hb2.setCell (p := ⟨B2, 0, none⟩) hle (.int .i64 g.nodes)).setCell (p := ⟨B2, 1, none⟩) hle (.slice xa g.X.length xc)).setCell (p := ⟨B2, 2, none⟩) hle (.slice ya g.Y.length yc)).setCell (p := ⟨B2, 3, none⟩) hle (.slice za g.arcs.length zc)
  have hbase : w.heap.size ≤ w1.heap.size := HB1.out.size
  have HZ := Lib.hid bZ; have HR2 := Lib.hid R2; have HKZ := Lib.hid KZ; have HOk := Lib.hid hok; have HGl := Lib.hid hgl
  clear bZ R2 KZ bC3 fr hle hkk hO o1 o2 o3 o4 hok hgl hb2 C hB2e hPe
  go_wp2_with fail
  generalize (((w2.setCell ⟨B2, 0, none⟩ (.int .i64 g.nodes)).setCell ⟨B2, 1, none⟩ (.slice xa g.X.length xc)).setCell ⟨B2, 2, none⟩ (.slice ya g.Y.length yc)).setCell ⟨B2, 3, none⟩ (.slice za g.arcs.length zc) = wz at *
  have z0 := HZ.out.cell 0; have z1 := HZ.out.cell 1; have z2 := HZ.out.cell 2; have z3 := HZ.out.cell 3
  change wz.cell? ⟨B2, 0, none⟩ = some (.int .i64 g.nodes) at z0
  change wz.cell? ⟨B2, 1, none⟩ = some (.slice xa g.X.length xc) at z1
  change wz.cell? ⟨B2, 2, none⟩ = some (.slice ya g.Y.length yc) at z2
  change wz.cell? ⟨B2, 3, none⟩ = some (.slice za g.arcs.length zc) at z3
  exact bodyPost_ret (v := .agg #[.int .i64 g.nodes, .slice xa g.X.length xc, .slice ya g.Y.length yc, .slice za g.arcs.length zc]) (by simp [results, Tryd.results7, go_sem, z0, z1, z2, z3]) rfl ⟨_, g, rfl, ⟨_, _, _, rfl, ownsRow_le HR2.out.1 hbase, ownsRow_le HR2.out.2.1 hbase, ownsRow_le HR2.out.2.2.1 hbase, HR2.out.2.2.2⟩, HOk.out, HGl.out, HKZ.out⟩
end Go.Proofs.YtjobijmmjebpaaaDoor
/- CellBorders, its walk. -/
namespace Go.Proofs.YtjobijmmjebpaaaDoor
open Go.RowKit
/-- a border, or none -/
def bordV (g : Raw) (L : List Int) (c : Int) : List Int := if (L.length : Int) = g.nodes then borderV g L c else []
theorem bord_is {p n : Nat} (g : Raw) {L : List Int} {many : Int} (c : Int) {w : World} (hN : NetAt w n g) (hC : CellsAt w p L many) (hok : g.Ok) (hal : g.arcs.length ≤ 1000000) (hLl : L.length ≤ 1000000) :
    Calls Tryd.prog 14 #[.pointer (some ⟨p, 0, none⟩), .pointer (some ⟨n, 0, none⟩), .int .i64 c] w fun e w' => ∃ a k m, e = .returned (.slice a k m) ∧ SlX w' (.slice a k m) (bordV g L c) ∧ Below w.heap.size w w' := by
  unfold bordV
  by_cases hL : (L.length : Int) = g.nodes
  · rw [if_pos hL]
    refine (border_is rfl hok hal hLl hL hN hC).mono ?_
    rintro e w' ⟨a, k, rfl, hs, hb⟩
    exact ⟨a, _, k, rfl, hs, hb⟩
  · rw [if_neg hL]
    refine (border_size p n g L many c w hN hC (fun e => hL e.symm)).mono ?_
    rintro e w' ⟨rfl, hb⟩
    exact ⟨_, _, _, rfl, slX_nil _, hb⟩
theorem refbord_is (va : Value) (g : Raw) {v : Value} {L : List Int} (c : Int) {w : World} (h : RawV w va g) (hl : SlX w v L) (hok : g.Ok) (hgn : g.nodes ≤ 100000) :
    Calls Tryd.prog 15 #[va, v, .int .i64 c] w fun e w' => ∃ a k m, e = .returned (.slice a k m) ∧ SlX w' (.slice a k m) (bordV g L c) ∧ Below w.heap.size w w' := by
  unfold bordV
  by_cases hL : (L.length : Int) = g.nodes
  · rw [if_pos hL]
    refine (refBorder_any va g hok hgn v L c w h hl hL).mono ?_
    rintro e w' ⟨x, rfl, ho, hb⟩
    have hs := slX_own rfl ho
    obtain ⟨a, k, rfl, _⟩ := id hs
    exact ⟨a, _, k, rfl, hs, hb⟩
  · rw [if_neg hL]
    refine (refBorder_size va g v L c w hok.nodes.1 h hl hL).mono ?_
    rintro e w' ⟨rfl, hb⟩
    exact ⟨_, _, _, rfl, slX_nil _, hb⟩
theorem ints_is {A : List Int} {va vb : Value} {w : World} (ha : SlX w va A) (hb : SlX w vb A) : Calls Tryd.prog 13 #[va, vb] w fun e w' => e = .returned (.bool true) ∧ Below w.heap.size w w' := by
  have := ints_any va vb A A w ha hb
  rw [decide_eq_true (show A = A from rfl)] at this
  exact this
theorem norm_cells {L : List Int} (h : L ≠ []) (hl : L.length ≤ 256) : CellOk (normV L) := by
  have hn : (normV L).length = L.length := normS_len L []
  have h0 : normV L ≠ [] := fun e => h (by rw [e] at hn; exact List.eq_nil_of_length_eq_zero hn.symm)
  have := maxF_range h0 (norm_twice L)
  exact ⟨h0, norm_twice L, by omega⟩
theorem norm_wf' {A : List Int} (hA : A.length ≤ 100000) : ∀ x ∈ normV A, (Lit.int .i64 x).wf = true := fun x hx => by
  have := norm_range hx
  exact wfInt (by omega)
theorem SlI.after {w w' : World} {v : Value} {k : IntKind} {l : List Int} (hb : Below w.heap.size w w') (h : SlI w v k l) : SlI w' v k l := by
  obtain ⟨a, cap, rfl, h1, h2, h3⟩ := h
  refine ⟨a, cap, rfl, h1, h2, fun i hi => ?_⟩
  obtain ⟨b, off, rfl, hc⟩ := h3 i hi
  exact ⟨b, off, rfl, cell_later hb hc⟩
theorem few_of {g : Raw} (hok : g.Ok) (hn : g.nodes ≤ 12) (ha : g.arcs.length ≤ 84) : g.few := ⟨by have := hok.lenX; omega, by have := hok.lenY; omega, by omega⟩
set_option maxRecDepth 100000 in
set_option maxHeartbeats 8000000 in
theorem cellBorders_any (vb vo vt : Value) (lb lo lt : List Int) (w : World) (hb0 : SlI w vb .u8 lb) (ho0 : SlI w vo .u8 lo) (ht0 : SlI w vt .u8 lt) (hlo : ∀ b ∈ lo, 0 ≤ b ∧ b < 256) (hg : HG w) : Calls Tryd.prog 3 #[vb, vo, vt] w fun e w' => e = .returned (.bool true) ∧ Below w.heap.size w w' := by
  have HG0 := Lib.hid hg; have HSo := Lib.hid ho0; have HSt := Lib.hid ht0; have HLo := Lib.hid hlo
  have HC := Lib.hid (drawn23_any vb lb w hb0)
  obtain ⟨ba, bc, rfl, _⟩ := id hb0
  obtain ⟨oa, oc, rfl, _⟩ := id ho0
  obtain ⟨ra, rc, rfl, _⟩ := id ht0
  clear hg hb0 ho0 ht0 hlo
  go_enter Tryd.func3, Tryd.ntmps3
  go_wp2_with fail
  refine HC.out.mono ?_
  rintro e w1 ⟨rg, g, rfl, hr, hok, hgl, hb⟩
  have hrv := hr.raw
  obtain ⟨vx, vy, vz, rfl, hx, hy, hz⟩ := id hrv
  obtain ⟨xa, xn, xc, rfl⟩ := hx.form
  obtain ⟨ya, yn, yc, rfl⟩ := hy.form
  obtain ⟨za, zn, zc, rfl⟩ := hz.form
  have HB1 := Lib.hid hb; have HR1 := Lib.hid hrv; have HOg := Lib.hid hok; have HGg0 := Lib.hid hgl
  have HC2 := Lib.hid (drawn23_any (.slice ra lt.length rc) lt w1 (SlI.after hb HSt.out))
  clear hr hrv hx hy hz hb hok hgl HC HSt
  go_wp2_with fail
  refine HC2.out.mono ?_
  rintro e w2 ⟨rh, h, rfl, hr, hok, hgl, hb⟩
  have hrv := hr.raw
  obtain ⟨vx, vy, vz, rfl, hx, hy, hz⟩ := id hrv
  obtain ⟨ua, un, uc, rfl⟩ := hx.form
  obtain ⟨va, vn, vc, rfl⟩ := hy.form
  obtain ⟨ta, tn, tc, rfl⟩ := hz.form
  have HB2 := Lib.hid (HB1.out.next' hb); have HR2 := Lib.hid hrv; have HOh := Lib.hid hok; have HGh0 := Lib.hid hgl
  have HR1b := Lib.hid (HR1.out.below hb)
  clear hr hrv hx hy hz hb hok hgl HC2 HR1 HB1
  obtain ⟨w3, hw3⟩ : ∃ u, u = (w2.alloc (.cells #[.int .i64 g.nodes, .slice xa xn xc, .slice ya yn yc, .slice za zn zc] 26)).alloc (.cells #[.int .i64 h.nodes, .slice ua un uc, .slice va vn vc, .slice ta tn tc] 26) := ⟨_, rfl⟩
  obtain ⟨B7, hB7⟩ : ∃ b, b = w2.heap.size := ⟨_, rfl⟩
  obtain ⟨B8, hB8⟩ : ∃ b, b = w2.heap.size + 1 := ⟨_, rfl⟩
  have hb3 : Below w2.heap.size w2 w3 := by rw [hw3]; exact ((Below.refl _ _).alloc (Nat.le_refl _) _).alloc (by simp) _
  have k7 : Blk w3 B7 #[.int .i64 g.nodes, .slice xa xn xc, .slice ya yn yc, .slice za zn zc] 26 (0, 0) := by rw [hw3, hB7]; exact (Blk.new _ _ _ _).alloc _
  have k8 : Blk w3 B8 #[.int .i64 h.nodes, .slice ua un uc, .slice va vn vc, .slice ta tn tc] 26 (0, 0) := by
    rw [hw3, hB8]
    have h := Blk.new (w2.alloc (.cells #[.int .i64 g.nodes, .slice xa xn xc, .slice ya yn yc, .slice za zn zc] 26)) #[.int .i64 h.nodes, .slice ua un uc, .slice va vn vc, .slice ta tn tc] 26 (0, 0)
    rwa [World.size_alloc] at h
  have HVg := Lib.hid (show ∀ u, Below w3.heap.size w3 u → RawV u (.agg #[.int .i64 g.nodes, .slice xa xn xc, .slice ya yn yc, .slice za zn zc]) g from fun u hu => (HR1b.out.below hb3).below hu)
  have HVh := Lib.hid (show ∀ u, Below w3.heap.size w3 u → RawV u (.agg #[.int .i64 h.nodes, .slice ua un uc, .slice va vn vc, .slice ta tn tc]) h from fun u hu => (HR2.out.below hb3).below hu)
  have HS := Lib.hid (show ∀ u, Below w3.heap.size w3 u → (u.cell? ⟨B7, 0, none⟩ = some (.int .i64 g.nodes) ∧ u.cell? ⟨B7, 1, none⟩ = some (.slice xa xn xc) ∧ u.cell? ⟨B7, 2, none⟩ = some (.slice ya yn yc) ∧ u.cell? ⟨B7, 3, none⟩ = some (.slice za zn zc) ∧ u.cell? ⟨B8, 0, none⟩ = some (.int .i64 h.nodes) ∧ u.cell? ⟨B8, 1, none⟩ = some (.slice ua un uc) ∧ u.cell? ⟨B8, 2, none⟩ = some (.slice va vn vc) ∧ u.cell? ⟨B8, 3, none⟩ = some (.slice ta tn tc)) from fun u hu => by
    have e7 := k7.below hu k7.lt; have e8 := k8.below hu k8.lt
    exact ⟨e7.cell 0, e7.cell 1, e7.cell 2, e7.cell 3, e8.cell 0, e8.cell 1, e8.cell 2, e8.cell 3⟩)
  have HS0 := HS
  have HB3 := Lib.hid (HB2.out.next' hb3); have HW3 := Lib.hid hw3; have HE7 := Lib.hid hB7; have HE8 := Lib.hid hB8
  have HFg := Lib.hid (few_of HOg.out HGg0.out.1 HGg0.out.2); have HFh := Lib.hid (few_of HOh.out HGh0.out.1 HGh0.out.2)
  have HAg := Lib.hid (show g.arcs.length ≤ 1000000 by have := HGg0.out.2; omega); have HAh := Lib.hid (show h.arcs.length ≤ 1000000 by have := HGh0.out.2; omega)
  have HGg := Lib.hid (show g.nodes ≤ 100000 by have := HGg0.out.1; omega); have HGh := Lib.hid (show h.nodes ≤ 100000 by have := HGh0.out.1; omega)
  clear hw3 hb3 k7 k8 HR1b HR2 HB2 hB7 hB8
  have HBel := Lib.hid (Below.refl w3.heap.size w3)
  go_upto_region 2 with fail
  rw [← HW3.out, ← HE8.out, ← HE7.out]
  clear HW3 HE7 HE8
  refine wp_region_held (S := fun w' => w'.cell? ⟨B7, 0, none⟩ = some (.int .i64 g.nodes) ∧ w'.cell? ⟨B7, 1, none⟩ = some (.slice xa xn xc) ∧ w'.cell? ⟨B7, 2, none⟩ = some (.slice ya yn yc) ∧ w'.cell? ⟨B7, 3, none⟩ = some (.slice za zn zc) ∧ w'.cell? ⟨B8, 0, none⟩ = some (.int .i64 h.nodes) ∧ w'.cell? ⟨B8, 1, none⟩ = some (.slice ua un uc) ∧ w'.cell? ⟨B8, 2, none⟩ = some (.slice va vn vc) ∧ w'.cell? ⟨B8, 3, none⟩ = some (.slice ta tn tc)) rfl ?_
  have hS0 := HS.out w3.drew (HBel.out.drew)
  change wpAnyH _ _ _ _ _ 6 _ _ w3.drew
  have HBe := Lib.hid (HBel.out.drew)
  refine heldA_take (i := 0) (v := .agg #[.int .i64 g.nodes, .slice xa xn xc, .slice ya yn yc, .slice za zn zc]) rfl rfl (by kernel_rfl) (by kernel_rfl) (by kernel_rfl) (fun _ _ _ h => h) (by rfl) (fun w hS => by obtain ⟨hS1, hS2, hS3, hS4, hS5, hS6, hS7, hS8⟩ := hS; go_simp) hS0 ?_
  simp only [List.setIfInBounds_toArray, List.set_cons_zero, List.set_cons_succ]
  refine heldA_take (i := 2) (v := .agg #[.int .i64 h.nodes, .slice ua un uc, .slice va vn vc, .slice ta tn tc]) rfl rfl (by kernel_rfl) (by kernel_rfl) (by kernel_rfl) (fun _ _ _ h => h) (by rfl) (fun w hS => by obtain ⟨hS1, hS2, hS3, hS4, hS5, hS6, hS7, hS8⟩ := hS; go_simp) hS0 ?_
  simp only [List.setIfInBounds_toArray, List.set_cons_zero, List.set_cons_succ]
  refine heldA_one (i := 1) (by kernel_rfl) ?_
  refine wpOp_calls (f := 8) rfl rfl (by rfl) (by go_simp) (made_any (.agg #[.int .i64 g.nodes, .slice xa xn xc, .slice ya yn yc, .slice za zn zc]) g w3.drew (HG0.out.later (HB3.out.next' HBe.out)) (HVg.out w3.drew HBe.out) HOg.out HFg.out) ?_ (by rintro _ _ ⟨_, h, _⟩; cases h) (by rintro _ ⟨_, h, _⟩; cases h)
  rintro v4 u4 ⟨n1, ⟨rfl⟩, hn, hb⟩
  have HBn := Lib.hid (HBe.out.trans (hb.mono HBe.out.size))
  have HN1 := Lib.hid hn
  clear hn
  replace HBe := HBn
  clear HBn hb hS0
  have hS0 := HS.out u4 HBe.out
  refine ⟨hS0, ?_⟩
  simp only [List.setIfInBounds_toArray, List.set_cons_zero, List.set_cons_succ]
  refine heldA_one (i := 3) (by kernel_rfl) ?_
  refine wpOp_calls (f := 8) rfl rfl (by rfl) (by go_simp) (made_any (.agg #[.int .i64 h.nodes, .slice ua un uc, .slice va vn vc, .slice ta tn tc]) h u4 (HG0.out.later (HB3.out.next' HBe.out)) (HVh.out u4 HBe.out) HOh.out HFh.out) ?_ (by rintro _ _ ⟨_, h, _⟩; cases h) (by rintro _ ⟨_, h, _⟩; cases h)
  rintro v5 u5 ⟨n2, ⟨rfl⟩, hn, hb⟩
  have HBn := Lib.hid (HBe.out.trans (hb.mono HBe.out.size))
  have HN2 := Lib.hid hn
  have HN1b := Lib.hid (HN1.out.keep (KpC.of_below hb))
  clear hn HN1
  replace HBe := HBn
  clear HBn hb hS0
  have hS0 := HS.out u5 HBe.out
  refine ⟨hS0, ?_⟩
  simp only [List.setIfInBounds_toArray, List.set_cons_zero, List.set_cons_succ]
  refine heldA_take (i := 4) (v := .pointer (some ⟨n1, 0, none⟩)) rfl rfl (by kernel_rfl) (by kernel_rfl) (by kernel_rfl) (fun _ _ _ h => h) (by rfl) (fun w hS => by obtain ⟨hS1, hS2, hS3, hS4, hS5, hS6, hS7, hS8⟩ := hS; go_simp) hS0 ?_
  simp only [List.setIfInBounds_toArray, List.set_cons_zero, List.set_cons_succ]
  refine heldA_take (i := 5) (v := .pointer (some ⟨n2, 0, none⟩)) rfl rfl (by kernel_rfl) (by kernel_rfl) (by kernel_rfl) (fun _ _ _ h => h) (by rfl) (fun w hS => by obtain ⟨hS1, hS2, hS3, hS4, hS5, hS6, hS7, hS8⟩ := hS; go_simp) hS0 ?_
  simp only [List.setIfInBounds_toArray, List.set_cons_zero, List.set_cons_succ]
  refine wpAnyH_done (by kernel_rfl) ?_ _
  have HB35 := HBe
  clear HBe hS0 HS HBel
  have HS := HS0
  obtain ⟨N, hN⟩ : ∃ N : Nat, (N : Int) = g.nodes := ⟨g.nodes.toNat, by have := HOg.out.nodes.1; omega⟩
  have HNn := Lib.hid hN
  have hN12 : 1 ≤ N ∧ N ≤ 12 := by have := HGg0.out.1; have := HOg.out.nodes.1; omega
  have HN12 := Lib.hid hN12
  clear hN hN12
  have hS5 := HS.out u5 HB35.out
  obtain ⟨s1, s2, s3, s4, s5, s6, s7, s8⟩ := hS5
  have HCp := Lib.hid (parted_any (.agg #[.int .i64 g.nodes, .slice xa xn xc, .slice ya yn yc, .slice za zn zc]) g N HNn.out (by have := HN12.out; omega) (.slice oa lo.length oc) lo HLo.out u5 (HVg.out u5 HB35.out) (SlI.after (HB3.out.next' HB35.out) HSo.out))
  clear HSo HLo
  go_wp2_with fail
  clear s1 s2 s3 s4 s5 s6 s7 s8
  refine HCp.out.mono ?_
  rintro e w6 ⟨xp, rfl, ho, hb⟩
  have HB6 := Lib.hid (HB35.out.next' hb)
  have HN1c := Lib.hid (HN1b.out.keep (KpC.of_below hb)); have HN2b := Lib.hid (HN2.out.keep (KpC.of_below hb))
  have hsp : SlX w6 xp (partedV N lo) := slX_own rfl ho
  have HCn := Lib.hid (refNorm_any xp (partedV N lo) (by rw [partedV_len]; have := HN12.out; omega) w6 hsp)
  obtain ⟨pa, pn, ppc, rfl⟩ := hsp.form
  clear ho hb hsp HCp HN1b HN2
  go_wp2_with fail
  refine HCn.out.mono ?_
  rintro e w7 ⟨xr, rfl, ho, hb⟩
  obtain ⟨R, hR⟩ : ∃ R, R = normV (partedV N lo) := ⟨_, rfl⟩
  rw [← hR] at ho
  have hRl : R.length = N := by rw [hR]; exact (normS_len _ []).trans (partedV_len _ _)
  have hsr : SlX w7 xr R := slX_own rfl ho
  have hck : CellOk R := by rw [hR]; exact norm_cells (fun e => by have := partedV_len N lo; rw [e] at this; have h2 := HN12.out; simp at this; omega) (by rw [partedV_len]; have := HN12.out; omega)
  have hmr := maxF_range hck.1 hck.2.1
  obtain ⟨la, lc, rfl, _⟩ := id hsr
  have HCw := Lib.hid (new_is (L := R) (m := maxF R + 1) hck rfl (by have := HN12.out; omega) (by rw [hR]; exact norm_wf' (by rw [partedV_len]; have := HN12.out; omega)) hsr)
  obtain ⟨mx, hmx⟩ : ∃ m, m = maxF R + 1 := ⟨_, rfl⟩
  rw [← hmx] at HCw
  have HMx := Lib.hid (show 1 ≤ mx ∧ mx ≤ 12 by have := HN12.out; omega)
  have HRl := Lib.hid (show R.length ≤ 1000000 by have := HN12.out; omega)
  have HSr := Lib.hid hsr; have HB7' := Lib.hid (HB6.out.next' hb)
  have HN1d := Lib.hid (HN1c.out.keep (KpC.of_below hb)); have HN2c := Lib.hid (HN2b.out.keep (KpC.of_below hb))
  clear ho hb hR hRl hsr hck hmr hmx HCn HN1c HN2b HB6
  go_wp2_with fail
  refine HCw.out.mono ?_
  rintro e w8 ⟨pc, rfl, hc, hb⟩
  have HB37 := Lib.hid (HB7'.out.next' hb)
  have HCs := Lib.hid hc; have HLs := Lib.hid (HSr.out.keep (KpC.of_below hb))
  have HN1e := Lib.hid (HN1d.out.keep (KpC.of_below hb)); have HN2d := Lib.hid (HN2c.out.keep (KpC.of_below hb))
  clear hc hb HCw HN1d HN2c HSr HB7'
  go_wp2_with fail
  go_loopw [13] (fun i wr => ∃ x : Int, i = .int .i64 x ∧ Hid (-1 ≤ x ∧ x ≤ mx + 1 ∧ Below w8.heap.size w8 wr)) (fun i _ => (mx + 1 - intOf i).toNat)
  case atStart => exact ⟨-1, rfl, Lib.hid ⟨by omega, by have := HMx.out; omega, Below.refl _ _⟩⟩
  case round =>
    obtain ⟨x, rfl, HI⟩ := hrel
    have HM := Lib.hid (many_any pc R mx wr (HCs.out.keep (KpC.of_below HI.out.2.2)))
    go_wp2_with fail
    refine HM.out.mono ?_
    rintro e wq ⟨rfl, hwq⟩
    subst wq
    clear HM
    by_cases hx : x ≤ mx
    · have HJ2 := Lib.hid HI.out.2.2
      have HN1c := HN1e; have HN2c := HN2d
      have HB37 := Lib.hid (HB37.out.next' HJ2.out)
      have HSw := Lib.hid (show ∀ u, Below wr.heap.size wr u → (u.cell? ⟨B7, 0, none⟩ = some (.int .i64 g.nodes) ∧ u.cell? ⟨B7, 1, none⟩ = some (.slice xa xn xc) ∧ u.cell? ⟨B7, 2, none⟩ = some (.slice ya yn yc) ∧ u.cell? ⟨B7, 3, none⟩ = some (.slice za zn zc) ∧ u.cell? ⟨B8, 0, none⟩ = some (.int .i64 h.nodes) ∧ u.cell? ⟨B8, 1, none⟩ = some (.slice ua un uc) ∧ u.cell? ⟨B8, 2, none⟩ = some (.slice va vn vc) ∧ u.cell? ⟨B8, 3, none⟩ = some (.slice ta tn tc)) from fun u hu => HS.out u (HB37.out.next' hu))
      clear HS
      have HS := HSw
      have HBel := Lib.hid (Below.refl wr.heap.size wr)
      go_upto_region 12 with fail
      refine wp_region_held (S := fun w' => w'.cell? ⟨B7, 0, none⟩ = some (.int .i64 g.nodes) ∧ w'.cell? ⟨B7, 1, none⟩ = some (.slice xa xn xc) ∧ w'.cell? ⟨B7, 2, none⟩ = some (.slice ya yn yc) ∧ w'.cell? ⟨B7, 3, none⟩ = some (.slice za zn zc) ∧ w'.cell? ⟨B8, 0, none⟩ = some (.int .i64 h.nodes) ∧ w'.cell? ⟨B8, 1, none⟩ = some (.slice ua un uc) ∧ w'.cell? ⟨B8, 2, none⟩ = some (.slice va vn vc) ∧ w'.cell? ⟨B8, 3, none⟩ = some (.slice ta tn tc)) rfl ?_
      have hS0 := HS.out wr.drew (HBel.out.drew)
      change wpAnyH _ _ _ _ _ 22 _ _ wr.drew
      have HBe := Lib.hid (HBel.out.drew)
      refine heldA_take (i := 0) (v := .pointer (some ⟨pc, 0, none⟩)) rfl rfl (by kernel_rfl) (by kernel_rfl) (by kernel_rfl) (fun _ _ _ h => h) (by rfl) (fun w hS => by obtain ⟨hS1, hS2, hS3, hS4, hS5, hS6, hS7, hS8⟩ := hS; go_simp) hS0 ?_
      simp only [List.setIfInBounds_toArray, List.set_cons_zero, List.set_cons_succ]
      refine heldA_take (i := 1) (v := .pointer (some ⟨n1, 0, none⟩)) rfl rfl (by kernel_rfl) (by kernel_rfl) (by kernel_rfl) (fun _ _ _ h => h) (by rfl) (fun w hS => by obtain ⟨hS1, hS2, hS3, hS4, hS5, hS6, hS7, hS8⟩ := hS; go_simp) hS0 ?_
      simp only [List.setIfInBounds_toArray, List.set_cons_zero, List.set_cons_succ]
      refine heldA_take (i := 2) (v := .int .i64 x) rfl rfl (by kernel_rfl) (by kernel_rfl) (by kernel_rfl) (fun _ _ _ h => h) (by rfl) (fun w hS => by obtain ⟨hS1, hS2, hS3, hS4, hS5, hS6, hS7, hS8⟩ := hS; go_simp) hS0 ?_
      simp only [List.setIfInBounds_toArray, List.set_cons_zero, List.set_cons_succ]
      refine heldA_take (i := 4) (v := .agg #[.int .i64 g.nodes, .slice xa xn xc, .slice ya yn yc, .slice za zn zc]) rfl rfl (by kernel_rfl) (by kernel_rfl) (by kernel_rfl) (fun _ _ _ h => h) (by rfl) (fun w hS => by obtain ⟨hS1, hS2, hS3, hS4, hS5, hS6, hS7, hS8⟩ := hS; go_simp) hS0 ?_
      simp only [List.setIfInBounds_toArray, List.set_cons_zero, List.set_cons_succ]
      refine heldA_take (i := 5) (v := .slice la R.length lc) rfl rfl (by kernel_rfl) (by kernel_rfl) (by kernel_rfl) (fun _ _ _ h => h) (by rfl) (fun w hS => by obtain ⟨hS1, hS2, hS3, hS4, hS5, hS6, hS7, hS8⟩ := hS; go_simp) hS0 ?_
      simp only [List.setIfInBounds_toArray, List.set_cons_zero, List.set_cons_succ]
      refine heldA_take (i := 6) (v := .int .i64 x) rfl rfl (by kernel_rfl) (by kernel_rfl) (by kernel_rfl) (fun _ _ _ h => h) (by rfl) (fun w hS => by obtain ⟨hS1, hS2, hS3, hS4, hS5, hS6, hS7, hS8⟩ := hS; go_simp) hS0 ?_
      simp only [List.setIfInBounds_toArray, List.set_cons_zero, List.set_cons_succ]
      refine heldA_one (i := 3) (by kernel_rfl) ?_
      refine wpOp_calls (f := 14) rfl rfl (by rfl) (by go_simp) (bord_is g x (HN1c.out.keep (KpC.of_below (HJ2.out.next' HBe.out))) (HCs.out.keep (KpC.of_below (HJ2.out.next' HBe.out))) HOg.out HAg.out HRl.out) ?_ (by rintro _ _ ⟨_, _, _, h, _⟩; cases h) (by rintro _ ⟨_, _, _, h, _⟩; cases h)
      rintro vp q1 ⟨ap, np, kp, ⟨rfl⟩, hs, hb⟩
      have HBn := Lib.hid (HBe.out.trans (hb.mono HBe.out.size))
      have HSp := Lib.hid hs
      clear hs
      replace HBe := HBn
      clear HBn hb hS0
      have hS0 := HS.out q1 HBe.out
      refine ⟨hS0, ?_⟩
      simp only [List.setIfInBounds_toArray, List.set_cons_zero, List.set_cons_succ]
      refine heldA_one (i := 7) (by kernel_rfl) ?_
      refine wpOp_calls (f := 15) rfl rfl (by rfl) (by go_simp) (refbord_is (.agg #[.int .i64 g.nodes, .slice xa xn xc, .slice ya yn yc, .slice za zn zc]) g x (HVg.out q1 (HB37.out.next' HBe.out)) (HLs.out.keep (KpC.of_below (HJ2.out.next' HBe.out))) HOg.out HGg.out) ?_ (by rintro _ _ ⟨_, _, _, h, _⟩; cases h) (by rintro _ ⟨_, _, _, h, _⟩; cases h)
      rintro vr q2 ⟨ar, nr, kr, ⟨rfl⟩, hs, hb⟩
      have HBn := Lib.hid (HBe.out.trans (hb.mono HBe.out.size))
      have HSr := Lib.hid hs
      have HSpk := Lib.hid (HSp.out.keep (KpC.of_below hb))
      clear hs HSp
      replace HBe := HBn
      clear HBn hb hS0
      have hS0 := HS.out q2 HBe.out
      refine ⟨hS0, ?_⟩
      simp only [List.setIfInBounds_toArray, List.set_cons_zero, List.set_cons_succ]
      refine heldA_one (i := 8) (by kernel_rfl) ?_
      refine wpOp_calls (f := 13) rfl rfl (by rfl) (by go_simp) (ints_is HSpk.out HSr.out) ?_ (by rintro _ _ ⟨h, _⟩; cases h) (by rintro _ ⟨h, _⟩; cases h)
      rintro vs q3 ⟨⟨rfl⟩, hb⟩
      have HBn := Lib.hid (HBe.out.trans (hb.mono HBe.out.size))
      clear HSpk HSr
      replace HBe := HBn
      clear HBn hb hS0
      have hS0 := HS.out q3 HBe.out
      refine ⟨hS0, ?_⟩
      simp only [List.setIfInBounds_toArray, List.set_cons_zero, List.set_cons_succ]
      refine heldA_take (i := 9) (v := .bool false) rfl rfl (by kernel_rfl) (by kernel_rfl) (by kernel_rfl) (fun _ _ _ h => h) (by rfl) (fun w hS => by obtain ⟨hS1, hS2, hS3, hS4, hS5, hS6, hS7, hS8⟩ := hS; go_simp) hS0 ?_
      simp only [List.setIfInBounds_toArray, List.set_cons_zero, List.set_cons_succ]
      refine heldA_take (i := 10) (v := .bool false) rfl rfl (by kernel_rfl) (by kernel_rfl) (by kernel_rfl) (fun _ _ _ h => h) (by rfl) (fun w hS => by obtain ⟨hS1, hS2, hS3, hS4, hS5, hS6, hS7, hS8⟩ := hS; go_simp) hS0 ?_
      simp only [List.setIfInBounds_toArray, List.set_cons_zero, List.set_cons_succ]
      refine heldA_take (i := 11) (v := .pointer (some ⟨pc, 0, none⟩)) rfl rfl (by kernel_rfl) (by kernel_rfl) (by kernel_rfl) (fun _ _ _ h => h) (by rfl) (fun w hS => by obtain ⟨hS1, hS2, hS3, hS4, hS5, hS6, hS7, hS8⟩ := hS; go_simp) hS0 ?_
      simp only [List.setIfInBounds_toArray, List.set_cons_zero, List.set_cons_succ]
      refine heldA_take (i := 12) (v := .pointer (some ⟨n2, 0, none⟩)) rfl rfl (by kernel_rfl) (by kernel_rfl) (by kernel_rfl) (fun _ _ _ h => h) (by rfl) (fun w hS => by obtain ⟨hS1, hS2, hS3, hS4, hS5, hS6, hS7, hS8⟩ := hS; go_simp) hS0 ?_
      simp only [List.setIfInBounds_toArray, List.set_cons_zero, List.set_cons_succ]
      refine heldA_take (i := 13) (v := .int .i64 x) rfl rfl (by kernel_rfl) (by kernel_rfl) (by kernel_rfl) (fun _ _ _ h => h) (by rfl) (fun w hS => by obtain ⟨hS1, hS2, hS3, hS4, hS5, hS6, hS7, hS8⟩ := hS; go_simp) hS0 ?_
      simp only [List.setIfInBounds_toArray, List.set_cons_zero, List.set_cons_succ]
      refine heldA_take (i := 15) (v := .agg #[.int .i64 h.nodes, .slice ua un uc, .slice va vn vc, .slice ta tn tc]) rfl rfl (by kernel_rfl) (by kernel_rfl) (by kernel_rfl) (fun _ _ _ h => h) (by rfl) (fun w hS => by obtain ⟨hS1, hS2, hS3, hS4, hS5, hS6, hS7, hS8⟩ := hS; go_simp) hS0 ?_
      simp only [List.setIfInBounds_toArray, List.set_cons_zero, List.set_cons_succ]
      refine heldA_take (i := 16) (v := .slice la R.length lc) rfl rfl (by kernel_rfl) (by kernel_rfl) (by kernel_rfl) (fun _ _ _ h => h) (by rfl) (fun w hS => by obtain ⟨hS1, hS2, hS3, hS4, hS5, hS6, hS7, hS8⟩ := hS; go_simp) hS0 ?_
      simp only [List.setIfInBounds_toArray, List.set_cons_zero, List.set_cons_succ]
      refine heldA_take (i := 17) (v := .int .i64 x) rfl rfl (by kernel_rfl) (by kernel_rfl) (by kernel_rfl) (fun _ _ _ h => h) (by rfl) (fun w hS => by obtain ⟨hS1, hS2, hS3, hS4, hS5, hS6, hS7, hS8⟩ := hS; go_simp) hS0 ?_
      simp only [List.setIfInBounds_toArray, List.set_cons_zero, List.set_cons_succ]
      refine heldA_one (i := 14) (by kernel_rfl) ?_
      refine wpOp_calls (f := 14) rfl rfl (by rfl) (by go_simp) (bord_is h x (HN2c.out.keep (KpC.of_below (HJ2.out.next' HBe.out))) (HCs.out.keep (KpC.of_below (HJ2.out.next' HBe.out))) HOh.out HAh.out HRl.out) ?_ (by rintro _ _ ⟨_, _, _, h, _⟩; cases h) (by rintro _ ⟨_, _, _, h, _⟩; cases h)
      rintro vd q4 ⟨ad, nd, kd, ⟨rfl⟩, hs, hb⟩
      have HBn := Lib.hid (HBe.out.trans (hb.mono HBe.out.size))
      have HSd := Lib.hid hs
      clear hs
      replace HBe := HBn
      clear HBn hb hS0
      have hS0 := HS.out q4 HBe.out
      refine ⟨hS0, ?_⟩
      simp only [List.setIfInBounds_toArray, List.set_cons_zero, List.set_cons_succ]
      refine heldA_one (i := 18) (by kernel_rfl) ?_
      refine wpOp_calls (f := 15) rfl rfl (by rfl) (by go_simp) (refbord_is (.agg #[.int .i64 h.nodes, .slice ua un uc, .slice va vn vc, .slice ta tn tc]) h x (HVh.out q4 (HB37.out.next' HBe.out)) (HLs.out.keep (KpC.of_below (HJ2.out.next' HBe.out))) HOh.out HGh.out) ?_ (by rintro _ _ ⟨_, _, _, h, _⟩; cases h) (by rintro _ ⟨_, _, _, h, _⟩; cases h)
      rintro ve q5 ⟨ae, ne, ke, ⟨rfl⟩, hs, hb⟩
      have HBn := Lib.hid (HBe.out.trans (hb.mono HBe.out.size))
      have HSe := Lib.hid hs
      have HSdk := Lib.hid (HSd.out.keep (KpC.of_below hb))
      clear hs HSd
      replace HBe := HBn
      clear HBn hb hS0
      have hS0 := HS.out q5 HBe.out
      refine ⟨hS0, ?_⟩
      simp only [List.setIfInBounds_toArray, List.set_cons_zero, List.set_cons_succ]
      refine heldA_one (i := 19) (by kernel_rfl) ?_
      refine wpOp_calls (f := 13) rfl rfl (by rfl) (by go_simp) (ints_is HSdk.out HSe.out) ?_ (by rintro _ _ ⟨h, _⟩; cases h) (by rintro _ ⟨h, _⟩; cases h)
      rintro vf q6 ⟨⟨rfl⟩, hb⟩
      have HBn := Lib.hid (HBe.out.trans (hb.mono HBe.out.size))
      clear HSdk HSe
      replace HBe := HBn
      clear HBn hb hS0
      have hS0 := HS.out q6 HBe.out
      refine ⟨hS0, ?_⟩
      simp only [List.setIfInBounds_toArray, List.set_cons_zero, List.set_cons_succ]
      refine heldA_take (i := 20) (v := .bool false) rfl rfl (by kernel_rfl) (by kernel_rfl) (by kernel_rfl) (fun _ _ _ h => h) (by rfl) (fun w hS => by obtain ⟨hS1, hS2, hS3, hS4, hS5, hS6, hS7, hS8⟩ := hS; go_simp) hS0 ?_
      simp only [List.setIfInBounds_toArray, List.set_cons_zero, List.set_cons_succ]
      refine heldA_take (i := 21) (v := .bool false) rfl rfl (by kernel_rfl) (by kernel_rfl) (by kernel_rfl) (fun _ _ _ h => h) (by rfl) (fun w hS => by obtain ⟨hS1, hS2, hS3, hS4, hS5, hS6, hS7, hS8⟩ := hS; go_simp) hS0 ?_
      simp only [List.setIfInBounds_toArray, List.set_cons_zero, List.set_cons_succ]
      refine wpAnyH_done (by kernel_rfl) ?_ _
      have HNew := Lib.hid (show -1 ≤ x + 1 ∧ x + 1 ≤ mx + 1 ∧ Below w8.heap.size w8 q6 from ⟨by have := HI.out.1; omega, by omega, HJ2.out.next' HBe.out⟩)
      have hxb : -1 ≤ x ∧ x ≤ 12 := by have := HI.out.1; have := HMx.out; omega
      clear HBe hS0 HS HSw HBel
      go_wp2_with fail
      go_roundw
      case rel => exact ⟨x + 1, by go_num, HNew⟩
      case measure => simp [intOf]; omega
    · have HWk := Lib.hid (works23_any wr (HG0.out.later (HB3.out.next' (HB37.out.next' HI.out.2.2))))
      have HBw := Lib.hid (HB3.out.next' (HB37.out.next' HI.out.2.2))
      go_wp2_with fail
      refine HWk.out.mono ?_
      rintro e w9 ⟨rfl, hb⟩
      have HB9 := Lib.hid (HBw.out.next' hb)
      clear hb HWk
      go_wp2_with fail
      go_ret
      exact ⟨rfl, HB9.out⟩
end Go.Proofs.YtjobijmmjebpaaaDoor
/- CellBorders: its arguments read. -/
namespace Go.Proofs.YtjobijmmjebpaaaDoor
open Go.RowKit
theorem cellBorders_rd (v0 v1 v2 : Value) (W : World) (R0 : Rd Tryd.prog W 22 [v0]) (R1 : Rd Tryd.prog W 22 [v1]) (R2 : Rd Tryd.prog W 22 [v2]) (hg : HG W) : Calls Tryd.prog 3 #[v0, v1, v2] W fun e w' => e = .returned (.bool true) ∧ Below W.heap.size W w' := by
  obtain ⟨A, hA, _⟩ := Rd.ints (k := .u8) Tryd.underlying22 Tryd.underlying5 (by kernel_rfl) R0
  obtain ⟨B, hB, hw⟩ := Rd.ints (k := .u8) Tryd.underlying22 Tryd.underlying5 (by kernel_rfl) R1
  obtain ⟨C, hC, _⟩ := Rd.ints (k := .u8) Tryd.underlying22 Tryd.underlying5 (by kernel_rfl) R2
  exact cellBorders_any v0 v1 v2 A B C W hA hB hC (fun b hb => by
    have : 0 ≤ b ∧ b ≤ 255 := by simpa [Lit.wf, IntKind.min, IntKind.max, IntKind.signed, IntKind.bits] using hw b hb
    omega) hg
end Go.Proofs.YtjobijmmjebpaaaDoor
