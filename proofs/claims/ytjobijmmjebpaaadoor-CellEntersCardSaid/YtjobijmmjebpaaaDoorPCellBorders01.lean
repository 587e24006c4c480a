/- Texts of the law CellBorders, merged: NetRawD. -/
import Derived.Test.YtjobijmmjebpaaaDoorPCellBorders00
import Derived.Test.YtjobijmmjebpaaaDoorPCellNorms09
import Derived.Test.YtjobijmmjebpaaaDoorPCellNorms02
import Derived.Deep.Cut
import Derived.Deep.CutRange
import Derived.Deep.CutBlock
/- milestoneref07.Draft.Raw: a graph that may be, of few nodes. -/
namespace Go.Proofs.YtjobijmmjebpaaaDoor
open Go.RowKit
theorem coord_push {X : List Int} {x : Int} (h : ∀ y ∈ X, coordOk y) (hx : coordOk x) : ∀ y ∈ X ++ [x], coordOk y := fun y hy => by
  rcases List.mem_append.1 hy with h' | h'
  · exact h y h'
  · rw [List.mem_singleton.1 h']; exact hx
theorem coord_set {X : List Int} {x : Int} {i : Nat} (h : ∀ y ∈ X, coordOk y) (hx : coordOk x) : ∀ y ∈ X.set i x, coordOk y := fun y hy => by
  rcases List.mem_or_eq_of_mem_set hy with h' | h'
  · exact h y h'
  · rw [h']; exact hx
theorem arc_push {n : Int} {A : List Ar} {a : Ar} (h : ∀ y ∈ A, arcOk n y) (hx : arcOk n a) : ∀ y ∈ A ++ [a], arcOk n y := fun y hy => by
  rcases List.mem_append.1 hy with h' | h'
  · exact h y h'
  · rw [List.mem_singleton.1 h']; exact hx
set_option maxRecDepth 100000 in
set_option maxHeartbeats 16000000 in
theorem rawD_any (p : Nat) (L : Dft) (w : World) (h : DrS w p L 0) (hlo : L.lo ≤ w.heap.size) :
    Calls Tryd.prog 24 #[.pointer (some ⟨p, 0, none⟩)] w fun e w' => ∃ v g, e = .returned v ∧ RawO w.heap.size w' v g ∧ g.Ok ∧ (g.nodes ≤ 12 ∧ g.arcs.length ≤ 84) ∧ Kept (· = p) w w' := by
  have hp := h.1.lt
  have HNx := Lib.hid (fun n (hn : n ≤ 1000000) (u : World) (k' : Nat) (hd : DrS u p L k') (hk' : k' < 1000000) => next7_any p L k' n u hd hk' hn)
  have HWt := Lib.hid (fun (u : World) (k' : Nat) (hd : DrS u p L k') (hk' : k' + 1 < 1000000) => weight7_any p L k' u hd hk')
  obtain ⟨B2, hB2⟩ : ∃ b, b = w.heap.size := ⟨_, rfl⟩
  obtain ⟨w1, hw1⟩ : ∃ w1, w1 = w.alloc (.cells #[.int .i64 0, .slice none 0 0, .slice none 0 0, .slice none 0 0] 26) := ⟨_, rfl⟩
  have hb1 : Below w.heap.size w w1 := by rw [hw1]; exact (Below.refl _ _).alloc (Nat.le_refl _) _
  have K2 : Blk w1 B2 #[.int .i64 0, .slice none 0 0, .slice none 0 0, .slice none 0 0] 26 (0, 0) := by rw [hw1, hB2]; exact Blk.new _ _ _ _
  have HD1 := Lib.hid (h.below hb1)
  have HB1 := Lib.hid hb1; have HK2 := Lib.hid K2; have HW1 := Lib.hid hw1; have HB2 := Lib.hid hB2; have HP := Lib.hid hp; have HLo := Lib.hid hlo
  clear h hb1 K2 hw1 hB2 hp hlo
  go_enter Tryd.func24, Tryd.ntmps24
  go_wp2_with fail
  rw [← HW1.out, ← HB2.out]
  refine (HNx.out 12 (by decide) w1 0 HD1.out (by omega)).mono ?_
  rintro e w2 ⟨x, k1, rfl, ⟨hx0, hx1, _⟩, hk1, hd1, hkk1⟩
  obtain ⟨N, hN⟩ : ∃ N : Nat, (N : Int) = 1 + x := ⟨(1 + x).toNat, by omega⟩
  have hN1 : 1 ≤ N ∧ N ≤ 12 := by rcases hx1 with h | h <;> omega
  have f4 : IntKind.i64.wrap (1 + x) = (N : Int) := by rw [wrap_small _ (by omega) (by omega)]; omega
  obtain ⟨Bo, hBo⟩ : ∃ b, b = w2.heap.size := ⟨_, rfl⟩
  obtain ⟨w3, hw3⟩ : ∃ w3, w3 = w2.alloc (.cells #[.int .i64 (N : Nat), .slice none 0 0, .slice none 0 0, .slice none 0 0] 26) := ⟨_, rfl⟩
  have hB2s := HB2.out
  have hsz1 : w1.heap.size = w.heap.size + 1 := by rw [HW1.out]; simp
  have hsz2 := hkk1.size
  have hC : DrC w B2 Bo p (Bo + 1) L := ⟨HP.out, HLo.out, by omega, by omega, by omega⟩
  have hk02 : Kept (· = p) w w2 := (Kept.of_below HB1.out).trans hkk1
  have hI3 : DrI w B2 Bo p (Bo + 1) L (.slice none 0 0) (.slice none 0 0) (.slice none 0 0) ⟨(N : Nat), [], [], []⟩ k1 w3 := by
    rw [hw3, hBo]
    exact DrI.new hk02 hd1 (hkk1.blk HK2.out (by have := HP.out; omega))
  have HC := Lib.hid hC; have HI3 := Lib.hid hI3; have HW3 := Lib.hid hw3; have HBo := Lib.hid hBo; have HN := Lib.hid hN
  have hle : w.heap.size ≤ Bo + 1 := by omega
  have HLe := Lib.hid hle
  clear hkk1 hd1 hk02 hC hI3 hw3 hBo hN HK2 HD1 hB2s hsz1 hsz2 hle hx1
  go_wp2_with fail
  rw [← HW3.out, ← HBo.out]
  clear HW3 HBo f4 hx0
  go_loopw [4] (fun i wr => ∃ (j k : Nat) (vx vy : Value) (X Y : List Int), j ≤ N ∧ i = .int .i64 j ∧ Hid ((X.length = j ∧ Y.length = j ∧ k ≤ 1 + 2 * j ∧ (∀ x ∈ X, coordOk x) ∧ ∀ y ∈ Y, coordOk y) ∧ DrI w B2 Bo p (Bo + 1) L vx vy (.slice none 0 0) ⟨(N : Nat), X, Y, []⟩ k wr)) (fun i _ => N - (intOf i).toNat)
  case atStart => exact ⟨0, k1, _, _, [], [], by omega, rfl, Lib.hid ⟨⟨rfl, rfl, by omega, by simp, by simp⟩, HI3.out⟩⟩
  clear HI3 hk1
  obtain ⟨j, k, vx, vy, X, Y, hj, rfl, hrel⟩ := hrel
  obtain ⟨⟨hlx, hly, hk, hcx, hcy⟩, hrelI⟩ := hrel.out
  clear hrel
  have o0 := (DrI.blk hrelI).cell 0; have o1 := (DrI.blk hrelI).cell 1; have o2 := (DrI.blk hrelI).cell 2
  change wr.cell? ⟨Bo, 0, none⟩ = some (.int .i64 (N : Nat)) at o0
  change wr.cell? ⟨Bo, 1, none⟩ = some vx at o1
  change wr.cell? ⟨Bo, 2, none⟩ = some vy at o2
  by_cases hlt : j < N
  case pos =>
    have hltI : (j : Int) < (N : Int) := by omega
    have HX := Lib.hid (And.intro hlx hcx); have HY := Lib.hid (And.intro hly hcy); have HRI := Lib.hid hrelI
    clear hcx hcy hrelI
    go_wp2_with fail
    clear o0 o2
    have hrelI := HRI.out
    clear HRI
    refine wp_region_heldD (fun w' => w'.cell? ⟨Bo, 1, none⟩ = some vx) 8 rfl ?_
    change heldD _ _ _ _ _ _ _ 9 _ _ wr.drew
    have hS0 : wr.drew.cell? ⟨Bo, 1, none⟩ = some vx := o1
    refine heldD_takeF (i := 0) (v := .pointer (some ⟨Bo, 1, none⟩)) rfl rfl rfl (by kernel_rfl) (by kernel_rfl) (by kernel_rfl) (by kernel_rfl) (fun _ _ _ h => h) (by rfl) (fun w => ⟨by rfl, by go_simp⟩) (fun _ => hS0) ?_
    simp only [List.setIfInBounds_toArray, List.set_cons_zero, List.set_cons_succ]
    refine heldD_take (i := 1) (v := vx) rfl rfl rfl (by kernel_rfl) (by kernel_rfl) (by kernel_rfl) (by kernel_rfl) (by kernel_rfl) (by kernel_rfl) (fun _ _ _ h => h) (by rfl) (fun w hS => ⟨by rfl, by obtain hS1 := hS; go_simp⟩) hS0 ?_
    simp only [List.setIfInBounds_toArray, List.set_cons_zero, List.set_cons_succ]
    refine heldD_takeF (i := 2) (v := .pointer (some ⟨p, 0, none⟩)) rfl rfl rfl (by kernel_rfl) (by kernel_rfl) (by kernel_rfl) (by kernel_rfl) (fun _ _ _ h => h) (by rfl) (fun w => ⟨by rfl, by go_simp⟩) (fun _ => hS0) ?_
    simp only [List.setIfInBounds_toArray, List.set_cons_zero, List.set_cons_succ]
    have hDr := (DrI.below hrelI (Below.refl _ wr).drew).dr HC.out
    refine heldD_one (i := 3) (by kernel_rfl) ?_
    refine wpOpIn_calls' (f := 43) (args := #[.pointer (some ⟨p, 0, none⟩), .int .i64 9]) rfl rfl (by rfl) (by go_simp) (HNx.out 9 (by decide) wr.drew _ hDr (by omega)) ?_
    rintro e W1 ⟨x, k', rfl, ⟨hx0, hx1, _⟩, hk', hd', hkk'⟩
    refine ⟨_, rfl, ?_⟩
    have hrelJ := DrI.next HC.out (DrI.below hrelI (Below.refl _ wr).drew) hkk' hd'
    clear hDr hkk' hd' hrelI
    have hxr : x < 9 := by rcases hx1 with h | h <;> omega
    clear hx1
    obtain ⟨y, hy⟩ : ∃ y, y = x - 3 := ⟨_, rfl⟩
    have f5 : IntKind.i64.wrap (x - 3) = y := by rw [hy, IntKind.wrap_i64]; omega
    have hyc : coordOk y := by unfold coordOk; omega
    clear hy
    obtain ⟨u, hu, hI⟩ := hrelJ
    obtain ⟨wa, hwa⟩ : ∃ wa, wa = W1.alloc (.cells #[.int .i64 y] 2) := ⟨_, rfl⟩
    have hba : Below W1.heap.size W1 wa := by rw [hwa]; exact (Below.refl _ _).alloc (Nat.le_refl _) _
    have hBa : Blk wa W1.heap.size (inC y).toArray 2 (0, 0) := by rw [hwa]; exact Blk.new _ _ _ _
    obtain ⟨v1, W2, hr1, ⟨a1, n1, c1, hv1⟩, hb1, hkg1, hI1⟩ := (hI.below hba).pushX hBa (by dsimp only; omega)
    subst hv1
    have hS1 : W1.cell? ⟨Bo, 1, none⟩ = some vx := hI.blk.cell 1
    have hS2 : wa.cell? ⟨Bo, 1, none⟩ = some vx := (hI.below hba).blk.cell 1
    have hS3 : W2.cell? ⟨Bo, 1, none⟩ = some vx := hb1.cell 1
    have pf1 := hb1.free 1 (Or.inr (Nat.zero_le _))
    have hrelI : DrI w B2 Bo p (Bo + 1) L _ _ _ _ _ _ := ⟨u, hu, hI1⟩
    have HRl := Lib.hid hrelI; have HR1 := Lib.hid hr1; have HWa := Lib.hid hwa
    clear hu hI hwa hba hBa hr1 hb1 hkg1 hI1 hrelI
    refine ⟨fun _ => hS1, ?_⟩
    simp only [List.setIfInBounds_toArray, List.set_cons_zero, List.set_cons_succ]
    clear hS0
    refine heldD_takeF (i := 4) (v := .int .i64 y) rfl rfl rfl (by kernel_rfl) (by kernel_rfl) (by kernel_rfl) (by kernel_rfl) (fun _ _ _ h => h) (by rfl) (fun w => ⟨by rfl, by go_simp⟩) (fun _ => hS1) ?_
    simp only [List.setIfInBounds_toArray, List.set_cons_zero, List.set_cons_succ]
    refine heldD_one (i := 5) (by kernel_rfl) ?_
    refine wpOpIn_value (v := .slice (some ⟨W1.heap.size, 0, none⟩) 1 1) (w' := wa) rfl rfl rfl (by rfl) (by rfl) (by rw [HWa.out]; go_simp) ?_
    refine ⟨fun _ => hS2, ?_⟩
    simp only [List.setIfInBounds_toArray, List.set_cons_zero, List.set_cons_succ]
    refine heldD_one (i := 6) (by kernel_rfl) ?_
    refine wpOpIn_append rfl rfl rfl (by rfl) _ _ _ _ rfl HR1.out ?_
    refine ⟨fun _ => hS3, ?_⟩
    simp only [List.setIfInBounds_toArray, List.set_cons_zero, List.set_cons_succ]
    refine heldD_takeF (i := 7) (v := .pointer (some ⟨Bo, 1, none⟩)) rfl rfl rfl (by kernel_rfl) (by kernel_rfl) (by kernel_rfl) (by kernel_rfl) (fun _ _ _ h => h) (by rfl) (fun w => ⟨by rfl, by go_simp⟩) (fun _ => hS3) ?_
    simp only [List.setIfInBounds_toArray, List.set_cons_zero, List.set_cons_succ]
    refine heldD_one (i := 8) (by kernel_rfl) ?_
    refine wpOpIn_skip (w' := W2.setCell ⟨Bo, 1, none⟩ (.slice a1 n1 c1)) rfl rfl rfl (by rfl) (by rfl) (by go_simp) ?_
    refine ⟨fun h => (by cases h), ?_⟩
    refine heldD_done (by kernel_rfl) ?_ _
    clear hS1 hS2 hS3 pf1 HR1 HWa f5
    obtain ⟨W3, hW⟩ : ∃ W, W = W2.setCell ⟨Bo, 1, none⟩ (.slice a1 n1 c1) := ⟨_, rfl⟩
    have hrelI := HRl.out
    rw [← hW] at hrelI ⊢
    clear hW HRl
    have HX2 := Lib.hid (coord_push HX.out.2 hyc)
    have hlx2 : (X ++ [y]).length = j + 1 := by rw [List.length_append, HX.out.1]; rfl
    have HX1 := Lib.hid hlx2
    have o2 := (DrI.blk hrelI).cell 2
    change W3.cell? ⟨Bo, 2, none⟩ = some vy at o2
    have HRI := Lib.hid hrelI
    obtain ⟨X', hX'⟩ : ∃ X', X' = X ++ [y] := ⟨_, rfl⟩
    clear hrelI hlx2 hyc hxr hx0 o1
    go_wp2_with fail
    have hrelI := HRI.out
    clear HRI
    refine wp_region_heldD (fun w' => w'.cell? ⟨Bo, 2, none⟩ = some vy) 7 rfl ?_
    change heldD _ _ _ _ _ _ _ 8 _ _ W3.drew
    have hS0 : W3.drew.cell? ⟨Bo, 2, none⟩ = some vy := o2
    refine heldD_takeF (i := 0) (v := .pointer (some ⟨Bo, 2, none⟩)) rfl rfl rfl (by kernel_rfl) (by kernel_rfl) (by kernel_rfl) (by kernel_rfl) (fun _ _ _ h => h) (by rfl) (fun w => ⟨by rfl, by go_simp⟩) (fun _ => hS0) ?_
    simp only [List.setIfInBounds_toArray, List.set_cons_zero, List.set_cons_succ]
    refine heldD_take (i := 1) (v := vy) rfl rfl rfl (by kernel_rfl) (by kernel_rfl) (by kernel_rfl) (by kernel_rfl) (by kernel_rfl) (by kernel_rfl) (fun _ _ _ h => h) (by rfl) (fun w hS => ⟨by rfl, by obtain hS1 := hS; go_simp⟩) hS0 ?_
    simp only [List.setIfInBounds_toArray, List.set_cons_zero, List.set_cons_succ]
    refine heldD_takeF (i := 2) (v := .pointer (some ⟨p, 0, none⟩)) rfl rfl rfl (by kernel_rfl) (by kernel_rfl) (by kernel_rfl) (by kernel_rfl) (fun _ _ _ h => h) (by rfl) (fun w => ⟨by rfl, by go_simp⟩) (fun _ => hS0) ?_
    simp only [List.setIfInBounds_toArray, List.set_cons_zero, List.set_cons_succ]
    have hDr := (DrI.below hrelI (Below.refl _ W3).drew).dr HC.out
    refine heldD_one (i := 3) (by kernel_rfl) ?_
    refine wpOpIn_calls' (f := 43) (args := #[.pointer (some ⟨p, 0, none⟩), .int .i64 7]) rfl rfl (by rfl) (by go_simp) (HNx.out 7 (by decide) W3.drew _ hDr (by omega)) ?_
    rintro e W4 ⟨x, k', rfl, ⟨hx0, hx1, _⟩, hk', hd', hkk'⟩
    refine ⟨_, rfl, ?_⟩
    have hrelJ := DrI.next HC.out (DrI.below hrelI (Below.refl _ W3).drew) hkk' hd'
    clear hDr hkk' hd' hrelI
    have hxr : x < 7 := by rcases hx1 with h | h <;> omega
    clear hx1
    obtain ⟨y, hy⟩ : ∃ y, y = x := ⟨_, rfl⟩
    subst hy
    have hyc : coordOk y := by unfold coordOk; omega
    obtain ⟨u, hu, hI⟩ := hrelJ
    obtain ⟨wa, hwa⟩ : ∃ wa, wa = W4.alloc (.cells #[.int .i64 y] 2) := ⟨_, rfl⟩
    have hba : Below W4.heap.size W4 wa := by rw [hwa]; exact (Below.refl _ _).alloc (Nat.le_refl _) _
    have hBa : Blk wa W4.heap.size (inC y).toArray 2 (0, 0) := by rw [hwa]; exact Blk.new _ _ _ _
    obtain ⟨v1, W5, hr1, ⟨a1, n1, c1, hv1⟩, hb1, hkg1, hI1⟩ := (hI.below hba).pushY hBa (by dsimp only; omega)
    subst hv1
    have hS1 : W4.cell? ⟨Bo, 2, none⟩ = some vy := hI.blk.cell 2
    have hS2 : wa.cell? ⟨Bo, 2, none⟩ = some vy := (hI.below hba).blk.cell 2
    have hS3 : W5.cell? ⟨Bo, 2, none⟩ = some vy := hb1.cell 2
    have pf1 := hb1.free 2 (Or.inr (Nat.zero_le _))
    have hrelI : DrI w B2 Bo p (Bo + 1) L _ _ _ _ _ _ := ⟨u, hu, hI1⟩
    have HRl := Lib.hid hrelI; have HR1 := Lib.hid hr1; have HWa := Lib.hid hwa
    clear hu hI hwa hba hBa hr1 hb1 hkg1 hI1 hrelI
    refine ⟨fun _ => hS1, ?_⟩
    simp only [List.setIfInBounds_toArray, List.set_cons_zero, List.set_cons_succ]
    clear hS0
    refine heldD_one (i := 4) (by kernel_rfl) ?_
    refine wpOpIn_value (v := .slice (some ⟨W4.heap.size, 0, none⟩) 1 1) (w' := wa) rfl rfl rfl (by rfl) (by rfl) (by rw [HWa.out]; go_simp) ?_
    refine ⟨fun _ => hS2, ?_⟩
    simp only [List.setIfInBounds_toArray, List.set_cons_zero, List.set_cons_succ]
    refine heldD_one (i := 5) (by kernel_rfl) ?_
    refine wpOpIn_append rfl rfl rfl (by rfl) _ _ _ _ rfl HR1.out ?_
    refine ⟨fun _ => hS3, ?_⟩
    simp only [List.setIfInBounds_toArray, List.set_cons_zero, List.set_cons_succ]
    refine heldD_takeF (i := 6) (v := .pointer (some ⟨Bo, 2, none⟩)) rfl rfl rfl (by kernel_rfl) (by kernel_rfl) (by kernel_rfl) (by kernel_rfl) (fun _ _ _ h => h) (by rfl) (fun w => ⟨by rfl, by go_simp⟩) (fun _ => hS3) ?_
    simp only [List.setIfInBounds_toArray, List.set_cons_zero, List.set_cons_succ]
    refine heldD_one (i := 7) (by kernel_rfl) ?_
    refine wpOpIn_skip (w' := W5.setCell ⟨Bo, 2, none⟩ (.slice a1 n1 c1)) rfl rfl rfl (by rfl) (by rfl) (by go_simp) ?_
    refine ⟨fun h => (by cases h), ?_⟩
    refine heldD_done (by kernel_rfl) ?_ _
    clear hS1 hS2 hS3 pf1 HR1 HWa
    obtain ⟨W6, hW⟩ : ∃ W, W = W5.setCell ⟨Bo, 2, none⟩ (.slice a1 n1 c1) := ⟨_, rfl⟩
    have hrelI := HRl.out
    rw [← hW] at hrelI ⊢
    clear hW HRl
    have HY2 := Lib.hid (coord_push HY.out.2 hyc)
    have HRI := Lib.hid hrelI
    clear hrelI hyc hxr hx0 o2
    go_wp2_with fail
    go_roundw
    case rel => exact ⟨j + 1, _, _, _, _, _, by omega, by go_num, Lib.hid ⟨⟨HX1.out, by rw [List.length_append, HY.out.1]; rfl, by omega, HX2.out, HY2.out⟩, HRI.out⟩⟩
    case measure => simp [intOf]; omega
  obtain rfl : N = j := by omega
  have hDr := DrI.dr HC.out hrelI
  have HX := Lib.hid (And.intro hlx hcx); have HY := Lib.hid (And.intro hly hcy); have HRI := Lib.hid hrelI; have HDr := Lib.hid hDr
  clear hcx hcy hrelI hDr o1 o2 hlx hly hlt
  go_upto_region 7 with fail
  go_upto_if 37 with (go_at_call 43; refine (HNx.out 9 (by decide) wr k HDr.out (by omega)).mono ?_; rintro e w4 ⟨x, k4, rfl, ⟨hx0, hx1, hx2⟩, hk4, hd4, hkk4⟩; clear hx1 hx2)
  have hRI4 := DrI.next HC.out HRI.out hkk4 hd4
  clear hd4 hkk4 HRI HDr o0
  have HK4 := Lib.hid (show k4 ≤ 26 by omega)
  clear hk4 hk
  go_cut [] from 10 (fun wx => ∃ (k : Nat) (vx vy : Value) (X Y : List Int), Hid ((X.length = N ∧ Y.length = N ∧ k ≤ 26 ∧ (∀ x ∈ X, coordOk x) ∧ ∀ y ∈ Y, coordOk y) ∧ DrI w B2 Bo p (Bo + 1) L vx vy (.slice none 0 0) ⟨(N : Nat), X, Y, []⟩ k wx))
  case first =>
    by_cases hx : x = 0
    · subst hx
      obtain ⟨u, hu, hI⟩ := hRI4
      have fx := ownForm hI.own.1; have fy := ownForm hI.own.2.1
      dsimp only at fx fy
      rw [HX.out.1] at fx; rw [HY.out.1] at fy
      obtain ⟨xa, xc, rfl, hxa⟩ := fx
      obtain ⟨ya, yc, rfl, hya⟩ := fy
      obtain ⟨gx, rfl⟩ := hxa (by omega)
      obtain ⟨gy, rfl⟩ := hya (by omega)
      obtain ⟨m, hm⟩ : ∃ m, N = m + 1 := ⟨N - 1, by omega⟩
      have f6 : IntKind.i64.wrap ((N : Int) - 1) = ((m : Nat) : Int) := by rw [wrap_small _ (by omega) (by omega)]; omega
      have hmN : (m : Int) < (N : Int) := by omega
      have hm0 : (0 : Int) ≤ (m : Int) := by omega
      have h0N : (0 : Int) < (N : Int) := by omega
      have hI1 := hI.setX HX.out.1 0 (by dsimp only; rw [HX.out.1]; omega) (-2147483648)
      have hI2 := hI1.setY HY.out.1 m (by dsimp only; rw [HY.out.1]; omega) 2147483647
      have o1 := hI.blk.cell 1
      change w4.cell? ⟨Bo, 1, none⟩ = some (.slice (some ⟨gx, 0, none⟩) N xc) at o1
      have o2 := hI1.blk.cell 2; have o0 := hI1.blk.cell 0
      change (w4.setCell ⟨gx, 0, none⟩ (.int .i64 (-2147483648))).cell? ⟨Bo, 2, none⟩ = some (.slice (some ⟨gy, 0, none⟩) N yc) at o2
      change (w4.setCell ⟨gx, 0, none⟩ (.int .i64 (-2147483648))).cell? ⟨Bo, 0, none⟩ = some (.int .i64 (N : Nat)) at o0
      obtain ⟨_, _, hgx⟩ := ownsRow_blk' hI.own.1 (g := gx) rfl
      obtain ⟨_, _, hgy⟩ := ownsRow_blk' hI1.own.2.1 (g := gy) rfl
      have ff1 := hgx.free 0 (Or.inr (Nat.zero_le _))
      have ff2 := hgy.free m (Or.inr (Nat.zero_le _))
      obtain ⟨cx, _, hcx⟩ : ∃ v, True ∧ w4.cell? ⟨gx, 0, none⟩ = some v := by
        have sX : SlX w4 (.slice (some ⟨gx, 0, none⟩) N xc) X := slX_own HX.out.1 (by have h := hI.own.1; dsimp only at h; rw [HX.out.1] at h; exact h)
        obtain ⟨b, o, e, hc⟩ := sX.at 0 (by rw [HX.out.1]; omega)
        obtain ⟨rfl, rfl⟩ : gx = b ∧ 0 = o := by simpa using e
        exact ⟨_, trivial, hc⟩
      obtain ⟨cy, _, hcy⟩ : ∃ v, True ∧ (w4.setCell ⟨gx, 0, none⟩ (.int .i64 (-2147483648))).cell? ⟨gy, m, none⟩ = some v := by
        have sY : SlX (w4.setCell ⟨gx, 0, none⟩ (.int .i64 (-2147483648))) (.slice (some ⟨gy, 0, none⟩) N yc) Y := slX_own HY.out.1 (by have h := hI1.own.2.1; dsimp only at h; rw [HY.out.1] at h; exact h)
        obtain ⟨b, o, e, hc⟩ := sY.at m (by rw [HY.out.1]; omega)
        obtain ⟨rfl, rfl⟩ : gy = b ∧ 0 = o := by simpa using e
        rw [Nat.zero_add] at hc
        exact ⟨_, trivial, hc⟩
      have HI2 := Lib.hid hI2; have HU := Lib.hid hu
      clear hI hI1 hI2 hu hm hgx hgy
      go_wp2_with fail
      go_meet
      case rel =>
        refine ⟨k4, _, _, _, _, Lib.hid ⟨⟨?_, ?_, HK4.out, coord_set HX.out.2 ?_, coord_set HY.out.2 ?_⟩, ⟨u, HU.out, HI2.out⟩⟩⟩
        · rw [List.length_set]; exact HX.out.1
        · rw [List.length_set]; exact HY.out.1
        · unfold coordOk; omega
        · unfold coordOk; omega
    · have hbq : (x == 0) = false := by simpa using hx
      have HR4 := Lib.hid hRI4
      clear hRI4
      go_wp2_with fail
      go_meet
      case rel => exact ⟨k4, _, _, _, _, Lib.hid ⟨⟨HX.out.1, HY.out.1, HK4.out, HX.out.2, HY.out.2⟩, HR4.out⟩⟩
  clear hRI4 HX HY HK4
  obtain ⟨k, vx, vy, X, Y, hrel⟩ := hcut
  have HX := Lib.hid hrel.out.1
  have hRI := hrel.out.2
  clear hrel
  have hDr := hRI.dr HC.out
  have o0 := (DrI.blk hRI).cell 0
  change wc.cell? ⟨Bo, 0, none⟩ = some (.int .i64 (N : Nat)) at o0
  obtain ⟨T, hT⟩ : ∃ T : Int, T = 3 * (N : Int) := ⟨_, rfl⟩
  have f7 : IntKind.i64.wrap (3 * (N : Int)) = T := by rw [wrap_small _ (by omega) (by omega)]; omega
  obtain ⟨M, hM⟩ : ∃ M : Int, M = T + 1 := ⟨_, rfl⟩
  have f8 : IntKind.i64.wrap (T + 1) = M := by rw [wrap_small _ (by omega) (by omega)]; omega
  have hMb : M ≤ 37 ∧ 0 ≤ M := by omega
  have HRI := Lib.hid hRI; have HDr := Lib.hid hDr
  clear hRI hDr hT hM
  go_wp2_with fail
  have hk := HX.out.2.2.1
  refine (HNx.out M (by omega) wc k HDr.out (by omega)).mono ?_
  rintro e w5 ⟨y, k5, rfl, ⟨hy0, hy1, _⟩, hk5, hd5, hkk5⟩
  have hyl : y ≤ 36 := by rcases hy1 with h | h <;> omega
  have hRI5 := DrI.next HC.out HRI.out hkk5 hd5
  have HRI5 := Lib.hid hRI5; have HDr5 := Lib.hid hd5
  clear hRI5 hd5 hkk5 HRI HDr f7 f8 hMb hy1 o0
  go_wp2_with fail
  refine (HNx.out 3 (by decide) w5 k5 HDr5.out (by omega)).mono ?_
  rintro e w6 ⟨z, k6, rfl, ⟨hz0, hz1, _⟩, hk6, hd6, hkk6⟩
  have hRI6 := DrI.next HC.out HRI5.out hkk6 hd6
  have HRI6 := Lib.hid hRI6
  clear hRI6 hd6 hkk6 HRI5 HDr5 hz1
  go_upto_block 2 with fail
  generalize decide (0 < z) = ring
  have hk6' : k6 ≤ 28 := by omega
  have HK6 := Lib.hid hk6'
  clear hk6 hk6' hk5 hk hz0
  go_cut [] from 10 (fun wx => ∃ (k : Nat) (va : Value) (A : List Ar), Hid ((A.length ≤ N ∧ k ≤ 52 ∧ ∀ a ∈ A, arcOk N a) ∧ DrI w B2 Bo p (Bo + 1) L vx vy va ⟨(N : Nat), X, Y, A⟩ k wx))
  case first =>
    go_wp2_with fail
    go_loopw [7] (fun i wr => ∃ (j k : Nat) (va : Value) (A : List Ar), j ≤ N ∧ i = .int .i64 j ∧ Hid ((A.length = j ∧ k ≤ 28 + 2 * j ∧ ∀ a ∈ A, arcOk N a) ∧ DrI w B2 Bo p (Bo + 1) L vx vy va ⟨(N : Nat), X, Y, A⟩ k wr)) (fun i _ => N - (intOf i).toNat)
    case atStart => exact ⟨0, k6, _, [], by omega, rfl, Lib.hid ⟨⟨rfl, by have := HK6.out; omega, by simp⟩, HRI6.out⟩⟩
    clear HRI6 HK6
    obtain ⟨j, k, va, A, hj, rfl, hrel⟩ := hrel
    obtain ⟨⟨hla, hk, hca⟩, hrelI⟩ := hrel.out
    clear hrel
    have o0 := (DrI.blk hrelI).cell 0; have o3 := (DrI.blk hrelI).cell 3
    change wr.cell? ⟨Bo, 0, none⟩ = some (.int .i64 (N : Nat)) at o0
    change wr.cell? ⟨Bo, 3, none⟩ = some va at o3
    have HA := Lib.hid (And.intro hla hca); have HRI := Lib.hid hrelI
    clear hca hla hrelI
    by_cases hlt : j < N
    case neg =>
      clear o3
      go_wp2_with fail
      go_meet
      case rel => exact ⟨k, _, _, Lib.hid ⟨⟨by rw [HA.out.1]; omega, by omega, HA.out.2⟩, HRI.out⟩⟩
    have hltI : (j : Int) < (N : Int) := by omega
    cases ring
    case false =>
      clear o3
      go_wp2_with fail
      go_meet
      case rel => exact ⟨k, _, _, Lib.hid ⟨⟨by rw [HA.out.1]; omega, by omega, HA.out.2⟩, HRI.out⟩⟩
    go_wp2_with fail
    have hrelI := HRI.out
    clear HRI
    obtain ⟨q, hq⟩ : ∃ q : Int, q = (j : Int) + 1 := ⟨_, rfl⟩
    have g1 : IntKind.i64.wrap ((j : Int) + 1) = q := by rw [wrap_small _ (by omega) (by omega)]; omega
    have hq0 : 0 ≤ q := by omega
    obtain ⟨m, hm⟩ : ∃ m : Int, m = q % (N : Int) := ⟨_, rfl⟩
    have hmb : 0 ≤ m ∧ m < (N : Int) := by rw [hm]; exact ⟨Int.emod_nonneg q (by omega), Int.emod_lt_of_pos q (by omega)⟩
    have r0 : q.tmod (N : Int) = m := by rw [hm, Int.tmod_eq_emod_of_nonneg hq0]
    have r0' : q % (N : Int) = m := hm.symm
    have z0 : IntKind.i64.wrap m = m := wrap_small _ hmb.1 (by omega)
    have hN0 : ¬ (N : Int) = 0 := by omega
    have hNn : ¬ N = 0 := by omega
    have hNb : ((N : Int) == 0) = false := by simpa using hN0
    clear hm hq
    refine wp_region_heldD (fun w' => w'.cell? ⟨Bo, 3, none⟩ = some va ∧ w'.cell? ⟨Bo, 0, none⟩ = some (.int .i64 (N : Nat))) 14 rfl ?_
    change heldD _ _ _ _ _ _ _ 15 _ _ wr.drew
    have hS0 : wr.drew.cell? ⟨Bo, 3, none⟩ = some va ∧ wr.drew.cell? ⟨Bo, 0, none⟩ = some (.int .i64 (N : Nat)) := ⟨o3, o0⟩
    refine heldD_takeF (i := 0) (v := .pointer (some ⟨Bo, 3, none⟩)) rfl rfl rfl (by kernel_rfl) (by kernel_rfl) (by kernel_rfl) (by kernel_rfl) (fun _ _ _ h => h) (by rfl) (fun w => ⟨by rfl, by go_simp⟩) (fun _ => hS0) ?_
    simp only [List.setIfInBounds_toArray, List.set_cons_zero, List.set_cons_succ]
    refine heldD_take (i := 1) (v := va) rfl rfl rfl (by kernel_rfl) (by kernel_rfl) (by kernel_rfl) (by kernel_rfl) (by kernel_rfl) (by kernel_rfl) (fun _ _ _ h => h) (by rfl) (fun w hS => ⟨by rfl, by obtain ⟨hS1, hS2⟩ := hS; go_simp⟩) hS0 ?_
    simp only [List.setIfInBounds_toArray, List.set_cons_zero, List.set_cons_succ]
    refine heldD_takeF (i := 2) (v := .int .i64 (j : Nat)) rfl rfl rfl (by kernel_rfl) (by kernel_rfl) (by kernel_rfl) (by kernel_rfl) (fun _ _ _ h => h) (by rfl) (fun w => ⟨by rfl, by go_simp⟩) (fun _ => hS0) ?_
    simp only [List.setIfInBounds_toArray, List.set_cons_zero, List.set_cons_succ]
    refine heldD_takeF (i := 3) (v := .int .i64 (j : Nat)) rfl rfl rfl (by kernel_rfl) (by kernel_rfl) (by kernel_rfl) (by kernel_rfl) (fun _ _ _ h => h) (by rfl) (fun w => ⟨by rfl, by go_simp⟩) (fun _ => hS0) ?_
    simp only [List.setIfInBounds_toArray, List.set_cons_zero, List.set_cons_succ]
    refine heldD_takeF (i := 4) (v := .int .i64 q) rfl rfl rfl (by kernel_rfl) (by kernel_rfl) (by kernel_rfl) (by kernel_rfl) (fun _ _ _ h => h) (by rfl) (fun w => ⟨by rfl, by go_simp⟩) (fun _ => hS0) ?_
    simp only [List.setIfInBounds_toArray, List.set_cons_zero, List.set_cons_succ]
    refine heldD_takeF (i := 5) (v := .pointer (some ⟨Bo, 0, none⟩)) rfl rfl rfl (by kernel_rfl) (by kernel_rfl) (by kernel_rfl) (by kernel_rfl) (fun _ _ _ h => h) (by rfl) (fun w => ⟨by rfl, by go_simp⟩) (fun _ => hS0) ?_
    simp only [List.setIfInBounds_toArray, List.set_cons_zero, List.set_cons_succ]
    refine heldD_take (i := 6) (v := .int .i64 (N : Nat)) rfl rfl rfl (by kernel_rfl) (by kernel_rfl) (by kernel_rfl) (by kernel_rfl) (by kernel_rfl) (by kernel_rfl) (fun _ _ _ h => h) (by rfl) (fun w hS => ⟨by rfl, by obtain ⟨hS1, hS2⟩ := hS; go_simp⟩) hS0 ?_
    simp only [List.setIfInBounds_toArray, List.set_cons_zero, List.set_cons_succ]
    refine heldD_takeF (i := 7) (v := .int .i64 m) rfl rfl rfl (by kernel_rfl) (by kernel_rfl) (by kernel_rfl) (by kernel_rfl) (fun _ _ _ h => h) (by rfl) (fun w => ⟨by rfl, by go_simp⟩) (fun _ => hS0) ?_
    simp only [List.setIfInBounds_toArray, List.set_cons_zero, List.set_cons_succ]
    refine heldD_takeF (i := 8) (v := .pointer (some ⟨p, 0, none⟩)) rfl rfl rfl (by kernel_rfl) (by kernel_rfl) (by kernel_rfl) (by kernel_rfl) (fun _ _ _ h => h) (by rfl) (fun w => ⟨by rfl, by go_simp⟩) (fun _ => hS0) ?_
    simp only [List.setIfInBounds_toArray, List.set_cons_zero, List.set_cons_succ]
    have hDr := (DrI.below hrelI (Below.refl _ wr).drew).dr HC.out
    refine heldD_one (i := 9) (by kernel_rfl) ?_
    refine wpOpIn_calls' (f := 44) (args := #[.pointer (some ⟨p, 0, none⟩)]) rfl rfl (by rfl) (by go_simp) (HWt.out wr.drew _ hDr (by omega)) ?_
    rintro e W1 ⟨x, k', rfl, ⟨hx0, hx1⟩, hk', hd', hkk'⟩
    refine ⟨_, rfl, ?_⟩
    have hrelJ := DrI.next HC.out (DrI.below hrelI (Below.refl _ wr).drew) hkk' hd'
    clear hDr hkk' hd' hrelI
    have hac : arcOk (N : Int) ((j : Int), m, x) := ⟨⟨by show (0 : Int) ≤ (j : Int); omega, by show (j : Int) < _; omega⟩, hmb, ⟨hx0, hx1⟩⟩
    obtain ⟨u, hu, hI⟩ := hrelJ
    obtain ⟨wa, hwa⟩ : ∃ wa, wa = W1.alloc (.cells #[.int .i64 (j : Int), .int .i64 m, .int .i64 x] 45) := ⟨_, rfl⟩
    have hba : Below W1.heap.size W1 wa := by rw [hwa]; exact (Below.refl _ _).alloc (Nat.le_refl _) _
    have hBa : Blk wa W1.heap.size (arC (((j : Int), m, x) : Ar)).toArray 45 (0, 0) := by rw [hwa]; exact Blk.new _ _ _ _
    obtain ⟨v1, W2, hr1, ⟨a1, n1, c1, hv1⟩, hb1, hkg1, hI1⟩ := (hI.below hba).pushA hBa (by dsimp only; rw [HA.out.1]; omega)
    subst hv1
    have hS1 : W1.cell? ⟨Bo, 3, none⟩ = some va ∧ W1.cell? ⟨Bo, 0, none⟩ = some (.int .i64 (N : Nat)) := ⟨hI.blk.cell 3, hI.blk.cell 0⟩
    have hS2 : wa.cell? ⟨Bo, 3, none⟩ = some va ∧ wa.cell? ⟨Bo, 0, none⟩ = some (.int .i64 (N : Nat)) := ⟨(hI.below hba).blk.cell 3, (hI.below hba).blk.cell 0⟩
    have hS3 : W2.cell? ⟨Bo, 3, none⟩ = some va ∧ W2.cell? ⟨Bo, 0, none⟩ = some (.int .i64 (N : Nat)) := ⟨hb1.cell 3, hb1.cell 0⟩
    have pf1 := hb1.free 3 (Or.inr (Nat.zero_le _))
    have pf3 := hS3.1
    have hrelI : DrI w B2 Bo p (Bo + 1) L _ _ _ _ _ _ := ⟨u, hu, hI1⟩
    have HRl := Lib.hid hrelI; have HR1 := Lib.hid hr1; have HWa := Lib.hid hwa
    clear hu hI hwa hba hBa hr1 hb1 hkg1 hI1 hrelI
    refine ⟨fun _ => hS1, ?_⟩
    simp only [List.setIfInBounds_toArray, List.set_cons_zero, List.set_cons_succ]
    clear hS0
    refine heldD_takeF (i := 10) (v := .agg #[.int .i64 (j : Int), .int .i64 m, .int .i64 x]) rfl rfl rfl (by kernel_rfl) (by kernel_rfl) (by kernel_rfl) (by kernel_rfl) (fun _ _ _ h => h) (by rfl) (fun w => ⟨by rfl, by go_simp⟩) (fun _ => hS1) ?_
    simp only [List.setIfInBounds_toArray, List.set_cons_zero, List.set_cons_succ]
    refine heldD_one (i := 11) (by kernel_rfl) ?_
    refine wpOpIn_value (v := .slice (some ⟨W1.heap.size, 0, none⟩) 1 1) (w' := wa) rfl rfl rfl (by rfl) (by rfl) (by rw [HWa.out]; go_simp) ?_
    refine ⟨fun _ => hS2, ?_⟩
    simp only [List.setIfInBounds_toArray, List.set_cons_zero, List.set_cons_succ]
    refine heldD_one (i := 12) (by kernel_rfl) ?_
    refine wpOpIn_append rfl rfl rfl (by rfl) _ _ _ _ rfl HR1.out ?_
    refine ⟨fun _ => hS3, ?_⟩
    simp only [List.setIfInBounds_toArray, List.set_cons_zero, List.set_cons_succ]
    refine heldD_takeF (i := 13) (v := .pointer (some ⟨Bo, 3, none⟩)) rfl rfl rfl (by kernel_rfl) (by kernel_rfl) (by kernel_rfl) (by kernel_rfl) (fun _ _ _ h => h) (by rfl) (fun w => ⟨by rfl, by go_simp⟩) (fun _ => hS3) ?_
    simp only [List.setIfInBounds_toArray, List.set_cons_zero, List.set_cons_succ]
    refine heldD_one (i := 14) (by kernel_rfl) ?_
    refine wpOpIn_skip (w' := W2.setCell ⟨Bo, 3, none⟩ (.slice a1 n1 c1)) rfl rfl rfl (by rfl) (by rfl) (by go_simp) ?_
    refine ⟨fun h => (by cases h), ?_⟩
    refine heldD_done (by kernel_rfl) ?_ _
    clear hS1 hS2 hS3 pf1 pf3 HR1 HWa
    obtain ⟨W3, hW⟩ : ∃ W, W = W2.setCell ⟨Bo, 3, none⟩ (.slice a1 n1 c1) := ⟨_, rfl⟩
    have hrelI := HRl.out
    rw [← hW] at hrelI ⊢
    clear hW HRl
    clear g1 r0 r0' z0 hN0 hNn hNb hq0
    have HA2 := Lib.hid (arc_push HA.out.2 hac)
    have HRI := Lib.hid hrelI
    clear hrelI hac hx0 hx1 o3 o0
    go_wp2_with fail
    go_roundw
    case rel => exact ⟨j + 1, _, _, _, by omega, by go_num, Lib.hid ⟨⟨by rw [List.length_append, HA.out.1]; rfl, by omega, HA2.out⟩, HRI.out⟩⟩
    case measure => simp [intOf]; omega
  clear HRI6 HK6
  obtain ⟨k, va, A, hr0⟩ := hcut
  obtain ⟨yn, rfl⟩ : ∃ yn : Nat, y = (yn : Int) := ⟨y.toNat, by omega⟩
  clear hy0
  have hyn : yn ≤ 36 := by omega
  clear hyl
  go_wp2_with fail
  go_loopw [8] (fun i wr => ∃ (j k : Nat) (va : Value) (A : List Ar), j ≤ yn ∧ i = .int .i64 j ∧ Hid ((A.length ≤ N + 2 * j ∧ k ≤ 52 + 5 * j ∧ ∀ a ∈ A, arcOk N a) ∧ DrI w B2 Bo p (Bo + 1) L vx vy va ⟨(N : Nat), X, Y, A⟩ k wr)) (fun i _ => yn - (intOf i).toNat)
  case atStart => exact ⟨0, k, _, A, by omega, rfl, Lib.hid ⟨⟨by have := hr0.out.1.1; omega, by have := hr0.out.1.2.1; omega, hr0.out.1.2.2⟩, hr0.out.2⟩⟩
  clear hr0
  obtain ⟨j, k, va, A, hj, rfl, hrel⟩ := hrel
  obtain ⟨⟨hla, hk, hca⟩, hrelI⟩ := hrel.out
  clear hrel
  have HA := Lib.hid (And.intro hla hca); have HRI := Lib.hid hrelI
  clear hca hla hrelI
  by_cases hlt : j < yn
  case pos =>
    have hltI : (j : Int) < (yn : Int) := by omega
    go_upto_region 19 with fail
    go_cut [9] from 79 to 115 (fun s9 wx => ∃ (Ba : Nat) (x0 x1 x2 : Int) (k' : Nat), s9 = .pointer (some ⟨Ba, 0, none⟩) ∧ Hid (arcOk (N : Int) (x0, x1, x2) ∧ k' ≤ k + 4 ∧ DrI w B2 Bo p (Bo + 1) L vx vy va ⟨(N : Nat), X, Y, A⟩ k' wx ∧ Blk wx Ba #[.int .i64 x0, .int .i64 x1, .int .i64 x2] 45 (0, 0) ∧ DrA B2 Bo p (Bo + 1) Ba vx vy va))
    case first =>
      have hk2 : k < 600 := by omega
      clear hk hj hlt hltI hyn HA
      have o0 := (DrI.blk HRI.out).cell 0
      change wr.cell? ⟨Bo, 0, none⟩ = some (.int .i64 (N : Nat)) at o0
      go_wp2_with fail
      refine wp_region_heldD (fun w' => w'.cell? ⟨Bo, 0, none⟩ = some (.int .i64 (N : Nat))) 12 rfl ?_
      change heldD _ _ _ _ _ _ _ 13 _ _ wr.drew
      have hS0 : wr.drew.cell? ⟨Bo, 0, none⟩ = some (.int .i64 (N : Nat)) := o0
      refine heldD_takeF (i := 0) (v := .pointer (some ⟨p, 0, none⟩)) rfl rfl rfl (by kernel_rfl) (by kernel_rfl) (by kernel_rfl) (by kernel_rfl) (fun _ _ _ h => h) (by rfl) (fun w => ⟨by rfl, by go_simp⟩) (fun _ => hS0) ?_
      simp only [List.setIfInBounds_toArray, List.set_cons_zero, List.set_cons_succ]
      refine heldD_takeF (i := 1) (v := .pointer (some ⟨Bo, 0, none⟩)) rfl rfl rfl (by kernel_rfl) (by kernel_rfl) (by kernel_rfl) (by kernel_rfl) (fun _ _ _ h => h) (by rfl) (fun w => ⟨by rfl, by go_simp⟩) (fun _ => hS0) ?_
      simp only [List.setIfInBounds_toArray, List.set_cons_zero, List.set_cons_succ]
      refine heldD_take (i := 2) (v := .int .i64 (N : Nat)) rfl rfl rfl (by kernel_rfl) (by kernel_rfl) (by kernel_rfl) (by kernel_rfl) (by kernel_rfl) (by kernel_rfl) (fun _ _ _ h => h) (by rfl) (fun w hS => ⟨by rfl, by obtain hS1 := hS; go_simp⟩) hS0 ?_
      simp only [List.setIfInBounds_toArray, List.set_cons_zero, List.set_cons_succ]
      refine heldD_takeF (i := 4) (v := .pointer (some ⟨p, 0, none⟩)) rfl rfl rfl (by kernel_rfl) (by kernel_rfl) (by kernel_rfl) (by kernel_rfl) (fun _ _ _ h => h) (by rfl) (fun w => ⟨by rfl, by go_simp⟩) (fun _ => hS0) ?_
      simp only [List.setIfInBounds_toArray, List.set_cons_zero, List.set_cons_succ]
      refine heldD_takeF (i := 5) (v := .pointer (some ⟨Bo, 0, none⟩)) rfl rfl rfl (by kernel_rfl) (by kernel_rfl) (by kernel_rfl) (by kernel_rfl) (fun _ _ _ h => h) (by rfl) (fun w => ⟨by rfl, by go_simp⟩) (fun _ => hS0) ?_
      simp only [List.setIfInBounds_toArray, List.set_cons_zero, List.set_cons_succ]
      refine heldD_take (i := 6) (v := .int .i64 (N : Nat)) rfl rfl rfl (by kernel_rfl) (by kernel_rfl) (by kernel_rfl) (by kernel_rfl) (by kernel_rfl) (by kernel_rfl) (fun _ _ _ h => h) (by rfl) (fun w hS => ⟨by rfl, by obtain hS1 := hS; go_simp⟩) hS0 ?_
      simp only [List.setIfInBounds_toArray, List.set_cons_zero, List.set_cons_succ]
      refine heldD_takeF (i := 8) (v := .pointer (some ⟨p, 0, none⟩)) rfl rfl rfl (by kernel_rfl) (by kernel_rfl) (by kernel_rfl) (by kernel_rfl) (fun _ _ _ h => h) (by rfl) (fun w => ⟨by rfl, by go_simp⟩) (fun _ => hS0) ?_
      simp only [List.setIfInBounds_toArray, List.set_cons_zero, List.set_cons_succ]
      obtain ⟨w0, hw0⟩ : ∃ w0, w0 = wr.drew := ⟨_, rfl⟩
      have HI0 := Lib.hid (DrI.below HRI.out (Below.refl _ wr).drew)
      obtain ⟨k0, hk0⟩ : ∃ k0, k0 = k := ⟨_, rfl⟩
      rw [← hk0] at HI0
      have hkk0 : k0 ≤ k := by omega
      clear HRI o0 hk0
      rw [← hw0] at hS0 HI0 ⊢
      clear hw0
      refine heldD_two (i := 3) (k := 11) (by kernel_rfl) ?_ ?_
      · have hDr := DrI.dr HC.out HI0.out
        refine wpOpIn_calls' (f := 43) (args := #[.pointer (some ⟨p, 0, none⟩), .int .i64 (N : Nat)]) rfl rfl (by rfl) (by go_simp) (HNx.out (N : Int) (by omega) w0 _ hDr (by omega)) ?_
        rintro e w1 ⟨x0, k1, rfl, ⟨hx0, hx1, _⟩, hk', hd', hkk'⟩
        have hx0r : 0 ≤ x0 ∧ x0 < (N : Int) := by rcases hx1 with h | h <;> omega
        clear hx0 hx1
        refine ⟨_, rfl, ?_⟩
        have HI1 := Lib.hid (DrI.next HC.out HI0.out hkk' hd')
        have hS0 : w1.cell? ⟨Bo, 0, none⟩ = some (.int .i64 (N : Nat)) := (DrI.blk HI1.out).cell 0
        have hkk1 : k1 ≤ k + 1 := by omega
        clear hDr hkk' hd' hk'
        refine ⟨fun _ => hS0, ?_⟩
        simp only [List.setIfInBounds_toArray, List.set_cons_zero, List.set_cons_succ]
        refine heldD_two (i := 7) (k := 11) (by kernel_rfl) ?_ ?_
        · have hDr := DrI.dr HC.out HI1.out
          refine wpOpIn_calls' (f := 43) (args := #[.pointer (some ⟨p, 0, none⟩), .int .i64 (N : Nat)]) rfl rfl (by rfl) (by go_simp) (HNx.out (N : Int) (by omega) w1 _ hDr (by omega)) ?_
          rintro e w2 ⟨x1, k2, rfl, ⟨hx0, hx1, _⟩, hk', hd', hkk'⟩
          have hx1r : 0 ≤ x1 ∧ x1 < (N : Int) := by rcases hx1 with h | h <;> omega
          clear hx0 hx1
          refine ⟨_, rfl, ?_⟩
          have HI2 := Lib.hid (DrI.next HC.out HI1.out hkk' hd')
          have hS0 : w2.cell? ⟨Bo, 0, none⟩ = some (.int .i64 (N : Nat)) := (DrI.blk HI2.out).cell 0
          have hkk2 : k2 ≤ k + 2 := by omega
          clear hDr hkk' hd' hk'
          refine ⟨fun _ => hS0, ?_⟩
          simp only [List.setIfInBounds_toArray, List.set_cons_zero, List.set_cons_succ]
          refine heldD_two (i := 9) (k := 11) (by kernel_rfl) ?_ ?_
          · have hDr := DrI.dr HC.out HI2.out
            refine wpOpIn_calls' (f := 44) (args := #[.pointer (some ⟨p, 0, none⟩)]) rfl rfl (by rfl) (by go_simp) (HWt.out w2 _ hDr (by omega)) ?_
            rintro e w3 ⟨x2, k3, rfl, hx2r, hk', hd', hkk'⟩
            refine ⟨_, rfl, ?_⟩
            have HI3 := Lib.hid (DrI.next HC.out HI2.out hkk' hd')
            have hS0 : w3.cell? ⟨Bo, 0, none⟩ = some (.int .i64 (N : Nat)) := (DrI.blk HI3.out).cell 0
            have hkk3 : k3 ≤ k + 4 := by omega
            clear hDr hkk' hd' hk'
            refine ⟨fun _ => hS0, ?_⟩
            simp only [List.setIfInBounds_toArray, List.set_cons_zero, List.set_cons_succ]
            refine heldD_takeF (i := 10) (v := .agg #[.int .i64 x0, .int .i64 x1, .int .i64 x2]) rfl rfl rfl (by kernel_rfl) (by kernel_rfl) (by kernel_rfl) (by kernel_rfl) (fun _ _ _ h => h) (by rfl) (fun w => ⟨by rfl, by go_simp⟩) (fun _ => hS0) ?_
            simp only [List.setIfInBounds_toArray, List.set_cons_zero, List.set_cons_succ]
            refine heldD_one (i := 11) (by kernel_rfl) ?_
            obtain ⟨Ba, hBa⟩ : ∃ b, b = w3.heap.size := ⟨_, rfl⟩
            obtain ⟨w4, hw⟩ : ∃ u, u = w3.alloc (.cells #[.int .i64 0, .int .i64 0, .int .i64 0] 45) := ⟨_, rfl⟩
            refine wpOpIn_value (v := .pointer (some ⟨Ba, 0, none⟩)) (w' := w4) rfl rfl rfl (by rfl) (by rfl) (by rw [hw, hBa]; go_simp) ?_
            have hb : Below w3.heap.size w3 w4 := by rw [hw]; exact (Below.refl _ _).alloc (Nat.le_refl _) _
            have HB4 := Lib.hid (show Blk w4 Ba #[.int .i64 0, .int .i64 0, .int .i64 0] 45 (0, 0) by rw [hw, hBa]; exact Blk.new _ _ _ _)
            have HAp := Lib.hid (DrI.apart HC.out HI3.out)
            rw [← hBa] at HAp
            have HI4 := Lib.hid (DrI.below HI3.out hb)
            obtain ⟨k4, hkq⟩ : ∃ q, q = k3 := ⟨_, rfl⟩
            rw [← hkq] at HI4
            have hS0 : w4.cell? ⟨Bo, 0, none⟩ = some (.int .i64 (N : Nat)) := (DrI.blk HI4.out).cell 0
            clear hw hBa hb
            refine ⟨fun _ => hS0, ?_⟩
            simp only [List.setIfInBounds_toArray, List.set_cons_zero, List.set_cons_succ]
            have hI := ((DrI.setNew (i := 0) (v := .int .i64 x0) HI4.out HAp.out).setNew (i := 1) (v := .int .i64 x1) HAp.out).setNew (i := 2) (v := .int .i64 x2) HAp.out
            have hB := ((HB4.out.set 0 (.int .i64 x0)).set 1 (.int .i64 x1)).set 2 (.int .i64 x2)
            have ff := fun i => HB4.out.free i (Or.inr (Nat.zero_le _))
            have f0 := ff 0; have f1 := ff 1; have f2 := ff 2
            have e0 := HB4.out.cell 0; have e1 := HB4.out.cell 1; have e2 := HB4.out.cell 2
            change w4.cell? ⟨Ba, 0, none⟩ = some (.int .i64 0) at e0
            change w4.cell? ⟨Ba, 1, none⟩ = some (.int .i64 0) at e1
            change w4.cell? ⟨Ba, 2, none⟩ = some (.int .i64 0) at e2
            have HI := Lib.hid hI; have HB := Lib.hid hB
            clear hI hB ff
            refine heldD_one (i := 12) (by kernel_rfl) ?_
            refine wpOpIn_skip (w' := ((w4.setCell ⟨Ba, 0, none⟩ (.int .i64 x0)).setCell ⟨Ba, 1, none⟩ (.int .i64 x1)).setCell ⟨Ba, 2, none⟩ (.int .i64 x2)) rfl rfl rfl (by rfl) (by rfl) (by go_simp) ?_
            refine ⟨fun h => (by cases h), ?_⟩
            refine heldD_done (by kernel_rfl) ?_ _
            clear hS0 f0 f1 f2 e0 e1 e2
            go_wp2_with fail
            go_meet
            case rel => exact ⟨Ba, x0, x1, x2, _, rfl, Lib.hid ⟨⟨hx0r, hx1r, hx2r⟩, by omega, HI.out, HB.out, HAp.out⟩⟩
          · obtain ⟨Ba, hBa⟩ : ∃ b, b = w2.heap.size := ⟨_, rfl⟩
            obtain ⟨w3, hw⟩ : ∃ u, u = w2.alloc (.cells #[.int .i64 0, .int .i64 0, .int .i64 0] 45) := ⟨_, rfl⟩
            refine wpOpIn_value (v := .pointer (some ⟨Ba, 0, none⟩)) (w' := w3) rfl rfl rfl (by rfl) (by rfl) (by rw [hw, hBa]; go_simp) ?_
            have hb : Below w2.heap.size w2 w3 := by rw [hw]; exact (Below.refl _ _).alloc (Nat.le_refl _) _
            have HB3 := Lib.hid (show Blk w3 Ba #[.int .i64 0, .int .i64 0, .int .i64 0] 45 (0, 0) by rw [hw, hBa]; exact Blk.new _ _ _ _)
            have HAp := Lib.hid (DrI.apart HC.out HI2.out)
            rw [← hBa] at HAp
            have HI3 := Lib.hid (DrI.below HI2.out hb)
            obtain ⟨k3, hkq⟩ : ∃ q, q = k2 := ⟨_, rfl⟩
            rw [← hkq] at HI3
            have hS0 : w3.cell? ⟨Bo, 0, none⟩ = some (.int .i64 (N : Nat)) := (DrI.blk HI3.out).cell 0
            clear hw hBa hb
            refine ⟨fun _ => hS0, ?_⟩
            simp only [List.setIfInBounds_toArray, List.set_cons_zero, List.set_cons_succ]
            refine heldD_one (i := 9) (by kernel_rfl) ?_
            have hDr := DrI.dr HC.out HI3.out
            refine wpOpIn_calls' (f := 44) (args := #[.pointer (some ⟨p, 0, none⟩)]) rfl rfl (by rfl) (by go_simp) (HWt.out w3 _ hDr (by omega)) ?_
            rintro e w4 ⟨x2, k4, rfl, hx2r, hk', hd', hkk'⟩
            refine ⟨_, rfl, ?_⟩
            have HI4 := Lib.hid (DrI.next HC.out HI3.out hkk' hd')
            have HB4 := Lib.hid (hkk'.blk HB3.out HAp.out.p)
            have hS0 : w4.cell? ⟨Bo, 0, none⟩ = some (.int .i64 (N : Nat)) := (DrI.blk HI4.out).cell 0
            have hkk4 : k4 ≤ k + 4 := by omega
            clear hDr hkk' hd' hk'
            refine ⟨fun _ => hS0, ?_⟩
            simp only [List.setIfInBounds_toArray, List.set_cons_zero, List.set_cons_succ]
            refine heldD_takeF (i := 10) (v := .agg #[.int .i64 x0, .int .i64 x1, .int .i64 x2]) rfl rfl rfl (by kernel_rfl) (by kernel_rfl) (by kernel_rfl) (by kernel_rfl) (fun _ _ _ h => h) (by rfl) (fun w => ⟨by rfl, by go_simp⟩) (fun _ => hS0) ?_
            simp only [List.setIfInBounds_toArray, List.set_cons_zero, List.set_cons_succ]
            have hI := ((DrI.setNew (i := 0) (v := .int .i64 x0) HI4.out HAp.out).setNew (i := 1) (v := .int .i64 x1) HAp.out).setNew (i := 2) (v := .int .i64 x2) HAp.out
            have hB := ((HB4.out.set 0 (.int .i64 x0)).set 1 (.int .i64 x1)).set 2 (.int .i64 x2)
            have ff := fun i => HB4.out.free i (Or.inr (Nat.zero_le _))
            have f0 := ff 0; have f1 := ff 1; have f2 := ff 2
            have e0 := HB4.out.cell 0; have e1 := HB4.out.cell 1; have e2 := HB4.out.cell 2
            change w4.cell? ⟨Ba, 0, none⟩ = some (.int .i64 0) at e0
            change w4.cell? ⟨Ba, 1, none⟩ = some (.int .i64 0) at e1
            change w4.cell? ⟨Ba, 2, none⟩ = some (.int .i64 0) at e2
            have HI := Lib.hid hI; have HB := Lib.hid hB
            clear hI hB ff
            refine heldD_one (i := 12) (by kernel_rfl) ?_
            refine wpOpIn_skip (w' := ((w4.setCell ⟨Ba, 0, none⟩ (.int .i64 x0)).setCell ⟨Ba, 1, none⟩ (.int .i64 x1)).setCell ⟨Ba, 2, none⟩ (.int .i64 x2)) rfl rfl rfl (by rfl) (by rfl) (by go_simp) ?_
            refine ⟨fun h => (by cases h), ?_⟩
            refine heldD_done (by kernel_rfl) ?_ _
            clear hS0 f0 f1 f2 e0 e1 e2
            go_wp2_with fail
            go_meet
            case rel => exact ⟨Ba, x0, x1, x2, _, rfl, Lib.hid ⟨⟨hx0r, hx1r, hx2r⟩, by omega, HI.out, HB.out, HAp.out⟩⟩
        · obtain ⟨Ba, hBa⟩ : ∃ b, b = w1.heap.size := ⟨_, rfl⟩
          obtain ⟨w2, hw⟩ : ∃ u, u = w1.alloc (.cells #[.int .i64 0, .int .i64 0, .int .i64 0] 45) := ⟨_, rfl⟩
          refine wpOpIn_value (v := .pointer (some ⟨Ba, 0, none⟩)) (w' := w2) rfl rfl rfl (by rfl) (by rfl) (by rw [hw, hBa]; go_simp) ?_
          have hb : Below w1.heap.size w1 w2 := by rw [hw]; exact (Below.refl _ _).alloc (Nat.le_refl _) _
          have HB2 := Lib.hid (show Blk w2 Ba #[.int .i64 0, .int .i64 0, .int .i64 0] 45 (0, 0) by rw [hw, hBa]; exact Blk.new _ _ _ _)
          have HAp := Lib.hid (DrI.apart HC.out HI1.out)
          rw [← hBa] at HAp
          have HI2 := Lib.hid (DrI.below HI1.out hb)
          obtain ⟨k2, hkq⟩ : ∃ q, q = k1 := ⟨_, rfl⟩
          rw [← hkq] at HI2
          have hS0 : w2.cell? ⟨Bo, 0, none⟩ = some (.int .i64 (N : Nat)) := (DrI.blk HI2.out).cell 0
          clear hw hBa hb
          refine ⟨fun _ => hS0, ?_⟩
          simp only [List.setIfInBounds_toArray, List.set_cons_zero, List.set_cons_succ]
          refine heldD_one (i := 7) (by kernel_rfl) ?_
          have hDr := DrI.dr HC.out HI2.out
          refine wpOpIn_calls' (f := 43) (args := #[.pointer (some ⟨p, 0, none⟩), .int .i64 (N : Nat)]) rfl rfl (by rfl) (by go_simp) (HNx.out (N : Int) (by omega) w2 _ hDr (by omega)) ?_
          rintro e w3 ⟨x1, k3, rfl, ⟨hx0, hx1, _⟩, hk', hd', hkk'⟩
          have hx1r : 0 ≤ x1 ∧ x1 < (N : Int) := by rcases hx1 with h | h <;> omega
          clear hx0 hx1
          refine ⟨_, rfl, ?_⟩
          have HI3 := Lib.hid (DrI.next HC.out HI2.out hkk' hd')
          have HB3 := Lib.hid (hkk'.blk HB2.out HAp.out.p)
          have hS0 : w3.cell? ⟨Bo, 0, none⟩ = some (.int .i64 (N : Nat)) := (DrI.blk HI3.out).cell 0
          have hkk3 : k3 ≤ k + 2 := by omega
          clear hDr hkk' hd' hk'
          refine ⟨fun _ => hS0, ?_⟩
          simp only [List.setIfInBounds_toArray, List.set_cons_zero, List.set_cons_succ]
          refine heldD_one (i := 9) (by kernel_rfl) ?_
          have hDr := DrI.dr HC.out HI3.out
          refine wpOpIn_calls' (f := 44) (args := #[.pointer (some ⟨p, 0, none⟩)]) rfl rfl (by rfl) (by go_simp) (HWt.out w3 _ hDr (by omega)) ?_
          rintro e w4 ⟨x2, k4, rfl, hx2r, hk', hd', hkk'⟩
          refine ⟨_, rfl, ?_⟩
          have HI4 := Lib.hid (DrI.next HC.out HI3.out hkk' hd')
          have HB4 := Lib.hid (hkk'.blk HB3.out HAp.out.p)
          have hS0 : w4.cell? ⟨Bo, 0, none⟩ = some (.int .i64 (N : Nat)) := (DrI.blk HI4.out).cell 0
          have hkk4 : k4 ≤ k + 4 := by omega
          clear hDr hkk' hd' hk'
          refine ⟨fun _ => hS0, ?_⟩
          simp only [List.setIfInBounds_toArray, List.set_cons_zero, List.set_cons_succ]
          refine heldD_takeF (i := 10) (v := .agg #[.int .i64 x0, .int .i64 x1, .int .i64 x2]) rfl rfl rfl (by kernel_rfl) (by kernel_rfl) (by kernel_rfl) (by kernel_rfl) (fun _ _ _ h => h) (by rfl) (fun w => ⟨by rfl, by go_simp⟩) (fun _ => hS0) ?_
          simp only [List.setIfInBounds_toArray, List.set_cons_zero, List.set_cons_succ]
          have hI := ((DrI.setNew (i := 0) (v := .int .i64 x0) HI4.out HAp.out).setNew (i := 1) (v := .int .i64 x1) HAp.out).setNew (i := 2) (v := .int .i64 x2) HAp.out
          have hB := ((HB4.out.set 0 (.int .i64 x0)).set 1 (.int .i64 x1)).set 2 (.int .i64 x2)
          have ff := fun i => HB4.out.free i (Or.inr (Nat.zero_le _))
          have f0 := ff 0; have f1 := ff 1; have f2 := ff 2
          have e0 := HB4.out.cell 0; have e1 := HB4.out.cell 1; have e2 := HB4.out.cell 2
          change w4.cell? ⟨Ba, 0, none⟩ = some (.int .i64 0) at e0
          change w4.cell? ⟨Ba, 1, none⟩ = some (.int .i64 0) at e1
          change w4.cell? ⟨Ba, 2, none⟩ = some (.int .i64 0) at e2
          have HI := Lib.hid hI; have HB := Lib.hid hB
          clear hI hB ff
          refine heldD_one (i := 12) (by kernel_rfl) ?_
          refine wpOpIn_skip (w' := ((w4.setCell ⟨Ba, 0, none⟩ (.int .i64 x0)).setCell ⟨Ba, 1, none⟩ (.int .i64 x1)).setCell ⟨Ba, 2, none⟩ (.int .i64 x2)) rfl rfl rfl (by rfl) (by rfl) (by go_simp) ?_
          refine ⟨fun h => (by cases h), ?_⟩
          refine heldD_done (by kernel_rfl) ?_ _
          clear hS0 f0 f1 f2 e0 e1 e2
          go_wp2_with fail
          go_meet
          case rel => exact ⟨Ba, x0, x1, x2, _, rfl, Lib.hid ⟨⟨hx0r, hx1r, hx2r⟩, by omega, HI.out, HB.out, HAp.out⟩⟩
      · obtain ⟨Ba, hBa⟩ : ∃ b, b = w0.heap.size := ⟨_, rfl⟩
        obtain ⟨w1, hw⟩ : ∃ u, u = w0.alloc (.cells #[.int .i64 0, .int .i64 0, .int .i64 0] 45) := ⟨_, rfl⟩
        refine wpOpIn_value (v := .pointer (some ⟨Ba, 0, none⟩)) (w' := w1) rfl rfl rfl (by rfl) (by rfl) (by rw [hw, hBa]; go_simp) ?_
        have hb : Below w0.heap.size w0 w1 := by rw [hw]; exact (Below.refl _ _).alloc (Nat.le_refl _) _
        have HB1 := Lib.hid (show Blk w1 Ba #[.int .i64 0, .int .i64 0, .int .i64 0] 45 (0, 0) by rw [hw, hBa]; exact Blk.new _ _ _ _)
        have HAp := Lib.hid (DrI.apart HC.out HI0.out)
        rw [← hBa] at HAp
        have HI1 := Lib.hid (DrI.below HI0.out hb)
        obtain ⟨k1, hkq⟩ : ∃ q, q = k0 := ⟨_, rfl⟩
        rw [← hkq] at HI1
        have hS0 : w1.cell? ⟨Bo, 0, none⟩ = some (.int .i64 (N : Nat)) := (DrI.blk HI1.out).cell 0
        clear hw hBa hb
        refine ⟨fun _ => hS0, ?_⟩
        simp only [List.setIfInBounds_toArray, List.set_cons_zero, List.set_cons_succ]
        refine heldD_one (i := 3) (by kernel_rfl) ?_
        have hDr := DrI.dr HC.out HI1.out
        refine wpOpIn_calls' (f := 43) (args := #[.pointer (some ⟨p, 0, none⟩), .int .i64 (N : Nat)]) rfl rfl (by rfl) (by go_simp) (HNx.out (N : Int) (by omega) w1 _ hDr (by omega)) ?_
        rintro e w2 ⟨x0, k2, rfl, ⟨hx0, hx1, _⟩, hk', hd', hkk'⟩
        have hx0r : 0 ≤ x0 ∧ x0 < (N : Int) := by rcases hx1 with h | h <;> omega
        clear hx0 hx1
        refine ⟨_, rfl, ?_⟩
        have HI2 := Lib.hid (DrI.next HC.out HI1.out hkk' hd')
        have HB2 := Lib.hid (hkk'.blk HB1.out HAp.out.p)
        have hS0 : w2.cell? ⟨Bo, 0, none⟩ = some (.int .i64 (N : Nat)) := (DrI.blk HI2.out).cell 0
        have hkk2 : k2 ≤ k + 1 := by omega
        clear hDr hkk' hd' hk'
        refine ⟨fun _ => hS0, ?_⟩
        simp only [List.setIfInBounds_toArray, List.set_cons_zero, List.set_cons_succ]
        refine heldD_one (i := 7) (by kernel_rfl) ?_
        have hDr := DrI.dr HC.out HI2.out
        refine wpOpIn_calls' (f := 43) (args := #[.pointer (some ⟨p, 0, none⟩), .int .i64 (N : Nat)]) rfl rfl (by rfl) (by go_simp) (HNx.out (N : Int) (by omega) w2 _ hDr (by omega)) ?_
        rintro e w3 ⟨x1, k3, rfl, ⟨hx0, hx1, _⟩, hk', hd', hkk'⟩
        have hx1r : 0 ≤ x1 ∧ x1 < (N : Int) := by rcases hx1 with h | h <;> omega
        clear hx0 hx1
        refine ⟨_, rfl, ?_⟩
        have HI3 := Lib.hid (DrI.next HC.out HI2.out hkk' hd')
        have HB3 := Lib.hid (hkk'.blk HB2.out HAp.out.p)
        have hS0 : w3.cell? ⟨Bo, 0, none⟩ = some (.int .i64 (N : Nat)) := (DrI.blk HI3.out).cell 0
        have hkk3 : k3 ≤ k + 2 := by omega
        clear hDr hkk' hd' hk'
        refine ⟨fun _ => hS0, ?_⟩
        simp only [List.setIfInBounds_toArray, List.set_cons_zero, List.set_cons_succ]
        refine heldD_one (i := 9) (by kernel_rfl) ?_
        have hDr := DrI.dr HC.out HI3.out
        refine wpOpIn_calls' (f := 44) (args := #[.pointer (some ⟨p, 0, none⟩)]) rfl rfl (by rfl) (by go_simp) (HWt.out w3 _ hDr (by omega)) ?_
        rintro e w4 ⟨x2, k4, rfl, hx2r, hk', hd', hkk'⟩
        refine ⟨_, rfl, ?_⟩
        have HI4 := Lib.hid (DrI.next HC.out HI3.out hkk' hd')
        have HB4 := Lib.hid (hkk'.blk HB3.out HAp.out.p)
        have hS0 : w4.cell? ⟨Bo, 0, none⟩ = some (.int .i64 (N : Nat)) := (DrI.blk HI4.out).cell 0
        have hkk4 : k4 ≤ k + 4 := by omega
        clear hDr hkk' hd' hk'
        refine ⟨fun _ => hS0, ?_⟩
        simp only [List.setIfInBounds_toArray, List.set_cons_zero, List.set_cons_succ]
        refine heldD_takeF (i := 10) (v := .agg #[.int .i64 x0, .int .i64 x1, .int .i64 x2]) rfl rfl rfl (by kernel_rfl) (by kernel_rfl) (by kernel_rfl) (by kernel_rfl) (fun _ _ _ h => h) (by rfl) (fun w => ⟨by rfl, by go_simp⟩) (fun _ => hS0) ?_
        simp only [List.setIfInBounds_toArray, List.set_cons_zero, List.set_cons_succ]
        have hI := ((DrI.setNew (i := 0) (v := .int .i64 x0) HI4.out HAp.out).setNew (i := 1) (v := .int .i64 x1) HAp.out).setNew (i := 2) (v := .int .i64 x2) HAp.out
        have hB := ((HB4.out.set 0 (.int .i64 x0)).set 1 (.int .i64 x1)).set 2 (.int .i64 x2)
        have ff := fun i => HB4.out.free i (Or.inr (Nat.zero_le _))
        have f0 := ff 0; have f1 := ff 1; have f2 := ff 2
        have e0 := HB4.out.cell 0; have e1 := HB4.out.cell 1; have e2 := HB4.out.cell 2
        change w4.cell? ⟨Ba, 0, none⟩ = some (.int .i64 0) at e0
        change w4.cell? ⟨Ba, 1, none⟩ = some (.int .i64 0) at e1
        change w4.cell? ⟨Ba, 2, none⟩ = some (.int .i64 0) at e2
        have HI := Lib.hid hI; have HB := Lib.hid hB
        clear hI hB ff
        refine heldD_one (i := 12) (by kernel_rfl) ?_
        refine wpOpIn_skip (w' := ((w4.setCell ⟨Ba, 0, none⟩ (.int .i64 x0)).setCell ⟨Ba, 1, none⟩ (.int .i64 x1)).setCell ⟨Ba, 2, none⟩ (.int .i64 x2)) rfl rfl rfl (by rfl) (by rfl) (by go_simp) ?_
        refine ⟨fun h => (by cases h), ?_⟩
        refine heldD_done (by kernel_rfl) ?_ _
        clear hS0 f0 f1 f2 e0 e1 e2
        go_wp2_with fail
        go_meet
        case rel => exact ⟨Ba, x0, x1, x2, _, rfl, Lib.hid ⟨⟨hx0r, hx1r, hx2r⟩, by omega, HI.out, HB.out, HAp.out⟩⟩
    obtain ⟨Ba, x0, x1, x2, k', rfl, hrel⟩ := hcut
    obtain ⟨hac, hk', hI0, hB, hAp⟩ := hrel.out
    clear hrel HRI
    obtain ⟨u, hu, hI⟩ := hI0
    have hl84 : A.length ≤ 1000000 := by have := HA.out.1; omega
    have o3 := hI.blk.cell 3
    change wc.cell? ⟨Bo, 3, none⟩ = some va at o3
    have t0 := hB.cell 0; have t1 := hB.cell 1; have t2 := hB.cell 2
    change wc.cell? ⟨Ba, 0, none⟩ = some (.int .i64 x0) at t0
    change wc.cell? ⟨Ba, 1, none⟩ = some (.int .i64 x1) at t1
    change wc.cell? ⟨Ba, 2, none⟩ = some (.int .i64 x2) at t2
    obtain ⟨wa, hwa⟩ : ∃ wa, wa = wc.alloc (.cells #[.int .i64 x0, .int .i64 x1, .int .i64 x2] 45) := ⟨_, rfl⟩
    have hba : Below wc.heap.size wc wa := by rw [hwa]; exact (Below.refl _ _).alloc (Nat.le_refl _) _
    have hBa : Blk wa wc.heap.size (arC ((x0, x1, x2) : Ar)).toArray 45 (0, 0) := by rw [hwa]; exact Blk.new _ _ _ _
    obtain ⟨v1, W2, hr1, ⟨a1, n1, c1, hv1⟩, hb1, hkg1, hI1⟩ := (hI.below hba).pushA hBa (by dsimp only; omega)
    subst hv1
    have p3 := hb1.cell 3; have pf3 := hb1.free 3 (Or.inr (Nat.zero_le _))
    change W2.cell? ⟨Bo, 3, none⟩ = some va at p3
    have hB2 : Blk W2 Ba #[.int .i64 x0, .int .i64 x1, .int .i64 x2] 45 (0, 0) := (hkg1.block Ba (hB.below hba hB.lt).lt hAp.a).trans (hB.below hba hB.lt)
    have hB3 := hB2.setOther ⟨Bo, 3, none⟩ (.slice a1 n1 c1) hAp.bo
    have hI3 : DrI w B2 Bo p (Bo + 1) L vx vy (.slice a1 n1 c1) ⟨(N : Nat), X, Y, A ++ [(x0, x1, x2)]⟩ k' (W2.setCell ⟨Bo, 3, none⟩ (.slice a1 n1 c1)) := ⟨u, hu, hI1⟩
    have HR1 := Lib.hid hr1; have HI3 := Lib.hid hI3; have HB3 := Lib.hid hB3; have HAc := Lib.hid hac; have HAp := Lib.hid hAp
    rw [hwa] at HR1
    clear hu hI hwa hba hBa hr1 hb1 hkg1 hI1 hB hB2 hB3 hI3 hac hAp
    go_wp2_with (at_builtin; refine wpList_append_run rfl _ _ _ _ rfl HR1.out ?_)
    generalize W2.setCell ⟨Bo, 3, none⟩ (.slice a1 n1 c1) = W3 at *
    clear o3 t0 t1 t2 p3 pf3 HR1
    have hDr := DrI.dr HC.out HI3.out
    refine (HNx.out 4 (by decide) W3 k' hDr (by omega)).mono ?_
    rintro e w7 ⟨x, k7, rfl, ⟨_, _, _⟩, hk7, hd7, hkk7⟩
    have hI7 := DrI.next HC.out HI3.out hkk7 hd7
    have hB := hkk7.blk HB3.out HAp.out.p
    have HAll := Lib.hid (show ∀ a ∈ A ++ [(x0, x1, x2)], arcOk (N : Int) a from arc_push HA.out.2 HAc.out)
    have HLl := Lib.hid (show (A ++ [(x0, x1, x2)]).length ≤ N + 2 * j + 1 by rw [List.length_append]; have := HA.out.1; show A.length + 1 ≤ _; omega)
    clear hDr hd7 hkk7 HI3 HB3
    by_cases hx : x = 0
    case pos =>
      subst hx
      obtain ⟨u, hu, hI⟩ := hI7
      have o3 := hI.blk.cell 3
      change w7.cell? ⟨Bo, 3, none⟩ = some (.slice a1 n1 c1) at o3
      have t0 := hB.cell 0; have t1 := hB.cell 1; have t2 := hB.cell 2
      change w7.cell? ⟨Ba, 0, none⟩ = some (.int .i64 x0) at t0
      change w7.cell? ⟨Ba, 1, none⟩ = some (.int .i64 x1) at t1
      change w7.cell? ⟨Ba, 2, none⟩ = some (.int .i64 x2) at t2
      obtain ⟨wa, hwa⟩ : ∃ wa, wa = w7.alloc (.cells #[.int .i64 x1, .int .i64 x0, .int .i64 x2] 45) := ⟨_, rfl⟩
      have hba : Below w7.heap.size w7 wa := by rw [hwa]; exact (Below.refl _ _).alloc (Nat.le_refl _) _
      have hBa : Blk wa w7.heap.size (arC ((x1, x0, x2) : Ar)).toArray 45 (0, 0) := by rw [hwa]; exact Blk.new _ _ _ _
      obtain ⟨v2, W4, hr1, ⟨a2, n2, c2, hv2⟩, hb1, hkg1, hI1⟩ := (hI.below hba).pushA hBa (by dsimp only; have := HLl.out; omega)
      subst hv2
      have p3 := hb1.cell 3; have pf3 := hb1.free 3 (Or.inr (Nat.zero_le _))
      change W4.cell? ⟨Bo, 3, none⟩ = some (.slice a1 n1 c1) at p3
      have hI8 : DrI w B2 Bo p (Bo + 1) L vx vy (.slice a2 n2 c2) ⟨(N : Nat), X, Y, (A ++ [(x0, x1, x2)]) ++ [(x1, x0, x2)]⟩ k7 (W4.setCell ⟨Bo, 3, none⟩ (.slice a2 n2 c2)) := ⟨u, hu, hI1⟩
      have HR1 := Lib.hid hr1; have HI8 := Lib.hid hI8
      rw [hwa] at HR1
      have HAll2 := Lib.hid (arc_push HAll.out (a := (x1, x0, x2)) ⟨HAc.out.2.1, HAc.out.1, HAc.out.2.2⟩)
      clear hu hI hwa hba hBa hr1 hb1 hkg1 hI1 hB hI8
      go_wp2_with (at_builtin; refine wpList_append_run rfl _ _ _ _ rfl HR1.out ?_)
      clear o3 t0 t1 t2 p3 pf3 HR1
      go_roundw
      case rel =>
        exact ⟨j + 1, _, _, _, by omega, by go_num, Lib.hid ⟨⟨by rw [List.length_append]; have := HLl.out; show (A ++ [(x0, x1, x2)]).length + 1 ≤ _; omega, by omega, HAll2.out⟩, HI8.out⟩⟩
      case measure => simp [intOf]; omega
    case neg =>
      have hbq : (x == 0) = false := by simpa using hx
      have HI7 := Lib.hid hI7
      clear hI7 hB
      go_wp2_with fail
      go_roundw
      case rel =>
        exact ⟨j + 1, _, _, _, by omega, by go_num, Lib.hid ⟨⟨by have := HLl.out; omega, by omega, HAll.out⟩, HI7.out⟩⟩
      case measure => simp [intOf]; omega
  case neg =>
    obtain rfl : yn = j := by omega
    have hRI := HRI.out
    have bC3 := DrI.b2 HC.out hRI
    have hkp := DrI.kept HC.out hRI
    obtain ⟨u, hu, hI⟩ := hRI
    have fx := ownForm hI.own.1; have fy := ownForm hI.own.2.1; have fa := ownForm hI.own.2.2.1
    obtain ⟨xa, xc, rfl, _⟩ := fx
    obtain ⟨ya, yc, rfl, _⟩ := fy
    obtain ⟨za, zc, rfl, _⟩ := fa
    dsimp only at hI
    have bO := hI.blk
    have c0 := bO.cell 0; have c1 := bO.cell 1; have c2 := bO.cell 2; have c3 := bO.cell 3
    change wr.cell? ⟨Bo, 0, none⟩ = some (.int .i64 (N : Nat)) at c0
    change wr.cell? ⟨Bo, 1, none⟩ = some (.slice xa X.length xc) at c1
    change wr.cell? ⟨Bo, 2, none⟩ = some (.slice ya Y.length yc) at c2
    change wr.cell? ⟨Bo, 3, none⟩ = some (.slice za A.length zc) at c3
    have e0 := bC3.cell 0; have e1 := bC3.cell 1; have e2 := bC3.cell 2; have e3 := bC3.cell 3
    change wr.cell? ⟨B2, 0, none⟩ = some (.int .i64 0) at e0
    change wr.cell? ⟨B2, 1, none⟩ = some (.slice none 0 0) at e1
    change wr.cell? ⟨B2, 2, none⟩ = some (.slice none 0 0) at e2
    change wr.cell? ⟨B2, 3, none⟩ = some (.slice none 0 0) at e3
    have fr := fun i => bC3.free i (Or.inr (Nat.zero_le _))
    have f0 := fr 0; have f1 := fr 1; have f2 := fr 2; have f3 := fr 3
    have hle' : ∀ q : Nat, q = B2 → (q = p ∨ w.heap.size ≤ q) := fun q h => by subst h; exact .inr HC.out.b2
    have bZ := (((bC3.set 0 (.int .i64 (N : Nat))).set 1 (.slice xa X.length xc)).set 2 (.slice ya Y.length yc)).set 3 (.slice za A.length zc)
    have R2 := (((hI.own.set (p := ⟨B2, 0, none⟩) bC3 (by decide) (by decide) (.int .i64 (N : Nat))).set (p := ⟨B2, 1, none⟩) (bC3.set 0 (.int .i64 (N : Nat))) (by decide) (by decide) (.slice xa X.length xc)).set (p := ⟨B2, 2, none⟩) ((bC3.set 0 (.int .i64 (N : Nat))).set 1 (.slice xa X.length xc)) (by decide) (by decide) (.slice ya Y.length yc)).set (p := ⟨B2, 3, none⟩) (((bC3.set 0 (.int .i64 (N : Nat))).set 1 (.slice xa X.length xc)).set 2 (.slice ya Y.length yc)) (by decide) (by decide) (.slice za A.length zc)
    have KZ := (((((hkp.mono (T := fun k => k = p ∨ w.heap.size ≤ k) (fun _ h => .inl h)).setCell (p := ⟨B2, 0, none⟩) (hle' _ rfl) (.int .i64 (N : Nat))).setCell (p := ⟨B2, 1, none⟩) (hle' _ rfl) (.slice xa X.length xc)).setCell (p := ⟨B2, 2, none⟩) (hle' _ rfl) (.slice ya Y.length yc)).setCell (p := ⟨B2, 3, none⟩) (hle' _ rfl) (.slice za A.length zc)).new
    have hbase : w.heap.size ≤ u.heap.size := by rw [hu.1]; exact HLe.out
    have HZ := Lib.hid bZ; have HR2 := Lib.hid R2; have HKZ := Lib.hid KZ
    have hOk : Raw.Ok ⟨(N : Nat), X, Y, A⟩ := by
      have h1 := HX.out.1; have h2 := HX.out.2.1; have h3 := HA.out.1
      refine ⟨⟨?_, ?_⟩, ?_, ?_, HX.out.2.2.2.1, HX.out.2.2.2.2, ?_, HA.out.2⟩ <;> dsimp only <;> omega
    have hAl : A.length ≤ 84 := by have := HA.out.1; omega
    have HOk := Lib.hid hOk; have HAl := Lib.hid hAl
    clear bZ R2 KZ bC3 bO fr hle' hI hkp hu HRI hOk hAl
    go_wp2_with fail
    generalize (((wr.setCell ⟨B2, 0, none⟩ (.int .i64 (N : Nat))).setCell ⟨B2, 1, none⟩ (.slice xa X.length xc)).setCell ⟨B2, 2, none⟩ (.slice ya Y.length yc)).setCell ⟨B2, 3, none⟩ (.slice za A.length zc) = wz at *
    have z0 := HZ.out.cell 0; have z1 := HZ.out.cell 1; have z2 := HZ.out.cell 2; have z3 := HZ.out.cell 3
    change wz.cell? ⟨B2, 0, none⟩ = some (.int .i64 (N : Nat)) at z0
    change wz.cell? ⟨B2, 1, none⟩ = some (.slice xa X.length xc) at z1
    change wz.cell? ⟨B2, 2, none⟩ = some (.slice ya Y.length yc) at z2
    change wz.cell? ⟨B2, 3, none⟩ = some (.slice za A.length zc) at z3
    exact bodyPost_ret (v := .agg #[.int .i64 (N : Nat), .slice xa X.length xc, .slice ya Y.length yc, .slice za A.length zc]) (by simp [results, Tryd.results24, go_sem, z0, z1, z2, z3]) rfl ⟨_, rfl, ⟨(N : Nat), X, Y, A⟩, ⟨_, _, _, rfl, ownsRow_le HR2.out.1 hbase, ownsRow_le HR2.out.2.1 hbase, ownsRow_le HR2.out.2.2.1 hbase, HR2.out.2.2.2⟩, HOk.out, ⟨by dsimp only; omega, HAl.out⟩, HKZ.out⟩
end Go.Proofs.YtjobijmmjebpaaaDoor
