/- Texts of the law GraphFirst, merged: NetIs. -/
import Derived.Test.YtnkcmlngoeofgaaDoorPGraphFirst08
import Derived.Test.YtnkcmlngoeofgaaDoorPGraphFirst07
import Derived.Test.YtnkcmlngoeofgaaDoorPGraphFirst09
import Derived.BigQuiet
import Derived.Deep.QuietTactic
/- the net laws' is: is a net that of a graph. -/
namespace Go.Proofs.YtnkcmlngoeofgaaDoor
open Go.RowKit
theorem rowI_none {E : Ar → Int} {L : List Ar} {N : Nat} (h : EndsOk E L N) {x : Int} (hx : ¬ (0 ≤ x ∧ x < (N : Int))) : ∀ k, k ≤ L.length → rowI E L x k = []
  | 0, _ => rfl
  | k + 1, hk => by
    have hE := h k (by omega)
    rw [rowI_miss (fun e => hx (by omega)), rowI_none h hx k (by omega)]
theorem rowVI {E : Ar → Int} {g : Raw} {N : Nat} (hN : (N : Int) = g.nodes) (h : EndsOk E g.arcs N) (x : Int) : rowV E g x = rowI E g.arcs x g.arcs.length := by
  by_cases hx : 0 ≤ x ∧ x < (N : Int)
  · obtain ⟨v, rfl⟩ : ∃ v : Nat, x = (v : Int) := ⟨x.toNat, by omega⟩
    rw [rowV_at hN (by omega), rowI_nat]
  · rw [rowI_none h hx _ (Nat.le_refl _)]
    have e : g.nodes.toNat = N := by omega
    unfold rowV
    rw [e, rowsOf_len, if_neg hx]
set_option maxRecDepth 100000 in
set_option maxHeartbeats 32000000 in
theorem is7_any (p : Nat) (v : Value) (g : Raw) (w : World) (hn : NetAt w p g) (hv : RawV w v g) (hok : g.Ok) (hm : g.arcs.length ≤ 1000000) : Calls Tryd.prog 40 #[.pointer (some ⟨p, 0, none⟩), v] w fun e w' => e = .returned (.bool true) ∧ Below w.heap.size w w' := by
  obtain ⟨N, hN⟩ : ∃ N : Nat, (N : Int) = g.nodes := ⟨g.nodes.toNat, by have := hok.nodes; omega⟩
  have hends := ends_ok hok hN
  have hNb : 1 ≤ N ∧ N ≤ 16777216 := by have := hok.nodes; omega
  obtain ⟨M, hM⟩ : ∃ M, M = g.arcs.length := ⟨_, rfl⟩
  have hMb : M ≤ 1000000 := by rw [hM]; exact hm
  obtain ⟨vx, vy, va, rfl, hx, hy, ha⟩ := id hv
  obtain ⟨xa, xc, rfl, hxc, hxm, _⟩ := id hx
  obtain ⟨ya, yc, rfl, hyc, hym, _⟩ := id hy
  obtain ⟨za, zc, rfl, hzc, hzm, _⟩ := id ha
  unfold maxLen at hxm hym hzm
  have hXN : g.X.length = N := by have := hok.lenX; omega
  have hYN : g.Y.length = N := by have := hok.lenY; omega
  rw [← hN, hXN, hYN, ← hM] at hv
  rw [hXN] at hx; rw [hYN] at hy; rw [← hM] at ha
  obtain ⟨B3, hB3⟩ : ∃ b, b = w.heap.size := ⟨_, rfl⟩
  obtain ⟨w1, hw1⟩ : ∃ w1, w1 = w.alloc (.cells #[.int .i64 (N : Nat), .slice xa N xc, .slice ya N yc, .slice za M zc] 25) := ⟨_, rfl⟩
  have hb1 : Below w.heap.size w w1 := by rw [hw1]; exact (Below.refl _ _).alloc (Nat.le_refl _) _
  have K3 : Blk w1 B3 #[.int .i64 (N : Nat), .slice xa N xc, .slice ya N yc, .slice za M zc] 25 (0, 0) := by rw [hw1, hB3]; exact Blk.new _ _ _ _
  have HS := Lib.hid (show ∀ u, Below w1.heap.size w1 u → (u.cell? ⟨B3, 0, none⟩ = some (.int .i64 (N : Nat)) ∧ u.cell? ⟨B3, 1, none⟩ = some (.slice xa N xc) ∧ u.cell? ⟨B3, 2, none⟩ = some (.slice ya N yc) ∧ u.cell? ⟨B3, 3, none⟩ = some (.slice za M zc)) from fun u hu => ⟨(K3.below hu K3.lt).cell 0, (K3.below hu K3.lt).cell 1, (K3.below hu K3.lt).cell 2, (K3.below hu K3.lt).cell 3⟩)
  have kk : ∀ u, Below w1.heap.size w1 u → KpC w u := fun u hu => (KpC.of_below hb1).trans (KpC.of_below hu)
  have HNet := Lib.hid (show ∀ u, Below w1.heap.size w1 u → NetAt u p g from fun u hu => hn.keep (kk u hu))
  have HV := Lib.hid (show ∀ u, Below w1.heap.size w1 u → RawV u (.agg #[.int .i64 (N : Nat), .slice xa N xc, .slice ya N yc, .slice za M zc]) g from fun u hu => by
    obtain ⟨_, _, _, _, _, _, _⟩ := hv
    have k := kk u hu
    exact ⟨_, _, _, by rw [← hN], hx.keep k, hy.keep k, ha.keep k⟩)
  have HX := Lib.hid (show ∀ u, Below w1.heap.size w1 u → SlX u (.slice xa N xc) g.X ∧ SlX u (.slice ya N yc) g.Y ∧ SlA u (.slice za M zc) g.arcs from fun u hu => ⟨hx.keep (kk u hu), hy.keep (kk u hu), ha.keep (kk u hu)⟩)
  have HOk := Lib.hid hok; have HB1 := Lib.hid hb1; have HW1 := Lib.hid hw1; have HB3 := Lib.hid hB3; have HEnds := Lib.hid hends; have HN := Lib.hid hN; have HM := Lib.hid hM
  have HXN := Lib.hid hXN; have HYN := Lib.hid hYN
  have HBel := Lib.hid (Below.refl w1.heap.size w1)
  rw [← hN, hXN, hYN, ← hM]
  rw [hXN] at hxc; rw [hYN] at hyc; rw [← hM] at hzc
  clear hn hv hok hm hN hends hM hx hy ha hb1 hw1 hB3 K3 kk hXN hYN
  go_enter Tryd.func40, Tryd.ntmps40
  go_wp2_with fail
  rw [← HW1.out, ← HB3.out]
  have hNd := fun u hu => nodes_any p g u (HNet.out u hu)
  have hAr := fun u hu => arcs_any p g u (HNet.out u hu)
  rw [← HN.out] at hNd; rw [← HM.out] at hAr
  have HNd := Lib.hid hNd; have HAr := Lib.hid hAr
  clear hNd hAr
  refine wp_region_held (S := fun w' => w'.cell? ⟨B3, 0, none⟩ = some (.int .i64 (N : Nat)) ∧ w'.cell? ⟨B3, 1, none⟩ = some (.slice xa N xc) ∧ w'.cell? ⟨B3, 2, none⟩ = some (.slice ya N yc) ∧ w'.cell? ⟨B3, 3, none⟩ = some (.slice za M zc)) rfl ?_
  have hS0 := HS.out w1.drew (HBel.out.drew)
  change wpAnyH _ _ _ _ _ 24 _ _ w1.drew
  have HBe := Lib.hid (HBel.out.drew)
  refine heldA_take (i := 0) (v := .pointer (some ⟨p, 0, none⟩)) rfl rfl (by kernel_rfl) (by kernel_rfl) (by kernel_rfl) (fun _ _ _ h => h) (by rfl) (fun w hS => by obtain ⟨hS1, hS2, hS3, hS4⟩ := hS; go_simp) hS0 ?_
  simp only [List.setIfInBounds_toArray, List.set_cons_zero, List.set_cons_succ]
  refine heldA_take (i := 1) (v := .bool false) rfl rfl (by kernel_rfl) (by kernel_rfl) (by kernel_rfl) (fun _ _ _ h => h) (by rfl) (fun w hS => by obtain ⟨hS1, hS2, hS3, hS4⟩ := hS; go_simp) hS0 ?_
  simp only [List.setIfInBounds_toArray, List.set_cons_zero, List.set_cons_succ]
  refine heldA_take (i := 2) (v := .bool false) rfl rfl (by kernel_rfl) (by kernel_rfl) (by kernel_rfl) (fun _ _ _ h => h) (by rfl) (fun w hS => by obtain ⟨hS1, hS2, hS3, hS4⟩ := hS; go_simp) hS0 ?_
  simp only [List.setIfInBounds_toArray, List.set_cons_zero, List.set_cons_succ]
  refine heldA_take (i := 3) (v := .pointer (some ⟨p, 0, none⟩)) rfl rfl (by kernel_rfl) (by kernel_rfl) (by kernel_rfl) (fun _ _ _ h => h) (by rfl) (fun w hS => by obtain ⟨hS1, hS2, hS3, hS4⟩ := hS; go_simp) hS0 ?_
  simp only [List.setIfInBounds_toArray, List.set_cons_zero, List.set_cons_succ]
  refine heldA_take (i := 5) (v := .pointer (some ⟨B3, 0, none⟩)) rfl rfl (by kernel_rfl) (by kernel_rfl) (by kernel_rfl) (fun _ _ _ h => h) (by rfl) (fun w hS => by obtain ⟨hS1, hS2, hS3, hS4⟩ := hS; go_simp) hS0 ?_
  simp only [List.setIfInBounds_toArray, List.set_cons_zero, List.set_cons_succ]
  refine heldA_take (i := 6) (v := .int .i64 (N : Nat)) rfl rfl (by kernel_rfl) (by kernel_rfl) (by kernel_rfl) (fun _ _ _ h => h) (by rfl) (fun w hS => by obtain ⟨hS1, hS2, hS3, hS4⟩ := hS; go_simp) hS0 ?_
  simp only [List.setIfInBounds_toArray, List.set_cons_zero, List.set_cons_succ]
  refine heldA_one (i := 4) (by kernel_rfl) ?_
  refine wpOp_calls (f := 33) rfl rfl (by rfl) (by go_simp) (HNd.out w1.drew HBe.out) ?_ (by rintro _ _ ⟨h, _⟩; cases h) (by rintro _ ⟨h, _⟩; cases h)
  rintro _ _ ⟨⟨rfl⟩, rfl⟩
  refine ⟨hS0, ?_⟩
  simp only [List.setIfInBounds_toArray, List.set_cons_zero, List.set_cons_succ]
  refine heldA_take (i := 7) (v := .bool false) rfl rfl (by kernel_rfl) (by kernel_rfl) (by kernel_rfl) (fun _ _ _ h => h) (by rfl) (fun w hS => by obtain ⟨hS1, hS2, hS3, hS4⟩ := hS; go_simp) hS0 ?_
  simp only [List.setIfInBounds_toArray, List.set_cons_zero, List.set_cons_succ]
  refine heldA_take (i := 8) (v := .bool false) rfl rfl (by kernel_rfl) (by kernel_rfl) (by kernel_rfl) (fun _ _ _ h => h) (by rfl) (fun w hS => by obtain ⟨hS1, hS2, hS3, hS4⟩ := hS; go_simp) hS0 ?_
  simp only [List.setIfInBounds_toArray, List.set_cons_zero, List.set_cons_succ]
  refine heldA_take (i := 9) (v := .bool false) rfl rfl (by kernel_rfl) (by kernel_rfl) (by kernel_rfl) (fun _ _ _ h => h) (by rfl) (fun w hS => by obtain ⟨hS1, hS2, hS3, hS4⟩ := hS; go_simp) hS0 ?_
  simp only [List.setIfInBounds_toArray, List.set_cons_zero, List.set_cons_succ]
  refine heldA_take (i := 10) (v := .pointer (some ⟨p, 0, none⟩)) rfl rfl (by kernel_rfl) (by kernel_rfl) (by kernel_rfl) (fun _ _ _ h => h) (by rfl) (fun w hS => by obtain ⟨hS1, hS2, hS3, hS4⟩ := hS; go_simp) hS0 ?_
  simp only [List.setIfInBounds_toArray, List.set_cons_zero, List.set_cons_succ]
  refine heldA_take (i := 12) (v := .pointer (some ⟨B3, 3, none⟩)) rfl rfl (by kernel_rfl) (by kernel_rfl) (by kernel_rfl) (fun _ _ _ h => h) (by rfl) (fun w hS => by obtain ⟨hS1, hS2, hS3, hS4⟩ := hS; go_simp) hS0 ?_
  simp only [List.setIfInBounds_toArray, List.set_cons_zero, List.set_cons_succ]
  refine heldA_take (i := 13) (v := .slice za M zc) rfl rfl (by kernel_rfl) (by kernel_rfl) (by kernel_rfl) (fun _ _ _ h => h) (by rfl) (fun w hS => by obtain ⟨hS1, hS2, hS3, hS4⟩ := hS; go_simp) hS0 ?_
  simp only [List.setIfInBounds_toArray, List.set_cons_zero, List.set_cons_succ]
  refine heldA_take (i := 14) (v := .int .i64 (M : Nat)) rfl rfl (by kernel_rfl) (by kernel_rfl) (by kernel_rfl) (fun _ _ _ h => h) (by rfl) (fun w hS => by obtain ⟨hS1, hS2, hS3, hS4⟩ := hS; go_simp) hS0 ?_
  simp only [List.setIfInBounds_toArray, List.set_cons_zero, List.set_cons_succ]
  refine heldA_one (i := 11) (by kernel_rfl) ?_
  refine wpOp_calls (f := 32) rfl rfl (by rfl) (by go_simp) (HAr.out w1.drew HBe.out) ?_ (by rintro _ _ ⟨h, _⟩; cases h) (by rintro _ ⟨h, _⟩; cases h)
  rintro _ _ ⟨⟨rfl⟩, rfl⟩
  refine ⟨hS0, ?_⟩
  simp only [List.setIfInBounds_toArray, List.set_cons_zero, List.set_cons_succ]
  refine heldA_take (i := 15) (v := .bool false) rfl rfl (by kernel_rfl) (by kernel_rfl) (by kernel_rfl) (fun _ _ _ h => h) (by rfl) (fun w hS => by obtain ⟨hS1, hS2, hS3, hS4⟩ := hS; go_simp) hS0 ?_
  simp only [List.setIfInBounds_toArray, List.set_cons_zero, List.set_cons_succ]
  refine heldA_take (i := 16) (v := .bool false) rfl rfl (by kernel_rfl) (by kernel_rfl) (by kernel_rfl) (fun _ _ _ h => h) (by rfl) (fun w hS => by obtain ⟨hS1, hS2, hS3, hS4⟩ := hS; go_simp) hS0 ?_
  simp only [List.setIfInBounds_toArray, List.set_cons_zero, List.set_cons_succ]
  refine heldA_take (i := 17) (v := .bool false) rfl rfl (by kernel_rfl) (by kernel_rfl) (by kernel_rfl) (fun _ _ _ h => h) (by rfl) (fun w hS => by obtain ⟨hS1, hS2, hS3, hS4⟩ := hS; go_simp) hS0 ?_
  simp only [List.setIfInBounds_toArray, List.set_cons_zero, List.set_cons_succ]
  refine heldA_take (i := 18) (v := .pointer (some ⟨p, 0, none⟩)) rfl rfl (by kernel_rfl) (by kernel_rfl) (by kernel_rfl) (fun _ _ _ h => h) (by rfl) (fun w hS => by obtain ⟨hS1, hS2, hS3, hS4⟩ := hS; go_simp) hS0 ?_
  simp only [List.setIfInBounds_toArray, List.set_cons_zero, List.set_cons_succ]
  refine heldA_take (i := 20) (v := .agg #[.int .i64 (N : Nat), .slice xa N xc, .slice ya N yc, .slice za M zc]) rfl rfl (by kernel_rfl) (by kernel_rfl) (by kernel_rfl) (fun _ _ _ h => h) (by rfl) (fun w hS => by obtain ⟨hS1, hS2, hS3, hS4⟩ := hS; go_simp) hS0 ?_
  simp only [List.setIfInBounds_toArray, List.set_cons_zero, List.set_cons_succ]
  refine heldA_one (i := 19) (by kernel_rfl) ?_
  refine wpOp_calls (f := 39) rfl rfl (by rfl) (by go_simp) (raw_any p g w1.drew (HNet.out _ HBe.out) HOk.out.few) ?_ (by rintro _ _ ⟨_, h, _⟩; cases h) (by rintro _ ⟨_, h, _⟩; cases h)
  rintro v1 u1 ⟨_, ⟨rfl⟩, hr, hb⟩
  have HBn := Lib.hid (HBe.out.trans (hb.mono HBe.out.size))
  have HR := Lib.hid hr
  clear hr
  replace HBe := HBn
  clear HBn hb hS0
  have hS0 := HS.out u1 HBe.out
  refine ⟨hS0, ?_⟩
  simp only [List.setIfInBounds_toArray, List.set_cons_zero, List.set_cons_succ]
  have hSame := refSame7_any v1 (.agg #[.int .i64 (N : Nat), .slice xa N xc, .slice ya N yc, .slice za M zc]) g g u1 HR.out.raw (HV.out u1 HBe.out)
  rw [(sameB_iff g g).2 rfl] at hSame
  clear HR
  refine heldA_one (i := 21) (by kernel_rfl) ?_
  refine wpOp_calls (f := 38) rfl rfl (by rfl) (by go_simp) (hSame) ?_ (by rintro _ _ ⟨h, _⟩; cases h) (by rintro _ ⟨h, _⟩; cases h)
  rintro _ u2 ⟨⟨rfl⟩, hb⟩
  have HBn := Lib.hid (HBe.out.trans (hb.mono HBe.out.size))
  replace HBe := HBn
  clear HBn hb hS0
  have hS0 := HS.out u2 HBe.out
  refine ⟨hS0, ?_⟩
  simp only [List.setIfInBounds_toArray, List.set_cons_zero, List.set_cons_succ]
  refine heldA_take (i := 22) (v := .bool false) rfl rfl (by kernel_rfl) (by kernel_rfl) (by kernel_rfl) (fun _ _ _ h => h) (by rfl) (fun w hS => by obtain ⟨hS1, hS2, hS3, hS4⟩ := hS; go_simp) hS0 ?_
  simp only [List.setIfInBounds_toArray, List.set_cons_zero, List.set_cons_succ]
  refine heldA_take (i := 23) (v := .bool false) rfl rfl (by kernel_rfl) (by kernel_rfl) (by kernel_rfl) (fun _ _ _ h => h) (by rfl) (fun w hS => by obtain ⟨hS1, hS2, hS3, hS4⟩ := hS; go_simp) hS0 ?_
  simp only [List.setIfInBounds_toArray, List.set_cons_zero, List.set_cons_succ]
  refine wpAnyH_done (by kernel_rfl) ?_ _
  clear hS0 hSame HBel
  have HBel := HBe
  clear HBe
  go_wp2_with fail
  go_loopw [5] (fun i wr => ∃ (x : Int), -1 ≤ x ∧ x ≤ (N : Int) + 1 ∧ i = .int .i64 x ∧ Hid (Below w1.heap.size w1 wr)) (fun i _ => ((N : Int) + 1 - intOf i).toNat)
  case atStart => exact ⟨-1, by omega, by omega, rfl, HBel⟩
  clear HBel
  obtain ⟨x, hx1, hx2, rfl, hrel⟩ := hrel
  have HBel := hrel
  clear hrel
  have hS := HS.out wr HBel.out
  obtain ⟨c0, c1, c2, c3⟩ := hS
  by_cases hlt : x ≤ (N : Int)
  case pos =>
    have hwx : IntKind.i64.wrap (x + 1) = x + 1 := by rw [IntKind.wrap_i64]; omega
    have hPl := place_any p g x wr (HNet.out wr HBel.out)
    rw [HYN.out] at hPl
    by_cases hin : 0 ≤ x ∧ x < (N : Int)
    case pos =>
      obtain ⟨k, rfl⟩ : ∃ k : Nat, x = (k : Int) := ⟨x.toNat, by omega⟩
      obtain ⟨bx, ox, rfl, dx⟩ := (HX.out wr HBel.out).1.at k (by rw [HXN.out]; omega)
      obtain ⟨by_, oy, rfl, dy⟩ := (HX.out wr HBel.out).2.1.at k (by rw [HYN.out]; omega)
      have hkX : k < g.X.length := by rw [HXN.out]; omega
      have hkY : k < g.Y.length := by rw [HYN.out]; omega
      have ex : atI g.X (k : Int) = g.X[k]'hkX := by
        unfold atI; rw [if_pos ⟨by omega, by omega⟩, Int.toNat_natCast, List.getElem?_eq_getElem hkX]; rfl
      have ey : atI g.Y (k : Int) = g.Y[k]'hkY := by
        unfold atI; rw [if_pos ⟨by omega, by omega⟩, Int.toNat_natCast, List.getElem?_eq_getElem hkY]; rfl
      rw [ex, ey, decide_eq_true hin] at hPl
      obtain ⟨xk, hxk⟩ : ∃ q, q = g.X[k]'hkX := ⟨_, rfl⟩
      obtain ⟨yk, hyk⟩ : ∃ q, q = g.Y[k]'hkY := ⟨_, rfl⟩
      rw [← hxk, ← hyk] at hPl
      rw [← hxk] at dx; rw [← hyk] at dy
      have HPl := Lib.hid (hPl.mono fun _ _ h => And.intro h.1 h.2.symm)
      have hk0 : (0 : Int) ≤ (k : Int) := by omega
      have hkN : (k : Int) < (N : Int) := hin.2
      clear ex ey hxk hyk hPl hin hkX hkY
      go_wp2_with (refine HPl.out.mono ?_; rintro e _ ⟨rfl, rfl⟩)
      clear c0 c1 c2 c3 HPl
      have hOut := fun u hu => out_any p g (k : Int) u (HNet.out u hu) (few_rows HOk.out.arcs)
      have hIn := fun u hu => inn_any p g (k : Int) u (HNet.out u hu) (few_rows HOk.out.arcs)
      rw [rowVI HN.out HEnds.out.1] at hOut; rw [rowVI HN.out HEnds.out.2] at hIn
      have HOut := Lib.hid hOut; have HIn := Lib.hid hIn
      clear hOut hIn
      refine wp_region_held (S := fun w' => w'.cell? ⟨B3, 0, none⟩ = some (.int .i64 (N : Nat)) ∧ w'.cell? ⟨B3, 1, none⟩ = some (.slice (some ⟨bx, ox, none⟩) N xc) ∧ w'.cell? ⟨B3, 2, none⟩ = some (.slice (some ⟨by_, oy, none⟩) N yc) ∧ w'.cell? ⟨B3, 3, none⟩ = some (.slice za M zc)) rfl ?_
      have hS0 := HS.out wr.drew (HBel.out.drew)
      change wpAnyH _ _ _ _ _ 18 _ _ wr.drew
      have HBe := Lib.hid (HBel.out.drew)
      refine heldA_take (i := 0) (v := .pointer (some ⟨p, 0, none⟩)) rfl rfl (by kernel_rfl) (by kernel_rfl) (by kernel_rfl) (fun _ _ _ h => h) (by rfl) (fun w hS => by obtain ⟨hS1, hS2, hS3, hS4⟩ := hS; go_simp) hS0 ?_
      simp only [List.setIfInBounds_toArray, List.set_cons_zero, List.set_cons_succ]
      refine heldA_take (i := 1) (v := .int .i64 (k : Int)) rfl rfl (by kernel_rfl) (by kernel_rfl) (by kernel_rfl) (fun _ _ _ h => h) (by rfl) (fun w hS => by obtain ⟨hS1, hS2, hS3, hS4⟩ := hS; go_simp) hS0 ?_
      simp only [List.setIfInBounds_toArray, List.set_cons_zero, List.set_cons_succ]
      refine heldA_take (i := 3) (v := .agg #[.int .i64 (N : Nat), .slice (some ⟨bx, ox, none⟩) N xc, .slice (some ⟨by_, oy, none⟩) N yc, .slice za M zc]) rfl rfl (by kernel_rfl) (by kernel_rfl) (by kernel_rfl) (fun _ _ _ h => h) (by rfl) (fun w hS => by obtain ⟨hS1, hS2, hS3, hS4⟩ := hS; go_simp) hS0 ?_
      simp only [List.setIfInBounds_toArray, List.set_cons_zero, List.set_cons_succ]
      refine heldA_take (i := 4) (v := .int .i64 (k : Int)) rfl rfl (by kernel_rfl) (by kernel_rfl) (by kernel_rfl) (fun _ _ _ h => h) (by rfl) (fun w hS => by obtain ⟨hS1, hS2, hS3, hS4⟩ := hS; go_simp) hS0 ?_
      simp only [List.setIfInBounds_toArray, List.set_cons_zero, List.set_cons_succ]
      refine heldA_one (i := 2) (by kernel_rfl) ?_
      refine wpOp_calls (f := 34) rfl rfl (by rfl) (by go_simp) (HOut.out wr.drew HBe.out) ?_ (by rintro _ _ ⟨_, h, _⟩; cases h) (by rintro _ ⟨_, h, _⟩; cases h)
      rintro v1 u1 ⟨_, ⟨rfl⟩, hr, hb⟩
      have HBn := Lib.hid (HBe.out.trans (hb.mono HBe.out.size))
      have HR1 := Lib.hid (slX_own rfl hr)
      clear hr
      replace HBe := HBn
      clear HBn hb hS0
      have hS0 := HS.out u1 HBe.out
      refine ⟨hS0, ?_⟩
      simp only [List.setIfInBounds_toArray, List.set_cons_zero, List.set_cons_succ]
      refine heldA_one (i := 5) (by kernel_rfl) ?_
      refine wpOp_calls (f := 59) rfl rfl (by rfl) (by go_simp) (refOut_any _ g (k : Int) u1 (HV.out u1 HBe.out) (by rw [← HM.out]; exact hMb)) ?_ (by rintro _ _ ⟨_, h, _⟩; cases h) (by rintro _ ⟨_, h, _⟩; cases h)
      rintro v2 u2 ⟨_, ⟨rfl⟩, hr, hb⟩
      have HBn := Lib.hid (HBe.out.trans (hb.mono HBe.out.size))
      have HR2 := Lib.hid (ints_any v1 v2 _ _ u2 (HR1.out.keep (KpC.of_below hb)) hr)
      clear hr HR1
      replace HBe := HBn
      clear HBn hb hS0
      have hS0 := HS.out u2 HBe.out
      refine ⟨hS0, ?_⟩
      simp only [List.setIfInBounds_toArray, List.set_cons_zero, List.set_cons_succ]
      rw [decide_eq_true rfl] at HR2
      refine heldA_one (i := 6) (by kernel_rfl) ?_
      refine wpOp_calls (f := 37) rfl rfl (by rfl) (by go_simp) (HR2.out) ?_ (by rintro _ _ ⟨h, _⟩; cases h) (by rintro _ ⟨h, _⟩; cases h)
      rintro _ u3 ⟨⟨rfl⟩, hb⟩
      have HBn := Lib.hid (HBe.out.trans (hb.mono HBe.out.size))
      clear HR2
      replace HBe := HBn
      clear HBn hb hS0
      have hS0 := HS.out u3 HBe.out
      refine ⟨hS0, ?_⟩
      simp only [List.setIfInBounds_toArray, List.set_cons_zero, List.set_cons_succ]
      refine heldA_take (i := 7) (v := .bool false) rfl rfl (by kernel_rfl) (by kernel_rfl) (by kernel_rfl) (fun _ _ _ h => h) (by rfl) (fun w hS => by obtain ⟨hS1, hS2, hS3, hS4⟩ := hS; go_simp) hS0 ?_
      simp only [List.setIfInBounds_toArray, List.set_cons_zero, List.set_cons_succ]
      refine heldA_take (i := 8) (v := .bool false) rfl rfl (by kernel_rfl) (by kernel_rfl) (by kernel_rfl) (fun _ _ _ h => h) (by rfl) (fun w hS => by obtain ⟨hS1, hS2, hS3, hS4⟩ := hS; go_simp) hS0 ?_
      simp only [List.setIfInBounds_toArray, List.set_cons_zero, List.set_cons_succ]
      refine heldA_take (i := 9) (v := .pointer (some ⟨p, 0, none⟩)) rfl rfl (by kernel_rfl) (by kernel_rfl) (by kernel_rfl) (fun _ _ _ h => h) (by rfl) (fun w hS => by obtain ⟨hS1, hS2, hS3, hS4⟩ := hS; go_simp) hS0 ?_
      simp only [List.setIfInBounds_toArray, List.set_cons_zero, List.set_cons_succ]
      refine heldA_take (i := 10) (v := .int .i64 (k : Int)) rfl rfl (by kernel_rfl) (by kernel_rfl) (by kernel_rfl) (fun _ _ _ h => h) (by rfl) (fun w hS => by obtain ⟨hS1, hS2, hS3, hS4⟩ := hS; go_simp) hS0 ?_
      simp only [List.setIfInBounds_toArray, List.set_cons_zero, List.set_cons_succ]
      refine heldA_take (i := 12) (v := .agg #[.int .i64 (N : Nat), .slice (some ⟨bx, ox, none⟩) N xc, .slice (some ⟨by_, oy, none⟩) N yc, .slice za M zc]) rfl rfl (by kernel_rfl) (by kernel_rfl) (by kernel_rfl) (fun _ _ _ h => h) (by rfl) (fun w hS => by obtain ⟨hS1, hS2, hS3, hS4⟩ := hS; go_simp) hS0 ?_
      simp only [List.setIfInBounds_toArray, List.set_cons_zero, List.set_cons_succ]
      refine heldA_take (i := 13) (v := .int .i64 (k : Int)) rfl rfl (by kernel_rfl) (by kernel_rfl) (by kernel_rfl) (fun _ _ _ h => h) (by rfl) (fun w hS => by obtain ⟨hS1, hS2, hS3, hS4⟩ := hS; go_simp) hS0 ?_
      simp only [List.setIfInBounds_toArray, List.set_cons_zero, List.set_cons_succ]
      refine heldA_one (i := 11) (by kernel_rfl) ?_
      refine wpOp_calls (f := 35) rfl rfl (by rfl) (by go_simp) (HIn.out u3 HBe.out) ?_ (by rintro _ _ ⟨_, h, _⟩; cases h) (by rintro _ ⟨_, h, _⟩; cases h)
      rintro v1 u4 ⟨_, ⟨rfl⟩, hr, hb⟩
      have HBn := Lib.hid (HBe.out.trans (hb.mono HBe.out.size))
      have HR1 := Lib.hid (slX_own rfl hr)
      clear hr
      replace HBe := HBn
      clear HBn hb hS0
      have hS0 := HS.out u4 HBe.out
      refine ⟨hS0, ?_⟩
      simp only [List.setIfInBounds_toArray, List.set_cons_zero, List.set_cons_succ]
      refine heldA_one (i := 14) (by kernel_rfl) ?_
      refine wpOp_calls (f := 60) rfl rfl (by rfl) (by go_simp) (refIn_any _ g (k : Int) u4 (HV.out u4 HBe.out) (by rw [← HM.out]; exact hMb)) ?_ (by rintro _ _ ⟨_, h, _⟩; cases h) (by rintro _ ⟨_, h, _⟩; cases h)
      rintro v2 u5 ⟨_, ⟨rfl⟩, hr, hb⟩
      have HBn := Lib.hid (HBe.out.trans (hb.mono HBe.out.size))
      have HR2 := Lib.hid (ints_any v1 v2 _ _ u5 (HR1.out.keep (KpC.of_below hb)) hr)
      clear hr HR1
      replace HBe := HBn
      clear HBn hb hS0
      have hS0 := HS.out u5 HBe.out
      refine ⟨hS0, ?_⟩
      simp only [List.setIfInBounds_toArray, List.set_cons_zero, List.set_cons_succ]
      rw [decide_eq_true rfl] at HR2
      refine heldA_one (i := 15) (by kernel_rfl) ?_
      refine wpOp_calls (f := 37) rfl rfl (by rfl) (by go_simp) (HR2.out) ?_ (by rintro _ _ ⟨h, _⟩; cases h) (by rintro _ ⟨h, _⟩; cases h)
      rintro _ u6 ⟨⟨rfl⟩, hb⟩
      have HBn := Lib.hid (HBe.out.trans (hb.mono HBe.out.size))
      clear HR2
      replace HBe := HBn
      clear HBn hb hS0
      have hS0 := HS.out u6 HBe.out
      refine ⟨hS0, ?_⟩
      simp only [List.setIfInBounds_toArray, List.set_cons_zero, List.set_cons_succ]
      refine heldA_take (i := 16) (v := .bool false) rfl rfl (by kernel_rfl) (by kernel_rfl) (by kernel_rfl) (fun _ _ _ h => h) (by rfl) (fun w hS => by obtain ⟨hS1, hS2, hS3, hS4⟩ := hS; go_simp) hS0 ?_
      simp only [List.setIfInBounds_toArray, List.set_cons_zero, List.set_cons_succ]
      refine heldA_take (i := 17) (v := .bool false) rfl rfl (by kernel_rfl) (by kernel_rfl) (by kernel_rfl) (fun _ _ _ h => h) (by rfl) (fun w hS => by obtain ⟨hS1, hS2, hS3, hS4⟩ := hS; go_simp) hS0 ?_
      simp only [List.setIfInBounds_toArray, List.set_cons_zero, List.set_cons_succ]
      refine wpAnyH_done (by kernel_rfl) ?_ _
      clear hS0 HOut HIn HBel
      go_wp2_with fail
      go_roundw
      case rel => exact ⟨(k : Int) + 1, by omega, by omega, by first | rfl | go_num, HBe⟩
      case measure => first | (simp [intOf]; done) | (simp [intOf]; omega)
    case neg =>
      have ex : atI g.X x = 0 := by unfold atI; rw [HXN.out, if_neg hin]
      have ey : atI g.Y x = 0 := by unfold atI; rw [HYN.out, if_neg hin]
      rw [ex, ey, decide_eq_false hin] at hPl
      have HPl := Lib.hid (hPl.mono fun _ _ h => And.intro h.1 h.2.symm)
      have hcs : x = -1 ∨ x = (N : Int) := by omega
      clear ex ey hPl hin hwx
      rcases hcs with rfl | rfl
      case inl =>
        go_wp2_with (refine HPl.out.mono ?_; rintro e _ ⟨rfl, rfl⟩)
        clear c0 c1 c2 c3 HPl
        have hOut := fun u hu => out_any p g (-1) u (HNet.out u hu) (few_rows HOk.out.arcs)
        have hIn := fun u hu => inn_any p g (-1) u (HNet.out u hu) (few_rows HOk.out.arcs)
        rw [rowVI HN.out HEnds.out.1] at hOut; rw [rowVI HN.out HEnds.out.2] at hIn
        have HOut := Lib.hid hOut; have HIn := Lib.hid hIn
        clear hOut hIn
        refine wp_region_held (S := fun w' => w'.cell? ⟨B3, 0, none⟩ = some (.int .i64 (N : Nat)) ∧ w'.cell? ⟨B3, 1, none⟩ = some (.slice xa N xc) ∧ w'.cell? ⟨B3, 2, none⟩ = some (.slice ya N yc) ∧ w'.cell? ⟨B3, 3, none⟩ = some (.slice za M zc)) rfl ?_
        have hS0 := HS.out wr.drew (HBel.out.drew)
        change wpAnyH _ _ _ _ _ 18 _ _ wr.drew
        have HBe := Lib.hid (HBel.out.drew)
        refine heldA_take (i := 0) (v := .pointer (some ⟨p, 0, none⟩)) rfl rfl (by kernel_rfl) (by kernel_rfl) (by kernel_rfl) (fun _ _ _ h => h) (by rfl) (fun w hS => by obtain ⟨hS1, hS2, hS3, hS4⟩ := hS; go_simp) hS0 ?_
        simp only [List.setIfInBounds_toArray, List.set_cons_zero, List.set_cons_succ]
        refine heldA_take (i := 1) (v := .int .i64 (-1)) rfl rfl (by kernel_rfl) (by kernel_rfl) (by kernel_rfl) (fun _ _ _ h => h) (by rfl) (fun w hS => by obtain ⟨hS1, hS2, hS3, hS4⟩ := hS; go_simp) hS0 ?_
        simp only [List.setIfInBounds_toArray, List.set_cons_zero, List.set_cons_succ]
        refine heldA_take (i := 3) (v := .agg #[.int .i64 (N : Nat), .slice xa N xc, .slice ya N yc, .slice za M zc]) rfl rfl (by kernel_rfl) (by kernel_rfl) (by kernel_rfl) (fun _ _ _ h => h) (by rfl) (fun w hS => by obtain ⟨hS1, hS2, hS3, hS4⟩ := hS; go_simp) hS0 ?_
        simp only [List.setIfInBounds_toArray, List.set_cons_zero, List.set_cons_succ]
        refine heldA_take (i := 4) (v := .int .i64 (-1)) rfl rfl (by kernel_rfl) (by kernel_rfl) (by kernel_rfl) (fun _ _ _ h => h) (by rfl) (fun w hS => by obtain ⟨hS1, hS2, hS3, hS4⟩ := hS; go_simp) hS0 ?_
        simp only [List.setIfInBounds_toArray, List.set_cons_zero, List.set_cons_succ]
        refine heldA_one (i := 2) (by kernel_rfl) ?_
        refine wpOp_calls (f := 34) rfl rfl (by rfl) (by go_simp) (HOut.out wr.drew HBe.out) ?_ (by rintro _ _ ⟨_, h, _⟩; cases h) (by rintro _ ⟨_, h, _⟩; cases h)
        rintro v1 u1 ⟨_, ⟨rfl⟩, hr, hb⟩
        have HBn := Lib.hid (HBe.out.trans (hb.mono HBe.out.size))
        have HR1 := Lib.hid (slX_own rfl hr)
        clear hr
        replace HBe := HBn
        clear HBn hb hS0
        have hS0 := HS.out u1 HBe.out
        refine ⟨hS0, ?_⟩
        simp only [List.setIfInBounds_toArray, List.set_cons_zero, List.set_cons_succ]
        refine heldA_one (i := 5) (by kernel_rfl) ?_
        refine wpOp_calls (f := 59) rfl rfl (by rfl) (by go_simp) (refOut_any _ g (-1) u1 (HV.out u1 HBe.out) (by rw [← HM.out]; exact hMb)) ?_ (by rintro _ _ ⟨_, h, _⟩; cases h) (by rintro _ ⟨_, h, _⟩; cases h)
        rintro v2 u2 ⟨_, ⟨rfl⟩, hr, hb⟩
        have HBn := Lib.hid (HBe.out.trans (hb.mono HBe.out.size))
        have HR2 := Lib.hid (ints_any v1 v2 _ _ u2 (HR1.out.keep (KpC.of_below hb)) hr)
        clear hr HR1
        replace HBe := HBn
        clear HBn hb hS0
        have hS0 := HS.out u2 HBe.out
        refine ⟨hS0, ?_⟩
        simp only [List.setIfInBounds_toArray, List.set_cons_zero, List.set_cons_succ]
        rw [decide_eq_true rfl] at HR2
        refine heldA_one (i := 6) (by kernel_rfl) ?_
        refine wpOp_calls (f := 37) rfl rfl (by rfl) (by go_simp) (HR2.out) ?_ (by rintro _ _ ⟨h, _⟩; cases h) (by rintro _ ⟨h, _⟩; cases h)
        rintro _ u3 ⟨⟨rfl⟩, hb⟩
        have HBn := Lib.hid (HBe.out.trans (hb.mono HBe.out.size))
        clear HR2
        replace HBe := HBn
        clear HBn hb hS0
        have hS0 := HS.out u3 HBe.out
        refine ⟨hS0, ?_⟩
        simp only [List.setIfInBounds_toArray, List.set_cons_zero, List.set_cons_succ]
        refine heldA_take (i := 7) (v := .bool false) rfl rfl (by kernel_rfl) (by kernel_rfl) (by kernel_rfl) (fun _ _ _ h => h) (by rfl) (fun w hS => by obtain ⟨hS1, hS2, hS3, hS4⟩ := hS; go_simp) hS0 ?_
        simp only [List.setIfInBounds_toArray, List.set_cons_zero, List.set_cons_succ]
        refine heldA_take (i := 8) (v := .bool false) rfl rfl (by kernel_rfl) (by kernel_rfl) (by kernel_rfl) (fun _ _ _ h => h) (by rfl) (fun w hS => by obtain ⟨hS1, hS2, hS3, hS4⟩ := hS; go_simp) hS0 ?_
        simp only [List.setIfInBounds_toArray, List.set_cons_zero, List.set_cons_succ]
        refine heldA_take (i := 9) (v := .pointer (some ⟨p, 0, none⟩)) rfl rfl (by kernel_rfl) (by kernel_rfl) (by kernel_rfl) (fun _ _ _ h => h) (by rfl) (fun w hS => by obtain ⟨hS1, hS2, hS3, hS4⟩ := hS; go_simp) hS0 ?_
        simp only [List.setIfInBounds_toArray, List.set_cons_zero, List.set_cons_succ]
        refine heldA_take (i := 10) (v := .int .i64 (-1)) rfl rfl (by kernel_rfl) (by kernel_rfl) (by kernel_rfl) (fun _ _ _ h => h) (by rfl) (fun w hS => by obtain ⟨hS1, hS2, hS3, hS4⟩ := hS; go_simp) hS0 ?_
        simp only [List.setIfInBounds_toArray, List.set_cons_zero, List.set_cons_succ]
        refine heldA_take (i := 12) (v := .agg #[.int .i64 (N : Nat), .slice xa N xc, .slice ya N yc, .slice za M zc]) rfl rfl (by kernel_rfl) (by kernel_rfl) (by kernel_rfl) (fun _ _ _ h => h) (by rfl) (fun w hS => by obtain ⟨hS1, hS2, hS3, hS4⟩ := hS; go_simp) hS0 ?_
        simp only [List.setIfInBounds_toArray, List.set_cons_zero, List.set_cons_succ]
        refine heldA_take (i := 13) (v := .int .i64 (-1)) rfl rfl (by kernel_rfl) (by kernel_rfl) (by kernel_rfl) (fun _ _ _ h => h) (by rfl) (fun w hS => by obtain ⟨hS1, hS2, hS3, hS4⟩ := hS; go_simp) hS0 ?_
        simp only [List.setIfInBounds_toArray, List.set_cons_zero, List.set_cons_succ]
        refine heldA_one (i := 11) (by kernel_rfl) ?_
        refine wpOp_calls (f := 35) rfl rfl (by rfl) (by go_simp) (HIn.out u3 HBe.out) ?_ (by rintro _ _ ⟨_, h, _⟩; cases h) (by rintro _ ⟨_, h, _⟩; cases h)
        rintro v1 u4 ⟨_, ⟨rfl⟩, hr, hb⟩
        have HBn := Lib.hid (HBe.out.trans (hb.mono HBe.out.size))
        have HR1 := Lib.hid (slX_own rfl hr)
        clear hr
        replace HBe := HBn
        clear HBn hb hS0
        have hS0 := HS.out u4 HBe.out
        refine ⟨hS0, ?_⟩
        simp only [List.setIfInBounds_toArray, List.set_cons_zero, List.set_cons_succ]
        refine heldA_one (i := 14) (by kernel_rfl) ?_
        refine wpOp_calls (f := 60) rfl rfl (by rfl) (by go_simp) (refIn_any _ g (-1) u4 (HV.out u4 HBe.out) (by rw [← HM.out]; exact hMb)) ?_ (by rintro _ _ ⟨_, h, _⟩; cases h) (by rintro _ ⟨_, h, _⟩; cases h)
        rintro v2 u5 ⟨_, ⟨rfl⟩, hr, hb⟩
        have HBn := Lib.hid (HBe.out.trans (hb.mono HBe.out.size))
        have HR2 := Lib.hid (ints_any v1 v2 _ _ u5 (HR1.out.keep (KpC.of_below hb)) hr)
        clear hr HR1
        replace HBe := HBn
        clear HBn hb hS0
        have hS0 := HS.out u5 HBe.out
        refine ⟨hS0, ?_⟩
        simp only [List.setIfInBounds_toArray, List.set_cons_zero, List.set_cons_succ]
        rw [decide_eq_true rfl] at HR2
        refine heldA_one (i := 15) (by kernel_rfl) ?_
        refine wpOp_calls (f := 37) rfl rfl (by rfl) (by go_simp) (HR2.out) ?_ (by rintro _ _ ⟨h, _⟩; cases h) (by rintro _ ⟨h, _⟩; cases h)
        rintro _ u6 ⟨⟨rfl⟩, hb⟩
        have HBn := Lib.hid (HBe.out.trans (hb.mono HBe.out.size))
        clear HR2
        replace HBe := HBn
        clear HBn hb hS0
        have hS0 := HS.out u6 HBe.out
        refine ⟨hS0, ?_⟩
        simp only [List.setIfInBounds_toArray, List.set_cons_zero, List.set_cons_succ]
        refine heldA_take (i := 16) (v := .bool false) rfl rfl (by kernel_rfl) (by kernel_rfl) (by kernel_rfl) (fun _ _ _ h => h) (by rfl) (fun w hS => by obtain ⟨hS1, hS2, hS3, hS4⟩ := hS; go_simp) hS0 ?_
        simp only [List.setIfInBounds_toArray, List.set_cons_zero, List.set_cons_succ]
        refine heldA_take (i := 17) (v := .bool false) rfl rfl (by kernel_rfl) (by kernel_rfl) (by kernel_rfl) (fun _ _ _ h => h) (by rfl) (fun w hS => by obtain ⟨hS1, hS2, hS3, hS4⟩ := hS; go_simp) hS0 ?_
        simp only [List.setIfInBounds_toArray, List.set_cons_zero, List.set_cons_succ]
        refine wpAnyH_done (by kernel_rfl) ?_ _
        clear hS0 HOut HIn HBel
        go_wp2_with fail
        go_roundw
        case rel => exact ⟨0, by omega, by omega, by first | rfl | go_num, HBe⟩
        case measure => first | (simp [intOf]; done) | (simp [intOf]; omega)
      case inr =>
        have hN0 : (0 : Int) ≤ (N : Int) := by omega
        have hwx : IntKind.i64.wrap ((N : Int) + 1) = (N : Int) + 1 := by rw [IntKind.wrap_i64]; omega
        go_wp2_with (refine HPl.out.mono ?_; rintro e _ ⟨rfl, rfl⟩)
        clear c0 c1 c2 c3 HPl
        have hOut := fun u hu => out_any p g (N : Int) u (HNet.out u hu) (few_rows HOk.out.arcs)
        have hIn := fun u hu => inn_any p g (N : Int) u (HNet.out u hu) (few_rows HOk.out.arcs)
        rw [rowVI HN.out HEnds.out.1] at hOut; rw [rowVI HN.out HEnds.out.2] at hIn
        have HOut := Lib.hid hOut; have HIn := Lib.hid hIn
        clear hOut hIn
        refine wp_region_held (S := fun w' => w'.cell? ⟨B3, 0, none⟩ = some (.int .i64 (N : Nat)) ∧ w'.cell? ⟨B3, 1, none⟩ = some (.slice xa N xc) ∧ w'.cell? ⟨B3, 2, none⟩ = some (.slice ya N yc) ∧ w'.cell? ⟨B3, 3, none⟩ = some (.slice za M zc)) rfl ?_
        have hS0 := HS.out wr.drew (HBel.out.drew)
        change wpAnyH _ _ _ _ _ 18 _ _ wr.drew
        have HBe := Lib.hid (HBel.out.drew)
        refine heldA_take (i := 0) (v := .pointer (some ⟨p, 0, none⟩)) rfl rfl (by kernel_rfl) (by kernel_rfl) (by kernel_rfl) (fun _ _ _ h => h) (by rfl) (fun w hS => by obtain ⟨hS1, hS2, hS3, hS4⟩ := hS; go_simp) hS0 ?_
        simp only [List.setIfInBounds_toArray, List.set_cons_zero, List.set_cons_succ]
        refine heldA_take (i := 1) (v := .int .i64 (N : Int)) rfl rfl (by kernel_rfl) (by kernel_rfl) (by kernel_rfl) (fun _ _ _ h => h) (by rfl) (fun w hS => by obtain ⟨hS1, hS2, hS3, hS4⟩ := hS; go_simp) hS0 ?_
        simp only [List.setIfInBounds_toArray, List.set_cons_zero, List.set_cons_succ]
        refine heldA_take (i := 3) (v := .agg #[.int .i64 (N : Nat), .slice xa N xc, .slice ya N yc, .slice za M zc]) rfl rfl (by kernel_rfl) (by kernel_rfl) (by kernel_rfl) (fun _ _ _ h => h) (by rfl) (fun w hS => by obtain ⟨hS1, hS2, hS3, hS4⟩ := hS; go_simp) hS0 ?_
        simp only [List.setIfInBounds_toArray, List.set_cons_zero, List.set_cons_succ]
        refine heldA_take (i := 4) (v := .int .i64 (N : Int)) rfl rfl (by kernel_rfl) (by kernel_rfl) (by kernel_rfl) (fun _ _ _ h => h) (by rfl) (fun w hS => by obtain ⟨hS1, hS2, hS3, hS4⟩ := hS; go_simp) hS0 ?_
        simp only [List.setIfInBounds_toArray, List.set_cons_zero, List.set_cons_succ]
        refine heldA_one (i := 2) (by kernel_rfl) ?_
        refine wpOp_calls (f := 34) rfl rfl (by rfl) (by go_simp) (HOut.out wr.drew HBe.out) ?_ (by rintro _ _ ⟨_, h, _⟩; cases h) (by rintro _ ⟨_, h, _⟩; cases h)
        rintro v1 u1 ⟨_, ⟨rfl⟩, hr, hb⟩
        have HBn := Lib.hid (HBe.out.trans (hb.mono HBe.out.size))
        have HR1 := Lib.hid (slX_own rfl hr)
        clear hr
        replace HBe := HBn
        clear HBn hb hS0
        have hS0 := HS.out u1 HBe.out
        refine ⟨hS0, ?_⟩
        simp only [List.setIfInBounds_toArray, List.set_cons_zero, List.set_cons_succ]
        refine heldA_one (i := 5) (by kernel_rfl) ?_
        refine wpOp_calls (f := 59) rfl rfl (by rfl) (by go_simp) (refOut_any _ g (N : Int) u1 (HV.out u1 HBe.out) (by rw [← HM.out]; exact hMb)) ?_ (by rintro _ _ ⟨_, h, _⟩; cases h) (by rintro _ ⟨_, h, _⟩; cases h)
        rintro v2 u2 ⟨_, ⟨rfl⟩, hr, hb⟩
        have HBn := Lib.hid (HBe.out.trans (hb.mono HBe.out.size))
        have HR2 := Lib.hid (ints_any v1 v2 _ _ u2 (HR1.out.keep (KpC.of_below hb)) hr)
        clear hr HR1
        replace HBe := HBn
        clear HBn hb hS0
        have hS0 := HS.out u2 HBe.out
        refine ⟨hS0, ?_⟩
        simp only [List.setIfInBounds_toArray, List.set_cons_zero, List.set_cons_succ]
        rw [decide_eq_true rfl] at HR2
        refine heldA_one (i := 6) (by kernel_rfl) ?_
        refine wpOp_calls (f := 37) rfl rfl (by rfl) (by go_simp) (HR2.out) ?_ (by rintro _ _ ⟨h, _⟩; cases h) (by rintro _ ⟨h, _⟩; cases h)
        rintro _ u3 ⟨⟨rfl⟩, hb⟩
        have HBn := Lib.hid (HBe.out.trans (hb.mono HBe.out.size))
        clear HR2
        replace HBe := HBn
        clear HBn hb hS0
        have hS0 := HS.out u3 HBe.out
        refine ⟨hS0, ?_⟩
        simp only [List.setIfInBounds_toArray, List.set_cons_zero, List.set_cons_succ]
        refine heldA_take (i := 7) (v := .bool false) rfl rfl (by kernel_rfl) (by kernel_rfl) (by kernel_rfl) (fun _ _ _ h => h) (by rfl) (fun w hS => by obtain ⟨hS1, hS2, hS3, hS4⟩ := hS; go_simp) hS0 ?_
        simp only [List.setIfInBounds_toArray, List.set_cons_zero, List.set_cons_succ]
        refine heldA_take (i := 8) (v := .bool false) rfl rfl (by kernel_rfl) (by kernel_rfl) (by kernel_rfl) (fun _ _ _ h => h) (by rfl) (fun w hS => by obtain ⟨hS1, hS2, hS3, hS4⟩ := hS; go_simp) hS0 ?_
        simp only [List.setIfInBounds_toArray, List.set_cons_zero, List.set_cons_succ]
        refine heldA_take (i := 9) (v := .pointer (some ⟨p, 0, none⟩)) rfl rfl (by kernel_rfl) (by kernel_rfl) (by kernel_rfl) (fun _ _ _ h => h) (by rfl) (fun w hS => by obtain ⟨hS1, hS2, hS3, hS4⟩ := hS; go_simp) hS0 ?_
        simp only [List.setIfInBounds_toArray, List.set_cons_zero, List.set_cons_succ]
        refine heldA_take (i := 10) (v := .int .i64 (N : Int)) rfl rfl (by kernel_rfl) (by kernel_rfl) (by kernel_rfl) (fun _ _ _ h => h) (by rfl) (fun w hS => by obtain ⟨hS1, hS2, hS3, hS4⟩ := hS; go_simp) hS0 ?_
        simp only [List.setIfInBounds_toArray, List.set_cons_zero, List.set_cons_succ]
        refine heldA_take (i := 12) (v := .agg #[.int .i64 (N : Nat), .slice xa N xc, .slice ya N yc, .slice za M zc]) rfl rfl (by kernel_rfl) (by kernel_rfl) (by kernel_rfl) (fun _ _ _ h => h) (by rfl) (fun w hS => by obtain ⟨hS1, hS2, hS3, hS4⟩ := hS; go_simp) hS0 ?_
        simp only [List.setIfInBounds_toArray, List.set_cons_zero, List.set_cons_succ]
        refine heldA_take (i := 13) (v := .int .i64 (N : Int)) rfl rfl (by kernel_rfl) (by kernel_rfl) (by kernel_rfl) (fun _ _ _ h => h) (by rfl) (fun w hS => by obtain ⟨hS1, hS2, hS3, hS4⟩ := hS; go_simp) hS0 ?_
        simp only [List.setIfInBounds_toArray, List.set_cons_zero, List.set_cons_succ]
        refine heldA_one (i := 11) (by kernel_rfl) ?_
        refine wpOp_calls (f := 35) rfl rfl (by rfl) (by go_simp) (HIn.out u3 HBe.out) ?_ (by rintro _ _ ⟨_, h, _⟩; cases h) (by rintro _ ⟨_, h, _⟩; cases h)
        rintro v1 u4 ⟨_, ⟨rfl⟩, hr, hb⟩
        have HBn := Lib.hid (HBe.out.trans (hb.mono HBe.out.size))
        have HR1 := Lib.hid (slX_own rfl hr)
        clear hr
        replace HBe := HBn
        clear HBn hb hS0
        have hS0 := HS.out u4 HBe.out
        refine ⟨hS0, ?_⟩
        simp only [List.setIfInBounds_toArray, List.set_cons_zero, List.set_cons_succ]
        refine heldA_one (i := 14) (by kernel_rfl) ?_
        refine wpOp_calls (f := 60) rfl rfl (by rfl) (by go_simp) (refIn_any _ g (N : Int) u4 (HV.out u4 HBe.out) (by rw [← HM.out]; exact hMb)) ?_ (by rintro _ _ ⟨_, h, _⟩; cases h) (by rintro _ ⟨_, h, _⟩; cases h)
        rintro v2 u5 ⟨_, ⟨rfl⟩, hr, hb⟩
        have HBn := Lib.hid (HBe.out.trans (hb.mono HBe.out.size))
        have HR2 := Lib.hid (ints_any v1 v2 _ _ u5 (HR1.out.keep (KpC.of_below hb)) hr)
        clear hr HR1
        replace HBe := HBn
        clear HBn hb hS0
        have hS0 := HS.out u5 HBe.out
        refine ⟨hS0, ?_⟩
        simp only [List.setIfInBounds_toArray, List.set_cons_zero, List.set_cons_succ]
        rw [decide_eq_true rfl] at HR2
        refine heldA_one (i := 15) (by kernel_rfl) ?_
        refine wpOp_calls (f := 37) rfl rfl (by rfl) (by go_simp) (HR2.out) ?_ (by rintro _ _ ⟨h, _⟩; cases h) (by rintro _ ⟨h, _⟩; cases h)
        rintro _ u6 ⟨⟨rfl⟩, hb⟩
        have HBn := Lib.hid (HBe.out.trans (hb.mono HBe.out.size))
        clear HR2
        replace HBe := HBn
        clear HBn hb hS0
        have hS0 := HS.out u6 HBe.out
        refine ⟨hS0, ?_⟩
        simp only [List.setIfInBounds_toArray, List.set_cons_zero, List.set_cons_succ]
        refine heldA_take (i := 16) (v := .bool false) rfl rfl (by kernel_rfl) (by kernel_rfl) (by kernel_rfl) (fun _ _ _ h => h) (by rfl) (fun w hS => by obtain ⟨hS1, hS2, hS3, hS4⟩ := hS; go_simp) hS0 ?_
        simp only [List.setIfInBounds_toArray, List.set_cons_zero, List.set_cons_succ]
        refine heldA_take (i := 17) (v := .bool false) rfl rfl (by kernel_rfl) (by kernel_rfl) (by kernel_rfl) (fun _ _ _ h => h) (by rfl) (fun w hS => by obtain ⟨hS1, hS2, hS3, hS4⟩ := hS; go_simp) hS0 ?_
        simp only [List.setIfInBounds_toArray, List.set_cons_zero, List.set_cons_succ]
        refine wpAnyH_done (by kernel_rfl) ?_ _
        clear hS0 HOut HIn HBel
        go_wp2_with fail
        go_roundw
        case rel => exact ⟨(N : Int) + 1, by omega, by omega, by first | rfl | go_num, HBe⟩
        case measure => first | (simp [intOf]; done) | (simp [intOf]; omega)
  obtain rfl : x = (N : Int) + 1 := by omega
  go_wp2_with fail
  clear c0 c1 c2 c3
  go_loopw [9] (fun i wr => ∃ (x : Int), -1 ≤ x ∧ x ≤ (M : Int) + 1 ∧ i = .int .i64 x ∧ Hid (Below w1.heap.size w1 wr)) (fun i _ => ((M : Int) + 1 - intOf i).toNat)
  case atStart => exact ⟨-1, by omega, by omega, rfl, HBel⟩
  clear HBel hlt
  obtain ⟨x, hx1, hx2, rfl, hrel⟩ := hrel
  have HBel := hrel
  clear hrel
  have hS := HS.out wr HBel.out
  obtain ⟨c0, c1, c2, c3⟩ := hS
  by_cases hlt : x ≤ (M : Int)
  case pos =>
    have hwx : IntKind.i64.wrap (x + 1) = x + 1 := by rw [IntKind.wrap_i64]; omega
    have hArc : ∀ x0 x1 x2 b, (if 0 ≤ x ∧ x < g.arcs.length then g.arcs[x.toNat]?.getD (0, 0, 0) else (0, 0, 0)) = ((x0, x1, x2) : Ar) → decide (0 ≤ x ∧ x < (g.arcs.length : Int)) = b → Calls Tryd.prog 36 #[.pointer (some ⟨p, 0, none⟩), .int .i64 x] wr fun e w' => e = .returned (.tuple #[.agg #[.int .i64 x0, .int .i64 x1, .int .i64 x2], .bool b]) ∧ Below wr.heap.size wr w' := fun x0 x1 x2 b h1 h2 => arc_is p g x x0 x1 x2 b wr (HNet.out wr HBel.out) h1 h2
    rw [← HM.out] at hArc
    by_cases hin : 0 ≤ x ∧ x < (M : Int)
    case pos =>
      obtain ⟨k, rfl⟩ : ∃ k : Nat, x = (k : Int) := ⟨x.toNat, by omega⟩
      have hkM : k < g.arcs.length := by rw [← HM.out]; omega
      obtain ⟨bz, oz, rfl, d0, d1, d2⟩ := (HX.out wr HBel.out).2.2.at k hkM
      rw [if_pos hin, Int.toNat_natCast, List.getElem?_eq_getElem hkM, decide_eq_true hin] at hArc
      obtain ⟨ar, har⟩ : ∃ q, q = g.arcs[k] := ⟨_, rfl⟩
      rw [← har] at hArc d0 d1 d2
      obtain ⟨x0, x1, x2⟩ := ar
      have HArc := Lib.hid (hArc x0 x1 x2 true rfl rfl)
      dsimp only at d0 d1 d2
      have hk0 : (0 : Int) ≤ (k : Int) := by omega
      have hkN : (k : Int) < (M : Int) := hin.2
      have hq0 : ∀ w, (binOp .neq 54 (.agg #[.int .i64 x0, .int .i64 x1, .int .i64 x2]) (.agg #[.int .i64 x0, .int .i64 x1, .int .i64 x2])).run Tryd.prog w = .ok (.bool false) w := fun w => by rw [arc_neq x0 x1 x2 x0 x1 x2 w]; simp
      clear har hArc hin hkM
      go_wp2_with fail
      refine HArc.out.mono ?_
      rintro e w7 ⟨rfl, hb7⟩
      obtain ⟨w8, hw8⟩ : ∃ u, u = w7.alloc (.cells #[.int .i64 x0, .int .i64 x1, .int .i64 x2] 54) := ⟨_, rfl⟩
      obtain ⟨Ba, hBa⟩ : ∃ b, b = w7.heap.size := ⟨_, rfl⟩
      have hb8 : Below w7.heap.size w7 w8 := by rw [hw8]; exact (Below.refl _ _).alloc (Nat.le_refl _) _
      have kA : Blk w8 Ba #[.int .i64 x0, .int .i64 x1, .int .i64 x2] 54 (0, 0) := by rw [hw8, hBa]; exact Blk.new _ _ _ _
      have t0 := kA.cell 0; have t1 := kA.cell 1; have t2 := kA.cell 2
      simp only [List.getElem?_toArray, List.getElem?_cons_succ, List.getElem?_cons_zero] at t0 t1 t2
      have kb : Below wr.heap.size wr w8 := hb7.next' hb8
      have e0 := cell_later kb d0; have e1 := cell_later kb d1; have e2 := cell_later kb d2
      have Hb8 := Lib.hid (HBel.out.next' (hb7.next' hb8))
      have hS8 := HS.out w8 Hb8.out
      obtain ⟨s0, s1, s2, s3⟩ := hS8
      have HW8 := Lib.hid hw8; have HBa := Lib.hid hBa
      clear c0 c1 c2 c3 kA hw8 hBa hb7 hb8 HArc HBel kb d0 d1 d2
      go_wp2_with fail
      rw [← HW8.out, ← HBa.out]
      clear HW8 HBa
      go_wp2_with fail
      go_quiet (fail)
      generalize hwd : w8.drewN _ = wd at *
      have Hz : Hid (Below w1.heap.size w1 wd) := Lib.hid (by rw [← hwd]; exact below_drewN Hb8.out _)
      clear hwd Hb8 s0 s1 s2 s3 t0 t1 t2 hq0
      go_wp2_with fail
      go_roundw
      case rel => exact ⟨(k : Int) + 1, by omega, by omega, by first | rfl | go_num, Hz⟩
      case measure => first | (simp [intOf]; done) | (simp [intOf]; omega)
    case neg =>
      rw [if_neg hin, decide_eq_false hin] at hArc
      have HArc := Lib.hid (hArc 0 0 0 false rfl rfl)
      have hq0 : ∀ w, (binOp .neq 54 (.agg #[.int .i64 0, .int .i64 0, .int .i64 0]) (.agg #[.int .i64 0, .int .i64 0, .int .i64 0])).run Tryd.prog w = .ok (.bool false) w := fun w => by rw [arc_neq 0 0 0 0 0 0 w]; simp
      have hcs : x = -1 ∨ x = (M : Int) := by omega
      clear hArc hin hwx
      rcases hcs with rfl | rfl
      case inl =>
        go_wp2_with fail
        refine HArc.out.mono ?_
        rintro e w7 ⟨rfl, hb7⟩
        obtain ⟨w8, hw8⟩ : ∃ u, u = w7.alloc (.cells #[.int .i64 0, .int .i64 0, .int .i64 0] 54) := ⟨_, rfl⟩
        obtain ⟨Ba, hBa⟩ : ∃ b, b = w7.heap.size := ⟨_, rfl⟩
        have hb8 : Below w7.heap.size w7 w8 := by rw [hw8]; exact (Below.refl _ _).alloc (Nat.le_refl _) _
        have kA : Blk w8 Ba #[.int .i64 0, .int .i64 0, .int .i64 0] 54 (0, 0) := by rw [hw8, hBa]; exact Blk.new _ _ _ _
        have t0 := kA.cell 0; have t1 := kA.cell 1; have t2 := kA.cell 2
        simp only [List.getElem?_toArray, List.getElem?_cons_succ, List.getElem?_cons_zero] at t0 t1 t2
        have Hb8 := Lib.hid (HBel.out.next' (hb7.next' hb8))
        have hS8 := HS.out w8 Hb8.out
        obtain ⟨s0, s1, s2, s3⟩ := hS8
        have HW8 := Lib.hid hw8; have HBa := Lib.hid hBa
        clear c0 c1 c2 c3 kA hw8 hBa hb7 hb8 HArc HBel
        go_wp2_with fail
        rw [← HW8.out, ← HBa.out]
        clear HW8 HBa
        go_wp2_with fail
        go_quiet (fail)
        generalize hwd : w8.drewN _ = wd at *
        have Hz : Hid (Below w1.heap.size w1 wd) := Lib.hid (by rw [← hwd]; exact below_drewN Hb8.out _)
        clear hwd Hb8 s0 s1 s2 s3 t0 t1 t2 hq0
        go_wp2_with fail
        go_roundw
        case rel => exact ⟨0, by omega, by omega, by first | rfl | go_num, Hz⟩
        case measure => first | (simp [intOf]; done) | (simp [intOf]; omega)
      case inr =>
        have hN0 : (0 : Int) ≤ (M : Int) := by omega
        have hwx : IntKind.i64.wrap ((M : Int) + 1) = (M : Int) + 1 := by rw [IntKind.wrap_i64]; omega
        go_wp2_with fail
        refine HArc.out.mono ?_
        rintro e w7 ⟨rfl, hb7⟩
        obtain ⟨w8, hw8⟩ : ∃ u, u = w7.alloc (.cells #[.int .i64 0, .int .i64 0, .int .i64 0] 54) := ⟨_, rfl⟩
        obtain ⟨Ba, hBa⟩ : ∃ b, b = w7.heap.size := ⟨_, rfl⟩
        have hb8 : Below w7.heap.size w7 w8 := by rw [hw8]; exact (Below.refl _ _).alloc (Nat.le_refl _) _
        have kA : Blk w8 Ba #[.int .i64 0, .int .i64 0, .int .i64 0] 54 (0, 0) := by rw [hw8, hBa]; exact Blk.new _ _ _ _
        have t0 := kA.cell 0; have t1 := kA.cell 1; have t2 := kA.cell 2
        simp only [List.getElem?_toArray, List.getElem?_cons_succ, List.getElem?_cons_zero] at t0 t1 t2
        have Hb8 := Lib.hid (HBel.out.next' (hb7.next' hb8))
        have hS8 := HS.out w8 Hb8.out
        obtain ⟨s0, s1, s2, s3⟩ := hS8
        have HW8 := Lib.hid hw8; have HBa := Lib.hid hBa
        clear c0 c1 c2 c3 kA hw8 hBa hb7 hb8 HArc HBel
        go_wp2_with fail
        rw [← HW8.out, ← HBa.out]
        clear HW8 HBa
        go_wp2_with fail
        go_quiet (fail)
        generalize hwd : w8.drewN _ = wd at *
        have Hz : Hid (Below w1.heap.size w1 wd) := Lib.hid (by rw [← hwd]; exact below_drewN Hb8.out _)
        clear hwd Hb8 s0 s1 s2 s3 t0 t1 t2 hq0
        go_wp2_with fail
        go_roundw
        case rel => exact ⟨(M : Int) + 1, by omega, by omega, by first | rfl | go_num, Hz⟩
        case measure => first | (simp [intOf]; done) | (simp [intOf]; omega)
  obtain rfl : x = (M : Int) + 1 := by omega
  go_wp2_with fail
  go_ret
  exact ⟨rfl, HB1.out.next' HBel.out⟩
end Go.Proofs.YtnkcmlngoeofgaaDoor
