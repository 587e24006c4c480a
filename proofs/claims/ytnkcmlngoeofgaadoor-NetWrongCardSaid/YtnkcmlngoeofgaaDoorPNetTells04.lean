/- Texts of the law NetTells, merged: NetRefTurned, NetTells. -/
import Derived.Test.YtnkcmlngoeofgaaDoorPNetTells03
import Derived.Test.YtnkcmlngoeofgaaDoorPNetOnce03
import Derived.Test.YtnkcmlngoeofgaaDoorPNetTells01
import Derived.Test.YtnkcmlngoeofgaaDoorPNetOnce10
/- milestoneref07.Turned. -/
namespace Go.Proofs.YtnkcmlngoeofgaaDoor
open Go.RowKit
theorem OutI.cellA {w1 W : World} {Bo : Nat} {vx vy : Value} {g n cap : Nat} {r : Raw} (h : OutI w1 Bo vx vy (.slice (some ⟨g, 0, none⟩) n cap) r W) (hn : r.arcs.length = n) (k d : Nat) (hk : k < r.arcs.length) (hd : d < 3) :
    (∃ v, W.cell? ⟨g, k * 3 + d, none⟩ = some v) ∧ W.frozen? ⟨g, k * 3 + d, none⟩ = false := by
  obtain ⟨_, _, hg⟩ := ownsRow_blk' h.own.2.2.1 (g := g) rfl
  refine ⟨?_, hg.free _ (Or.inr (Nat.zero_le _))⟩
  have sA : SlA W (.slice (some ⟨g, 0, none⟩) n cap) r.arcs := slA_own hn (by have h := h.own.2.2.1; rwa [hn] at h)
  obtain ⟨b, off, e, d0, d1, d2⟩ := sA.at k hk
  obtain ⟨rfl, rfl⟩ : g = b ∧ 0 = off := by simpa using e
  rw [Nat.zero_add] at d0 d1 d2
  match d, hd with
  | 0, _ => exact ⟨_, d0⟩
  | 1, _ => exact ⟨_, d1⟩
  | 2, _ => exact ⟨_, d2⟩
set_option maxRecDepth 100000 in
set_option maxHeartbeats 16000000 in
theorem refTurned7_any (v : Value) (r : Raw) (w : World) (h : RawV w v r) (hl : r.few) : Calls Tryd.prog 41 #[v] w fun e w' => ∃ v', e = .returned v' ∧ RawO w.heap.size w' v' r.turned ∧ Below w.heap.size w w' := by
  have h0 := h
  obtain ⟨vx, vy, va, rfl, hx, hy, ha⟩ := h
  have fx := hx.form; have fy := hy.form; have fa := id ha
  obtain ⟨Br, hBr⟩ : ∃ b, b = w.heap.size := ⟨_, rfl⟩
  obtain ⟨Bs, hBs⟩ : ∃ b, b = w.heap.size + 1 := ⟨_, rfl⟩
  obtain ⟨w1, hw1⟩ : ∃ w1, w1 = (w.alloc (.cells #[.int .i64 r.nodes, vx, vy, va] 25)).alloc (.cells #[.int .i64 0, .slice none 0 0, .slice none 0 0, .slice none 0 0] 25) := ⟨_, rfl⟩
  have hb1 : Below w.heap.size w w1 := by rw [hw1]; exact ((Below.refl _ _).alloc (Nat.le_refl _) _).alloc (by simp) _
  have KR : Blk w1 Br #[.int .i64 r.nodes, vx, vy, va] 25 (0, 0) := by rw [hw1, hBr]; exact (Blk.new _ _ _ _).alloc _
  have KS : Blk w1 Bs #[.int .i64 0, .slice none 0 0, .slice none 0 0, .slice none 0 0] 25 (0, 0) := by
    rw [hw1, hBs]
    have h := Blk.new (w.alloc (.cells #[.int .i64 r.nodes, vx, vy, va] 25)) #[.int .i64 0, .slice none 0 0, .slice none 0 0, .slice none 0 0] 25 (0, 0)
    rwa [World.size_alloc] at h
  have C := Lib.hid (copy7_any _ r w1 (h0.below hb1) hl)
  have HA := Lib.hid (ha.keep (KpC.of_below hb1))
  have HB1 := Lib.hid hb1; have HKR := Lib.hid KR; have HKS := Lib.hid KS; have HW1 := Lib.hid hw1; have HL := Lib.hid hl
  have HEr := Lib.hid hBr; have HEs := Lib.hid hBs
  have c0 := KR.cell 0; have c1 := KR.cell 1; have c2 := KR.cell 2; have c3 := KR.cell 3
  simp only [List.getElem?_toArray, List.getElem?_cons_succ, List.getElem?_cons_zero] at c0 c1 c2 c3
  clear h0 hx hy ha hb1 KR KS hw1 hl
  obtain ⟨x1, x2, x3, rfl⟩ := fx
  obtain ⟨y1, y2, y3, rfl⟩ := fy
  obtain ⟨ra, rc, rfl, hrc, hrm, _⟩ := fa
  unfold maxLen at hrm
  go_enter Tryd.func41, Tryd.ntmps41
  go_wp2_with fail
  rw [← HW1.out, ← HEs.out, ← HEr.out]
  clear hBr hBs
  go_wp2_with fail
  refine C.out.mono ?_
  rintro e w2 ⟨v2, rfl, ⟨vx, vy, va, rfl, o1, o2, o3, o4⟩, hb2⟩
  obtain ⟨Bt, hBt⟩ : ∃ b, b = w2.heap.size := ⟨_, rfl⟩
  obtain ⟨w3, hw3⟩ : ∃ w3, w3 = w2.alloc (.cells #[.int .i64 r.nodes, vx, vy, va] 25) := ⟨_, rfl⟩
  have hb3 : Below w2.heap.size w2 w3 := by rw [hw3]; exact (Below.refl _ _).alloc (Nat.le_refl _) _
  have K3 : Blk w3 Bt #[.int .i64 r.nodes, vx, vy, va] 25 (0, 0) := by rw [hw3, hBt]; exact Blk.new _ _ _ _
  have hO : Own3 w1.heap.size w3 vx vy va r := Own3.below ⟨o1, o2, o3, o4⟩ hb3
  have hb13 := hb2.next' hb3
  have hI : OutI w1 Bt vx vy va r w3 := ⟨K3, hO, ⟨hb13.os, hb13.tape, hb13.output, hb13.size, fun k hk _ => hb13.block k hk⟩⟩
  have hBl : w1.heap.size ≤ Bt := by rw [hBt]; exact hb2.size
  have HBl := Lib.hid hBl; have HI := Lib.hid hI; have HW3 := Lib.hid hw3; have HBt := Lib.hid hBt
  obtain ⟨xa, xc, rfl, _⟩ : ∃ a c, vx = .slice a r.X.length c ∧ True := by rcases o1.2 with ⟨h, h0⟩ | ⟨g, cap, cur, h, _⟩ <;> exact ⟨_, _, by first | exact h | (rw [h0]; exact h), trivial⟩
  obtain ⟨ya, yc, rfl, _⟩ : ∃ a c, vy = .slice a r.Y.length c ∧ True := by rcases o2.2 with ⟨h, h0⟩ | ⟨g, cap, cur, h, _⟩ <;> exact ⟨_, _, by first | exact h | (rw [h0]; exact h), trivial⟩
  obtain ⟨za, zc, rfl, hza⟩ : ∃ a c, va = .slice a r.arcs.length c ∧ (0 < r.arcs.length → ∃ g, a = some ⟨g, 0, none⟩) := by
    rcases o3.2 with ⟨h, h0⟩ | ⟨g, cap, cur, h, _⟩
    · exact ⟨_, _, by rw [h0]; exact h, fun h => by omega⟩
    · exact ⟨_, _, h, fun _ => ⟨g, rfl⟩⟩
  clear hI hw3 hO hb3 hb13 K3 o1 o2 o3 o4 hb2 C hBl hBt c0 c1 c2 c3
  go_wp2_with fail
  rw [← HW3.out, ← HBt.out]
  have hll : (r.arcs.length : Int) ≤ 1000000000000 := by have := HL.out.2.2; omega
  go_loopw [4] (fun i wr => ∃ (k : Nat), k ≤ r.arcs.length ∧ i = .int .i64 k ∧ Hid (OutI w1 Bt (.slice xa r.X.length xc) (.slice ya r.Y.length yc) (.slice za r.arcs.length zc) { r with arcs := (r.arcs.take k).map turnA ++ r.arcs.drop k } wr)) (fun i _ => r.arcs.length - (intOf i).toNat)
  case atStart => exact ⟨0, by omega, rfl, Lib.hid (by simpa using HI.out)⟩
  clear HI HW3
  obtain ⟨k, hk, rfl, hrel⟩ := hrel
  have HI := hrel
  clear hrel
  have hBrl : Br < w1.heap.size := HKR.out.lt
  have hBsl : Bs < w1.heap.size := HKS.out.lt
  have hNr : ¬ Br = Bt := by have := HBl.out; omega
  have HNr := Lib.hid hNr
  have hNs : ¬ Bs = Bt := by have := HBl.out; omega
  have HNs := Lib.hid hNs
  clear hNr hNs hBrl hBsl
  have o3 := HI.out.blk.cell 3
  change wr.cell? ⟨Bt, 3, none⟩ = some (.slice za r.arcs.length zc) at o3
  by_cases hlt : k < r.arcs.length
  case pos =>
    obtain ⟨g, rfl⟩ := hza (by omega)
    obtain ⟨b, off, rfl, d0, d1, _⟩ := HA.out.at k hlt
    have hbl := block_lt_of_cell d0
    have hbN : ¬ b = Bt := by have := HBl.out; dsimp only at hbl; omega
    have hlen : ((r.arcs.take k).map turnA ++ r.arcs.drop k).length = r.arcs.length := by rw [List.length_append, List.length_map, List.length_take, List.length_drop]; omega
    have hget : ((r.arcs.take k).map turnA ++ r.arcs.drop k)[k]'(by omega) = r.arcs[k] := by
      have hl : ((r.arcs.take k).map turnA).length = k := by rw [List.length_map, List.length_take]; omega
      rw [List.getElem_append_right (by omega)]
      simp only [hl, Nat.sub_self, List.getElem_drop, Nat.add_zero]
    have hst := turn_step r.arcs k hlt
    have hx : ∃ x, x = r.arcs[k] := ⟨_, rfl⟩
    obtain ⟨x, hx⟩ := hx
    rw [← hx] at d0 d1 hst
    obtain ⟨x0, x1, x2⟩ := x
    simp only at d0 d1 hst
    have hltI : (k : Int) < (r.arcs.length : Int) := by omega
    have i1 : (0 : Int) ≤ (k : Int) := by omega
    have hkl : k < ((r.arcs.take k).map turnA ++ r.arcs.drop k).length := by omega
    have hId := HI.out.below (Below.refl _ wr).drew
    have hI1 := hId.setA (u := x1) hlen k 0 hkl (by omega) (o := k * 3) rfl
    obtain ⟨⟨q0, e0⟩, ff0⟩ := hId.cellA hlen k 0 hkl (by omega)
    rw [Nat.add_zero] at e0 ff0
    have hkl2 : k < (((r.arcs.take k).map turnA ++ r.arcs.drop k).set k (setArc 0 x1 (((r.arcs.take k).map turnA ++ r.arcs.drop k)[k]'hkl))).length := by rw [List.length_set]; exact hkl
    obtain ⟨W1, hW1⟩ : ∃ W, W = wr.drew.setCell ⟨g, k * 3, none⟩ (.int .i64 x1) := ⟨_, rfl⟩
    rw [← hW1] at hI1
    have hI1d := hI1.below (Below.refl _ W1).drew
    have hI2 := hI1d.setA (u := x0) ((List.length_set ..).trans hlen) k 1 hkl2 (by omega) (o := k * 3 + 1) rfl
    obtain ⟨⟨q1, e1⟩, ff1⟩ := hI1d.cellA ((List.length_set ..).trans hlen) k 1 hkl2 (by omega)
    have hfin : ((((r.arcs.take k).map turnA ++ r.arcs.drop k).set k (setArc 0 x1 (((r.arcs.take k).map turnA ++ r.arcs.drop k)[k]'(by omega)))).set k (setArc 1 x0 ((((r.arcs.take k).map turnA ++ r.arcs.drop k).set k (setArc 0 x1 (((r.arcs.take k).map turnA ++ r.arcs.drop k)[k]'(by omega))))[k]'(by rw [List.length_set]; omega)))) = (r.arcs.take (k + 1)).map turnA ++ r.arcs.drop (k + 1) := by
      rw [List.getElem_set_self, hget, ← hx]; exact hst
    obtain ⟨W2, hW2⟩ : ∃ W, W = W1.drew.setCell ⟨g, k * 3 + 1, none⟩ (.int .i64 x0) := ⟨_, rfl⟩
    have hI3 : OutI w1 Bt (.slice xa r.X.length xc) (.slice ya r.Y.length yc) (.slice (some ⟨g, 0, none⟩) r.arcs.length zc) { r with arcs := (r.arcs.take (k + 1)).map turnA ++ r.arcs.drop (k + 1) } W2 := by
      rw [← hfin, hW2]; exact hI2
    have cl : ∀ {W : World} {r' : Raw} {va : Value}, OutI w1 Bt (.slice xa r.X.length xc) (.slice ya r.Y.length yc) va r' W → W.cell? ⟨b, off + k * 3, none⟩ = some (.int .i64 x0) ∧ W.cell? ⟨b, off + k * 3 + 1, none⟩ = some (.int .i64 x1) ∧ W.cell? ⟨Br, 3, none⟩ = some (.slice (some ⟨b, off, none⟩) r.arcs.length rc) := fun h =>
      ⟨(World.cell?_of_block (h.kept.block b hbl hbN)).trans d0, (World.cell?_of_block (h.kept.block b hbl hbN)).trans d1, (h.kept.blk HKR.out HNr.out).cell 3⟩
    have hS0 : wr.drew.cell? ⟨Bt, 3, none⟩ = some (.slice (some ⟨g, 0, none⟩) r.arcs.length zc) ∧ wr.drew.cell? ⟨Br, 3, none⟩ = some (.slice (some ⟨b, off, none⟩) r.arcs.length rc) ∧ wr.drew.cell? ⟨b, off + k * 3 + 1, none⟩ = some (.int .i64 x1) := ⟨o3, (cl hId).2.2, (cl hId).2.1⟩
    have hS1 : W1.drew.cell? ⟨Bt, 3, none⟩ = some (.slice (some ⟨g, 0, none⟩) r.arcs.length zc) ∧ W1.drew.cell? ⟨Br, 3, none⟩ = some (.slice (some ⟨b, off, none⟩) r.arcs.length rc) ∧ W1.drew.cell? ⟨b, off + k * 3, none⟩ = some (.int .i64 x0) := ⟨hI1.blk.cell 3, (cl hI1d).2.2, (cl hI1d).1⟩
    have HS1 := Lib.hid hS1; have HI3 := Lib.hid hI3; have HWq1 := Lib.hid hW1; have HWq2 := Lib.hid hW2
    have HE1 := Lib.hid (And.intro e1 ff1)
    clear HI hbl hbN hlen hget hst hx hkl hId hI1 hkl2 hI1d hI2 hfin hI3 hS1 hW1 hW2 d0 d1 cl e1 ff1
    go_wp2_with fail
    refine wp_region_heldD (fun w' => w'.cell? ⟨Bt, 3, none⟩ = some (.slice (some ⟨g, 0, none⟩) r.arcs.length zc) ∧ w'.cell? ⟨Br, 3, none⟩ = some (.slice (some ⟨b, off, none⟩) r.arcs.length rc) ∧ w'.cell? ⟨b, off + k * 3 + 1, none⟩ = some (.int .i64 x1)) 11 rfl ?_
    change heldD _ _ _ _ _ _ _ 12 _ _ wr.drew
    refine heldD_takeF (i := 0) (v := .pointer (some ⟨Bt, 3, none⟩)) rfl rfl rfl (by kernel_rfl) (by kernel_rfl) (by kernel_rfl) (by kernel_rfl) (fun _ _ _ h => h) (by rfl) (fun w => ⟨by rfl, by go_simp⟩) (fun _ => hS0) ?_
    simp only [List.setIfInBounds_toArray, List.set_cons_zero, List.set_cons_succ]
    refine heldD_take (i := 1) (v := .slice (some ⟨g, 0, none⟩) r.arcs.length zc) rfl rfl rfl (by kernel_rfl) (by kernel_rfl) (by kernel_rfl) (by kernel_rfl) (by kernel_rfl) (by kernel_rfl) (fun _ _ _ h => h) (by rfl) (fun w hS => ⟨by rfl, by obtain ⟨hS1', hS2', hS3'⟩ := hS; go_simp⟩) hS0 ?_
    simp only [List.setIfInBounds_toArray, List.set_cons_zero, List.set_cons_succ]
    refine heldD_takeF (i := 2) (v := .int .i64 (k : Nat)) rfl rfl rfl (by kernel_rfl) (by kernel_rfl) (by kernel_rfl) (by kernel_rfl) (fun _ _ _ h => h) (by rfl) (fun w => ⟨by rfl, by go_simp⟩) (fun _ => hS0) ?_
    simp only [List.setIfInBounds_toArray, List.set_cons_zero, List.set_cons_succ]
    refine heldD_takeF (i := 3) (v := .pointer (some ⟨Br, 3, none⟩)) rfl rfl rfl (by kernel_rfl) (by kernel_rfl) (by kernel_rfl) (by kernel_rfl) (fun _ _ _ h => h) (by rfl) (fun w => ⟨by rfl, by go_simp⟩) (fun _ => hS0) ?_
    simp only [List.setIfInBounds_toArray, List.set_cons_zero, List.set_cons_succ]
    refine heldD_take (i := 4) (v := .slice (some ⟨b, off, none⟩) r.arcs.length rc) rfl rfl rfl (by kernel_rfl) (by kernel_rfl) (by kernel_rfl) (by kernel_rfl) (by kernel_rfl) (by kernel_rfl) (fun _ _ _ h => h) (by rfl) (fun w hS => ⟨by rfl, by obtain ⟨hS1', hS2', hS3'⟩ := hS; go_simp⟩) hS0 ?_
    simp only [List.setIfInBounds_toArray, List.set_cons_zero, List.set_cons_succ]
    refine heldD_takeF (i := 5) (v := .int .i64 (k : Nat)) rfl rfl rfl (by kernel_rfl) (by kernel_rfl) (by kernel_rfl) (by kernel_rfl) (fun _ _ _ h => h) (by rfl) (fun w => ⟨by rfl, by go_simp⟩) (fun _ => hS0) ?_
    simp only [List.setIfInBounds_toArray, List.set_cons_zero, List.set_cons_succ]
    refine heldD_takeF (i := 6) (v := .pointer (some ⟨b, off + k * 3, none⟩)) rfl rfl rfl (by kernel_rfl) (by kernel_rfl) (by kernel_rfl) (by kernel_rfl) (fun _ _ _ h => h) (by rfl) (fun w => ⟨by rfl, by go_simp⟩) (fun _ => hS0) ?_
    simp only [List.setIfInBounds_toArray, List.set_cons_zero, List.set_cons_succ]
    refine heldD_takeF (i := 7) (v := .pointer (some ⟨b, off + k * 3 + 1, none⟩)) rfl rfl rfl (by kernel_rfl) (by kernel_rfl) (by kernel_rfl) (by kernel_rfl) (fun _ _ _ h => h) (by rfl) (fun w => ⟨by rfl, by go_simp⟩) (fun _ => hS0) ?_
    simp only [List.setIfInBounds_toArray, List.set_cons_zero, List.set_cons_succ]
    refine heldD_take (i := 8) (v := .int .i64 x1) rfl rfl rfl (by kernel_rfl) (by kernel_rfl) (by kernel_rfl) (by kernel_rfl) (by kernel_rfl) (by kernel_rfl) (fun _ _ _ h => h) (by rfl) (fun w hS => ⟨by rfl, by obtain ⟨hS1', hS2', hS3'⟩ := hS; go_simp⟩) hS0 ?_
    simp only [List.setIfInBounds_toArray, List.set_cons_zero, List.set_cons_succ]
    refine heldD_takeF (i := 9) (v := .pointer (some ⟨g, k * 3, none⟩)) rfl rfl rfl (by kernel_rfl) (by kernel_rfl) (by kernel_rfl) (by kernel_rfl) (fun _ _ _ h => h) (by rfl) (fun w => ⟨by rfl, by go_simp⟩) (fun _ => hS0) ?_
    simp only [List.setIfInBounds_toArray, List.set_cons_zero, List.set_cons_succ]
    refine heldD_takeF (i := 10) (v := .pointer (some ⟨g, k * 3, none⟩)) rfl rfl rfl (by kernel_rfl) (by kernel_rfl) (by kernel_rfl) (by kernel_rfl) (fun _ _ _ h => h) (by rfl) (fun w => ⟨by rfl, by go_simp⟩) (fun _ => hS0) ?_
    simp only [List.setIfInBounds_toArray, List.set_cons_zero, List.set_cons_succ]
    refine heldD_one (i := 11) (by kernel_rfl) ?_
    refine wpOpIn_skip (w' := W1) rfl rfl rfl (by rfl) (by rfl) (by rw [HWq1.out]; go_simp) ?_
    refine ⟨fun h => (by cases h), ?_⟩
    refine heldD_done (by kernel_rfl) ?_ _
    clear hS0 e0 ff0 o3
    have hS0 := HS1.out
    have e1 := HE1.out.1; have ff1 := HE1.out.2
    go_wp2_with fail
    refine wp_region_heldD (fun w' => w'.cell? ⟨Bt, 3, none⟩ = some (.slice (some ⟨g, 0, none⟩) r.arcs.length zc) ∧ w'.cell? ⟨Br, 3, none⟩ = some (.slice (some ⟨b, off, none⟩) r.arcs.length rc) ∧ w'.cell? ⟨b, off + k * 3, none⟩ = some (.int .i64 x0)) 11 rfl ?_
    change heldD _ _ _ _ _ _ _ 12 _ _ W1.drew
    refine heldD_takeF (i := 0) (v := .pointer (some ⟨Bt, 3, none⟩)) rfl rfl rfl (by kernel_rfl) (by kernel_rfl) (by kernel_rfl) (by kernel_rfl) (fun _ _ _ h => h) (by rfl) (fun w => ⟨by rfl, by go_simp⟩) (fun _ => hS0) ?_
    simp only [List.setIfInBounds_toArray, List.set_cons_zero, List.set_cons_succ]
    refine heldD_take (i := 1) (v := .slice (some ⟨g, 0, none⟩) r.arcs.length zc) rfl rfl rfl (by kernel_rfl) (by kernel_rfl) (by kernel_rfl) (by kernel_rfl) (by kernel_rfl) (by kernel_rfl) (fun _ _ _ h => h) (by rfl) (fun w hS => ⟨by rfl, by obtain ⟨hS1', hS2', hS3'⟩ := hS; go_simp⟩) hS0 ?_
    simp only [List.setIfInBounds_toArray, List.set_cons_zero, List.set_cons_succ]
    refine heldD_takeF (i := 2) (v := .int .i64 (k : Nat)) rfl rfl rfl (by kernel_rfl) (by kernel_rfl) (by kernel_rfl) (by kernel_rfl) (fun _ _ _ h => h) (by rfl) (fun w => ⟨by rfl, by go_simp⟩) (fun _ => hS0) ?_
    simp only [List.setIfInBounds_toArray, List.set_cons_zero, List.set_cons_succ]
    refine heldD_takeF (i := 3) (v := .pointer (some ⟨Br, 3, none⟩)) rfl rfl rfl (by kernel_rfl) (by kernel_rfl) (by kernel_rfl) (by kernel_rfl) (fun _ _ _ h => h) (by rfl) (fun w => ⟨by rfl, by go_simp⟩) (fun _ => hS0) ?_
    simp only [List.setIfInBounds_toArray, List.set_cons_zero, List.set_cons_succ]
    refine heldD_take (i := 4) (v := .slice (some ⟨b, off, none⟩) r.arcs.length rc) rfl rfl rfl (by kernel_rfl) (by kernel_rfl) (by kernel_rfl) (by kernel_rfl) (by kernel_rfl) (by kernel_rfl) (fun _ _ _ h => h) (by rfl) (fun w hS => ⟨by rfl, by obtain ⟨hS1', hS2', hS3'⟩ := hS; go_simp⟩) hS0 ?_
    simp only [List.setIfInBounds_toArray, List.set_cons_zero, List.set_cons_succ]
    refine heldD_takeF (i := 5) (v := .int .i64 (k : Nat)) rfl rfl rfl (by kernel_rfl) (by kernel_rfl) (by kernel_rfl) (by kernel_rfl) (fun _ _ _ h => h) (by rfl) (fun w => ⟨by rfl, by go_simp⟩) (fun _ => hS0) ?_
    simp only [List.setIfInBounds_toArray, List.set_cons_zero, List.set_cons_succ]
    refine heldD_takeF (i := 6) (v := .pointer (some ⟨b, off + k * 3, none⟩)) rfl rfl rfl (by kernel_rfl) (by kernel_rfl) (by kernel_rfl) (by kernel_rfl) (fun _ _ _ h => h) (by rfl) (fun w => ⟨by rfl, by go_simp⟩) (fun _ => hS0) ?_
    simp only [List.setIfInBounds_toArray, List.set_cons_zero, List.set_cons_succ]
    refine heldD_takeF (i := 7) (v := .pointer (some ⟨b, off + k * 3, none⟩)) rfl rfl rfl (by kernel_rfl) (by kernel_rfl) (by kernel_rfl) (by kernel_rfl) (fun _ _ _ h => h) (by rfl) (fun w => ⟨by rfl, by go_simp⟩) (fun _ => hS0) ?_
    simp only [List.setIfInBounds_toArray, List.set_cons_zero, List.set_cons_succ]
    refine heldD_take (i := 8) (v := .int .i64 x0) rfl rfl rfl (by kernel_rfl) (by kernel_rfl) (by kernel_rfl) (by kernel_rfl) (by kernel_rfl) (by kernel_rfl) (fun _ _ _ h => h) (by rfl) (fun w hS => ⟨by rfl, by obtain ⟨hS1', hS2', hS3'⟩ := hS; go_simp⟩) hS0 ?_
    simp only [List.setIfInBounds_toArray, List.set_cons_zero, List.set_cons_succ]
    refine heldD_takeF (i := 9) (v := .pointer (some ⟨g, k * 3, none⟩)) rfl rfl rfl (by kernel_rfl) (by kernel_rfl) (by kernel_rfl) (by kernel_rfl) (fun _ _ _ h => h) (by rfl) (fun w => ⟨by rfl, by go_simp⟩) (fun _ => hS0) ?_
    simp only [List.setIfInBounds_toArray, List.set_cons_zero, List.set_cons_succ]
    refine heldD_takeF (i := 10) (v := .pointer (some ⟨g, k * 3 + 1, none⟩)) rfl rfl rfl (by kernel_rfl) (by kernel_rfl) (by kernel_rfl) (by kernel_rfl) (fun _ _ _ h => h) (by rfl) (fun w => ⟨by rfl, by go_simp⟩) (fun _ => hS0) ?_
    simp only [List.setIfInBounds_toArray, List.set_cons_zero, List.set_cons_succ]
    refine heldD_one (i := 11) (by kernel_rfl) ?_
    refine wpOpIn_skip (w' := W2) rfl rfl rfl (by rfl) (by rfl) (by rw [HWq2.out]; go_simp) ?_
    refine ⟨fun h => (by cases h), ?_⟩
    refine heldD_done (by kernel_rfl) ?_ _
    clear hS0 e1 ff1
    go_wp2_with fail
    go_roundw
    case rel => exact ⟨k + 1, by omega, by go_num, HI3⟩
    case measure => simp [intOf]; omega
  obtain rfl : k = r.arcs.length := by omega
  have hI := HI.out
  have he : (r.arcs.take r.arcs.length).map turnA ++ r.arcs.drop r.arcs.length = r.arcs.map turnA := by simp
  rw [he] at hI
  have bO := hI.blk
  have c0 := bO.cell 0; have c1 := bO.cell 1; have c2 := bO.cell 2
  change wr.cell? ⟨Bt, 0, none⟩ = some (.int .i64 r.nodes) at c0
  change wr.cell? ⟨Bt, 1, none⟩ = some (.slice xa r.X.length xc) at c1
  change wr.cell? ⟨Bt, 2, none⟩ = some (.slice ya r.Y.length yc) at c2
  have bT := hI.kept.blk HKS.out HNs.out
  have hBl := HBl.out
  have hsz1 := HB1.out.size
  have hle : w.heap.size ≤ Bs := by rw [HEs.out]; omega
  have h4 := store4 (w0 := w) hI.own bT hle (below_of HB1.out hI.kept (by omega))
  have e0 := bT.cell 0; have e1 := bT.cell 1; have e2 := bT.cell 2; have e3 := bT.cell 3
  change wr.cell? ⟨Bs, 0, none⟩ = some (.int .i64 0) at e0
  change wr.cell? ⟨Bs, 1, none⟩ = some (.slice none 0 0) at e1
  change wr.cell? ⟨Bs, 2, none⟩ = some (.slice none 0 0) at e2
  change wr.cell? ⟨Bs, 3, none⟩ = some (.slice none 0 0) at e3
  have fr := fun i => bT.free i (Or.inr (Nat.zero_le _))
  have f0 := fr 0; have f1 := fr 1; have f2 := fr 2; have f3 := fr 3
  dsimp only at h4
  have H4 := Lib.hid h4
  clear h4 bT bO hI he HI fr hBl hle hlt
  go_wp2_with fail
  generalize (((wr.setCell ⟨Bs, 0, none⟩ (.int .i64 r.nodes)).setCell ⟨Bs, 1, none⟩ (.slice xa r.X.length xc)).setCell ⟨Bs, 2, none⟩ (.slice ya r.Y.length yc)).setCell ⟨Bs, 3, none⟩ (.slice za r.arcs.length zc) = wz at *
  have z0 := H4.out.1.cell 0; have z1 := H4.out.1.cell 1; have z2 := H4.out.1.cell 2; have z3 := H4.out.1.cell 3
  simp only [List.getElem?_toArray, List.getElem?_cons_succ, List.getElem?_cons_zero] at z0 z1 z2 z3
  exact bodyPost_ret (v := .agg #[.int .i64 r.nodes, .slice xa r.X.length xc, .slice ya r.Y.length yc, .slice za r.arcs.length zc]) (by simp [results, Tryd.results41, go_sem, z0, z1, z2, z3]) rfl ⟨_, rfl, ⟨_, _, _, rfl, ownsRow_le H4.out.2.1.1 hsz1, ownsRow_le H4.out.2.1.2.1 hsz1, ownsRow_le H4.out.2.1.2.2.1 hsz1, H4.out.2.1.2.2.2⟩, H4.out.2.2⟩
end Go.Proofs.YtnkcmlngoeofgaaDoor
/- NetTells, its walk. -/
namespace Go.Proofs.YtnkcmlngoeofgaaDoor
open Go.RowKit
set_option maxRecDepth 100000 in
set_option maxHeartbeats 16000000 in
theorem netTells_any (v : Value) (l : List Int) (w : World) (h : SlI w v .u8 l) (hg : HG w) : Calls Tryd.prog 8 #[v] w fun e w' => e = .returned (.bool true) ∧ Below w.heap.size w w' := by
  have HSl := Lib.hid h
  have HG0 := Lib.hid hg
  clear h hg
  go_enter Tryd.func8, Tryd.ntmps8
  go_wp2_with fail
  refine (drawn7_any v l w HSl.out).mono ?_
  rintro e w2 ⟨vg, g, rfl, ⟨vx, vy, va, rfl, o1, o2, o3, o4⟩, hok, hgl, hb2⟩
  obtain ⟨xa, xc, rfl, _⟩ := ownForm o1
  obtain ⟨ya, yc, rfl, _⟩ := ownForm o2
  obtain ⟨za, zc, rfl, _⟩ := ownForm o3
  have hraw : RawV w2 (.agg #[.int .i64 g.nodes, .slice xa g.X.length xc, .slice ya g.Y.length yc, .slice za g.arcs.length zc]) g := ⟨_, _, _, rfl, slX_own rfl o1, slX_own rfl o2, slA_own rfl o3⟩
  obtain ⟨B3, hB3⟩ : ∃ b, b = w2.heap.size := ⟨_, rfl⟩
  obtain ⟨w3, hw3⟩ : ∃ u, u = w2.alloc (.cells #[.int .i64 g.nodes, .slice xa g.X.length xc, .slice ya g.Y.length yc, .slice za g.arcs.length zc] 25) := ⟨_, rfl⟩
  have hb3 : Below w2.heap.size w2 w3 := by rw [hw3]; exact (Below.refl _ _).alloc (Nat.le_refl _) _
  have K3 : Blk w3 B3 #[.int .i64 g.nodes, .slice xa g.X.length xc, .slice ya g.Y.length yc, .slice za g.arcs.length zc] 25 (0, 0) := by rw [hw3, hB3]; exact Blk.new _ _ _ _
  have HB3 := Lib.hid (hb2.next' hb3)
  have C := Lib.hid (new_any _ g w3 (HG0.out.later HB3.out) (hraw.below hb3) hok.few)
  have HV3 := Lib.hid (hraw.below hb3)
  have HK3 := Lib.hid K3; have HW3 := Lib.hid hw3; have HE3 := Lib.hid hB3; have HOk := Lib.hid hok; have HGl := Lib.hid hgl
  have c0 := K3.cell 0; have c1 := K3.cell 1; have c2 := K3.cell 2; have c3 := K3.cell 3
  simp only [List.getElem?_toArray, List.getElem?_cons_succ, List.getElem?_cons_zero] at c0 c1 c2 c3
  clear o1 o2 o3 o4 hok hgl hraw hB3 hw3 hb3 K3 hb2
  go_wp2_with fail
  rw [← HW3.out, ← HE3.out]
  go_wp2_with fail
  refine C.out.mono ?_
  rintro e w4 ⟨h | h, hb4⟩
  · exact absurd (g.ok_iff.2 HOk.out) h.1
  obtain ⟨_, p, rfl, hn⟩ := h
  have HB4 := Lib.hid (HB3.out.next' hb4); have HNet := Lib.hid hn.all
  have HS := Lib.hid (show ∀ u, Below w4.heap.size w4 u → u.cell? ⟨B3, 0, none⟩ = some (.int .i64 g.nodes) ∧ u.cell? ⟨B3, 1, none⟩ = some (.slice xa g.X.length xc) ∧ u.cell? ⟨B3, 2, none⟩ = some (.slice ya g.Y.length yc) ∧ u.cell? ⟨B3, 3, none⟩ = some (.slice za g.arcs.length zc) from fun u hu => ⟨(HK3.out.below (hb4.next' hu) HK3.out.lt).cell 0, (HK3.out.below (hb4.next' hu) HK3.out.lt).cell 1, (HK3.out.below (hb4.next' hu) HK3.out.lt).cell 2, (HK3.out.below (hb4.next' hu) HK3.out.lt).cell 3⟩)
  have HV := Lib.hid (show ∀ u, Below w4.heap.size w4 u → RawV u (.agg #[.int .i64 g.nodes, .slice xa g.X.length xc, .slice ya g.Y.length yc, .slice za g.arcs.length zc]) g from fun u hu => HV3.out.below (hb4.next' hu))
  have HBel := Lib.hid (Below.refl w4.heap.size w4)
  clear hn hb4 C c0 c1 c2 c3 HV3 HK3
  go_wp2_with fail
  refine wp_region_held (S := fun w' => w'.cell? ⟨B3, 0, none⟩ = some (.int .i64 g.nodes) ∧ w'.cell? ⟨B3, 1, none⟩ = some (.slice xa g.X.length xc) ∧ w'.cell? ⟨B3, 2, none⟩ = some (.slice ya g.Y.length yc) ∧ w'.cell? ⟨B3, 3, none⟩ = some (.slice za g.arcs.length zc)) rfl ?_
  have hS0 := HS.out w4.drew (HBel.out.drew)
  change wpAnyH _ _ _ _ _ 18 _ _ w4.drew
  have HBe := Lib.hid (HBel.out.drew)
  refine heldA_take (i := 0) (v := .nilIface) rfl rfl (by kernel_rfl) (by kernel_rfl) (by kernel_rfl) (fun _ _ _ h => h) (by rfl) (fun w hS => by obtain ⟨hS1, hS2, hS3, hS4⟩ := hS; go_simp) hS0 ?_
  simp only [List.setIfInBounds_toArray, List.set_cons_zero, List.set_cons_succ]
  refine heldA_take (i := 1) (v := .bool true) rfl rfl (by kernel_rfl) (by kernel_rfl) (by kernel_rfl) (fun _ _ _ h => h) (by rfl) (fun w hS => by obtain ⟨hS1, hS2, hS3, hS4⟩ := hS; go_simp) hS0 ?_
  simp only [List.setIfInBounds_toArray, List.set_cons_zero, List.set_cons_succ]
  refine heldA_take (i := 2) (v := .bool true) rfl rfl (by kernel_rfl) (by kernel_rfl) (by kernel_rfl) (fun _ _ _ h => h) (by rfl) (fun w hS => by obtain ⟨hS1, hS2, hS3, hS4⟩ := hS; go_simp) hS0 ?_
  simp only [List.setIfInBounds_toArray, List.set_cons_zero, List.set_cons_succ]
  refine heldA_take (i := 3) (v := .pointer (some ⟨p, 0, none⟩)) rfl rfl (by kernel_rfl) (by kernel_rfl) (by kernel_rfl) (fun _ _ _ h => h) (by rfl) (fun w hS => by obtain ⟨hS1, hS2, hS3, hS4⟩ := hS; go_simp) hS0 ?_
  simp only [List.setIfInBounds_toArray, List.set_cons_zero, List.set_cons_succ]
  refine heldA_take (i := 4) (v := .agg #[.int .i64 g.nodes, .slice xa g.X.length xc, .slice ya g.Y.length yc, .slice za g.arcs.length zc]) rfl rfl (by kernel_rfl) (by kernel_rfl) (by kernel_rfl) (fun _ _ _ h => h) (by rfl) (fun w hS => by obtain ⟨hS1, hS2, hS3, hS4⟩ := hS; go_simp) hS0 ?_
  simp only [List.setIfInBounds_toArray, List.set_cons_zero, List.set_cons_succ]
  refine heldA_one (i := 5) (by kernel_rfl) ?_
  refine wpOp_calls (f := 40) rfl rfl (by rfl) (by go_simp) (is7_any p _ g w4.drew (HNet.out _ HBe.out) (HV.out _ HBe.out) HOk.out (by have := HGl.out.2; omega)) ?_ (by rintro _ _ ⟨h, _⟩; cases h) (by rintro _ ⟨h, _⟩; cases h)
  rintro _ u1 ⟨⟨rfl⟩, hb⟩
  have HBn := Lib.hid (HBe.out.trans (hb.mono HBe.out.size))
  replace HBe := HBn
  clear HBn hb hS0
  have hS0 := HS.out u1 HBe.out
  refine ⟨hS0, ?_⟩
  simp only [List.setIfInBounds_toArray, List.set_cons_zero, List.set_cons_succ]
  refine heldA_take (i := 6) (v := .bool true) rfl rfl (by kernel_rfl) (by kernel_rfl) (by kernel_rfl) (fun _ _ _ h => h) (by rfl) (fun w hS => by obtain ⟨hS1, hS2, hS3, hS4⟩ := hS; go_simp) hS0 ?_
  simp only [List.setIfInBounds_toArray, List.set_cons_zero, List.set_cons_succ]
  refine heldA_take (i := 7) (v := .bool true) rfl rfl (by kernel_rfl) (by kernel_rfl) (by kernel_rfl) (fun _ _ _ h => h) (by rfl) (fun w hS => by obtain ⟨hS1, hS2, hS3, hS4⟩ := hS; go_simp) hS0 ?_
  simp only [List.setIfInBounds_toArray, List.set_cons_zero, List.set_cons_succ]
  refine heldA_take (i := 8) (v := .pointer (some ⟨p, 0, none⟩)) rfl rfl (by kernel_rfl) (by kernel_rfl) (by kernel_rfl) (fun _ _ _ h => h) (by rfl) (fun w hS => by obtain ⟨hS1, hS2, hS3, hS4⟩ := hS; go_simp) hS0 ?_
  simp only [List.setIfInBounds_toArray, List.set_cons_zero, List.set_cons_succ]
  refine heldA_take (i := 10) (v := .agg #[.int .i64 g.nodes, .slice xa g.X.length xc, .slice ya g.Y.length yc, .slice za g.arcs.length zc]) rfl rfl (by kernel_rfl) (by kernel_rfl) (by kernel_rfl) (fun _ _ _ h => h) (by rfl) (fun w hS => by obtain ⟨hS1, hS2, hS3, hS4⟩ := hS; go_simp) hS0 ?_
  simp only [List.setIfInBounds_toArray, List.set_cons_zero, List.set_cons_succ]
  refine heldA_one (i := 9) (by kernel_rfl) ?_
  refine wpOp_calls (f := 31) rfl rfl (by rfl) (by go_simp) (turnedN_any p g u1 (HNet.out _ HBe.out) HOk.out.few HOk.out) ?_ (by rintro _ _ ⟨_, h, _⟩; cases h) (by rintro _ ⟨_, h, _⟩; cases h)
  rintro _ u2 ⟨q, ⟨rfl⟩, hq, hb⟩
  have HBn := Lib.hid (HBe.out.trans (hb.mono HBe.out.size))
  have HQ := Lib.hid hq.all
  clear hq
  replace HBe := HBn
  clear HBn hb hS0
  have hS0 := HS.out u2 HBe.out
  refine ⟨hS0, ?_⟩
  simp only [List.setIfInBounds_toArray, List.set_cons_zero, List.set_cons_succ]
  refine heldA_one (i := 11) (by kernel_rfl) ?_
  refine wpOp_calls (f := 41) rfl rfl (by rfl) (by go_simp) (refTurned7_any _ g u2 (HV.out _ HBe.out) HOk.out.few) ?_ (by rintro _ _ ⟨_, h, _⟩; cases h) (by rintro _ ⟨_, h, _⟩; cases h)
  rintro vt u3 ⟨_, ⟨rfl⟩, hr, hb⟩
  have HBn := Lib.hid (HBe.out.trans (hb.mono HBe.out.size))
  have HR := Lib.hid hr.raw
  have HQ3 := Lib.hid (HQ.out u3 hb)
  clear hr HQ
  replace HBe := HBn
  clear HBn hb hS0
  have hS0 := HS.out u3 HBe.out
  refine ⟨hS0, ?_⟩
  simp only [List.setIfInBounds_toArray, List.set_cons_zero, List.set_cons_succ]
  refine heldA_one (i := 12) (by kernel_rfl) ?_
  refine wpOp_calls (f := 40) rfl rfl (by rfl) (by go_simp) (is7_any q vt g.turned u3 HQ3.out HR.out (Raw.turned_okB HOk.out) (by show (g.arcs.map turnA).length ≤ _; rw [List.length_map]; have := HGl.out.2; omega)) ?_ (by rintro _ _ ⟨h, _⟩; cases h) (by rintro _ ⟨h, _⟩; cases h)
  rintro _ u4 ⟨⟨rfl⟩, hb⟩
  have HBn := Lib.hid (HBe.out.trans (hb.mono HBe.out.size))
  clear HR HQ3
  replace HBe := HBn
  clear HBn hb hS0
  have hS0 := HS.out u4 HBe.out
  refine ⟨hS0, ?_⟩
  simp only [List.setIfInBounds_toArray, List.set_cons_zero, List.set_cons_succ]
  refine heldA_take (i := 13) (v := .bool true) rfl rfl (by kernel_rfl) (by kernel_rfl) (by kernel_rfl) (fun _ _ _ h => h) (by rfl) (fun w hS => by obtain ⟨hS1, hS2, hS3, hS4⟩ := hS; go_simp) hS0 ?_
  simp only [List.setIfInBounds_toArray, List.set_cons_zero, List.set_cons_succ]
  refine heldA_take (i := 14) (v := .bool true) rfl rfl (by kernel_rfl) (by kernel_rfl) (by kernel_rfl) (fun _ _ _ h => h) (by rfl) (fun w hS => by obtain ⟨hS1, hS2, hS3, hS4⟩ := hS; go_simp) hS0 ?_
  simp only [List.setIfInBounds_toArray, List.set_cons_zero, List.set_cons_succ]
  refine heldA_one (i := 15) (by kernel_rfl) ?_
  refine wpOp_calls (f := 28) rfl rfl (by rfl) (by go_simp) (works7_any u4 (HG0.out.later (HB4.out.next' HBe.out))) ?_ (by rintro _ _ ⟨h, _⟩; cases h) (by rintro _ ⟨h, _⟩; cases h)
  rintro _ u5 ⟨⟨rfl⟩, hb⟩
  have HBn := Lib.hid (HBe.out.trans (hb.mono HBe.out.size))
  replace HBe := HBn
  clear HBn hb hS0
  have hS0 := HS.out u5 HBe.out
  refine ⟨hS0, ?_⟩
  simp only [List.setIfInBounds_toArray, List.set_cons_zero, List.set_cons_succ]
  refine heldA_take (i := 16) (v := .bool true) rfl rfl (by kernel_rfl) (by kernel_rfl) (by kernel_rfl) (fun _ _ _ h => h) (by rfl) (fun w hS => by obtain ⟨hS1, hS2, hS3, hS4⟩ := hS; go_simp) hS0 ?_
  simp only [List.setIfInBounds_toArray, List.set_cons_zero, List.set_cons_succ]
  refine heldA_take (i := 17) (v := .bool true) rfl rfl (by kernel_rfl) (by kernel_rfl) (by kernel_rfl) (fun _ _ _ h => h) (by rfl) (fun w hS => by obtain ⟨hS1, hS2, hS3, hS4⟩ := hS; go_simp) hS0 ?_
  simp only [List.setIfInBounds_toArray, List.set_cons_zero, List.set_cons_succ]
  refine wpAnyH_done (by kernel_rfl) ?_ _
  clear hS0
  go_wp2_with fail
  go_ret
  exact ⟨rfl, HB4.out.next' HBe.out⟩
theorem netTells_rd (v : Value) (W : World) (R : Rd Tryd.prog W 56 [v]) (hg : HG W) : Calls Tryd.prog 8 #[v] W fun e w' => e = .returned (.bool true) ∧ Below W.heap.size W w' := by
  obtain ⟨l, h, _⟩ := Rd.ints Tryd.underlying56 Tryd.underlying5 (by kernel_rfl) R
  exact netTells_any v l W h hg
end Go.Proofs.YtnkcmlngoeofgaaDoor
