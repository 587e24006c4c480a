/- Texts of the law GraphFirst, merged: NetRefTurned, GrBackP, NetTells, NetShI, NetNewB, GrRead, NetWrI, GrFew, GrRightOk, GrFirstP. -/
import Derived.Test.YtnkcmlngoeofgaaDoorPGraphFirst14
import Derived.Test.YtnkcmlngoeofgaaDoorPGraphFirst03
import Derived.Test.YtnkcmlngoeofgaaDoorPGraphFirst05
import Derived.Test.YtnkcmlngoeofgaaDoorPGraphFirst08
import Derived.Test.YtnkcmlngoeofgaaDoorPGraphFirst10
import Derived.Test.YtnkcmlngoeofgaaDoorPGraphFirst13
import Derived.Test.YtnkcmlngoeofgaaDoorPGraphFirst02
import Derived.Test.YtnkcmlngoeofgaaDoorPGraphFirst07
import Derived.Test.YtnkcmlngoeofgaaDoorPGraphFirst00
/- milestoneref07.Turned. -/
namespace Go.Proofs.YtnkcmlngoeofgaaDoor
open Go.RowKit
theorem OutI.cellA {w1 W : World} {Bo : Nat} {vx vy : Value} {g n cap : Nat} {r : Raw} (h : OutI w1 Bo vx vy (.slice (some ⟨g, 0, none⟩) n cap) r W) (hn : r.arcs.length = n) (k d : Nat) (hk : k < r.arcs.length) (hd : d < 3) :
    (∃ v, W.cell? ⟨g, k * 3 + d, none⟩ = some v) ∧ W.frozen? ⟨g, k * 3 + d, none⟩ = false := by
  obtain ⟨_, _, hg⟩ := ownsRow_blk' h.own.2.2.1 (g := g) rfl
  refine ⟨?_, hg.free _ (Or.inr (Nat.zero_le _))⟩
  have sA : SlA W (.slice (some ⟨g, 0, none⟩) n cap) r.arcs := slA_own hn (by have h := h.own.2.2.1; rwa [hn] at h)
  obtain ⟨b, off, e, d0, d1, d2⟩ := sA.at k hk
  obtain ⟨rfl, rfl⟩ : g = b ∧ 0 = off := by simpa using e
  rw [Nat.zero_add] at d0 d1 d2
  match d, hd with
  | 0, _ => exact ⟨_, d0⟩
  | 1, _ => exact ⟨_, d1⟩
  | 2, _ => exact ⟨_, d2⟩
set_option maxRecDepth 100000 in
set_option maxHeartbeats 16000000 in
theorem refTurned7_any (v : Value) (r : Raw) (w : World) (h : RawV w v r) (hl : r.few) : Calls Tryd.prog 41 #[v] w fun e w' => ∃ v', e = .returned v' ∧ RawO w.heap.size w' v' r.turned ∧ Below w.heap.size w w' := by
  have h0 := h
  obtain ⟨vx, vy, va, rfl, hx, hy, ha⟩ := h
  have fx := hx.form; have fy := hy.form; have fa := id ha
  obtain ⟨Br, hBr⟩ : ∃ b, b = w.heap.size := ⟨_, rfl⟩
  obtain ⟨Bs, hBs⟩ : ∃ b, b = w.heap.size + 1 := ⟨_, rfl⟩
  obtain ⟨w1, hw1⟩ : ∃ w1, w1 = (w.alloc (.cells #[.int .i64 r.nodes, vx, vy, va] 25)).alloc (.cells #[.int .i64 0, .slice none 0 0, .slice none 0 0, .slice none 0 0] 25) := ⟨_, rfl⟩
  have hb1 : Below w.heap.size w w1 := by rw [hw1]; exact ((Below.refl _ _).alloc (Nat.le_refl _) _).alloc (by simp) _
  have KR : Blk w1 Br #[.int .i64 r.nodes, vx, vy, va] 25 (0, 0) := by rw [hw1, hBr]; exact (Blk.new _ _ _ _).alloc _
  have KS : Blk w1 Bs #[.int .i64 0, .slice none 0 0, .slice none 0 0, .slice none 0 0] 25 (0, 0) := by
    rw [hw1, hBs]
    have h := Blk.new (w.alloc (.cells #[.int .i64 r.nodes, vx, vy, va] 25)) #[.int .i64 0, .slice none 0 0, .slice none 0 0, .slice none 0 0] 25 (0, 0)
    rwa [World.size_alloc] at h
  have C := Lib.hid (copy7_any _ r w1 (h0.below hb1) hl)
  have HA := Lib.hid (ha.keep (KpC.of_below hb1))
  have HB1 := Lib.hid hb1; have HKR := Lib.hid KR; have HKS := Lib.hid KS; have HW1 := Lib.hid hw1; have HL := Lib.hid hl
  have HEr := Lib.hid hBr; have HEs := Lib.hid hBs
  have c0 := KR.cell 0; have c1 := KR.cell 1; have c2 := KR.cell 2; have c3 := KR.cell 3
  simp only [List.getElem?_toArray, List.getElem?_cons_succ, List.getElem?_cons_zero] at c0 c1 c2 c3
  clear h0 hx hy ha hb1 KR KS hw1 hl
  obtain ⟨x1, x2, x3, rfl⟩ := fx
  obtain ⟨y1, y2, y3, rfl⟩ := fy
  obtain ⟨ra, rc, rfl, hrc, hrm, _⟩ := fa
  unfold maxLen at hrm
  go_enter Tryd.func41, Tryd.ntmps41
  go_wp2_with fail
  rw [← HW1.out, ← HEs.out, ← HEr.out]
  clear hBr hBs
  go_wp2_with fail
  refine C.out.mono ?_
  rintro e w2 ⟨v2, rfl, ⟨vx, vy, va, rfl, o1, o2, o3, o4⟩, hb2⟩
  obtain ⟨Bt, hBt⟩ : ∃ b, b = w2.heap.size := ⟨_, rfl⟩
  obtain ⟨w3, hw3⟩ : ∃ w3, w3 = w2.alloc (.cells #[.int .i64 r.nodes, vx, vy, va] 25) := ⟨_, rfl⟩
  have hb3 : Below w2.heap.size w2 w3 := by rw [hw3]; exact (Below.refl _ _).alloc (Nat.le_refl _) _
  have K3 : Blk w3 Bt #[.int .i64 r.nodes, vx, vy, va] 25 (0, 0) := by rw [hw3, hBt]; exact Blk.new _ _ _ _
  have hO : Own3 w1.heap.size w3 vx vy va r := Own3.below ⟨o1, o2, o3, o4⟩ hb3
  have hb13 := hb2.next' hb3
  have hI : OutI w1 Bt vx vy va r w3 := ⟨K3, hO, ⟨hb13.os, hb13.tape, hb13.output, hb13.size, fun k hk _ => hb13.block k hk⟩⟩
  have hBl : w1.heap.size ≤ Bt := by rw [hBt]; exact hb2.size
  have HBl := Lib.hid hBl; have HI := Lib.hid hI; have HW3 := Lib.hid hw3; have HBt := Lib.hid hBt
  obtain ⟨xa, xc, rfl, _⟩ : ∃ a c, vx = .slice a r.X.length c ∧ True := by rcases o1.2 with ⟨h, h0⟩ | ⟨g, cap, cur, h, _⟩ <;> exact ⟨_, _, by first | exact h | (rw [h0]; exact h), trivial⟩
  obtain ⟨ya, yc, rfl, _⟩ : ∃ a c, vy = .slice a r.Y.length c ∧ True := by rcases o2.2 with ⟨h, h0⟩ | ⟨g, cap, cur, h, _⟩ <;> exact ⟨_, _, by first | exact h | (rw [h0]; exact h), trivial⟩
  obtain ⟨za, zc, rfl, hza⟩ : ∃ a c, va = .slice a r.arcs.length c ∧ (0 < r.arcs.length → ∃ g, a = some ⟨g, 0, none⟩) := by
    rcases o3.2 with ⟨h, h0⟩ | ⟨g, cap, cur, h, _⟩
    · exact ⟨_, _, by rw [h0]; exact h, fun h => by omega⟩
    · exact ⟨_, _, h, fun _ => ⟨g, rfl⟩⟩
  clear hI hw3 hO hb3 hb13 K3 o1 o2 o3 o4 hb2 C hBl hBt c0 c1 c2 c3
  go_wp2_with fail
  rw [← HW3.out, ← HBt.out]
  have hll : (r.arcs.length : Int) ≤ 1000000000000 := by have := HL.out.2.2; omega
  go_loopw [4] (fun i wr => ∃ (k : Nat), k ≤ r.arcs.length ∧ i = .int .i64 k ∧ Hid (OutI w1 Bt (.slice xa r.X.length xc) (.slice ya r.Y.length yc) (.slice za r.arcs.length zc) { r with arcs := (r.arcs.take k).map turnA ++ r.arcs.drop k } wr)) (fun i _ => r.arcs.length - (intOf i).toNat)
  case atStart => exact ⟨0, by omega, rfl, Lib.hid (by simpa using HI.out)⟩
  clear HI HW3
  obtain ⟨k, hk, rfl, hrel⟩ := hrel
  have HI := hrel
  clear hrel
  have hBrl : Br < w1.heap.size := HKR.out.lt
  have hBsl : Bs < w1.heap.size := HKS.out.lt
  have hNr : ¬ Br = Bt := by have := HBl.out; omega
  have HNr := Lib.hid hNr
  have hNs : ¬ Bs = Bt := by have := HBl.out; omega
  have HNs := Lib.hid hNs
  clear hNr hNs hBrl hBsl
  have o3 := HI.out.blk.cell 3
  change wr.cell? ⟨Bt, 3, none⟩ = some (.slice za r.arcs.length zc) at o3
  by_cases hlt : k < r.arcs.length
  case pos =>
    obtain ⟨g, rfl⟩ := hza (by omega)
    obtain ⟨b, off, rfl, d0, d1, _⟩ := HA.out.at k hlt
    have hbl := block_lt_of_cell d0
    have hbN : ¬ b = Bt := by have := HBl.out; dsimp only at hbl; omega
    have hlen : ((r.arcs.take k).map turnA ++ r.arcs.drop k).length = r.arcs.length := by rw [List.length_append, List.length_map, List.length_take, List.length_drop]; omega
    have hget : ((r.arcs.take k).map turnA ++ r.arcs.drop k)[k]'(by omega) = r.arcs[k] := by
      have hl : ((r.arcs.take k).map turnA).length = k := by rw [List.length_map, List.length_take]; omega
      rw [List.getElem_append_right (by omega)]
      simp only [hl, Nat.sub_self, List.getElem_drop, Nat.add_zero]
    have hst := turn_step r.arcs k hlt
    have hx : ∃ x, x = r.arcs[k] := ⟨_, rfl⟩
    obtain ⟨x, hx⟩ := hx
    rw [← hx] at d0 d1 hst
    obtain ⟨x0, x1, x2⟩ := x
    simp only at d0 d1 hst
    have hltI : (k : Int) < (r.arcs.length : Int) := by omega
    have i1 : (0 : Int) ≤ (k : Int) := by omega
    have hkl : k < ((r.arcs.take k).map turnA ++ r.arcs.drop k).length := by omega
    have hId := HI.out.below (Below.refl _ wr).drew
    have hI1 := hId.setA (u := x1) hlen k 0 hkl (by omega) (o := k * 3) rfl
    obtain ⟨⟨q0, e0⟩, ff0⟩ := hId.cellA hlen k 0 hkl (by omega)
    rw [Nat.add_zero] at e0 ff0
    have hkl2 : k < (((r.arcs.take k).map turnA ++ r.arcs.drop k).set k (setArc 0 x1 (((r.arcs.take k).map turnA ++ r.arcs.drop k)[k]'hkl))).length := by rw [List.length_set]; exact hkl
    obtain ⟨W1, hW1⟩ : ∃ W, W = wr.drew.setCell ⟨g, k * 3, none⟩ (.int .i64 x1) := ⟨_, rfl⟩
    rw [← hW1] at hI1
    have hI1d := hI1.below (Below.refl _ W1).drew
    have hI2 := hI1d.setA (u := x0) ((List.length_set ..).trans hlen) k 1 hkl2 (by omega) (o := k * 3 + 1) rfl
    obtain ⟨⟨q1, e1⟩, ff1⟩ := hI1d.cellA ((List.length_set ..).trans hlen) k 1 hkl2 (by omega)
    have hfin : ((((r.arcs.take k).map turnA ++ r.arcs.drop k).set k (setArc 0 x1 (((r.arcs.take k).map turnA ++ r.arcs.drop k)[k]'(by omega)))).set k (setArc 1 x0 ((((r.arcs.take k).map turnA ++ r.arcs.drop k).set k (setArc 0 x1 (((r.arcs.take k).map turnA ++ r.arcs.drop k)[k]'(by omega))))[k]'(by rw [List.length_set]; omega)))) = (r.arcs.take (k + 1)).map turnA ++ r.arcs.drop (k + 1) := by
      rw [List.getElem_set_self, hget, ← hx]; exact hst
    obtain ⟨W2, hW2⟩ : ∃ W, W = W1.drew.setCell ⟨g, k * 3 + 1, none⟩ (.int .i64 x0) := ⟨_, rfl⟩
    have hI3 : OutI w1 Bt (.slice xa r.X.length xc) (.slice ya r.Y.length yc) (.slice (some ⟨g, 0, none⟩) r.arcs.length zc) { r with arcs := (r.arcs.take (k + 1)).map turnA ++ r.arcs.drop (k + 1) } W2 := by
      rw [← hfin, hW2]; exact hI2
    have cl : ∀ {W : World} {r' : Raw} {va : Value}, OutI w1 Bt (.slice xa r.X.length xc) (.slice ya r.Y.length yc) va r' W → W.cell? ⟨b, off + k * 3, none⟩ = some (.int .i64 x0) ∧ W.cell? ⟨b, off + k * 3 + 1, none⟩ = some (.int .i64 x1) ∧ W.cell? ⟨Br, 3, none⟩ = some (.slice (some ⟨b, off, none⟩) r.arcs.length rc) := fun h =>
      ⟨(World.cell?_of_block (h.kept.block b hbl hbN)).trans d0, (World.cell?_of_block (h.kept.block b hbl hbN)).trans d1, (h.kept.blk HKR.out HNr.out).cell 3⟩
    have hS0 : wr.drew.cell? ⟨Bt, 3, none⟩ = some (.slice (some ⟨g, 0, none⟩) r.arcs.length zc) ∧ wr.drew.cell? ⟨Br, 3, none⟩ = some (.slice (some ⟨b, off, none⟩) r.arcs.length rc) ∧ wr.drew.cell? ⟨b, off + k * 3 + 1, none⟩ = some (.int .i64 x1) := ⟨o3, (cl hId).2.2, (cl hId).2.1⟩
    have hS1 : W1.drew.cell? ⟨Bt, 3, none⟩ = some (.slice (some ⟨g, 0, none⟩) r.arcs.length zc) ∧ W1.drew.cell? ⟨Br, 3, none⟩ = some (.slice (some ⟨b, off, none⟩) r.arcs.length rc) ∧ W1.drew.cell? ⟨b, off + k * 3, none⟩ = some (.int .i64 x0) := ⟨hI1.blk.cell 3, (cl hI1d).2.2, (cl hI1d).1⟩
    have HS1 := Lib.hid hS1; have HI3 := Lib.hid hI3; have HWq1 := Lib.hid hW1; have HWq2 := Lib.hid hW2
    have HE1 := Lib.hid (And.intro e1 ff1)
    clear HI hbl hbN hlen hget hst hx hkl hId hI1 hkl2 hI1d hI2 hfin hI3 hS1 hW1 hW2 d0 d1 cl e1 ff1
    go_wp2_with fail
    refine wp_region_heldD (fun w' => w'.cell? ⟨Bt, 3, none⟩ = some (.slice (some ⟨g, 0, none⟩) r.arcs.length zc) ∧ w'.cell? ⟨Br, 3, none⟩ = some (.slice (some ⟨b, off, none⟩) r.arcs.length rc) ∧ w'.cell? ⟨b, off + k * 3 + 1, none⟩ = some (.int .i64 x1)) 11 rfl ?_
    change heldD _ _ _ _ _ _ _ 12 _ _ wr.drew
    refine heldD_takeF (i := 0) (v := .pointer (some ⟨Bt, 3, none⟩)) rfl rfl rfl (by kernel_rfl) (by kernel_rfl) (by kernel_rfl) (by kernel_rfl) (fun _ _ _ h => h) (by rfl) (fun w => ⟨by rfl, by go_simp⟩) (fun _ => hS0) ?_
    simp only [List.setIfInBounds_toArray, List.set_cons_zero, List.set_cons_succ]
    refine heldD_take (i := 1) (v := .slice (some ⟨g, 0, none⟩) r.arcs.length zc) rfl rfl rfl (by kernel_rfl) (by kernel_rfl) (by kernel_rfl) (by kernel_rfl) (by kernel_rfl) (by kernel_rfl) (fun _ _ _ h => h) (by rfl) (fun w hS => ⟨by rfl, by obtain ⟨hS1', hS2', hS3'⟩ := hS; go_simp⟩) hS0 ?_
    simp only [List.setIfInBounds_toArray, List.set_cons_zero, List.set_cons_succ]
    refine heldD_takeF (i := 2) (v := .int .i64 (k : Nat)) rfl rfl rfl (by kernel_rfl) (by kernel_rfl) (by kernel_rfl) (by kernel_rfl) (fun _ _ _ h => h) (by rfl) (fun w => ⟨by rfl, by go_simp⟩) (fun _ => hS0) ?_
    simp only [List.setIfInBounds_toArray, List.set_cons_zero, List.set_cons_succ]
    refine heldD_takeF (i := 3) (v := .pointer (some ⟨Br, 3, none⟩)) rfl rfl rfl (by kernel_rfl) (by kernel_rfl) (by kernel_rfl) (by kernel_rfl) (fun _ _ _ h => h) (by rfl) (fun w => ⟨by rfl, by go_simp⟩) (fun _ => hS0) ?_
    simp only [List.setIfInBounds_toArray, List.set_cons_zero, List.set_cons_succ]
    refine heldD_take (i := 4) (v := .slice (some ⟨b, off, none⟩) r.arcs.length rc) rfl rfl rfl (by kernel_rfl) (by kernel_rfl) (by kernel_rfl) (by kernel_rfl) (by kernel_rfl) (by kernel_rfl) (fun _ _ _ h => h) (by rfl) (fun w hS => ⟨by rfl, by obtain ⟨hS1', hS2', hS3'⟩ := hS; go_simp⟩) hS0 ?_
    simp only [List.setIfInBounds_toArray, List.set_cons_zero, List.set_cons_succ]
    refine heldD_takeF (i := 5) (v := .int .i64 (k : Nat)) rfl rfl rfl (by kernel_rfl) (by kernel_rfl) (by kernel_rfl) (by kernel_rfl) (fun _ _ _ h => h) (by rfl) (fun w => ⟨by rfl, by go_simp⟩) (fun _ => hS0) ?_
    simp only [List.setIfInBounds_toArray, List.set_cons_zero, List.set_cons_succ]
    refine heldD_takeF (i := 6) (v := .pointer (some ⟨b, off + k * 3, none⟩)) rfl rfl rfl (by kernel_rfl) (by kernel_rfl) (by kernel_rfl) (by kernel_rfl) (fun _ _ _ h => h) (by rfl) (fun w => ⟨by rfl, by go_simp⟩) (fun _ => hS0) ?_
    simp only [List.setIfInBounds_toArray, List.set_cons_zero, List.set_cons_succ]
    refine heldD_takeF (i := 7) (v := .pointer (some ⟨b, off + k * 3 + 1, none⟩)) rfl rfl rfl (by kernel_rfl) (by kernel_rfl) (by kernel_rfl) (by kernel_rfl) (fun _ _ _ h => h) (by rfl) (fun w => ⟨by rfl, by go_simp⟩) (fun _ => hS0) ?_
    simp only [List.setIfInBounds_toArray, List.set_cons_zero, List.set_cons_succ]
    refine heldD_take (i := 8) (v := .int .i64 x1) rfl rfl rfl (by kernel_rfl) (by kernel_rfl) (by kernel_rfl) (by kernel_rfl) (by kernel_rfl) (by kernel_rfl) (fun _ _ _ h => h) (by rfl) (fun w hS => ⟨by rfl, by obtain ⟨hS1', hS2', hS3'⟩ := hS; go_simp⟩) hS0 ?_
    simp only [List.setIfInBounds_toArray, List.set_cons_zero, List.set_cons_succ]
    refine heldD_takeF (i := 9) (v := .pointer (some ⟨g, k * 3, none⟩)) rfl rfl rfl (by kernel_rfl) (by kernel_rfl) (by kernel_rfl) (by kernel_rfl) (fun _ _ _ h => h) (by rfl) (fun w => ⟨by rfl, by go_simp⟩) (fun _ => hS0) ?_
    simp only [List.setIfInBounds_toArray, List.set_cons_zero, List.set_cons_succ]
    refine heldD_takeF (i := 10) (v := .pointer (some ⟨g, k * 3, none⟩)) rfl rfl rfl (by kernel_rfl) (by kernel_rfl) (by kernel_rfl) (by kernel_rfl) (fun _ _ _ h => h) (by rfl) (fun w => ⟨by rfl, by go_simp⟩) (fun _ => hS0) ?_
    simp only [List.setIfInBounds_toArray, List.set_cons_zero, List.set_cons_succ]
    refine heldD_one (i := 11) (by kernel_rfl) ?_
    refine wpOpIn_skip (w' := W1) rfl rfl rfl (by rfl) (by rfl) (by rw [HWq1.out]; go_simp) ?_
    refine ⟨fun h => (by cases h), ?_⟩
    refine heldD_done (by kernel_rfl) ?_ _
    clear hS0 e0 ff0 o3
    have hS0 := HS1.out
    have e1 := HE1.out.1; have ff1 := HE1.out.2
    go_wp2_with fail
    refine wp_region_heldD (fun w' => w'.cell? ⟨Bt, 3, none⟩ = some (.slice (some ⟨g, 0, none⟩) r.arcs.length zc) ∧ w'.cell? ⟨Br, 3, none⟩ = some (.slice (some ⟨b, off, none⟩) r.arcs.length rc) ∧ w'.cell? ⟨b, off + k * 3, none⟩ = some (.int .i64 x0)) 11 rfl ?_
    change heldD _ _ _ _ _ _ _ 12 _ _ W1.drew
    refine heldD_takeF (i := 0) (v := .pointer (some ⟨Bt, 3, none⟩)) rfl rfl rfl (by kernel_rfl) (by kernel_rfl) (by kernel_rfl) (by kernel_rfl) (fun _ _ _ h => h) (by rfl) (fun w => ⟨by rfl, by go_simp⟩) (fun _ => hS0) ?_
    simp only [List.setIfInBounds_toArray, List.set_cons_zero, List.set_cons_succ]
    refine heldD_take (i := 1) (v := .slice (some ⟨g, 0, none⟩) r.arcs.length zc) rfl rfl rfl (by kernel_rfl) (by kernel_rfl) (by kernel_rfl) (by kernel_rfl) (by kernel_rfl) (by kernel_rfl) (fun _ _ _ h => h) (by rfl) (fun w hS => ⟨by rfl, by obtain ⟨hS1', hS2', hS3'⟩ := hS; go_simp⟩) hS0 ?_
    simp only [List.setIfInBounds_toArray, List.set_cons_zero, List.set_cons_succ]
    refine heldD_takeF (i := 2) (v := .int .i64 (k : Nat)) rfl rfl rfl (by kernel_rfl) (by kernel_rfl) (by kernel_rfl) (by kernel_rfl) (fun _ _ _ h => h) (by rfl) (fun w => ⟨by rfl, by go_simp⟩) (fun _ => hS0) ?_
    simp only [List.setIfInBounds_toArray, List.set_cons_zero, List.set_cons_succ]
    refine heldD_takeF (i := 3) (v := .pointer (some ⟨Br, 3, none⟩)) rfl rfl rfl (by kernel_rfl) (by kernel_rfl) (by kernel_rfl) (by kernel_rfl) (fun _ _ _ h => h) (by rfl) (fun w => ⟨by rfl, by go_simp⟩) (fun _ => hS0) ?_
    simp only [List.setIfInBounds_toArray, List.set_cons_zero, List.set_cons_succ]
    refine heldD_take (i := 4) (v := .slice (some ⟨b, off, none⟩) r.arcs.length rc) rfl rfl rfl (by kernel_rfl) (by kernel_rfl) (by kernel_rfl) (by kernel_rfl) (by kernel_rfl) (by kernel_rfl) (fun _ _ _ h => h) (by rfl) (fun w hS => ⟨by rfl, by obtain ⟨hS1', hS2', hS3'⟩ := hS; go_simp⟩) hS0 ?_
    simp only [List.setIfInBounds_toArray, List.set_cons_zero, List.set_cons_succ]
    refine heldD_takeF (i := 5) (v := .int .i64 (k : Nat)) rfl rfl rfl (by kernel_rfl) (by kernel_rfl) (by kernel_rfl) (by kernel_rfl) (fun _ _ _ h => h) (by rfl) (fun w => ⟨by rfl, by go_simp⟩) (fun _ => hS0) ?_
    simp only [List.setIfInBounds_toArray, List.set_cons_zero, List.set_cons_succ]
    refine heldD_takeF (i := 6) (v := .pointer (some ⟨b, off + k * 3, none⟩)) rfl rfl rfl (by kernel_rfl) (by kernel_rfl) (by kernel_rfl) (by kernel_rfl) (fun _ _ _ h => h) (by rfl) (fun w => ⟨by rfl, by go_simp⟩) (fun _ => hS0) ?_
    simp only [List.setIfInBounds_toArray, List.set_cons_zero, List.set_cons_succ]
    refine heldD_takeF (i := 7) (v := .pointer (some ⟨b, off + k * 3, none⟩)) rfl rfl rfl (by kernel_rfl) (by kernel_rfl) (by kernel_rfl) (by kernel_rfl) (fun _ _ _ h => h) (by rfl) (fun w => ⟨by rfl, by go_simp⟩) (fun _ => hS0) ?_
    simp only [List.setIfInBounds_toArray, List.set_cons_zero, List.set_cons_succ]
    refine heldD_take (i := 8) (v := .int .i64 x0) rfl rfl rfl (by kernel_rfl) (by kernel_rfl) (by kernel_rfl) (by kernel_rfl) (by kernel_rfl) (by kernel_rfl) (fun _ _ _ h => h) (by rfl) (fun w hS => ⟨by rfl, by obtain ⟨hS1', hS2', hS3'⟩ := hS; go_simp⟩) hS0 ?_
    simp only [List.setIfInBounds_toArray, List.set_cons_zero, List.set_cons_succ]
    refine heldD_takeF (i := 9) (v := .pointer (some ⟨g, k * 3, none⟩)) rfl rfl rfl (by kernel_rfl) (by kernel_rfl) (by kernel_rfl) (by kernel_rfl) (fun _ _ _ h => h) (by rfl) (fun w => ⟨by rfl, by go_simp⟩) (fun _ => hS0) ?_
    simp only [List.setIfInBounds_toArray, List.set_cons_zero, List.set_cons_succ]
    refine heldD_takeF (i := 10) (v := .pointer (some ⟨g, k * 3 + 1, none⟩)) rfl rfl rfl (by kernel_rfl) (by kernel_rfl) (by kernel_rfl) (by kernel_rfl) (fun _ _ _ h => h) (by rfl) (fun w => ⟨by rfl, by go_simp⟩) (fun _ => hS0) ?_
    simp only [List.setIfInBounds_toArray, List.set_cons_zero, List.set_cons_succ]
    refine heldD_one (i := 11) (by kernel_rfl) ?_
    refine wpOpIn_skip (w' := W2) rfl rfl rfl (by rfl) (by rfl) (by rw [HWq2.out]; go_simp) ?_
    refine ⟨fun h => (by cases h), ?_⟩
    refine heldD_done (by kernel_rfl) ?_ _
    clear hS0 e1 ff1
    go_wp2_with fail
    go_roundw
    case rel => exact ⟨k + 1, by omega, by go_num, HI3⟩
    case measure => simp [intOf]; omega
  obtain rfl : k = r.arcs.length := by omega
  have hI := HI.out
  have he : (r.arcs.take r.arcs.length).map turnA ++ r.arcs.drop r.arcs.length = r.arcs.map turnA := by simp
  rw [he] at hI
  have bO := hI.blk
  have c0 := bO.cell 0; have c1 := bO.cell 1; have c2 := bO.cell 2
  change wr.cell? ⟨Bt, 0, none⟩ = some (.int .i64 r.nodes) at c0
  change wr.cell? ⟨Bt, 1, none⟩ = some (.slice xa r.X.length xc) at c1
  change wr.cell? ⟨Bt, 2, none⟩ = some (.slice ya r.Y.length yc) at c2
  have bT := hI.kept.blk HKS.out HNs.out
  have hBl := HBl.out
  have hsz1 := HB1.out.size
  have hle : w.heap.size ≤ Bs := by rw [HEs.out]; omega
  have h4 := store4 (w0 := w) hI.own bT hle (below_of HB1.out hI.kept (by omega))
  have e0 := bT.cell 0; have e1 := bT.cell 1; have e2 := bT.cell 2; have e3 := bT.cell 3
  change wr.cell? ⟨Bs, 0, none⟩ = some (.int .i64 0) at e0
  change wr.cell? ⟨Bs, 1, none⟩ = some (.slice none 0 0) at e1
  change wr.cell? ⟨Bs, 2, none⟩ = some (.slice none 0 0) at e2
  change wr.cell? ⟨Bs, 3, none⟩ = some (.slice none 0 0) at e3
  have fr := fun i => bT.free i (Or.inr (Nat.zero_le _))
  have f0 := fr 0; have f1 := fr 1; have f2 := fr 2; have f3 := fr 3
  dsimp only at h4
  have H4 := Lib.hid h4
  clear h4 bT bO hI he HI fr hBl hle hlt
  go_wp2_with fail
  generalize (((wr.setCell ⟨Bs, 0, none⟩ (.int .i64 r.nodes)).setCell ⟨Bs, 1, none⟩ (.slice xa r.X.length xc)).setCell ⟨Bs, 2, none⟩ (.slice ya r.Y.length yc)).setCell ⟨Bs, 3, none⟩ (.slice za r.arcs.length zc) = wz at *
  have z0 := H4.out.1.cell 0; have z1 := H4.out.1.cell 1; have z2 := H4.out.1.cell 2; have z3 := H4.out.1.cell 3
  simp only [List.getElem?_toArray, List.getElem?_cons_succ, List.getElem?_cons_zero] at z0 z1 z2 z3
  exact bodyPost_ret (v := .agg #[.int .i64 r.nodes, .slice xa r.X.length xc, .slice ya r.Y.length yc, .slice za r.arcs.length zc]) (by simp [results, Tryd.results41, go_sem, z0, z1, z2, z3]) rfl ⟨_, rfl, ⟨_, _, _, rfl, ownsRow_le H4.out.2.1.1 hsz1, ownsRow_le H4.out.2.1.2.1 hsz1, ownsRow_le H4.out.2.1.2.2.1 hsz1, H4.out.2.1.2.2.2⟩, H4.out.2.2⟩
end Go.Proofs.YtnkcmlngoeofgaaDoor
/- GraphBack's plain law: turned twice, moved there and back. -/
namespace Go.Proofs.YtnkcmlngoeofgaaDoor
open Go.RowKit
theorem Raw.turned_twice (r : Raw) : r.turned.turned = r := by
  obtain ⟨n, X, Y, A⟩ := r
  show (⟨n, X, Y, (A.map turnA).map turnA⟩ : Raw) = _
  rw [List.map_map, show turnA ∘ turnA = id from rfl, List.map_id]
theorem Raw.turned_okB {g : Raw} (h : g.Ok) : g.turned.Ok := by
  refine ⟨h.nodes, h.lenX, h.lenY, h.x, h.y, ?_, ?_⟩
  · show (g.arcs.map turnA).length ≤ _
    rw [List.length_map]; exact h.arcs
  · intro a ha
    obtain ⟨b, hb, rfl⟩ := List.mem_map.1 ha
    obtain ⟨h1, h2, h3⟩ := h.arc b hb
    exact ⟨h2, h1, h3⟩
theorem mv_back {n b v : Int} (hn : 1 ≤ n) (hv : 0 ≤ v ∧ v < n) : mvI n (-(b.tmod n)) (mvI n b v) = v := by
  unfold mvI
  rw [Int.emod_add_emod, (tmod_bounds b n hn).2.2, show v + b + -(b - n * b.tdiv n) = v + n * b.tdiv n by omega, Int.add_mul_emod_self_left, Int.emod_eq_of_lt hv.1 hv.2]
theorem moved_back {r m q : Raw} {b : Int} (hk : r.Ok) (h1 : MovedTo b r m) (h2 : MovedTo (-(b.tmod r.nodes)) m q) : q = r := by
  have hn := hk.nodes
  have hr := fun (v : Nat) (h : (v : Int) < r.nodes) => mv_back (b := b) hn.1 ⟨Int.natCast_nonneg v, h⟩
  have hL : ∀ (L M Q : List Int), (L.length : Int) = r.nodes → Q.length = L.length → (∀ v : Nat, (v : Int) < r.nodes → M[(mvI r.nodes b v).toNat]? = L[v]?) → (∀ v : Nat, (v : Int) < r.nodes → Q[(mvI r.nodes (-(b.tmod r.nodes)) v).toNat]? = M[v]?) → Q = L := by
    intro L M Q l1 l2 e1 e2
    apply List.ext_getElem?
    intro i
    by_cases hi : (i : Int) < r.nodes
    · have e1 := e1 i hi
      have hu := mvI_range r.nodes b i hn.1
      have e2 := e2 (mvI r.nodes b i).toNat (by omega)
      rw [Int.toNat_of_nonneg hu.1, hr i hi, Int.toNat_natCast, e1] at e2
      exact e2
    · rw [List.getElem?_eq_none (by omega), List.getElem?_eq_none (by omega)]
  have hm := h1.nodes
  have hx : q.X = r.X := hL r.X m.X q.X hk.lenX (by rw [h2.lenX, h1.lenX]) h1.x (fun v hv => by have := h2.x v (by rw [hm]; exact hv); rwa [hm] at this)
  have hy : q.Y = r.Y := hL r.Y m.Y q.Y hk.lenY (by rw [h2.lenY, h1.lenY]) h1.y (fun v hv => by have := h2.y v (by rw [hm]; exact hv); rwa [hm] at this)
  have ha : q.arcs = r.arcs := by
    rw [h2.arcs, h1.arcs, List.map_map, hm]
    have : ∀ a ∈ r.arcs, ((fun a : Ar => (mvI r.nodes (-(b.tmod r.nodes)) a.1, mvI r.nodes (-(b.tmod r.nodes)) a.2.1, a.2.2)) ∘ (fun a : Ar => (mvI r.nodes b a.1, mvI r.nodes b a.2.1, a.2.2))) a = id a := fun a ha => by
      obtain ⟨i1, i2, _⟩ := hk.arc a ha
      simp only [Function.comp, mv_back hn.1 i1, mv_back hn.1 i2, id]
    rw [List.map_congr_left this, List.map_id]
  have hnn : q.nodes = r.nodes := by rw [h2.nodes, h1.nodes]
  obtain ⟨n, X, Y, A⟩ := q
  obtain ⟨n', X', Y', A'⟩ := r
  simp only at hx hy ha hnn
  subst hx hy ha hnn
  rfl
theorem moved_ok {r m : Raw} {b : Int} (hk : r.Ok) (h : MovedTo b r m) : m.Ok := by
  have hn := hk.nodes
  have inv : ∀ i : Nat, (i : Int) < r.nodes → ∃ v : Nat, (v : Int) < r.nodes ∧ (mvI r.nodes b v).toNat = i := fun i hi => by
    have hu := mvI_range r.nodes (-b) i hn.1
    refine ⟨(mvI r.nodes (-b) i).toNat, by omega, ?_⟩
    rw [Int.toNat_of_nonneg hu.1]
    unfold mvI
    rw [Int.emod_add_emod, show (i : Int) + -b + b = i by omega, Int.emod_eq_of_lt (by omega) hi]; simp
  have mem : ∀ (L M : List Int), (M.length : Int) = r.nodes → (∀ v : Nat, (v : Int) < r.nodes → M[(mvI r.nodes b v).toNat]? = L[v]?) → ∀ x ∈ M, x ∈ L := fun L M hl hm x hx => by
    obtain ⟨i, hi, rfl⟩ := List.mem_iff_getElem.1 hx
    obtain ⟨v, hv, e⟩ := inv i (by omega)
    have h2 := hm v hv
    rw [e, List.getElem?_eq_getElem hi] at h2
    exact List.mem_of_getElem? h2.symm
  have hl1 := hk.lenX; have hl2 := hk.lenY; have hm := h.nodes; have hx := h.lenX; have hy := h.lenY
  refine ⟨by rw [hm]; exact hn, by omega, by omega, fun x h' => hk.x x (mem r.X m.X (by omega) h.x x h'), fun y h' => hk.y y (mem r.Y m.Y (by omega) h.y y h'), ?_, ?_⟩
  · rw [h.arcs, List.length_map]; exact hk.arcs
  · intro a ha
    rw [h.arcs] at ha
    obtain ⟨c, hc, rfl⟩ := List.mem_map.1 ha
    obtain ⟨_, _, h3⟩ := hk.arc c hc
    rw [hm]
    exact ⟨mvI_range _ _ _ hn.1, mvI_range _ _ _ hn.1, h3⟩
/-- all X, all weights one more -/
def bumpX (x : Int) : Int := IntKind.i64.wrap (x + 1)
def bumpA (a : Ar) : Ar := (a.1, a.2.1, IntKind.i64.wrap (a.2.2 + 1))
def Raw.bumped (r : Raw) : Raw := { r with X := r.X.map bumpX, arcs := r.arcs.map bumpA }
theorem bump_ne (x : Int) : IntKind.i64.wrap (x + 1) ≠ x := by rw [IntKind.wrap_i64]; omega
theorem bumped_same (r : Raw) : sameB r.bumped r = decide (r.X.length + r.arcs.length = 0) := by
  unfold sameB Raw.bumped
  cases hX : r.X with
  | cons x X =>
    rw [decide_eq_false, decide_eq_false]
    · simp
    · rintro ⟨_, h, _⟩
      simp only [List.map_cons, List.cons.injEq] at h
      exact bump_ne x h.1
  | nil =>
    cases hA : r.arcs with
    | cons a A =>
      rw [decide_eq_false, decide_eq_false]
      · simp
      · rintro ⟨_, _, _, h⟩
        simp only [List.map_cons, List.cons.injEq] at h
        exact bump_ne a.2.2 (congrArg (fun a : Ar => a.2.2) h.1)
    | nil => simp
end Go.Proofs.YtnkcmlngoeofgaaDoor
/- NetTells, its walk. -/
namespace Go.Proofs.YtnkcmlngoeofgaaDoor
open Go.RowKit
set_option maxRecDepth 100000 in
set_option maxHeartbeats 16000000 in
theorem netTells_any (v : Value) (l : List Int) (w : World) (h : SlI w v .u8 l) (hg : HG w) : Calls Tryd.prog 8 #[v] w fun e w' => e = .returned (.bool true) ∧ Below w.heap.size w w' := by
  have HSl := Lib.hid h
  have HG0 := Lib.hid hg
  clear h hg
  go_enter Tryd.func8, Tryd.ntmps8
  go_wp2_with fail
  refine (drawn7_any v l w HSl.out).mono ?_
  rintro e w2 ⟨vg, g, rfl, ⟨vx, vy, va, rfl, o1, o2, o3, o4⟩, hok, hgl, hb2⟩
  obtain ⟨xa, xc, rfl, _⟩ := ownForm o1
  obtain ⟨ya, yc, rfl, _⟩ := ownForm o2
  obtain ⟨za, zc, rfl, _⟩ := ownForm o3
  have hraw : RawV w2 (.agg #[.int .i64 g.nodes, .slice xa g.X.length xc, .slice ya g.Y.length yc, .slice za g.arcs.length zc]) g := ⟨_, _, _, rfl, slX_own rfl o1, slX_own rfl o2, slA_own rfl o3⟩
  obtain ⟨B3, hB3⟩ : ∃ b, b = w2.heap.size := ⟨_, rfl⟩
  obtain ⟨w3, hw3⟩ : ∃ u, u = w2.alloc (.cells #[.int .i64 g.nodes, .slice xa g.X.length xc, .slice ya g.Y.length yc, .slice za g.arcs.length zc] 25) := ⟨_, rfl⟩
  have hb3 : Below w2.heap.size w2 w3 := by rw [hw3]; exact (Below.refl _ _).alloc (Nat.le_refl _) _
  have K3 : Blk w3 B3 #[.int .i64 g.nodes, .slice xa g.X.length xc, .slice ya g.Y.length yc, .slice za g.arcs.length zc] 25 (0, 0) := by rw [hw3, hB3]; exact Blk.new _ _ _ _
  have HB3 := Lib.hid (hb2.next' hb3)
  have C := Lib.hid (new_any _ g w3 (HG0.out.later HB3.out) (hraw.below hb3) hok.few)
  have HV3 := Lib.hid (hraw.below hb3)
  have HK3 := Lib.hid K3; have HW3 := Lib.hid hw3; have HE3 := Lib.hid hB3; have HOk := Lib.hid hok; have HGl := Lib.hid hgl
  have c0 := K3.cell 0; have c1 := K3.cell 1; have c2 := K3.cell 2; have c3 := K3.cell 3
  simp only [List.getElem?_toArray, List.getElem?_cons_succ, List.getElem?_cons_zero] at c0 c1 c2 c3
  clear o1 o2 o3 o4 hok hgl hraw hB3 hw3 hb3 K3 hb2
  go_wp2_with fail
  rw [← HW3.out, ← HE3.out]
  go_wp2_with fail
  refine C.out.mono ?_
  rintro e w4 ⟨h | h, hb4⟩
  · exact absurd (g.ok_iff.2 HOk.out) h.1
  obtain ⟨_, p, rfl, hn⟩ := h
  have HB4 := Lib.hid (HB3.out.next' hb4); have HNet := Lib.hid hn.all
  have HS := Lib.hid (show ∀ u, Below w4.heap.size w4 u → u.cell? ⟨B3, 0, none⟩ = some (.int .i64 g.nodes) ∧ u.cell? ⟨B3, 1, none⟩ = some (.slice xa g.X.length xc) ∧ u.cell? ⟨B3, 2, none⟩ = some (.slice ya g.Y.length yc) ∧ u.cell? ⟨B3, 3, none⟩ = some (.slice za g.arcs.length zc) from fun u hu => ⟨(HK3.out.below (hb4.next' hu) HK3.out.lt).cell 0, (HK3.out.below (hb4.next' hu) HK3.out.lt).cell 1, (HK3.out.below (hb4.next' hu) HK3.out.lt).cell 2, (HK3.out.below (hb4.next' hu) HK3.out.lt).cell 3⟩)
  have HV := Lib.hid (show ∀ u, Below w4.heap.size w4 u → RawV u (.agg #[.int .i64 g.nodes, .slice xa g.X.length xc, .slice ya g.Y.length yc, .slice za g.arcs.length zc]) g from fun u hu => HV3.out.below (hb4.next' hu))
  have HBel := Lib.hid (Below.refl w4.heap.size w4)
  clear hn hb4 C c0 c1 c2 c3 HV3 HK3
  go_wp2_with fail
  refine wp_region_held (S := fun w' => w'.cell? ⟨B3, 0, none⟩ = some (.int .i64 g.nodes) ∧ w'.cell? ⟨B3, 1, none⟩ = some (.slice xa g.X.length xc) ∧ w'.cell? ⟨B3, 2, none⟩ = some (.slice ya g.Y.length yc) ∧ w'.cell? ⟨B3, 3, none⟩ = some (.slice za g.arcs.length zc)) rfl ?_
  have hS0 := HS.out w4.drew (HBel.out.drew)
  change wpAnyH _ _ _ _ _ 18 _ _ w4.drew
  have HBe := Lib.hid (HBel.out.drew)
  refine heldA_take (i := 0) (v := .nilIface) rfl rfl (by kernel_rfl) (by kernel_rfl) (by kernel_rfl) (fun _ _ _ h => h) (by rfl) (fun w hS => by obtain ⟨hS1, hS2, hS3, hS4⟩ := hS; go_simp) hS0 ?_
  simp only [List.setIfInBounds_toArray, List.set_cons_zero, List.set_cons_succ]
  refine heldA_take (i := 1) (v := .bool true) rfl rfl (by kernel_rfl) (by kernel_rfl) (by kernel_rfl) (fun _ _ _ h => h) (by rfl) (fun w hS => by obtain ⟨hS1, hS2, hS3, hS4⟩ := hS; go_simp) hS0 ?_
  simp only [List.setIfInBounds_toArray, List.set_cons_zero, List.set_cons_succ]
  refine heldA_take (i := 2) (v := .bool true) rfl rfl (by kernel_rfl) (by kernel_rfl) (by kernel_rfl) (fun _ _ _ h => h) (by rfl) (fun w hS => by obtain ⟨hS1, hS2, hS3, hS4⟩ := hS; go_simp) hS0 ?_
  simp only [List.setIfInBounds_toArray, List.set_cons_zero, List.set_cons_succ]
  refine heldA_take (i := 3) (v := .pointer (some ⟨p, 0, none⟩)) rfl rfl (by kernel_rfl) (by kernel_rfl) (by kernel_rfl) (fun _ _ _ h => h) (by rfl) (fun w hS => by obtain ⟨hS1, hS2, hS3, hS4⟩ := hS; go_simp) hS0 ?_
  simp only [List.setIfInBounds_toArray, List.set_cons_zero, List.set_cons_succ]
  refine heldA_take (i := 4) (v := .agg #[.int .i64 g.nodes, .slice xa g.X.length xc, .slice ya g.Y.length yc, .slice za g.arcs.length zc]) rfl rfl (by kernel_rfl) (by kernel_rfl) (by kernel_rfl) (fun _ _ _ h => h) (by rfl) (fun w hS => by obtain ⟨hS1, hS2, hS3, hS4⟩ := hS; go_simp) hS0 ?_
  simp only [List.setIfInBounds_toArray, List.set_cons_zero, List.set_cons_succ]
  refine heldA_one (i := 5) (by kernel_rfl) ?_
  refine wpOp_calls (f := 40) rfl rfl (by rfl) (by go_simp) (is7_any p _ g w4.drew (HNet.out _ HBe.out) (HV.out _ HBe.out) HOk.out (by have := HGl.out.2; omega)) ?_ (by rintro _ _ ⟨h, _⟩; cases h) (by rintro _ ⟨h, _⟩; cases h)
  rintro _ u1 ⟨⟨rfl⟩, hb⟩
  have HBn := Lib.hid (HBe.out.trans (hb.mono HBe.out.size))
  replace HBe := HBn
  clear HBn hb hS0
  have hS0 := HS.out u1 HBe.out
  refine ⟨hS0, ?_⟩
  simp only [List.setIfInBounds_toArray, List.set_cons_zero, List.set_cons_succ]
  refine heldA_take (i := 6) (v := .bool true) rfl rfl (by kernel_rfl) (by kernel_rfl) (by kernel_rfl) (fun _ _ _ h => h) (by rfl) (fun w hS => by obtain ⟨hS1, hS2, hS3, hS4⟩ := hS; go_simp) hS0 ?_
  simp only [List.setIfInBounds_toArray, List.set_cons_zero, List.set_cons_succ]
  refine heldA_take (i := 7) (v := .bool true) rfl rfl (by kernel_rfl) (by kernel_rfl) (by kernel_rfl) (fun _ _ _ h => h) (by rfl) (fun w hS => by obtain ⟨hS1, hS2, hS3, hS4⟩ := hS; go_simp) hS0 ?_
  simp only [List.setIfInBounds_toArray, List.set_cons_zero, List.set_cons_succ]
  refine heldA_take (i := 8) (v := .pointer (some ⟨p, 0, none⟩)) rfl rfl (by kernel_rfl) (by kernel_rfl) (by kernel_rfl) (fun _ _ _ h => h) (by rfl) (fun w hS => by obtain ⟨hS1, hS2, hS3, hS4⟩ := hS; go_simp) hS0 ?_
  simp only [List.setIfInBounds_toArray, List.set_cons_zero, List.set_cons_succ]
  refine heldA_take (i := 10) (v := .agg #[.int .i64 g.nodes, .slice xa g.X.length xc, .slice ya g.Y.length yc, .slice za g.arcs.length zc]) rfl rfl (by kernel_rfl) (by kernel_rfl) (by kernel_rfl) (fun _ _ _ h => h) (by rfl) (fun w hS => by obtain ⟨hS1, hS2, hS3, hS4⟩ := hS; go_simp) hS0 ?_
  simp only [List.setIfInBounds_toArray, List.set_cons_zero, List.set_cons_succ]
  refine heldA_one (i := 9) (by kernel_rfl) ?_
  refine wpOp_calls (f := 31) rfl rfl (by rfl) (by go_simp) (turnedN_any p g u1 (HNet.out _ HBe.out) HOk.out.few HOk.out) ?_ (by rintro _ _ ⟨_, h, _⟩; cases h) (by rintro _ ⟨_, h, _⟩; cases h)
  rintro _ u2 ⟨q, ⟨rfl⟩, hq, hb⟩
  have HBn := Lib.hid (HBe.out.trans (hb.mono HBe.out.size))
  have HQ := Lib.hid hq.all
  clear hq
  replace HBe := HBn
  clear HBn hb hS0
  have hS0 := HS.out u2 HBe.out
  refine ⟨hS0, ?_⟩
  simp only [List.setIfInBounds_toArray, List.set_cons_zero, List.set_cons_succ]
  refine heldA_one (i := 11) (by kernel_rfl) ?_
  refine wpOp_calls (f := 41) rfl rfl (by rfl) (by go_simp) (refTurned7_any _ g u2 (HV.out _ HBe.out) HOk.out.few) ?_ (by rintro _ _ ⟨_, h, _⟩; cases h) (by rintro _ ⟨_, h, _⟩; cases h)
  rintro vt u3 ⟨_, ⟨rfl⟩, hr, hb⟩
  have HBn := Lib.hid (HBe.out.trans (hb.mono HBe.out.size))
  have HR := Lib.hid hr.raw
  have HQ3 := Lib.hid (HQ.out u3 hb)
  clear hr HQ
  replace HBe := HBn
  clear HBn hb hS0
  have hS0 := HS.out u3 HBe.out
  refine ⟨hS0, ?_⟩
  simp only [List.setIfInBounds_toArray, List.set_cons_zero, List.set_cons_succ]
  refine heldA_one (i := 12) (by kernel_rfl) ?_
  refine wpOp_calls (f := 40) rfl rfl (by rfl) (by go_simp) (is7_any q vt g.turned u3 HQ3.out HR.out (Raw.turned_okB HOk.out) (by show (g.arcs.map turnA).length ≤ _; rw [List.length_map]; have := HGl.out.2; omega)) ?_ (by rintro _ _ ⟨h, _⟩; cases h) (by rintro _ ⟨h, _⟩; cases h)
  rintro _ u4 ⟨⟨rfl⟩, hb⟩
  have HBn := Lib.hid (HBe.out.trans (hb.mono HBe.out.size))
  clear HR HQ3
  replace HBe := HBn
  clear HBn hb hS0
  have hS0 := HS.out u4 HBe.out
  refine ⟨hS0, ?_⟩
  simp only [List.setIfInBounds_toArray, List.set_cons_zero, List.set_cons_succ]
  refine heldA_take (i := 13) (v := .bool true) rfl rfl (by kernel_rfl) (by kernel_rfl) (by kernel_rfl) (fun _ _ _ h => h) (by rfl) (fun w hS => by obtain ⟨hS1, hS2, hS3, hS4⟩ := hS; go_simp) hS0 ?_
  simp only [List.setIfInBounds_toArray, List.set_cons_zero, List.set_cons_succ]
  refine heldA_take (i := 14) (v := .bool true) rfl rfl (by kernel_rfl) (by kernel_rfl) (by kernel_rfl) (fun _ _ _ h => h) (by rfl) (fun w hS => by obtain ⟨hS1, hS2, hS3, hS4⟩ := hS; go_simp) hS0 ?_
  simp only [List.setIfInBounds_toArray, List.set_cons_zero, List.set_cons_succ]
  refine heldA_one (i := 15) (by kernel_rfl) ?_
  refine wpOp_calls (f := 28) rfl rfl (by rfl) (by go_simp) (works7_any u4 (HG0.out.later (HB4.out.next' HBe.out))) ?_ (by rintro _ _ ⟨h, _⟩; cases h) (by rintro _ ⟨h, _⟩; cases h)
  rintro _ u5 ⟨⟨rfl⟩, hb⟩
  have HBn := Lib.hid (HBe.out.trans (hb.mono HBe.out.size))
  replace HBe := HBn
  clear HBn hb hS0
  have hS0 := HS.out u5 HBe.out
  refine ⟨hS0, ?_⟩
  simp only [List.setIfInBounds_toArray, List.set_cons_zero, List.set_cons_succ]
  refine heldA_take (i := 16) (v := .bool true) rfl rfl (by kernel_rfl) (by kernel_rfl) (by kernel_rfl) (fun _ _ _ h => h) (by rfl) (fun w hS => by obtain ⟨hS1, hS2, hS3, hS4⟩ := hS; go_simp) hS0 ?_
  simp only [List.setIfInBounds_toArray, List.set_cons_zero, List.set_cons_succ]
  refine heldA_take (i := 17) (v := .bool true) rfl rfl (by kernel_rfl) (by kernel_rfl) (by kernel_rfl) (fun _ _ _ h => h) (by rfl) (fun w hS => by obtain ⟨hS1, hS2, hS3, hS4⟩ := hS; go_simp) hS0 ?_
  simp only [List.setIfInBounds_toArray, List.set_cons_zero, List.set_cons_succ]
  refine wpAnyH_done (by kernel_rfl) ?_ _
  clear hS0
  go_wp2_with fail
  go_ret
  exact ⟨rfl, HB4.out.next' HBe.out⟩
theorem netTells_rd (v : Value) (W : World) (R : Rd Tryd.prog W 56 [v]) (hg : HG W) : Calls Tryd.prog 8 #[v] W fun e w' => e = .returned (.bool true) ∧ Below W.heap.size W w' := by
  obtain ⟨l, h, _⟩ := Rd.ints Tryd.underlying56 Tryd.underlying5 (by kernel_rfl) R
  exact netTells_any v l W h hg
end Go.Proofs.YtnkcmlngoeofgaaDoor
/- NetShares: rows of numbers that may be written, in blocks of S or behind N8. -/
namespace Go.Proofs.YtnkcmlngoeofgaaDoor
open Go.RowKit
/-- v is a row of n elements, all numbers, that may be written -/
def RowI (S : Nat → Prop) (N8 : Nat) (u : World) (v : Value) (n size : Nat) : Prop :=
  ∃ a cap, v = .slice a n cap ∧ (0 < n → ∃ g cs t, a = some ⟨g, 0, none⟩ ∧ t ≠ 25 ∧ Blk u g cs t (0, 0) ∧ (S g ∨ N8 ≤ g) ∧ ∀ i, i < n * size → ∃ x : Int, cs[i]? = some (.int .i64 x))
section
variable {S : Nat → Prop} {N8 : Nat} {u u' : World} {v : Value} {n size : Nat}
theorem RowI.below (h : RowI S N8 u v n size) (hb : Below u.heap.size u u') : RowI S N8 u' v n size := by
  obtain ⟨a, cap, hv, h⟩ := h
  refine ⟨a, cap, hv, fun hn => ?_⟩
  obtain ⟨g, cs, t, h1, h2, h3, h4⟩ := h hn
  exact ⟨g, cs, t, h1, h2, h3.below hb h3.lt, h4⟩
theorem RowI.set (h : RowI S N8 u v n size) (b i : Nat) (x : Int) : RowI S N8 (u.setCell ⟨b, i, none⟩ (.int .i64 x)) v n size := by
  obtain ⟨a, cap, hv, h⟩ := h
  refine ⟨a, cap, hv, fun hn => ?_⟩
  obtain ⟨g, cs, t, h1, h2, h3, h4, h5⟩ := h hn
  by_cases e : g = b
  · subst e
    refine ⟨g, _, t, h1, h2, h3.set i (.int .i64 x), h4, fun j hj => ?_⟩
    obtain ⟨y, hy⟩ := h5 j hj
    by_cases e : i = j
    · subst e
      exact ⟨x, by rw [Array.getElem?_setIfInBounds_self_of_lt (Array.getElem?_eq_some_iff.1 hy).1]⟩
    · exact ⟨y, by rw [Array.getElem?_setIfInBounds_ne e]; exact hy⟩
  · exact ⟨g, cs, t, h1, h2, h3.setOther ⟨b, i, none⟩ (.int .i64 x) e, h4, h5⟩
theorem RowI.form (h : RowI S N8 u v n size) : ∃ a c, v = .slice a n c := by obtain ⟨a, c, e, _⟩ := h; exact ⟨a, c, e⟩
theorem RowI.at {a : Option Addr} {cap : Nat} (h : RowI S N8 u (.slice a n cap) n size) (hn : 0 < n) :
    ∃ g, a = some ⟨g, 0, none⟩ ∧ (S g ∨ N8 ≤ g) ∧ (∀ i, u.frozen? ⟨g, i, none⟩ = false) ∧ (∀ i, i < n * size → ∃ x : Int, u.cell? ⟨g, i, none⟩ = some (.int .i64 x)) ∧ (∀ B cs fr, Blk u B cs 25 fr → B ≠ g) := by
  obtain ⟨a', cap', e, h⟩ := h
  obtain ⟨g, cs, t, h1, h2, h3, h4, h5⟩ := h hn
  obtain ⟨rfl, _⟩ : a = a' ∧ True := by simp only [Value.slice.injEq] at e; exact ⟨e.1, trivial⟩
  refine ⟨g, h1, h4, fun i => h3.free i (Or.inr (Nat.zero_le _)), fun i hi => ?_, fun B cs' fr hB e => ?_⟩
  · obtain ⟨x, hx⟩ := h5 i hi
    exact ⟨x, by rw [h3.cell]; exact hx⟩
  · subst e
    have e2 := (show u.heap[B]? = some _ from hB).symm.trans (show u.heap[B]? = some _ from h3)
    simp only [Option.some.injEq, Obj.cells.injEq] at e2
    exact h2 e2.2.1.symm
theorem RowI.of {base : Nat} {e : TypeId} {xs : List Value} (he : e ≠ 25) (h : u.ownsRow base e size v n xs) (hx : ∀ y ∈ xs, ∃ x : Int, y = .int .i64 x) (hl : ∀ b, base ≤ b → b < u.heap.size → S b ∨ N8 ≤ b) : RowI S N8 u v n size := by
  obtain ⟨hlen, h2⟩ := h
  rcases h2 with ⟨rfl, h0⟩ | ⟨g, cap, cur, rfl, hb, hg, hnc, hcm, hcs, ht⟩
  · refine ⟨none, 0, by rw [h0], fun hn => by omega⟩
  · refine ⟨_, cap, rfl, fun _ => ⟨g, cur, e, rfl, he, hg, hl g hb (show Blk u g cur e (0, 0) from hg).lt, fun i hi => ?_⟩⟩
    have hix : i < xs.length := by omega
    obtain ⟨x, hx⟩ := hx _ (List.getElem_mem hix)
    refine ⟨x, ?_⟩
    have h3 : cur.toList[i]? = some xs[i] := by
      have : (cur.toList.take (n * size))[i]? = xs[i]? := by rw [ht]
      rw [List.getElem?_take_of_lt hi, List.getElem?_eq_getElem hix] at this
      exact this
    rw [← Array.getElem?_toList, h3, hx]
theorem inC_ints {L : List Int} : ∀ y ∈ L.flatMap inC, ∃ x : Int, y = .int .i64 x := fun y hy => by
  obtain ⟨x, _, h⟩ := List.mem_flatMap.1 hy
  exact ⟨x, by simpa [inC] using h⟩
theorem arC_ints {L : List Ar} : ∀ y ∈ L.flatMap arC, ∃ x : Int, y = .int .i64 x := fun y hy => by
  obtain ⟨a, _, h⟩ := List.mem_flatMap.1 hy
  simp only [arC, List.mem_cons, List.not_mem_nil, or_false] at h
  rcases h with h | h | h <;> exact ⟨_, h⟩
/-- a graph's three rows -/
structure RawI (S : Nat → Prop) (N8 : Nat) (u : World) (vx vy va : Value) (g : Raw) : Prop where
  x : RowI S N8 u vx g.X.length 1
  y : RowI S N8 u vy g.Y.length 1
  a : RowI S N8 u va g.arcs.length 3
variable {vx vy va : Value} {g : Raw}
theorem RawI.below (h : RawI S N8 u vx vy va g) (hb : Below u.heap.size u u') : RawI S N8 u' vx vy va g := ⟨h.x.below hb, h.y.below hb, h.a.below hb⟩
theorem RawI.set (h : RawI S N8 u vx vy va g) (b i : Nat) (x : Int) : RawI S N8 (u.setCell ⟨b, i, none⟩ (.int .i64 x)) vx vy va g := ⟨h.x.set b i x, h.y.set b i x, h.a.set b i x⟩
theorem RawI.of {base : Nat} (h : Own3 base u vx vy va g) (hl : ∀ b, base ≤ b → b < u.heap.size → S b ∨ N8 ≤ b) : RawI S N8 u vx vy va g :=
  ⟨RowI.of (by decide) h.1 inC_ints hl, RowI.of (by decide) h.2.1 inC_ints hl, RowI.of (by decide) h.2.2.1 arC_ints hl⟩
theorem keptS_below {w8 : World} (h : Kept S w8 u) (hb : Below u.heap.size u u') : Kept S w8 u' := h.trans (Kept.of_below hb)
theorem keptS_set {w8 : World} (h : Kept S w8 u) {b : Nat} (hb : S b ∨ w8.heap.size ≤ b) (i : Nat) (x : Value) : Kept S w8 (u.setCell ⟨b, i, none⟩ x) :=
  Kept.new ((h.mono (T := fun k => S k ∨ w8.heap.size ≤ k) (fun _ h => .inl h)).setCell (p := ⟨b, i, none⟩) hb x)
end
end Go.Proofs.YtnkcmlngoeofgaaDoor
/- net.New, of a graph whose lists are few where it may be. -/
namespace Go.Proofs.YtnkcmlngoeofgaaDoor
open Go.RowKit
set_option maxRecDepth 100000 in
set_option maxHeartbeats 4000000 in
theorem new_anyB (v : Value) (r : Raw) (w : World) (hg : HG w) (h : RawV w v r) (hl : r.ok → r.few) : Calls Tryd.prog 29 #[v] w fun e w' =>
    ((¬ r.ok ∧ ∃ u, e = .returned (.tuple #[.pointer none, u]) ∧ ErrIs w' u r.wrong.1 r.wrong.2.1 r.wrong.2.2.1 r.wrong.2.2.2) ∨ (r.ok ∧ ∃ p, e = .returned (.tuple #[.pointer (some ⟨p, 0, none⟩), .nilIface]) ∧ NetB w.heap.size w' p r)) ∧ Below w.heap.size w w' := by
  have hV := h
  obtain ⟨vx, vy, va, rfl, hx, hy, ha⟩ := h
  have fx := hx.form; have fy := hy.form; have fa := ha.form
  obtain ⟨w1, hw1⟩ : ∃ w1, w1 = w.alloc (.cells #[.int .i64 r.nodes, vx, vy, va] 25) := ⟨_, rfl⟩
  obtain ⟨B1, hB1⟩ : ∃ b, b = w.heap.size := ⟨_, rfl⟩
  have hb1 : Below w.heap.size w w1 := by rw [hw1]; exact (Below.refl _ _).alloc (Nat.le_refl _) _
  have K1 : Blk w1 B1 #[.int .i64 r.nodes, vx, vy, va] 25 (0, 0) := by rw [hw1, hB1]; exact Blk.new _ _ _ _
  have C := Lib.hid (check_raw _ _ _ (hV.below hb1))
  have CO := Lib.hid (fun u (hu : Below w1.heap.size w1 u) (hk : r.ok) => own_any _ r u ((hV.below hb1).below hu) (hl hk))
  have HG1 := Lib.hid (hg.later hb1)
  have HB := Lib.hid hb1; have HK1 := Lib.hid K1; have HW1 := Lib.hid hw1; have HB1 := Lib.hid hB1
  have hw := r.wrong_zero
  clear hV hx hy ha hb1 K1 hw1 hg hl
  obtain ⟨_, _, _, rfl⟩ := fx
  obtain ⟨_, _, _, rfl⟩ := fy
  obtain ⟨_, _, _, rfl⟩ := fa
  go_enter Tryd.func29, Tryd.ntmps29
  go_wp2_with fail
  rw [← HW1.out, ← hB1]
  clear hB1
  refine C.out.mono ?_
  rintro e w2 ⟨u, rfl, hi, hb2⟩
  have HB2 := Lib.hid (HB.out.next' hb2); have Hb2 := Lib.hid hb2
  rcases hi.form with ⟨rfl, hz⟩ | ⟨⟨ty, xv, rfl⟩, hz⟩
  · have hok := hw.1 hz
    have Hok := Lib.hid hok
    have k2 := HK1.out.below hb2 HK1.out.lt
    have c0 := k2.cell 0; have c1 := k2.cell 1; have c2 := k2.cell 2; have c3 := k2.cell 3
    simp only [List.getElem?_toArray, List.getElem?_cons_succ, List.getElem?_cons_zero] at c0 c1 c2 c3
    have C3 := Lib.hid (CO.out w2 hb2 hok)
    clear hi hb2 hok hz k2 hw
    go_wp2_with fail
    refine C3.out.mono ?_
    rintro e w3 ⟨v3, rfl, ho, hb3⟩
    have HB3 := Lib.hid (HB2.out.next' hb3)
    have C4 := Lib.hid (of_any v3 r w2.heap.size w3 ho (r.ok_iff.1 Hok.out) hb3.size)
    have hv3 : ∃ a b c d, v3 = .agg #[a, b, c, d] := by obtain ⟨a, b, c, e, _⟩ := ho; exact ⟨_, _, _, _, e⟩
    obtain ⟨_, _, _, _, rfl⟩ := hv3
    clear ho hb3 c0 c1 c2 c3
    go_wp2_with fail
    refine C4.out.mono ?_
    rintro e w4 ⟨p, rfl, hn, hb4⟩
    have HN : Hid (NetB w.heap.size w4 p r) := Lib.hid (fun w'' hs hk => hn w'' hs fun k h1 h2 => hk k (Nat.le_trans HB2.out.size h1) h2)
    have HB4 := Lib.hid (HB3.out.next' hb4)
    clear hn hb4
    go_wp2_with fail
    go_ret2
    exact ⟨.inr ⟨Hok.out, _, rfl, HN.out⟩, HB4.out⟩
  · have hnok : ¬ r.ok := fun h => hz (hw.2 h)
    have Hnok := Lib.hid hnok
    have C3 := Lib.hid (told_is w2 _ _ _ _ _ (HG1.out.later hb2) hi)
    have Hz := Lib.hid hz
    clear hi hb2 hnok hz hw
    obtain ⟨c, hc⟩ : ∃ c, c = r.wrong := ⟨_, rfl⟩
    rw [← hc] at C3 Hz
    obtain ⟨c0, c1, c2, c3⟩ := c
    have Hc := Lib.hid hc
    clear hc
    go_wp2_with fail
    refine C3.out.mono ?_
    rintro e w3 ⟨rfl, hb3⟩
    have HB3 := Lib.hid (HB2.out.next' hb3)
    have hal := (Below.refl w3.heap.size w3).alloc (Nat.le_refl _) (.cells #[.int .i64 c0, .int .i64 c1, .int .i64 c2, .int .i64 c3] 47)
    have HB4 := Lib.hid (HB3.out.next' hal)
    have HBl := Lib.hid (Blk.new w3 #[.int .i64 c0, .int .i64 c1, .int .i64 c2, .int .i64 c3] 47 (0, 0))
    clear hb3 hal
    go_wp2_with fail
    go_ret2
    exact ⟨.inl ⟨Hnok.out, _, rfl, by rw [← Hc.out]; exact .inr ⟨Hz.out, _, asTo_netTrouble _ _, HBl.out⟩⟩, HB4.out⟩
end Go.Proofs.YtnkcmlngoeofgaaDoor
/- an argument that is a raw graph; one of three numbers. -/
namespace Go.Proofs.YtnkcmlngoeofgaaDoor
open Go.RowKit Go.Deep
theorem blk_of_cell {w : World} {b i : Nat} {v : Value} (h : w.cell? ⟨b, i, none⟩ = some v) : ∃ cs t fr, Blk w b cs t fr ∧ cs[i]? = some v := by
  unfold World.cell? at h
  split at h
  · rename_i cs t fr hb
    exact ⟨cs, t, fr, hb, h⟩
  · cases h
theorem blk_cell_same {w : World} {b i : Nat} {cs : Array Value} {t : TypeId} {fr : Nat × Nat} {v : Value} (hb : Blk w b cs t fr) (h : w.cell? ⟨b, i, none⟩ = some v) : cs[i]? = some v := by
  rw [hb.cell] at h; exact h
theorem SlX.of_I {w : World} {v : Value} {L : List Int} (h : SlI w v .i64 L) : SlX w v L := by
  obtain ⟨a, cap, rfl, h1, h2, h3⟩ := h
  refine ⟨a, cap, rfl, h1, h2, fun i hi => ?_⟩
  obtain ⟨b, off, ha, hc⟩ := h3 i hi
  obtain ⟨cs, t, fr, hb, hx⟩ := blk_of_cell hc
  exact ⟨b, off, cs, t, fr, ha, hb, hx⟩
theorem three_of {α : Type} : ∀ {l : List α}, l.length = 3 → ∃ a b c, l = [a, b, c]
  | [a, b, c], _ => ⟨a, b, c, rfl⟩
theorem four_of {α : Type} : ∀ {l : List α}, l.length = 4 → ∃ a b c d, l = [a, b, c, d]
  | [a, b, c, d], _ => ⟨a, b, c, d, rfl⟩
theorem Rd.arc {w : World} {es : List Value} (h : Rd Tryd.prog w 54 es) : ∃ a : Ar, es = arC a := by
  obtain ⟨hl, _⟩ := Rd.struct Tryd.underlying54 h
  obtain ⟨e0, e1, e2, rfl⟩ := three_of (hl.trans (show Tryd.prog.cellsOf 54 = 3 by kernel_rfl))
  clear hl
  · skip
    obtain ⟨n0, h0, _⟩ := Rd.int (k := .i64) Tryd.underlying3 (Rd.field (e := 3) (c := e0) Tryd.underlying54 h 0 (by kernel_rfl) (by kernel_rfl) rfl)
    obtain ⟨n1, h1, _⟩ := Rd.int (k := .i64) Tryd.underlying3 (Rd.field (e := 3) (c := e1) Tryd.underlying54 h 1 (by kernel_rfl) (by kernel_rfl) rfl)
    obtain ⟨n2, h2, _⟩ := Rd.int (k := .i64) Tryd.underlying2 (Rd.field (e := 2) (c := e2) Tryd.underlying54 h 2 (by kernel_rfl) (by kernel_rfl) rfl)
    cases h0; cases h1; cases h2
    exact ⟨(n0, n1, n2), rfl⟩
theorem Rd.arcs {w : World} {v : Value} (h : Rd Tryd.prog w 23 [v]) : ∃ L : List Ar, SlA w v L := by
  obtain ⟨a, len, cap, h1, hl, hm, hel⟩ := Rd.slice Tryd.underlying23 (by rw [show Tryd.prog.cellsOf 54 = 3 by kernel_rfl]; omega) h
  have hc : Tryd.prog.cellsOf 54 = 3 := by kernel_rfl
  have hex : ∀ i, i < len → ∃ x : Ar, ∃ b off cs t fr, a = some ⟨b, off, none⟩ ∧ Blk w b cs t fr ∧ cs[off + i * 3]? = some (.int .i64 x.1) ∧ cs[off + i * 3 + 1]? = some (.int .i64 x.2.1) ∧ cs[off + i * 3 + 2]? = some (.int .i64 x.2.2) := fun i hi => by
    obtain ⟨b, off, ha, es, hes, hcell, hrd⟩ := hel i hi
    obtain ⟨x, rfl⟩ := Rd.arc hrd
    rw [hc] at hcell
    have c0 := hcell 0 (by omega); have c1 := hcell 1 (by omega); have c2 := hcell 2 (by omega)
    obtain ⟨cs, t, fr, hb, hx⟩ := blk_of_cell (c0.trans (show (arC x)[0]? = some (.int .i64 x.1) from rfl))
    exact ⟨x, b, off, cs, t, fr, ha, hb, hx, blk_cell_same hb (c1.trans rfl), blk_cell_same hb (c2.trans rfl)⟩
  obtain ⟨f, hf⟩ := choose_lt hex
  have hv : v = .slice a len cap := by simpa using h1
  refine ⟨(List.range len).map f, a, cap, by rw [hv]; simp, by simpa using hl, hm, fun i hi => ?_⟩
  have hi' : i < len := by simpa using hi
  obtain ⟨b, off, cs, t, fr, ha, hb, h0, h1, h2⟩ := hf i hi'
  exact ⟨b, off, cs, t, fr, ha, hb, by simpa using h0, by simpa using h1, by simpa using h2⟩
/-- a raw graph as an argument -/
theorem Rd.raw {w : World} {cs : Array Value} (h : Rd Tryd.prog w 25 cs.toList) : ∃ r : Raw, RawV w (.agg cs) r := by
  obtain ⟨es⟩ := cs
  obtain ⟨hl, _⟩ := Rd.struct Tryd.underlying25 h
  obtain ⟨e0, e1, e2, e3, rfl⟩ := four_of (hl.trans (show Tryd.prog.cellsOf 25 = 4 by kernel_rfl))
  clear hl
  · skip
    obtain ⟨n, h0, _⟩ := Rd.int (k := .i64) Tryd.underlying3 (Rd.field (e := 3) (c := e0) Tryd.underlying25 h 0 (by kernel_rfl) (by kernel_rfl) rfl)
    obtain ⟨X, hX, _⟩ := Rd.ints (k := .i64) Tryd.underlying22 Tryd.underlying2 (by kernel_rfl) (Rd.field (e := 22) (c := e1) Tryd.underlying25 h 1 (by kernel_rfl) (by kernel_rfl) rfl)
    obtain ⟨Y, hY, _⟩ := Rd.ints (k := .i64) Tryd.underlying22 Tryd.underlying2 (by kernel_rfl) (Rd.field (e := 22) (c := e2) Tryd.underlying25 h 2 (by kernel_rfl) (by kernel_rfl) rfl)
    obtain ⟨L, hL⟩ := Rd.arcs (Rd.field (e := 23) (c := e3) Tryd.underlying25 h 3 (by kernel_rfl) (by kernel_rfl) rfl)
    cases h0
    exact ⟨⟨n, X, Y, L⟩, e1, e2, e3, rfl, SlX.of_I hX, SlX.of_I hY, hL⟩
end Go.Proofs.YtnkcmlngoeofgaaDoor
/- NetWrong: a graph of ours with another number of nodes, with fewer Y; rows of arguments cut; operations that are passed over. -/
namespace Go.Proofs.YtnkcmlngoeofgaaDoor
open Go.RowKit
section
variable {P : Program} {ops : Array Oper} {Q : Exit → Act → World → Prop} {S : World → Prop}
theorem heldA_skip {i d : Nat} {oi : Oper} {fuel : Nat} {listed : Array Bool} {tmps : Array Value} {ds : List Deferred} {w : World} (hi : ops[i]? = some oi) (hd : oi.dst = some d) (hs : Region.noSelect ops = true) (hf : Region.free .any ops listed i = true)
    (hr : (Region.ready .any ops listed).contains i = true) (hQ : ∀ c a w, Q (.panic c) (a.put oi.dst undef) w → Q (.panic c) a w) (hw : Region.wanted oi (yielded ops tmps) = false) (hS : S w)
    (h : wpAnyH P .any ops Q S fuel (listed.setIfInBounds i true) { tmps := tmps.setIfInBounds d undef, defers := ds } w) : wpAnyH P .any ops Q S (fuel + 1) listed { tmps := tmps, defers := ds } w :=
  wpAnyH_take hi hs hf hr hQ (Or.inr ⟨hw, rfl⟩) hS (by rw [hd]; exact h)
end
theorem inC_map (L : List Int) : L.flatMap inC = L.map (Value.int .i64) := by
  induction L with
  | nil => rfl
  | cons x L ih => rw [List.flatMap_cons, ih]; rfl
theorem OutI.takeY {w1 W : World} {Bo : Nat} {vx va : Value} {g n cap : Nat} {r : Raw} (h : OutI w1 Bo vx (.slice (some ⟨g, 0, none⟩) n cap) va r W) (hn : r.Y.length = n) (m : Nat) (hm : m ≤ n) :
    OutI w1 Bo vx (.slice (some ⟨g, 0, none⟩) m cap) va { r with Y := r.Y.take m } (W.setCell ⟨Bo, 2, none⟩ (.slice (some ⟨g, 0, none⟩) m cap)) := by
  have hown := h.own.2.1
  obtain ⟨hl, h2⟩ := hown
  have hY : W.ownsRow w1.heap.size 2 1 (.slice (some ⟨g, 0, none⟩) m cap) (r.Y.take m).length ((r.Y.take m).flatMap inC) := by
    have hlm : (r.Y.take m).length = m := by rw [List.length_take]; omega
    rw [hlm]
    refine ⟨by rw [inC_map, List.length_map, hlm, Nat.mul_one], ?_⟩
    rcases h2 with ⟨e, _⟩ | ⟨g', cap', cur, ev, hb, hg, hnc, hcm, hcs, ht⟩
    · cases e
    · obtain ⟨rfl, _, rfl⟩ : g = g' ∧ n = r.Y.length ∧ cap = cap' := by simpa using ev
      refine .inr ⟨g, cap, cur, rfl, hb, hg, by omega, hcm, hcs, ?_⟩
      have : (cur.toList.take (r.Y.length * 1)).take (m * 1) = (r.Y.flatMap inC).take (m * 1) := by rw [ht]
      rw [List.take_take, Nat.min_eq_left (by omega)] at this
      rw [this, inC_map, inC_map, List.map_take, Nat.mul_one]
  have hO : Own3 w1.heap.size W vx (.slice (some ⟨g, 0, none⟩) m cap) va { r with Y := r.Y.take m } := ⟨h.own.1, hY, h.own.2.2.1, fun b h1 h3 => h.own.2.2.2 b h1 (by simpa [Value.ownBlock] using h3)⟩
  exact ⟨h.blk.set 2 _, hO.set (p := ⟨Bo, 2, none⟩) h.blk (by decide) (by decide) _, h.kept.setCell (p := ⟨Bo, 2, none⟩) rfl _⟩
theorem OutI.setN {w1 W : World} {Bo : Nat} {vx vy va : Value} {r : Raw} (h : OutI w1 Bo vx vy va r W) (n : Int) : OutI w1 Bo vx vy va { r with nodes := n } (W.setCell ⟨Bo, 0, none⟩ (.int .i64 n)) :=
  ⟨h.blk.set 0 _, Own3.set (r := { r with nodes := n }) (p := ⟨Bo, 0, none⟩) h.own h.blk (by decide) (by decide) _, h.kept.setCell (p := ⟨Bo, 0, none⟩) rfl _⟩
theorem ownCellB {w : World} {lo : Nat} {e : TypeId} {gl c : Nat} {R : List Int} (h : w.ownsRow lo e 1 (.slice (some ⟨gl, 0, none⟩) R.length c) R.length (R.flatMap inC)) {i : Nat} (hi : i < R.length) : ∃ x, w.cell? ⟨gl, i, none⟩ = some x := by
  obtain ⟨b, off, e2, hc⟩ := (slX_own rfl h).at i hi
  obtain ⟨rfl, rfl⟩ : gl = b ∧ 0 = off := by simpa using e2
  rw [Nat.zero_add] at hc
  exact ⟨_, hc⟩
theorem OutI.cellX {w1 W : World} {Bo : Nat} {vy va : Value} {g n cap : Nat} {r : Raw} (h : OutI w1 Bo (.slice (some ⟨g, 0, none⟩) n cap) vy va r W) (hn : r.X.length = n) (k : Nat) (hk : k < n) : (∃ v, W.cell? ⟨g, k, none⟩ = some v) ∧ W.frozen? ⟨g, k, none⟩ = false := by
  subst hn
  obtain ⟨_, _, hg⟩ := ownsRow_blk' h.own.1 (g := g) rfl
  exact ⟨ownCellB h.own.1 hk, hg.free _ (Or.inr (Nat.zero_le _))⟩
theorem OutI.cellY {w1 W : World} {Bo : Nat} {vx va : Value} {g n cap : Nat} {r : Raw} (h : OutI w1 Bo vx (.slice (some ⟨g, 0, none⟩) n cap) va r W) (hn : r.Y.length = n) (k : Nat) (hk : k < n) : (∃ v, W.cell? ⟨g, k, none⟩ = some v) ∧ W.frozen? ⟨g, k, none⟩ = false := by
  subst hn
  obtain ⟨_, _, hg⟩ := ownsRow_blk' h.own.2.1 (g := g) rfl
  exact ⟨ownCellB h.own.2.1 hk, hg.free _ (Or.inr (Nat.zero_le _))⟩
theorem SlA.cut {w : World} {a : Option Addr} {n cap : Nat} {L : List Ar} (h : SlA w (.slice a n cap) L) (m : Nat) (hm : m ≤ L.length) : SlA w (.slice a m cap) (L.take m) := by
  obtain ⟨a', cap', e, h1, h2, h3⟩ := h
  obtain ⟨rfl, rfl, rfl⟩ : a = a' ∧ n = L.length ∧ cap = cap' := by simpa using e
  have hl : (L.take m).length = m := by rw [List.length_take]; omega
  refine ⟨a, cap, by rw [hl], by omega, h2, fun i hi => ?_⟩
  have hi' : i < L.length := by omega
  rw [List.getElem_take]
  exact h3 i hi'
end Go.Proofs.YtnkcmlngoeofgaaDoor
/- the graph laws' few. -/
namespace Go.Proofs.YtnkcmlngoeofgaaDoor
open Go.RowKit
theorem SlX.cut {w : World} {a : Option Addr} {n cap : Nat} {L : List Int} (h : SlX w (.slice a n cap) L) (m : Nat) (hm : m ≤ L.length) : SlX w (.slice a m cap) (L.take m) := by
  obtain ⟨a', cap', e, h1, h2, h3⟩ := h
  obtain ⟨rfl, rfl, rfl⟩ : a = a' ∧ n = L.length ∧ cap = cap' := by simpa using e
  have hl : (L.take m).length = m := by rw [List.length_take]; omega
  refine ⟨a, cap, by rw [hl], by omega, h2, fun i hi => ?_⟩
  have hi' : i < L.length := by omega
  rw [List.getElem_take]
  exact h3 i hi'
/-- a graph with lists that are not too long -/
def fewR (r : Raw) : Raw := ⟨r.nodes, r.X.take (min r.X.length 40), r.Y.take (min r.Y.length 40), r.arcs.take (min r.arcs.length 60)⟩
theorem fewR_few (r : Raw) : (fewR r).X.length ≤ 40 ∧ (fewR r).Y.length ≤ 40 ∧ (fewR r).arcs.length ≤ 60 := by
  refine ⟨?_, ?_, ?_⟩
  · show (r.X.take _).length ≤ _; rw [List.length_take]; omega
  · show (r.Y.take _).length ≤ _; rw [List.length_take]; omega
  · show (r.arcs.take _).length ≤ _; rw [List.length_take]; omega
set_option maxRecDepth 100000 in
set_option maxHeartbeats 8000000 in
theorem few_any (v : Value) (r : Raw) (w : World) (h : RawV w v r) : Calls Tryd.prog 14 #[v] w fun e w' => ∃ v', e = .returned v' ∧ RawV w' v' (fewR r) ∧ Below w.heap.size w w' := by
  obtain ⟨vx, vy, va, rfl, hx, hy, ha⟩ := h
  obtain ⟨xa, xc, rfl, hxc, hxm, _⟩ := id hx
  obtain ⟨ya, yc, rfl, hyc, hym, _⟩ := id hy
  obtain ⟨za, zc, rfl, hzc, hzm, _⟩ := id ha
  unfold maxLen at hxm hym hzm
  obtain ⟨B1, hB1⟩ : ∃ b, b = w.heap.size := ⟨_, rfl⟩
  obtain ⟨B2, hB2⟩ : ∃ b, b = w.heap.size + 1 := ⟨_, rfl⟩
  obtain ⟨w1, hw1⟩ : ∃ u, u = (w.alloc (.cells #[.int .i64 r.nodes, .slice xa r.X.length xc, .slice ya r.Y.length yc, .slice za r.arcs.length zc] 25)).alloc (.cells #[.int .i64 0, .slice none 0 0, .slice none 0 0, .slice none 0 0] 25) := ⟨_, rfl⟩
  have hb1 : Below w.heap.size w w1 := by rw [hw1]; exact ((Below.refl _ _).alloc (Nat.le_refl _) _).alloc (by simp) _
  have K1 : Blk w1 B1 #[.int .i64 r.nodes, .slice xa r.X.length xc, .slice ya r.Y.length yc, .slice za r.arcs.length zc] 25 (0, 0) := by rw [hw1, hB1]; exact (Blk.new _ _ _ _).alloc _
  have K2 : Blk w1 B2 #[.int .i64 0, .slice none 0 0, .slice none 0 0, .slice none 0 0] 25 (0, 0) := by
    rw [hw1, hB2]
    have h := Blk.new (w.alloc (.cells #[.int .i64 r.nodes, .slice xa r.X.length xc, .slice ya r.Y.length yc, .slice za r.arcs.length zc] 25)) #[.int .i64 0, .slice none 0 0, .slice none 0 0, .slice none 0 0] 25 (0, 0)
    rwa [World.size_alloc] at h
  have hne : B2 ≠ B1 := by omega
  have hle1 : w.heap.size ≤ B1 := by omega
  have hle2 : w.heap.size ≤ B2 := by omega
  have HC := Lib.hid (And.intro hne (And.intro hle1 hle2))
  have HX := Lib.hid hx; have HY := Lib.hid hy; have HA := Lib.hid ha
  have HB := Lib.hid hb1; have HK1 := Lib.hid K1; have HK2 := Lib.hid K2; have HW1 := Lib.hid hw1; have HE1 := Lib.hid hB1; have HE2 := Lib.hid hB2
  have g1 : (if (40 : Int) < (r.X.length : Int) then (40 : Int) else (r.X.length : Int)) = ((min r.X.length 40 : Nat) : Int) := by split <;> omega
  have g2 : (if (40 : Int) < (r.Y.length : Int) then (40 : Int) else (r.Y.length : Int)) = ((min r.Y.length 40 : Nat) : Int) := by split <;> omega
  have g3 : (if (60 : Int) < (r.arcs.length : Int) then (60 : Int) else (r.arcs.length : Int)) = ((min r.arcs.length 60 : Nat) : Int) := by split <;> omega
  have i1 : ((min r.X.length 40 : Nat) : Int) ≤ (xc : Int) := by omega
  have i2 : ((min r.Y.length 40 : Nat) : Int) ≤ (yc : Int) := by omega
  have i3 : ((min r.arcs.length 60 : Nat) : Int) ≤ (zc : Int) := by omega
  have j1 : min r.X.length 40 ≤ xc := by omega
  have j2 : min r.Y.length 40 ≤ yc := by omega
  have j3 : min r.arcs.length 60 ≤ zc := by omega
  clear hx hy ha hb1 K1 K2 hw1 hne hle1 hle2
  go_enter Tryd.func14, Tryd.ntmps14
  go_upto_region 1 with fail
  rw [← HW1.out, ← HE2.out, ← HE1.out]
  clear hB1 hB2 HW1 HE1 HE2
  have c := HK1.out.cell 1; have f := HK1.out.free 1 (Or.inr (Nat.zero_le _))
  change w1.cell? ⟨B1, 1, none⟩ = some (.slice xa r.X.length xc) at c
  go_upto_region 2 with fail
  have K1 := HK1.out.set 1 (.slice xa (min r.X.length 40) xc)
  have K2 := HK2.out.setOther ⟨B1, 1, none⟩ (.slice xa (min r.X.length 40) xc) HC.out.1
  have hb := HB.out.setCell (p := ⟨B1, 1, none⟩) HC.out.2.1 (.slice xa (min r.X.length 40) xc)
  have HK1' := Lib.hid K1; have HK2' := Lib.hid K2; have HB' := Lib.hid hb
  clear c f K1 K2 hb HK1 HK2 HB
  generalize w1.setCell ⟨B1, 1, none⟩ (.slice xa (min r.X.length 40) xc) = w2 at *
  have c := HK1'.out.cell 2; have f := HK1'.out.free 2 (Or.inr (Nat.zero_le _))
  change w2.cell? ⟨B1, 2, none⟩ = some (.slice ya r.Y.length yc) at c
  go_upto_region 3 with fail
  have K1 := HK1'.out.set 2 (.slice ya (min r.Y.length 40) yc)
  have K2 := HK2'.out.setOther ⟨B1, 2, none⟩ (.slice ya (min r.Y.length 40) yc) HC.out.1
  have hb := HB'.out.setCell (p := ⟨B1, 2, none⟩) HC.out.2.1 (.slice ya (min r.Y.length 40) yc)
  have HK1 := Lib.hid K1; have HK2 := Lib.hid K2; have HB := Lib.hid hb
  clear c f K1 K2 hb HK1' HK2' HB'
  generalize w2.setCell ⟨B1, 2, none⟩ (.slice ya (min r.Y.length 40) yc) = w3 at *
  have c := HK1.out.cell 3; have f := HK1.out.free 3 (Or.inr (Nat.zero_le _))
  change w3.cell? ⟨B1, 3, none⟩ = some (.slice za r.arcs.length zc) at c
  go_upto_region 4 with fail
  have K1 := HK1.out.set 3 (.slice za (min r.arcs.length 60) zc)
  have K2 := HK2.out.setOther ⟨B1, 3, none⟩ (.slice za (min r.arcs.length 60) zc) HC.out.1
  have hb := HB.out.setCell (p := ⟨B1, 3, none⟩) HC.out.2.1 (.slice za (min r.arcs.length 60) zc)
  have HK1' := Lib.hid K1; have HK2' := Lib.hid K2; have HB' := Lib.hid hb
  clear c f K1 K2 hb HK1 HK2 HB
  generalize w3.setCell ⟨B1, 3, none⟩ (.slice za (min r.arcs.length 60) zc) = w4 at *
  have c0 := HK1'.out.cell 0; have c1 := HK1'.out.cell 1; have c2 := HK1'.out.cell 2; have c3 := HK1'.out.cell 3
  change w4.cell? ⟨B1, 0, none⟩ = some (.int .i64 r.nodes) at c0
  change w4.cell? ⟨B1, 1, none⟩ = some (.slice xa (min r.X.length 40) xc) at c1
  change w4.cell? ⟨B1, 2, none⟩ = some (.slice ya (min r.Y.length 40) yc) at c2
  change w4.cell? ⟨B1, 3, none⟩ = some (.slice za (min r.arcs.length 60) zc) at c3
  have e0 := HK2'.out.cell 0; have e1 := HK2'.out.cell 1; have e2 := HK2'.out.cell 2; have e3 := HK2'.out.cell 3
  change w4.cell? ⟨B2, 0, none⟩ = some (.int .i64 0) at e0
  change w4.cell? ⟨B2, 1, none⟩ = some (.slice none 0 0) at e1
  change w4.cell? ⟨B2, 2, none⟩ = some (.slice none 0 0) at e2
  change w4.cell? ⟨B2, 3, none⟩ = some (.slice none 0 0) at e3
  have fr := fun i => HK2'.out.free i (Or.inr (Nat.zero_le _))
  have f0 := fr 0; have f1 := fr 1; have f2 := fr 2; have f3 := fr 3
  have bZ := (((HK2'.out.set 0 (.int .i64 r.nodes)).set 1 (.slice xa (min r.X.length 40) xc)).set 2 (.slice ya (min r.Y.length 40) yc)).set 3 (.slice za (min r.arcs.length 60) zc)
  have hbz := (((HB'.out.setCell (p := ⟨B2, 0, none⟩) HC.out.2.2 (.int .i64 r.nodes)).setCell (p := ⟨B2, 1, none⟩) HC.out.2.2 (.slice xa (min r.X.length 40) xc)).setCell (p := ⟨B2, 2, none⟩) HC.out.2.2 (.slice ya (min r.Y.length 40) yc)).setCell (p := ⟨B2, 3, none⟩) HC.out.2.2 (.slice za (min r.arcs.length 60) zc)
  have HZ := Lib.hid bZ; have HBz := Lib.hid hbz
  clear bZ hbz fr HK1' HK2' HB'
  go_wp2_with fail
  generalize (((w4.setCell ⟨B2, 0, none⟩ (.int .i64 r.nodes)).setCell ⟨B2, 1, none⟩ (.slice xa (min r.X.length 40) xc)).setCell ⟨B2, 2, none⟩ (.slice ya (min r.Y.length 40) yc)).setCell ⟨B2, 3, none⟩ (.slice za (min r.arcs.length 60) zc) = wz at *
  have z0 := HZ.out.cell 0; have z1 := HZ.out.cell 1; have z2 := HZ.out.cell 2; have z3 := HZ.out.cell 3
  change wz.cell? ⟨B2, 0, none⟩ = some (.int .i64 r.nodes) at z0
  change wz.cell? ⟨B2, 1, none⟩ = some (.slice xa (min r.X.length 40) xc) at z1
  change wz.cell? ⟨B2, 2, none⟩ = some (.slice ya (min r.Y.length 40) yc) at z2
  change wz.cell? ⟨B2, 3, none⟩ = some (.slice za (min r.arcs.length 60) zc) at z3
  have k := KpC.of_below HBz.out
  exact bodyPost_ret (v := .agg #[.int .i64 r.nodes, .slice xa (min r.X.length 40) xc, .slice ya (min r.Y.length 40) yc, .slice za (min r.arcs.length 60) zc]) (by simp [results, Tryd.results14, go_sem, z0, z1, z2, z3]) rfl ⟨_, rfl, ⟨_, _, _, rfl, (HX.out.keep k).cut _ (by omega), (HY.out.keep k).cut _ (by omega), (HA.out.keep k).cut _ (by omega)⟩, HBz.out⟩
end Go.Proofs.YtnkcmlngoeofgaaDoor
/- what right gives is a graph that may be. -/
namespace Go.Proofs.YtnkcmlngoeofgaaDoor
theorem w32_ok (x : Int) : coordOk (w32 x) := by
  unfold coordOk w32
  rw [IntKind.wrap_i32]
  omega
theorem rightV_ok (r : Raw) (n : Nat) : (rightV r n).Ok := by
  have hn : n % 12 < 12 := Nat.mod_lt _ (by omega)
  refine ⟨?_, ?_, ?_, ?_, ?_, ?_, ?_⟩
  · show (1 : Int) ≤ ((1 + n % 12 : Nat) : Int) ∧ ((1 + n % 12 : Nat) : Int) ≤ 16777216
    omega
  · show (((List.range (1 + n % 12)).map _).length : Int) = ((1 + n % 12 : Nat) : Int)
    rw [List.length_map, List.length_range]
  · show (((List.range (1 + n % 12)).map _).length : Int) = ((1 + n % 12 : Nat) : Int)
    rw [List.length_map, List.length_range]
  · intro x hx
    obtain ⟨i, _, rfl⟩ := List.mem_map.1 hx
    exact w32_ok _
  · intro x hx
    obtain ⟨i, _, rfl⟩ := List.mem_map.1 hx
    exact w32_ok _
  · show ((r.arcs.take 40).map _).length ≤ _
    rw [List.length_map, List.length_take]; omega
  · intro a ha
    obtain ⟨b, _, rfl⟩ := List.mem_map.1 ha
    have hN : (0 : Int) < ((1 + n % 12 : Nat) : Int) := by omega
    refine ⟨⟨Int.emod_nonneg _ (by omega), Int.emod_lt_of_pos _ hN⟩, ⟨Int.emod_nonneg _ (by omega), Int.emod_lt_of_pos _ hN⟩, ⟨Int.emod_nonneg _ (by omega), Int.emod_lt_of_pos _ (by omega)⟩⟩
end Go.Proofs.YtnkcmlngoeofgaaDoor
/- GraphFirst, in plain words: where the first bad place of a graph is. -/
namespace Go.Proofs.YtnkcmlngoeofgaaDoor
theorem nodesP_prefix (X Y : List Int) : ∀ k i, i ≤ k → nodesP X Y i <+: nodesP X Y k
  | 0, i, h => by obtain rfl : i = 0 := by omega
                  exact List.prefix_refl _
  | k + 1, i, h => by
    rcases Nat.lt_or_ge i (k + 1) with h' | h'
    · exact (nodesP_prefix X Y k i (by omega)).trans ⟨_, rfl⟩
    · obtain rfl : i = k + 1 := by omega
      exact List.prefix_refl _
theorem arcsP_prefix (n : Int) (L : List Ar) : ∀ k i, i ≤ k → arcsP n L i <+: arcsP n L k
  | 0, i, h => by obtain rfl : i = 0 := by omega
                  exact List.prefix_refl _
  | k + 1, i, h => by
    rcases Nat.lt_or_ge i (k + 1) with h' | h'
    · exact (arcsP_prefix n L k i (by omega)).trans ⟨_, rfl⟩
    · obtain rfl : i = k + 1 := by omega
      exact List.prefix_refl _
/-- a graph's count and its lists' lengths are right -/
def Raw.sized (r : Raw) : Prop := (1 ≤ r.nodes ∧ r.nodes ≤ 16777216) ∧ (r.X.length : Int) = r.nodes ∧ (r.Y.length : Int) = r.nodes
theorem sized_look {r : Raw} (h : r.sized) : lookV (phases r.nodes r.X r.Y r.arcs) 0 = lookV [nodesP r.X r.Y r.X.length, [⟨0, 0, 8, r.arcs.length, 0, 67108865⟩], arcsP r.nodes r.arcs r.arcs.length] 2 := by
  obtain ⟨h1, h2, h3⟩ := h
  unfold phases
  rw [lookV_cons (find_none fun p hp => ?_), lookV_cons (find_none fun p hp => ?_)]
  · simp only [List.mem_cons, List.not_mem_nil, or_false] at hp
    rcases hp with rfl | rfl <;> exact good_of (by dsimp only; omega)
  · simp only [List.mem_cons, List.not_mem_nil, or_false] at hp
    subst hp; exact good_of (by dsimp only; omega)
theorem first_node {r : Raw} (h : r.sized) {i : Nat} (hi : i < r.X.length) {pre : List Pl} {p : Pl} (hp : nodesP r.X r.Y i ++ pre ++ [p] <+: nodesP r.X r.Y (i + 1)) (hn : ∀ q ∈ nodesP r.X r.Y i ++ pre, q.bad = false) (hb : p.bad = true) : r.wrong = (p.co, 2, p.ix, p.fl) := by
  unfold Raw.wrong
  rw [sized_look h]
  have hf := find_pre (hp.trans (nodesP_prefix r.X r.Y r.X.length (i + 1) (by omega))) hn hb
  show faultOf (lookV _ _) = _
  rw [lookV]
  simp only [hf]
  rfl
theorem first_arc {r : Raw} (h : r.sized) (hg : ∀ q ∈ nodesP r.X r.Y r.X.length, q.bad = false) (hl : r.arcs.length ≤ 67108864) {i : Nat} (hi : i < r.arcs.length) {pre : List Pl} {p : Pl} (hp : arcsP r.nodes r.arcs i ++ pre ++ [p] <+: arcsP r.nodes r.arcs (i + 1)) (hn : ∀ q ∈ arcsP r.nodes r.arcs i ++ pre, q.bad = false) (hb : p.bad = true) : r.wrong = (p.co, 4, p.ix, p.fl) := by
  unfold Raw.wrong
  rw [sized_look h, lookV_cons (find_none hg), lookV_cons (find_none fun q hq => by
    simp only [List.mem_cons, List.not_mem_nil, or_false] at hq
    subst hq; exact good_of (by dsimp only; omega))]
  have hf := find_pre (hp.trans (arcsP_prefix r.nodes r.arcs r.arcs.length (i + 1) (by omega))) hn hb
  show faultOf (lookV _ _) = _
  rw [lookV]
  simp only [hf]
  rfl
end Go.Proofs.YtnkcmlngoeofgaaDoor
