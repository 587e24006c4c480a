/- Texts of the law NetShares, merged: NetShares. -/
import Derived.Test.YtnkcmlngoeofgaaDoorPNetShares00
import Derived.Deep.Cut
import Derived.Deep.CutRange
/- NetShares, its walk. -/
namespace Go.Proofs.YtnkcmlngoeofgaaDoor
open Go.RowKit
set_option maxRecDepth 100000 in
set_option maxHeartbeats 32000000 in
theorem netShares_any (v : Value) (l : List Int) (w : World) (h : SlI w v .u8 l) (hg : HG w) : Calls Tryd.prog 10 #[v] w fun e w' => e = .returned (.bool true) ∧ Below w.heap.size w w' := by
  have HSl := Lib.hid h
  have HG0 := Lib.hid hg
  clear h hg
  go_enter Tryd.func10, Tryd.ntmps10
  go_wp2_with fail
  refine (works7_any w HG0.out).mono ?_
  rintro e w1 ⟨rfl, hb1⟩
  have HB1 := Lib.hid hb1
  clear hb1
  go_wp2_with fail
  refine (drawn7_any v l w1 (HSl.out.below HB1.out)).mono ?_
  rintro e w2 ⟨vg, g, rfl, hraw, hok, hgl, hb2⟩
  have HB2 := Lib.hid (HB1.out.next' hb2)
  have C := Lib.hid (copy7_any vg g w2 hraw.raw hok.few)
  obtain ⟨_, _, _, rfl, _⟩ := id hraw.raw
  have HOk := Lib.hid hok; have HGl := Lib.hid hgl
  clear hraw hb2 hok hgl
  go_wp2_with fail
  refine C.out.mono ?_
  rintro e w3 ⟨vc, rfl, ⟨cx, cy, ca, rfl, o1, o2, o3, o4⟩, hb3⟩
  obtain ⟨cxa, cxc, rfl, _⟩ := ownForm o1
  obtain ⟨cya, cyc, rfl, _⟩ := ownForm o2
  obtain ⟨cza, czc, rfl, _⟩ := ownForm o3
  have HCo := Lib.hid (show Own3 w2.heap.size w3 (.slice cxa g.X.length cxc) (.slice cya g.Y.length cyc) (.slice cza g.arcs.length czc) g from ⟨o1, o2, o3, o4⟩)
  obtain ⟨B3, hB3⟩ : ∃ b, b = w3.heap.size := ⟨_, rfl⟩
  obtain ⟨w4, hw4⟩ : ∃ u, u = w3.alloc (.cells #[.int .i64 g.nodes, .slice cxa g.X.length cxc, .slice cya g.Y.length cyc, .slice cza g.arcs.length czc] 25) := ⟨_, rfl⟩
  have hb4 : Below w3.heap.size w3 w4 := by rw [hw4]; exact (Below.refl _ _).alloc (Nat.le_refl _) _
  have K3 : Blk w4 B3 #[.int .i64 g.nodes, .slice cxa g.X.length cxc, .slice cya g.Y.length cyc, .slice cza g.arcs.length czc] 25 (0, 0) := by rw [hw4, hB3]; exact Blk.new _ _ _ _
  have HB3 := Lib.hid (HB2.out.next' hb3)
  have HB4 := Lib.hid (HB3.out.next' hb4)
  have Hb4 := Lib.hid hb4
  have HCr := Lib.hid (show RawV w4 (.agg #[.int .i64 g.nodes, .slice cxa g.X.length cxc, .slice cya g.Y.length cyc, .slice cza g.arcs.length czc]) g from RawV.below ⟨_, _, _, rfl, slX_own rfl o1, slX_own rfl o2, slA_own rfl o3⟩ hb4)
  have C2 := Lib.hid (copy7_any _ g w4 HCr.out HOk.out.few)
  have HK3 := Lib.hid K3; have HW4 := Lib.hid hw4; have HE3 := Lib.hid hB3
  have c0 := K3.cell 0; have c1 := K3.cell 1; have c2 := K3.cell 2; have c3 := K3.cell 3
  simp only [List.getElem?_toArray, List.getElem?_cons_succ, List.getElem?_cons_zero] at c0 c1 c2 c3
  clear o1 o2 o3 o4 hb3 hb4 hw4 hB3 K3 C
  go_wp2_with fail
  rw [← HW4.out, ← HE3.out]
  clear HW4
  go_wp2_with fail
  refine C2.out.mono ?_
  rintro e w5 ⟨vk, rfl, ⟨kx, ky, ka, rfl, o1, o2, o3, o4⟩, hb5⟩
  obtain ⟨kxa, kxc, rfl, _⟩ := ownForm o1
  obtain ⟨kya, kyc, rfl, _⟩ := ownForm o2
  obtain ⟨kza, kzc, rfl, _⟩ := ownForm o3
  obtain ⟨B4, hB4⟩ : ∃ b, b = w5.heap.size := ⟨_, rfl⟩
  obtain ⟨w6, hw6⟩ : ∃ u, u = w5.alloc (.cells #[.int .i64 g.nodes, .slice kxa g.X.length kxc, .slice kya g.Y.length kyc, .slice kza g.arcs.length kzc] 25) := ⟨_, rfl⟩
  have hb6 : Below w5.heap.size w5 w6 := by rw [hw6]; exact (Below.refl _ _).alloc (Nat.le_refl _) _
  have K4 : Blk w6 B4 #[.int .i64 g.nodes, .slice kxa g.X.length kxc, .slice kya g.Y.length kyc, .slice kza g.arcs.length kzc] 25 (0, 0) := by rw [hw6, hB4]; exact Blk.new _ _ _ _
  have HKo := Lib.hid (show Own3 w4.heap.size w6 (.slice kxa g.X.length kxc) (.slice kya g.Y.length kyc) (.slice kza g.arcs.length kzc) g from Own3.below ⟨o1, o2, o3, o4⟩ hb6)
  have Hb46 := Lib.hid (hb5.next' hb6)
  have HL5 := Lib.hid hb5.size
  have HB6 := Lib.hid (HB4.out.next' Hb46.out)
  have HK4 := Lib.hid K4; have HW6 := Lib.hid hw6; have HE4 := Lib.hid hB4
  have C3 := Lib.hid (new_any _ g w6 (HG0.out.later HB6.out) (HCr.out.below Hb46.out) HOk.out.few)
  clear c0 c1 c2 c3
  have c := HK3.out.below Hb46.out HK3.out.lt
  have c0 := c.cell 0; have c1 := c.cell 1; have c2 := c.cell 2; have c3 := c.cell 3
  simp only [List.getElem?_toArray, List.getElem?_cons_succ, List.getElem?_cons_zero] at c0 c1 c2 c3
  rw [hw6] at c0 c1 c2 c3
  clear o1 o2 o3 o4 hb5 hb6 hw6 hB4 K4 C2 c
  go_wp2_with fail
  rw [← HW6.out, ← HE4.out]
  clear HW6
  go_wp2_with fail
  refine C3.out.mono ?_
  rintro e w7 ⟨h | h, hb7⟩
  · exact absurd (g.ok_iff.2 HOk.out) h.1
  obtain ⟨_, p, rfl, hn⟩ := h
  have HB7 := Lib.hid (HB6.out.next' hb7); have Hb7 := Lib.hid hb7; have HN := Lib.hid hn
  clear hn hb7 C3 c0 c1 c2 c3
  go_wp2_with fail
  refine (turnedN_any p g w7 HN.out.at HOk.out.few HOk.out).mono ?_
  rintro e w8 ⟨q, rfl, hq, hb8⟩
  have HB8 := Lib.hid (HB7.out.next' hb8)
  obtain ⟨S, hS⟩ : ∃ S : Nat → Prop, S = fun k => w.heap.size ≤ k ∧ k < w3.heap.size := ⟨_, rfl⟩
  have e3 := HE3.out; have e4 := HE4.out
  have s1 := HB1.out.size; have s2 := HB2.out.size; have s3 := HB3.out.size; have s34 := Hb4.out.size; have s46 := Hb46.out.size; have s67 := Hb7.out.size; have s78 := hb8.size
  have l3 := HK3.out.lt; have l4 := HK4.out.lt; have s45 := HL5.out
  have hb48 : Below w4.heap.size w4 w8 := (Hb46.out.next' Hb7.out).next' hb8
  have hb68 : Below w6.heap.size w6 w8 := Hb7.out.next' hb8
  have HF := Lib.hid (show ∀ u, Kept S w8 u → (u.cell? ⟨B3, 0, none⟩ = some (.int .i64 g.nodes) ∧ u.cell? ⟨B3, 1, none⟩ = some (.slice cxa g.X.length cxc) ∧ u.cell? ⟨B3, 2, none⟩ = some (.slice cya g.Y.length cyc) ∧ u.cell? ⟨B3, 3, none⟩ = some (.slice cza g.arcs.length czc)) ∧ (u.cell? ⟨B4, 0, none⟩ = some (.int .i64 g.nodes) ∧ u.cell? ⟨B4, 1, none⟩ = some (.slice kxa g.X.length kxc) ∧ u.cell? ⟨B4, 2, none⟩ = some (.slice kya g.Y.length kyc) ∧ u.cell? ⟨B4, 3, none⟩ = some (.slice kza g.arcs.length kzc)) ∧ NetAt u p g ∧ NetAt u q g.turned ∧ RawV u (.agg #[.int .i64 g.nodes, .slice kxa g.X.length kxc, .slice kya g.Y.length kyc, .slice kza g.arcs.length kzc]) g ∧ Below w.heap.size w u from fun u hu => by
    have nS : ∀ k, w3.heap.size ≤ k → ¬ S k := fun k hk h => by rw [hS] at h; omega
    have b3 := hu.blk (HK3.out.below hb48 HK3.out.lt) (nS _ (by omega))
    have b4 := hu.blk (HK4.out.below hb68 HK4.out.lt) (nS _ (by omega))
    have n1 : NetAt u p g := (HN.out.below hb8) u hu.size (fun k h1 h2 => hu.block k h2 (nS k (by omega)))
    have n2 : NetAt u q g.turned := hq u hu.size (fun k h1 h2 => hu.block k h2 (nS k (by omega)))
    have ko := Own3.below HKo.out hb68
    have agr : ∀ {e : TypeId} {size : Nat} {x : Value} {n : Nat} {xs : List Value}, w8.ownsRow w4.heap.size e size x n xs → u.ownsRow w4.heap.size e size x n xs := fun hr =>
      ownsRow_agree' hr fun c hc => by
        obtain ⟨h1, _, h2⟩ := ownsRow_blk' hr hc
        exact hu.block c h2.lt (nS c (by omega))
    refine ⟨⟨b3.cell 0, b3.cell 1, b3.cell 2, b3.cell 3⟩, ⟨b4.cell 0, b4.cell 1, b4.cell 2, b4.cell 3⟩, n1, n2, ⟨_, _, _, rfl, slX_own rfl (agr ko.1), slX_own rfl (agr ko.2.1), slA_own rfl (agr ko.2.2.1)⟩, ?_⟩
    exact ⟨hu.os.trans HB8.out.os, hu.tape.trans HB8.out.tape, hu.output.trans HB8.out.output, Nat.le_trans HB8.out.size hu.size, fun k hk => (hu.block k (by have := HB8.out.size; omega) (fun h => by rw [hS] at h; omega)).trans (HB8.out.block k hk)⟩)
  have HC8 := Lib.hid (show RawI S w8.heap.size w8 (.slice cxa g.X.length cxc) (.slice cya g.Y.length cyc) (.slice cza g.arcs.length czc) g from by
    have h4 := (RawI.of (S := S) (N8 := w8.heap.size) HCo.out (fun b h1 h2 => .inl (by rw [hS]; omega)))
    exact (h4.below Hb4.out).below hb48)
  have HK8 := Lib.hid (Kept.refl S w8)
  have HS := Lib.hid (show ∀ u, Below w8.heap.size w8 u → (u.cell? ⟨B3, 0, none⟩ = some (.int .i64 g.nodes) ∧ u.cell? ⟨B3, 1, none⟩ = some (.slice cxa g.X.length cxc) ∧ u.cell? ⟨B3, 2, none⟩ = some (.slice cya g.Y.length cyc) ∧ u.cell? ⟨B3, 3, none⟩ = some (.slice cza g.arcs.length czc)) from fun u hu => (HF.out u (Kept.of_below hu)).1)
  have HBel := Lib.hid (Below.refl w8.heap.size w8)
  clear hS e3 e4 s45 HL5 s1 s2 s3 s34 s46 s67 s78 l3 l4 hb48 hb68 hq hb8 HE3 HE4 HK3 HK4 HN HKo HCo HCr Hb4 Hb46 Hb7 HB1 HB2 HB3 HB4 HB6 HB7 HB8
  go_wp2_with fail
  refine wp_region_held (S := fun w' => w'.cell? ⟨B3, 0, none⟩ = some (.int .i64 g.nodes) ∧ w'.cell? ⟨B3, 1, none⟩ = some (.slice cxa g.X.length cxc) ∧ w'.cell? ⟨B3, 2, none⟩ = some (.slice cya g.Y.length cyc) ∧ w'.cell? ⟨B3, 3, none⟩ = some (.slice cza g.arcs.length czc)) rfl ?_
  have hS0 := HS.out w8.drew (HBel.out.drew)
  change wpAnyH _ _ _ _ _ 7 _ _ w8.drew
  have HBe := Lib.hid (HBel.out.drew)
  refine heldA_take (i := 0) (v := .agg #[.int .i64 g.nodes, .slice cxa g.X.length cxc, .slice cya g.Y.length cyc, .slice cza g.arcs.length czc]) rfl rfl (by kernel_rfl) (by kernel_rfl) (by kernel_rfl) (fun _ _ _ h => h) (by rfl) (fun w hS => by obtain ⟨hS1, hS2, hS3, hS4⟩ := hS; go_simp) hS0 ?_
  simp only [List.setIfInBounds_toArray, List.set_cons_zero, List.set_cons_succ]
  refine heldA_take (i := 1) (v := .pointer (some ⟨p, 0, none⟩)) rfl rfl (by kernel_rfl) (by kernel_rfl) (by kernel_rfl) (fun _ _ _ h => h) (by rfl) (fun w hS => by obtain ⟨hS1, hS2, hS3, hS4⟩ := hS; go_simp) hS0 ?_
  simp only [List.setIfInBounds_toArray, List.set_cons_zero, List.set_cons_succ]
  refine heldA_take (i := 3) (v := .pointer (some ⟨q, 0, none⟩)) rfl rfl (by kernel_rfl) (by kernel_rfl) (by kernel_rfl) (fun _ _ _ h => h) (by rfl) (fun w hS => by obtain ⟨hS1, hS2, hS3, hS4⟩ := hS; go_simp) hS0 ?_
  simp only [List.setIfInBounds_toArray, List.set_cons_zero, List.set_cons_succ]
  refine heldA_take (i := 6) (v := .int .i64 0) rfl rfl (by kernel_rfl) (by kernel_rfl) (by kernel_rfl) (fun _ _ _ h => h) (by rfl) (fun w hS => by obtain ⟨hS1, hS2, hS3, hS4⟩ := hS; go_simp) hS0 ?_
  simp only [List.setIfInBounds_toArray, List.set_cons_zero, List.set_cons_succ]
  refine heldA_one (i := 2) (by kernel_rfl) ?_
  refine wpOp_calls (f := 39) rfl rfl (by rfl) (by go_simp) (raw_any p g w8.drew (HF.out _ (Kept.of_below HBe.out)).2.2.1 HOk.out.few) ?_ (by rintro _ _ ⟨_, h, _⟩; cases h) (by rintro _ ⟨_, h, _⟩; cases h)
  rintro _ u1 ⟨_, ⟨rfl⟩, hr, hb⟩
  have HBn := Lib.hid (HBe.out.trans (hb.mono HBe.out.size))
  obtain ⟨_, _, _, rfl, o1, o2, o3, o4⟩ := hr
  obtain ⟨rxa, rxc, rfl, _⟩ := ownForm o1
  obtain ⟨rya, ryc, rfl, _⟩ := ownForm o2
  obtain ⟨rza, rzc, rfl, _⟩ := ownForm o3
  have HR0 := Lib.hid (show RawI S w8.heap.size u1 (.slice rxa g.X.length rxc) (.slice rya g.Y.length ryc) (.slice rza g.arcs.length rzc) g from RawI.of (base := w8.drew.heap.size) ⟨o1, o2, o3, o4⟩ (fun b h1 _ => .inr (Nat.le_trans HBe.out.size h1)))
  clear o1 o2 o3 o4
  replace HBe := HBn
  clear HBn hb hS0
  have hS0 := HS.out u1 HBe.out
  refine ⟨hS0, ?_⟩
  simp only [List.setIfInBounds_toArray, List.set_cons_zero, List.set_cons_succ]
  refine heldA_one (i := 4) (by kernel_rfl) ?_
  refine wpOp_calls (f := 39) rfl rfl (by rfl) (by go_simp) (raw_any q g.turned u1 (HF.out _ (Kept.of_below HBe.out)).2.2.2.1 (Raw.turned_okB HOk.out).few) ?_ (by rintro _ _ ⟨_, h, _⟩; cases h) (by rintro _ ⟨_, h, _⟩; cases h)
  rintro vt u2 ⟨_, ⟨rfl⟩, hr, hb⟩
  have HBn := Lib.hid (HBe.out.trans (hb.mono HBe.out.size))
  obtain ⟨vx, vy, va, hv, o1, o2, o3, o4⟩ := hr
  change vt = .agg #[.int .i64 g.nodes, vx, vy, va] at hv
  subst hv
  change u2.ownsRow _ _ _ vx g.X.length (g.X.flatMap inC) at o1
  change u2.ownsRow _ _ _ vy g.Y.length (g.Y.flatMap inC) at o2
  rw [show g.turned.arcs.length = g.arcs.length from List.length_map ..] at o3
  obtain ⟨txa, txc, rfl, _⟩ := ownForm o1
  obtain ⟨tya, tyc, rfl, _⟩ := ownForm o2
  obtain ⟨tza, tzc, rfl, _⟩ := ownForm o3
  have HT := Lib.hid (show RawI S w8.heap.size u2 (.slice txa g.X.length txc) (.slice tya g.Y.length tyc) (.slice tza g.arcs.length tzc) g from ⟨RowI.of (by decide) o1 inC_ints (fun b h1 _ => .inr (Nat.le_trans HBe.out.size h1)), RowI.of (by decide) o2 inC_ints (fun b h1 _ => .inr (Nat.le_trans HBe.out.size h1)), RowI.of (by decide) o3 arC_ints (fun b h1 _ => .inr (Nat.le_trans HBe.out.size h1))⟩)
  replace HR0 := Lib.hid (HR0.out.below hb)
  clear o1 o2 o3 o4
  replace HBe := HBn
  clear HBn hb hS0
  have hS0 := HS.out u2 HBe.out
  refine ⟨hS0, ?_⟩
  simp only [List.setIfInBounds_toArray, List.set_cons_zero, List.set_cons_succ]
  refine heldA_take (i := 5) (v := .agg #[.int .i64 g.nodes, .slice cxa g.X.length cxc, .slice cya g.Y.length cyc, .slice cza g.arcs.length czc, .int .i64 g.nodes, .slice rxa g.X.length rxc, .slice rya g.Y.length ryc, .slice rza g.arcs.length rzc, .int .i64 g.nodes, .slice txa g.X.length txc, .slice tya g.Y.length tyc, .slice tza g.arcs.length tzc]) rfl rfl (by kernel_rfl) (by kernel_rfl) (by kernel_rfl) (fun _ _ _ h => h) (by rfl) (fun w hS => by obtain ⟨hS1, hS2, hS3, hS4⟩ := hS; go_simp) hS0 ?_
  simp only [List.setIfInBounds_toArray, List.set_cons_zero, List.set_cons_succ]
  refine wpAnyH_done (by kernel_rfl) ?_ _
  clear hS0 HBel
  have HI := Lib.hid (show Kept S w8 u2 ∧ RawI S w8.heap.size u2 (.slice cxa g.X.length cxc) (.slice cya g.Y.length cyc) (.slice cza g.arcs.length czc) g ∧ RawI S w8.heap.size u2 (.slice rxa g.X.length rxc) (.slice rya g.Y.length ryc) (.slice rza g.arcs.length rzc) g ∧ RawI S w8.heap.size u2 (.slice txa g.X.length txc) (.slice tya g.Y.length tyc) (.slice tza g.arcs.length tzc) g from ⟨Kept.of_below HBe.out, HC8.out.below HBe.out, HR0.out, HT.out⟩)
  clear HBe HC8 HR0 HT HK8 HS
  have hXb : g.X.length ≤ 12 := by have := HOk.out.lenX; have := HGl.out.1; omega
  have hAb : g.arcs.length ≤ 84 := HGl.out.2
  go_wp2_with fail
  go_loopw [38] (fun i wr => ∃ (k : Nat), k ≤ 3 ∧ i = .int .i64 k ∧ Hid (Kept S w8 wr ∧ RawI S w8.heap.size wr (.slice cxa g.X.length cxc) (.slice cya g.Y.length cyc) (.slice cza g.arcs.length czc) g ∧ RawI S w8.heap.size wr (.slice rxa g.X.length rxc) (.slice rya g.Y.length ryc) (.slice rza g.arcs.length rzc) g ∧ RawI S w8.heap.size wr (.slice txa g.X.length txc) (.slice tya g.Y.length tyc) (.slice tza g.arcs.length tzc) g)) (fun i _ => 3 - (intOf i).toNat)
  case atStart => exact ⟨0, by omega, rfl, HI⟩
  clear HI
  obtain ⟨k, hk, rfl, hrel⟩ := hrel
  have HI := hrel
  clear hrel
  by_cases hk3 : k < 3
  case pos =>
    go_upto_region 11 with fail
    go_cut [9, 38] from 38 to 80 (fun s9 s38 wx => ∃ (B9 : Nat) (xa ya za : Option Addr) (xc yc zc : Nat), s9 = .pointer (some ⟨B9, 0, none⟩) ∧ s38 = .int .i64 k ∧ Hid ((Kept S w8 wx ∧ RawI S w8.heap.size wx (.slice cxa g.X.length cxc) (.slice cya g.Y.length cyc) (.slice cza g.arcs.length czc) g ∧ RawI S w8.heap.size wx (.slice rxa g.X.length rxc) (.slice rya g.Y.length ryc) (.slice rza g.arcs.length rzc) g ∧ RawI S w8.heap.size wx (.slice txa g.X.length txc) (.slice tya g.Y.length tyc) (.slice tza g.arcs.length tzc) g) ∧ RawI S w8.heap.size wx (.slice xa g.X.length xc) (.slice ya g.Y.length yc) (.slice za g.arcs.length zc) g ∧ Blk wx B9 #[.int .i64 g.nodes, .slice xa g.X.length xc, .slice ya g.Y.length yc, .slice za g.arcs.length zc] 25 (0, 0) ∧ w8.heap.size ≤ B9))
    case first =>
      have hc : k = 0 ∨ k = 1 ∨ k = 2 := by omega
      rcases hc with rfl | rfl | rfl
      · have hidx : ∀ w, (Instr.index 75 (.agg #[.int .i64 g.nodes, .slice cxa g.X.length cxc, .slice cya g.Y.length cyc, .slice cza g.arcs.length czc, .int .i64 g.nodes, .slice rxa g.X.length rxc, .slice rya g.Y.length ryc, .slice rza g.arcs.length rzc, .int .i64 g.nodes, .slice txa g.X.length txc, .slice tya g.Y.length tyc, .slice tza g.arcs.length tzc]) (.int .i64 0)).run Tryd.prog w = .ok (.agg #[.int .i64 g.nodes, .slice cxa g.X.length cxc, .slice cya g.Y.length cyc, .slice cza g.arcs.length czc]) w := fun _ => by kernel_rfl
        go_wp2_with fail
        have hb : Below wr.heap.size wr (wr.alloc (.cells #[.int .i64 g.nodes, .slice cxa g.X.length cxc, .slice cya g.Y.length cyc, .slice cza g.arcs.length czc] 25)) := (Below.refl _ _).alloc (Nat.le_refl _) _
        go_meet
        case rel => exact ⟨wr.heap.size, _, _, _, _, _, _, rfl, by rfl, Lib.hid ⟨⟨keptS_below HI.out.1 hb, HI.out.2.1.below hb, HI.out.2.2.1.below hb, HI.out.2.2.2.below hb⟩, HI.out.2.1.below hb, Blk.new _ _ _ _, HI.out.1.size⟩⟩
      · have hidx : ∀ w, (Instr.index 75 (.agg #[.int .i64 g.nodes, .slice cxa g.X.length cxc, .slice cya g.Y.length cyc, .slice cza g.arcs.length czc, .int .i64 g.nodes, .slice rxa g.X.length rxc, .slice rya g.Y.length ryc, .slice rza g.arcs.length rzc, .int .i64 g.nodes, .slice txa g.X.length txc, .slice tya g.Y.length tyc, .slice tza g.arcs.length tzc]) (.int .i64 1)).run Tryd.prog w = .ok (.agg #[.int .i64 g.nodes, .slice rxa g.X.length rxc, .slice rya g.Y.length ryc, .slice rza g.arcs.length rzc]) w := fun _ => by kernel_rfl
        go_wp2_with fail
        have hb : Below wr.heap.size wr (wr.alloc (.cells #[.int .i64 g.nodes, .slice rxa g.X.length rxc, .slice rya g.Y.length ryc, .slice rza g.arcs.length rzc] 25)) := (Below.refl _ _).alloc (Nat.le_refl _) _
        go_meet
        case rel => exact ⟨wr.heap.size, _, _, _, _, _, _, rfl, by rfl, Lib.hid ⟨⟨keptS_below HI.out.1 hb, HI.out.2.1.below hb, HI.out.2.2.1.below hb, HI.out.2.2.2.below hb⟩, HI.out.2.2.1.below hb, Blk.new _ _ _ _, HI.out.1.size⟩⟩
      · have hidx : ∀ w, (Instr.index 75 (.agg #[.int .i64 g.nodes, .slice cxa g.X.length cxc, .slice cya g.Y.length cyc, .slice cza g.arcs.length czc, .int .i64 g.nodes, .slice rxa g.X.length rxc, .slice rya g.Y.length ryc, .slice rza g.arcs.length rzc, .int .i64 g.nodes, .slice txa g.X.length txc, .slice tya g.Y.length tyc, .slice tza g.arcs.length tzc]) (.int .i64 2)).run Tryd.prog w = .ok (.agg #[.int .i64 g.nodes, .slice txa g.X.length txc, .slice tya g.Y.length tyc, .slice tza g.arcs.length tzc]) w := fun _ => by kernel_rfl
        go_wp2_with fail
        have hb : Below wr.heap.size wr (wr.alloc (.cells #[.int .i64 g.nodes, .slice txa g.X.length txc, .slice tya g.Y.length tyc, .slice tza g.arcs.length tzc] 25)) := (Below.refl _ _).alloc (Nat.le_refl _) _
        go_meet
        case rel => exact ⟨wr.heap.size, _, _, _, _, _, _, rfl, by rfl, Lib.hid ⟨⟨keptS_below HI.out.1 hb, HI.out.2.1.below hb, HI.out.2.2.1.below hb, HI.out.2.2.2.below hb⟩, HI.out.2.2.2.below hb, Blk.new _ _ _ _, HI.out.1.size⟩⟩
    case rest =>
    clear HI
    obtain ⟨B9, xa, ya, za, xc, yc, zc, rfl, rfl, hcut⟩ := hcut
    have HI := hcut
    clear hcut
    go_wp2_with fail
    go_loopw [10] (fun i wr => ∃ (j : Nat), j ≤ g.X.length ∧ i = .int .i64 j ∧ Hid ((Kept S w8 wr ∧ RawI S w8.heap.size wr (.slice cxa g.X.length cxc) (.slice cya g.Y.length cyc) (.slice cza g.arcs.length czc) g ∧ RawI S w8.heap.size wr (.slice rxa g.X.length rxc) (.slice rya g.Y.length ryc) (.slice rza g.arcs.length rzc) g ∧ RawI S w8.heap.size wr (.slice txa g.X.length txc) (.slice tya g.Y.length tyc) (.slice tza g.arcs.length tzc) g) ∧ RawI S w8.heap.size wr (.slice xa g.X.length xc) (.slice ya g.Y.length yc) (.slice za g.arcs.length zc) g ∧ Blk wr B9 #[.int .i64 g.nodes, .slice xa g.X.length xc, .slice ya g.Y.length yc, .slice za g.arcs.length zc] 25 (0, 0) ∧ w8.heap.size ≤ B9)) (fun i _ => g.X.length - (intOf i).toNat)
    case atStart => exact ⟨0, by omega, rfl, HI⟩
    clear HI
    obtain ⟨j, hj, rfl, hrel⟩ := hrel
    have HI := hrel
    clear hrel
    have o1 := HI.out.2.2.1.cell 1
    change wr.cell? ⟨B9, 1, none⟩ = some (.slice xa g.X.length xc) at o1
    by_cases hlt : j < g.X.length
    case pos =>
      have hltI : (j : Int) < (g.X.length : Int) := by omega
      have hj0 : (0 : Int) ≤ (j : Int) := by omega
      obtain ⟨gx, rfl, hloc, hfr, hce, hne⟩ := HI.out.2.1.x.at (by omega)
      obtain ⟨x0, hx0⟩ := hce j (by omega)
      have hne9 := hne _ _ _ HI.out.2.2.1
      obtain ⟨x1, hx1⟩ : ∃ x1, x1 = IntKind.i64.wrap (x0 + 1) := ⟨_, rfl⟩
      have hw := hx1.symm
      have ff := hfr j
      obtain ⟨W1, hW1⟩ : ∃ W, W = wr.drew.setCell ⟨gx, j, none⟩ (.int .i64 x1) := ⟨_, rfl⟩
      have hd : Below wr.heap.size wr wr.drew := (Below.refl _ _).drew
      have HI1 := Lib.hid (show (Kept S w8 W1 ∧ RawI S w8.heap.size W1 (.slice cxa g.X.length cxc) (.slice cya g.Y.length cyc) (.slice cza g.arcs.length czc) g ∧ RawI S w8.heap.size W1 (.slice rxa g.X.length rxc) (.slice rya g.Y.length ryc) (.slice rza g.arcs.length rzc) g ∧ RawI S w8.heap.size W1 (.slice txa g.X.length txc) (.slice tya g.Y.length tyc) (.slice tza g.arcs.length tzc) g) ∧ RawI S w8.heap.size W1 (.slice (some ⟨gx, 0, none⟩) g.X.length xc) (.slice ya g.Y.length yc) (.slice za g.arcs.length zc) g ∧ Blk W1 B9 #[.int .i64 g.nodes, .slice (some ⟨gx, 0, none⟩) g.X.length xc, .slice ya g.Y.length yc, .slice za g.arcs.length zc] 25 (0, 0) ∧ w8.heap.size ≤ B9 from by
        rw [hW1]
        obtain ⟨⟨h1, h2, h3, h4⟩, h5, h6, h7⟩ := HI.out
        exact ⟨⟨keptS_set (keptS_below h1 hd) hloc j _, (h2.below hd).set _ _ _, (h3.below hd).set _ _ _, (h4.below hd).set _ _ _⟩, (h5.below hd).set _ _ _, (h6.below hd h6.lt).setOther ⟨gx, j, none⟩ _ hne9, h7⟩)
      have HW1 := Lib.hid hW1
      clear hfr hce hne hne9 hloc hx1 hW1 hd HI
      go_wp2_with fail
      refine wp_region_heldD (fun w' => w'.cell? ⟨B9, 1, none⟩ = some (.slice (some ⟨gx, 0, none⟩) g.X.length xc) ∧ w'.cell? ⟨gx, j, none⟩ = some (.int .i64 x0)) 10 rfl ?_
      change heldD _ _ _ _ _ _ _ 11 _ _ wr.drew
      have hS0 : wr.drew.cell? ⟨B9, 1, none⟩ = some (.slice (some ⟨gx, 0, none⟩) g.X.length xc) ∧ wr.drew.cell? ⟨gx, j, none⟩ = some (.int .i64 x0) := ⟨o1, hx0⟩
      refine heldD_takeF (i := 0) (v := .pointer (some ⟨B9, 1, none⟩)) rfl rfl rfl (by kernel_rfl) (by kernel_rfl) (by kernel_rfl) (by kernel_rfl) (fun _ _ _ h => h) (by rfl) (fun w => ⟨by rfl, by go_simp⟩) (fun _ => hS0) ?_
      simp only [List.setIfInBounds_toArray, List.set_cons_zero, List.set_cons_succ]
      refine heldD_take (i := 1) (v := .slice (some ⟨gx, 0, none⟩) g.X.length xc) rfl rfl rfl (by kernel_rfl) (by kernel_rfl) (by kernel_rfl) (by kernel_rfl) (by kernel_rfl) (by kernel_rfl) (fun _ _ _ h => h) (by rfl) (fun w hS => ⟨by rfl, by obtain ⟨hS1, hS2⟩ := hS; go_simp⟩) hS0 ?_
      simp only [List.setIfInBounds_toArray, List.set_cons_zero, List.set_cons_succ]
      refine heldD_takeF (i := 2) (v := .int .i64 (j : Nat)) rfl rfl rfl (by kernel_rfl) (by kernel_rfl) (by kernel_rfl) (by kernel_rfl) (fun _ _ _ h => h) (by rfl) (fun w => ⟨by rfl, by go_simp⟩) (fun _ => hS0) ?_
      simp only [List.setIfInBounds_toArray, List.set_cons_zero, List.set_cons_succ]
      refine heldD_takeF (i := 3) (v := .pointer (some ⟨B9, 1, none⟩)) rfl rfl rfl (by kernel_rfl) (by kernel_rfl) (by kernel_rfl) (by kernel_rfl) (fun _ _ _ h => h) (by rfl) (fun w => ⟨by rfl, by go_simp⟩) (fun _ => hS0) ?_
      simp only [List.setIfInBounds_toArray, List.set_cons_zero, List.set_cons_succ]
      refine heldD_take (i := 4) (v := .slice (some ⟨gx, 0, none⟩) g.X.length xc) rfl rfl rfl (by kernel_rfl) (by kernel_rfl) (by kernel_rfl) (by kernel_rfl) (by kernel_rfl) (by kernel_rfl) (fun _ _ _ h => h) (by rfl) (fun w hS => ⟨by rfl, by obtain ⟨hS1, hS2⟩ := hS; go_simp⟩) hS0 ?_
      simp only [List.setIfInBounds_toArray, List.set_cons_zero, List.set_cons_succ]
      refine heldD_takeF (i := 5) (v := .int .i64 (j : Nat)) rfl rfl rfl (by kernel_rfl) (by kernel_rfl) (by kernel_rfl) (by kernel_rfl) (fun _ _ _ h => h) (by rfl) (fun w => ⟨by rfl, by go_simp⟩) (fun _ => hS0) ?_
      simp only [List.setIfInBounds_toArray, List.set_cons_zero, List.set_cons_succ]
      refine heldD_takeF (i := 6) (v := .pointer (some ⟨gx, j, none⟩)) rfl rfl rfl (by kernel_rfl) (by kernel_rfl) (by kernel_rfl) (by kernel_rfl) (fun _ _ _ h => h) (by rfl) (fun w => ⟨by rfl, by go_simp⟩) (fun _ => hS0) ?_
      simp only [List.setIfInBounds_toArray, List.set_cons_zero, List.set_cons_succ]
      refine heldD_take (i := 7) (v := .int .i64 x0) rfl rfl rfl (by kernel_rfl) (by kernel_rfl) (by kernel_rfl) (by kernel_rfl) (by kernel_rfl) (by kernel_rfl) (fun _ _ _ h => h) (by rfl) (fun w hS => ⟨by rfl, by obtain ⟨hS1, hS2⟩ := hS; go_simp⟩) hS0 ?_
      simp only [List.setIfInBounds_toArray, List.set_cons_zero, List.set_cons_succ]
      refine heldD_takeF (i := 8) (v := .int .i64 x1) rfl rfl rfl (by kernel_rfl) (by kernel_rfl) (by kernel_rfl) (by kernel_rfl) (fun _ _ _ h => h) (by rfl) (fun w => ⟨by rfl, by go_simp⟩) (fun _ => hS0) ?_
      simp only [List.setIfInBounds_toArray, List.set_cons_zero, List.set_cons_succ]
      refine heldD_takeF (i := 9) (v := .pointer (some ⟨gx, j, none⟩)) rfl rfl rfl (by kernel_rfl) (by kernel_rfl) (by kernel_rfl) (by kernel_rfl) (fun _ _ _ h => h) (by rfl) (fun w => ⟨by rfl, by go_simp⟩) (fun _ => hS0) ?_
      simp only [List.setIfInBounds_toArray, List.set_cons_zero, List.set_cons_succ]
      refine heldD_one (i := 10) (by kernel_rfl) ?_
      refine wpOpIn_skip (w' := W1) rfl rfl rfl (by rfl) (by rfl) (by rw [HW1.out]; go_simp) ?_
      refine ⟨fun h => (by cases h), ?_⟩
      refine heldD_done (by kernel_rfl) ?_ _
      clear hS0 o1 hx0 ff hw HW1
      have hXY : g.X.length = g.Y.length := by have := HOk.out.lenX; have := HOk.out.lenY; omega
      have hltY : (j : Int) < (g.Y.length : Int) := by omega
      have o1 := HI1.out.2.2.1.cell 2
      change W1.cell? ⟨B9, 2, none⟩ = some (.slice ya g.Y.length yc) at o1
      obtain ⟨gy, rfl, hloc, hfr, hce, hne⟩ := HI1.out.2.1.y.at (by omega)
      obtain ⟨y0, hx0⟩ := hce j (by omega)
      have hne9 := hne _ _ _ HI1.out.2.2.1
      obtain ⟨y1, hx1⟩ : ∃ x1, x1 = IntKind.i64.wrap (y0 + 1) := ⟨_, rfl⟩
      have hw := hx1.symm
      have ff := hfr j
      obtain ⟨W2, hW2⟩ : ∃ W, W = W1.drew.setCell ⟨gy, j, none⟩ (.int .i64 y1) := ⟨_, rfl⟩
      have hd : Below W1.heap.size W1 W1.drew := (Below.refl _ _).drew
      have HI2 := Lib.hid (show (Kept S w8 W2 ∧ RawI S w8.heap.size W2 (.slice cxa g.X.length cxc) (.slice cya g.Y.length cyc) (.slice cza g.arcs.length czc) g ∧ RawI S w8.heap.size W2 (.slice rxa g.X.length rxc) (.slice rya g.Y.length ryc) (.slice rza g.arcs.length rzc) g ∧ RawI S w8.heap.size W2 (.slice txa g.X.length txc) (.slice tya g.Y.length tyc) (.slice tza g.arcs.length tzc) g) ∧ RawI S w8.heap.size W2 (.slice (some ⟨gx, 0, none⟩) g.X.length xc) (.slice (some ⟨gy, 0, none⟩) g.Y.length yc) (.slice za g.arcs.length zc) g ∧ Blk W2 B9 #[.int .i64 g.nodes, .slice (some ⟨gx, 0, none⟩) g.X.length xc, .slice (some ⟨gy, 0, none⟩) g.Y.length yc, .slice za g.arcs.length zc] 25 (0, 0) ∧ w8.heap.size ≤ B9 from by
        rw [hW2]
        obtain ⟨⟨h1, h2, h3, h4⟩, h5, h6, h7⟩ := HI1.out
        exact ⟨⟨keptS_set (keptS_below h1 hd) hloc j _, (h2.below hd).set _ _ _, (h3.below hd).set _ _ _, (h4.below hd).set _ _ _⟩, (h5.below hd).set _ _ _, (h6.below hd h6.lt).setOther ⟨gy, j, none⟩ _ hne9, h7⟩)
      have HW2 := Lib.hid hW2
      clear hfr hce hne hne9 hloc hx1 hW2 hd HI1 hXY
      go_wp2_with fail
      refine wp_region_heldD (fun w' => w'.cell? ⟨B9, 2, none⟩ = some (.slice (some ⟨gy, 0, none⟩) g.Y.length yc) ∧ w'.cell? ⟨gy, j, none⟩ = some (.int .i64 y0)) 10 rfl ?_
      change heldD _ _ _ _ _ _ _ 11 _ _ W1.drew
      have hS0 : W1.drew.cell? ⟨B9, 2, none⟩ = some (.slice (some ⟨gy, 0, none⟩) g.Y.length yc) ∧ W1.drew.cell? ⟨gy, j, none⟩ = some (.int .i64 y0) := ⟨o1, hx0⟩
      refine heldD_takeF (i := 0) (v := .pointer (some ⟨B9, 2, none⟩)) rfl rfl rfl (by kernel_rfl) (by kernel_rfl) (by kernel_rfl) (by kernel_rfl) (fun _ _ _ h => h) (by rfl) (fun w => ⟨by rfl, by go_simp⟩) (fun _ => hS0) ?_
      simp only [List.setIfInBounds_toArray, List.set_cons_zero, List.set_cons_succ]
      refine heldD_take (i := 1) (v := .slice (some ⟨gy, 0, none⟩) g.Y.length yc) rfl rfl rfl (by kernel_rfl) (by kernel_rfl) (by kernel_rfl) (by kernel_rfl) (by kernel_rfl) (by kernel_rfl) (fun _ _ _ h => h) (by rfl) (fun w hS => ⟨by rfl, by obtain ⟨hS1, hS2⟩ := hS; go_simp⟩) hS0 ?_
      simp only [List.setIfInBounds_toArray, List.set_cons_zero, List.set_cons_succ]
      refine heldD_takeF (i := 2) (v := .int .i64 (j : Nat)) rfl rfl rfl (by kernel_rfl) (by kernel_rfl) (by kernel_rfl) (by kernel_rfl) (fun _ _ _ h => h) (by rfl) (fun w => ⟨by rfl, by go_simp⟩) (fun _ => hS0) ?_
      simp only [List.setIfInBounds_toArray, List.set_cons_zero, List.set_cons_succ]
      refine heldD_takeF (i := 3) (v := .pointer (some ⟨B9, 2, none⟩)) rfl rfl rfl (by kernel_rfl) (by kernel_rfl) (by kernel_rfl) (by kernel_rfl) (fun _ _ _ h => h) (by rfl) (fun w => ⟨by rfl, by go_simp⟩) (fun _ => hS0) ?_
      simp only [List.setIfInBounds_toArray, List.set_cons_zero, List.set_cons_succ]
      refine heldD_take (i := 4) (v := .slice (some ⟨gy, 0, none⟩) g.Y.length yc) rfl rfl rfl (by kernel_rfl) (by kernel_rfl) (by kernel_rfl) (by kernel_rfl) (by kernel_rfl) (by kernel_rfl) (fun _ _ _ h => h) (by rfl) (fun w hS => ⟨by rfl, by obtain ⟨hS1, hS2⟩ := hS; go_simp⟩) hS0 ?_
      simp only [List.setIfInBounds_toArray, List.set_cons_zero, List.set_cons_succ]
      refine heldD_takeF (i := 5) (v := .int .i64 (j : Nat)) rfl rfl rfl (by kernel_rfl) (by kernel_rfl) (by kernel_rfl) (by kernel_rfl) (fun _ _ _ h => h) (by rfl) (fun w => ⟨by rfl, by go_simp⟩) (fun _ => hS0) ?_
      simp only [List.setIfInBounds_toArray, List.set_cons_zero, List.set_cons_succ]
      refine heldD_takeF (i := 6) (v := .pointer (some ⟨gy, j, none⟩)) rfl rfl rfl (by kernel_rfl) (by kernel_rfl) (by kernel_rfl) (by kernel_rfl) (fun _ _ _ h => h) (by rfl) (fun w => ⟨by rfl, by go_simp⟩) (fun _ => hS0) ?_
      simp only [List.setIfInBounds_toArray, List.set_cons_zero, List.set_cons_succ]
      refine heldD_take (i := 7) (v := .int .i64 y0) rfl rfl rfl (by kernel_rfl) (by kernel_rfl) (by kernel_rfl) (by kernel_rfl) (by kernel_rfl) (by kernel_rfl) (fun _ _ _ h => h) (by rfl) (fun w hS => ⟨by rfl, by obtain ⟨hS1, hS2⟩ := hS; go_simp⟩) hS0 ?_
      simp only [List.setIfInBounds_toArray, List.set_cons_zero, List.set_cons_succ]
      refine heldD_takeF (i := 8) (v := .int .i64 y1) rfl rfl rfl (by kernel_rfl) (by kernel_rfl) (by kernel_rfl) (by kernel_rfl) (fun _ _ _ h => h) (by rfl) (fun w => ⟨by rfl, by go_simp⟩) (fun _ => hS0) ?_
      simp only [List.setIfInBounds_toArray, List.set_cons_zero, List.set_cons_succ]
      refine heldD_takeF (i := 9) (v := .pointer (some ⟨gy, j, none⟩)) rfl rfl rfl (by kernel_rfl) (by kernel_rfl) (by kernel_rfl) (by kernel_rfl) (fun _ _ _ h => h) (by rfl) (fun w => ⟨by rfl, by go_simp⟩) (fun _ => hS0) ?_
      simp only [List.setIfInBounds_toArray, List.set_cons_zero, List.set_cons_succ]
      refine heldD_one (i := 10) (by kernel_rfl) ?_
      refine wpOpIn_skip (w' := W2) rfl rfl rfl (by rfl) (by rfl) (by rw [HW2.out]; go_simp) ?_
      refine ⟨fun h => (by cases h), ?_⟩
      refine heldD_done (by kernel_rfl) ?_ _
      clear hS0 o1 hx0 ff hw HW2
      go_wp2_with fail
      go_roundw
      case rel => exact ⟨j + 1, by omega, by go_num, HI2⟩
      case measure => simp [intOf]; omega
    have o3 := HI.out.2.2.1.cell 3
    change wr.cell? ⟨B9, 3, none⟩ = some (.slice za g.arcs.length zc) at o3
    go_wp2_with fail
    clear o1 o3 hlt
    go_loopw [11] (fun i wr => ∃ (a : Nat), a ≤ g.arcs.length ∧ i = .int .i64 a ∧ Hid ((Kept S w8 wr ∧ RawI S w8.heap.size wr (.slice cxa g.X.length cxc) (.slice cya g.Y.length cyc) (.slice cza g.arcs.length czc) g ∧ RawI S w8.heap.size wr (.slice rxa g.X.length rxc) (.slice rya g.Y.length ryc) (.slice rza g.arcs.length rzc) g ∧ RawI S w8.heap.size wr (.slice txa g.X.length txc) (.slice tya g.Y.length tyc) (.slice tza g.arcs.length tzc) g) ∧ RawI S w8.heap.size wr (.slice xa g.X.length xc) (.slice ya g.Y.length yc) (.slice za g.arcs.length zc) g ∧ Blk wr B9 #[.int .i64 g.nodes, .slice xa g.X.length xc, .slice ya g.Y.length yc, .slice za g.arcs.length zc] 25 (0, 0) ∧ w8.heap.size ≤ B9)) (fun i _ => g.arcs.length - (intOf i).toNat)
    case atStart => exact ⟨0, by omega, rfl, HI⟩
    clear HI
    obtain ⟨a, ha, rfl, hrel⟩ := hrel
    have HI := hrel
    clear hrel
    have o3 := HI.out.2.2.1.cell 3
    change wr.cell? ⟨B9, 3, none⟩ = some (.slice za g.arcs.length zc) at o3
    by_cases hlt : a < g.arcs.length
    case pos =>
      have hltI : (a : Int) < (g.arcs.length : Int) := by omega
      have ha0 : (0 : Int) ≤ (a : Int) := by omega
      obtain ⟨gz, rfl, hloc, hfr, hce, hne⟩ := HI.out.2.1.a.at (by omega)
      obtain ⟨y0, e0⟩ := hce (a * 3) (by omega)
      obtain ⟨y1, e1⟩ := hce (a * 3 + 1) (by omega)
      obtain ⟨y2, e2⟩ := hce (a * 3 + 2) (by omega)
      have f0 := hfr (a * 3); have f1 := hfr (a * 3 + 1); have f2 := hfr (a * 3 + 2)
      have hne9 := hne _ _ _ HI.out.2.2.1
      have HI3 := Lib.hid (show (Kept S w8 (((wr.setCell ⟨gz, a * 3, none⟩ (.int .i64 (-5))).setCell ⟨gz, a * 3 + 1, none⟩ (.int .i64 0)).setCell ⟨gz, a * 3 + 2, none⟩ (.int .i64 0)) ∧ RawI S w8.heap.size (((wr.setCell ⟨gz, a * 3, none⟩ (.int .i64 (-5))).setCell ⟨gz, a * 3 + 1, none⟩ (.int .i64 0)).setCell ⟨gz, a * 3 + 2, none⟩ (.int .i64 0)) (.slice cxa g.X.length cxc) (.slice cya g.Y.length cyc) (.slice cza g.arcs.length czc) g ∧ RawI S w8.heap.size (((wr.setCell ⟨gz, a * 3, none⟩ (.int .i64 (-5))).setCell ⟨gz, a * 3 + 1, none⟩ (.int .i64 0)).setCell ⟨gz, a * 3 + 2, none⟩ (.int .i64 0)) (.slice rxa g.X.length rxc) (.slice rya g.Y.length ryc) (.slice rza g.arcs.length rzc) g ∧ RawI S w8.heap.size (((wr.setCell ⟨gz, a * 3, none⟩ (.int .i64 (-5))).setCell ⟨gz, a * 3 + 1, none⟩ (.int .i64 0)).setCell ⟨gz, a * 3 + 2, none⟩ (.int .i64 0)) (.slice txa g.X.length txc) (.slice tya g.Y.length tyc) (.slice tza g.arcs.length tzc) g) ∧ RawI S w8.heap.size (((wr.setCell ⟨gz, a * 3, none⟩ (.int .i64 (-5))).setCell ⟨gz, a * 3 + 1, none⟩ (.int .i64 0)).setCell ⟨gz, a * 3 + 2, none⟩ (.int .i64 0)) (.slice xa g.X.length xc) (.slice ya g.Y.length yc) (.slice (some ⟨gz, 0, none⟩) g.arcs.length zc) g ∧ Blk (((wr.setCell ⟨gz, a * 3, none⟩ (.int .i64 (-5))).setCell ⟨gz, a * 3 + 1, none⟩ (.int .i64 0)).setCell ⟨gz, a * 3 + 2, none⟩ (.int .i64 0)) B9 #[.int .i64 g.nodes, .slice xa g.X.length xc, .slice ya g.Y.length yc, .slice (some ⟨gz, 0, none⟩) g.arcs.length zc] 25 (0, 0) ∧ w8.heap.size ≤ B9 from by
        obtain ⟨⟨h1, h2, h3, h4⟩, h5, h6, h7⟩ := HI.out
        exact ⟨⟨keptS_set (keptS_set (keptS_set h1 hloc _ _) hloc _ _) hloc _ _, ((h2.set _ _ _).set _ _ _).set _ _ _, ((h3.set _ _ _).set _ _ _).set _ _ _, ((h4.set _ _ _).set _ _ _).set _ _ _⟩, ((h5.set _ _ _).set _ _ _).set _ _ _, ((h6.setOther ⟨gz, a * 3, none⟩ _ hne9).setOther ⟨gz, a * 3 + 1, none⟩ _ hne9).setOther ⟨gz, a * 3 + 2, none⟩ _ hne9, h7⟩)
      clear hfr hce hne hne9 hloc HI
      go_wp2_with fail
      go_roundw
      case rel => exact ⟨a + 1, by omega, by go_num, HI3⟩
      case measure => simp [intOf]; omega
    have HIo := Lib.hid HI.out.1
    clear HI
    go_wp2_with fail
    go_roundw
    case rel => exact ⟨k + 1, by omega, by go_num, HIo⟩
    case measure => simp [intOf]; omega
  obtain rfl : k = 3 := by omega
  have HK := Lib.hid HI.out.1
  clear HI hk hk3
  obtain ⟨N, hN⟩ : ∃ N : Nat, (N : Int) = g.nodes := ⟨g.nodes.toNat, by have := HOk.out.nodes; omega⟩
  have HNn := Lib.hid hN
  have hNb : N ≤ 12 := by have := HGl.out.1; omega
  clear hN
  go_wp2_with fail
  go_loopw [12] (fun i wr => ∃ (v : Nat), v ≤ N ∧ i = .int .i64 v ∧ Hid (Kept S w8 wr)) (fun i _ => N - (intOf i).toNat)
  case atStart => exact ⟨0, by omega, rfl, HK⟩
  clear HK
  obtain ⟨v, hv, rfl, hrel⟩ := hrel
  have HK := hrel
  clear hrel
  have hNd := Lib.hid (show Calls Tryd.prog 33 #[.pointer (some ⟨p, 0, none⟩)] wr fun e w' => e = .returned (.int .i64 (N : Int)) ∧ wr = w' by rw [HNn.out]; exact (nodes_any p g wr (HF.out _ HK.out).2.2.1).mono fun _ _ h => ⟨h.1, h.2.symm⟩)
  have hTa : g.turned.arcs.length ≤ 67108864 := by show (g.arcs.map turnA).length ≤ _; rw [List.length_map]; omega
  by_cases hlt : v < N
  case pos =>
    have hltI : (v : Int) < (N : Int) := by omega
    obtain ⟨R0, hR0⟩ : ∃ R, R = rowV endF g (v : Int) := ⟨_, rfl⟩
    have hl0 : R0.length ≤ 1000000000000 := by rw [hR0]; exact rowV_few _ _ _ (few_rows HOk.out.arcs)
    have hc := out_any p g (v : Int) wr (HF.out wr HK.out).2.2.1 (few_rows HOk.out.arcs)
    rw [← hR0] at hc
    have Hc := Lib.hid hc
    clear hc hR0
    go_wp2_with (refine hNd.out.mono ?_; rintro e _ ⟨rfl, rfl⟩)
    refine Hc.out.mono ?_
    rintro e u5 ⟨r0, rfl, ho, hb⟩
    have HR0 := Lib.hid (RowI.of (S := S) (N8 := w8.heap.size) (by decide) ho inC_ints (fun b h1 _ => .inr (Nat.le_trans HK.out.size h1)))
    replace HK := Lib.hid (keptS_below HK.out hb)
    obtain ⟨la0, lc0, rfl, _⟩ := ownForm ho
    clear ho hb Hc
    obtain ⟨R1, hR1⟩ : ∃ R, R = rowV endT g (v : Int) := ⟨_, rfl⟩
    have hl1 : R1.length ≤ 1000000000000 := by rw [hR1]; exact rowV_few _ _ _ (few_rows HOk.out.arcs)
    have hc := inn_any p g (v : Int) u5 (HF.out u5 HK.out).2.2.1 (few_rows HOk.out.arcs)
    rw [← hR1] at hc
    have Hc := Lib.hid hc
    clear hc hR1
    go_wp2_with fail
    refine Hc.out.mono ?_
    rintro e u6 ⟨r1, rfl, ho, hb⟩
    have HR1 := Lib.hid (RowI.of (S := S) (N8 := w8.heap.size) (by decide) ho inC_ints (fun b h1 _ => .inr (Nat.le_trans HK.out.size h1)))
    replace HR0 := Lib.hid (HR0.out.below hb)
    replace HK := Lib.hid (keptS_below HK.out hb)
    obtain ⟨la1, lc1, rfl, _⟩ := ownForm ho
    clear ho hb Hc
    obtain ⟨R2, hR2⟩ : ∃ R, R = rowV endF g.turned (v : Int) := ⟨_, rfl⟩
    have hl2 : R2.length ≤ 1000000000000 := by rw [hR2]; exact rowV_few _ _ _ (few_rows hTa)
    have hc := out_any q g.turned (v : Int) u6 (HF.out u6 HK.out).2.2.2.1 (few_rows hTa)
    rw [← hR2] at hc
    have Hc := Lib.hid hc
    clear hc hR2
    go_wp2_with fail
    refine Hc.out.mono ?_
    rintro e u7 ⟨r2, rfl, ho, hb⟩
    have HR2 := Lib.hid (RowI.of (S := S) (N8 := w8.heap.size) (by decide) ho inC_ints (fun b h1 _ => .inr (Nat.le_trans HK.out.size h1)))
    replace HR0 := Lib.hid (HR0.out.below hb)
    replace HR1 := Lib.hid (HR1.out.below hb)
    replace HK := Lib.hid (keptS_below HK.out hb)
    obtain ⟨la2, lc2, rfl, _⟩ := ownForm ho
    clear ho hb Hc
    obtain ⟨R3, hR3⟩ : ∃ R, R = rowV endT g.turned (v : Int) := ⟨_, rfl⟩
    have hl3 : R3.length ≤ 1000000000000 := by rw [hR3]; exact rowV_few _ _ _ (few_rows hTa)
    have hc := inn_any q g.turned (v : Int) u7 (HF.out u7 HK.out).2.2.2.1 (few_rows hTa)
    rw [← hR3] at hc
    have Hc := Lib.hid hc
    clear hc hR3
    go_wp2_with fail
    refine Hc.out.mono ?_
    rintro e u8 ⟨r3, rfl, ho, hb⟩
    have HR3 := Lib.hid (RowI.of (S := S) (N8 := w8.heap.size) (by decide) ho inC_ints (fun b h1 _ => .inr (Nat.le_trans HK.out.size h1)))
    replace HR0 := Lib.hid (HR0.out.below hb)
    replace HR1 := Lib.hid (HR1.out.below hb)
    replace HR2 := Lib.hid (HR2.out.below hb)
    replace HK := Lib.hid (keptS_below HK.out hb)
    obtain ⟨la3, lc3, rfl, _⟩ := ownForm ho
    clear ho hb Hc
    have HI := Lib.hid (And.intro HK.out (And.intro HR0.out (And.intro HR1.out (And.intro HR2.out HR3.out))))
    clear HK HR0 HR1 HR2 HR3 hNd hTa
    go_wp2_with fail
    go_loopw [100] (fun i wr => ∃ (k : Nat), k ≤ 4 ∧ i = .int .i64 k ∧ Hid (Kept S w8 wr ∧ RowI S w8.heap.size wr (.slice la0 R0.length lc0) R0.length 1 ∧ RowI S w8.heap.size wr (.slice la1 R1.length lc1) R1.length 1 ∧ RowI S w8.heap.size wr (.slice la2 R2.length lc2) R2.length 1 ∧ RowI S w8.heap.size wr (.slice la3 R3.length lc3) R3.length 1)) (fun i _ => 4 - (intOf i).toNat)
    case atStart => exact ⟨0, by omega, rfl, HI⟩
    clear HI
    obtain ⟨k, hk, rfl, hrel⟩ := hrel
    have HI := hrel
    clear hrel
    by_cases hk4 : k < 4
    case pos =>
      go_upto_region 27 with fail
      go_cut [14, 100] from 100 to 112 (fun s14 s100 wx => ∃ (xa : Option Addr) (n xc : Nat), s14 = .slice xa n xc ∧ s100 = .int .i64 k ∧ n ≤ 1000000000000 ∧ Hid ((Kept S w8 wx ∧ RowI S w8.heap.size wx (.slice la0 R0.length lc0) R0.length 1 ∧ RowI S w8.heap.size wx (.slice la1 R1.length lc1) R1.length 1 ∧ RowI S w8.heap.size wx (.slice la2 R2.length lc2) R2.length 1 ∧ RowI S w8.heap.size wx (.slice la3 R3.length lc3) R3.length 1) ∧ RowI S w8.heap.size wx (.slice xa n xc) n 1))
      case first =>
        have hc : k = 0 ∨ k = 1 ∨ k = 2 ∨ k = 3 := by omega
        rcases hc with rfl | rfl | rfl | rfl
        · have hidx : ∀ w, (Instr.index 76 (.agg #[.slice la0 R0.length lc0, .slice la1 R1.length lc1, .slice la2 R2.length lc2, .slice la3 R3.length lc3]) (.int .i64 0)).run Tryd.prog w = .ok (.slice la0 R0.length lc0) w := fun _ => by kernel_rfl
          go_wp2_with fail
          go_meet
          case rel => exact ⟨_, _, _, rfl, by rfl, hl0, Lib.hid ⟨HI.out, HI.out.2.1⟩⟩
        · have hidx : ∀ w, (Instr.index 76 (.agg #[.slice la0 R0.length lc0, .slice la1 R1.length lc1, .slice la2 R2.length lc2, .slice la3 R3.length lc3]) (.int .i64 1)).run Tryd.prog w = .ok (.slice la1 R1.length lc1) w := fun _ => by kernel_rfl
          go_wp2_with fail
          go_meet
          case rel => exact ⟨_, _, _, rfl, by rfl, hl1, Lib.hid ⟨HI.out, HI.out.2.2.1⟩⟩
        · have hidx : ∀ w, (Instr.index 76 (.agg #[.slice la0 R0.length lc0, .slice la1 R1.length lc1, .slice la2 R2.length lc2, .slice la3 R3.length lc3]) (.int .i64 2)).run Tryd.prog w = .ok (.slice la2 R2.length lc2) w := fun _ => by kernel_rfl
          go_wp2_with fail
          go_meet
          case rel => exact ⟨_, _, _, rfl, by rfl, hl2, Lib.hid ⟨HI.out, HI.out.2.2.2.1⟩⟩
        · have hidx : ∀ w, (Instr.index 76 (.agg #[.slice la0 R0.length lc0, .slice la1 R1.length lc1, .slice la2 R2.length lc2, .slice la3 R3.length lc3]) (.int .i64 3)).run Tryd.prog w = .ok (.slice la3 R3.length lc3) w := fun _ => by kernel_rfl
          go_wp2_with fail
          go_meet
          case rel => exact ⟨_, _, _, rfl, by rfl, hl3, Lib.hid ⟨HI.out, HI.out.2.2.2.2⟩⟩
      case rest =>
      clear HI
      obtain ⟨xa, n, xc, rfl, rfl, hn, hcut⟩ := hcut
      have HI := hcut
      clear hcut
      go_wp2_with fail
      go_loopw [15] (fun i wr => ∃ (j : Nat), j ≤ n ∧ i = .int .i64 j ∧ Hid ((Kept S w8 wr ∧ RowI S w8.heap.size wr (.slice la0 R0.length lc0) R0.length 1 ∧ RowI S w8.heap.size wr (.slice la1 R1.length lc1) R1.length 1 ∧ RowI S w8.heap.size wr (.slice la2 R2.length lc2) R2.length 1 ∧ RowI S w8.heap.size wr (.slice la3 R3.length lc3) R3.length 1) ∧ RowI S w8.heap.size wr (.slice xa n xc) n 1)) (fun i _ => n - (intOf i).toNat)
      case atStart => exact ⟨0, by omega, rfl, HI⟩
      clear HI
      obtain ⟨j, hj, rfl, hrel⟩ := hrel
      have HI := hrel
      clear hrel
      by_cases hjn : j < n
      case pos =>
        have hjI : (j : Int) < (n : Int) := by omega
        have hj0 : (0 : Int) ≤ (j : Int) := by omega
        obtain ⟨gl, rfl, hloc, hfr, hce, _⟩ := HI.out.2.at (by omega)
        obtain ⟨y0, e0⟩ := hce j (by omega)
        have f0 := hfr j
        have HI3 := Lib.hid (show (Kept S w8 (wr.setCell ⟨gl, j, none⟩ (.int .i64 (-1))) ∧ RowI S w8.heap.size (wr.setCell ⟨gl, j, none⟩ (.int .i64 (-1))) (.slice la0 R0.length lc0) R0.length 1 ∧ RowI S w8.heap.size (wr.setCell ⟨gl, j, none⟩ (.int .i64 (-1))) (.slice la1 R1.length lc1) R1.length 1 ∧ RowI S w8.heap.size (wr.setCell ⟨gl, j, none⟩ (.int .i64 (-1))) (.slice la2 R2.length lc2) R2.length 1 ∧ RowI S w8.heap.size (wr.setCell ⟨gl, j, none⟩ (.int .i64 (-1))) (.slice la3 R3.length lc3) R3.length 1) ∧ RowI S w8.heap.size (wr.setCell ⟨gl, j, none⟩ (.int .i64 (-1))) (.slice (some ⟨gl, 0, none⟩) n xc) n 1 from by
          obtain ⟨⟨h1, h2, h3, h4, h5⟩, h6⟩ := HI.out
          exact ⟨⟨keptS_set h1 hloc _ _, h2.set _ _ _, h3.set _ _ _, h4.set _ _ _, h5.set _ _ _⟩, h6.set _ _ _⟩)
        clear hfr hce hloc HI
        go_wp2_with fail
        go_roundw
        case rel => exact ⟨j + 1, by omega, by go_num, HI3⟩
        case measure => simp [intOf]; omega
      have HIo := Lib.hid HI.out.1
      clear HI
      go_wp2_with fail
      go_roundw
      case rel => exact ⟨k + 1, by omega, by go_num, HIo⟩
      case measure => simp [intOf]; omega
    have HK := Lib.hid HI.out.1
    clear HI
    obtain rfl : k = 4 := by omega
    go_wp2_with fail
    go_roundw
    case rel =>
      (repeat apply Exists.intro)
      exact ⟨⟨v + 1, by omega, by go_num, HK⟩, rfl⟩
    case measure => simp [intOf]; omega
  clear hTa
  have hF := (HF.out wr HK.out).2.1
  obtain ⟨c0, c1, c2, c3⟩ := hF
  have HIs := Lib.hid (is7_any p _ g wr (HF.out wr HK.out).2.2.1 (HF.out wr HK.out).2.2.2.2.1 HOk.out (by omega))
  go_wp2_with (refine hNd.out.mono ?_; rintro e _ ⟨rfl, rfl⟩)
  refine HIs.out.mono ?_
  rintro e u1 ⟨rfl, hb⟩
  replace HK := Lib.hid (keptS_below HK.out hb)
  clear hb c0 c1 c2 c3 HIs hNd
  have hF := (HF.out u1 HK.out).2.1
  obtain ⟨c0, c1, c2, c3⟩ := hF
  have HTu := Lib.hid (refTurned7_any _ g u1 (HF.out u1 HK.out).2.2.2.2.1 HOk.out.few)
  go_wp2_with fail
  refine HTu.out.mono ?_
  rintro e u2 ⟨vt, rfl, ht, hb⟩
  replace HK := Lib.hid (keptS_below HK.out hb)
  have HIs := Lib.hid (is7_any q vt g.turned u2 (HF.out u2 HK.out).2.2.2.1 ht.raw (Raw.turned_okB HOk.out) (by show (g.arcs.map turnA).length ≤ _; rw [List.length_map]; omega))
  obtain ⟨_, _, _, rfl, _⟩ := id ht.raw
  clear hb c0 c1 c2 c3 HTu ht
  go_wp2_with fail
  refine HIs.out.mono ?_
  rintro e u3 ⟨rfl, hb⟩
  replace HK := Lib.hid (keptS_below HK.out hb)
  clear hb HIs
  go_wp2_with fail
  go_ret
  exact ⟨rfl, (HF.out u3 HK.out).2.2.2.2.2⟩
theorem netShares_rd (v : Value) (W : World) (R : Rd Tryd.prog W 56 [v]) (hg : HG W) : Calls Tryd.prog 10 #[v] W fun e w' => e = .returned (.bool true) ∧ Below W.heap.size W w' := by
  obtain ⟨l, h, _⟩ := Rd.ints Tryd.underlying56 Tryd.underlying5 (by kernel_rfl) R
  exact netShares_any v l W h hg
end Go.Proofs.YtnkcmlngoeofgaaDoor
