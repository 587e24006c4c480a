/- Texts of the law GraphFirst, merged: GrFirst, GrFirstL, LawKit, LawKitD. -/
import Derived.Test.YtnkcmlngoeofgaaDoorPGraphFirst17
import Derived.Test.YtnkcmlngoeofgaaDoorPGraphFirst08
import Derived.Test.YtnkcmlngoeofgaaDoorPGraphFirst15
import Derived.Test.YtnkcmlngoeofgaaDoorRows
import Derived.WalkKit
import Derived.WalkSpells
import Derived.WalkLawsBesides
import Derived.ProofKit
import Derived.Lib.Hide
import Derived.OpenShut
import Derived.Test.YtnkcmlngoeofgaaDoorPGraphFirst04
import Derived.ChangeSame
import Derived.ChangeVars
import Derived.JoinedOf
import Derived.RowKit
import Derived.RowKitTokens
import Derived.LaidLaws
import Derived.LaidHandle
import Derived.Stop.Joined
/- GraphFirst, its walk. -/
namespace Go.Proofs.YtnkcmlngoeofgaaDoor
open Go.RowKit
theorem rightV_small (r : Raw) (n : Nat) : (rightV r n).small := by
  have hk := rightV_ok r n
  refine ⟨?_, hk.lenX, hk.lenY, ?_⟩
  · show 1 ≤ ((1 + n % 12 : Nat) : Int) ∧ ((1 + n % 12 : Nat) : Int) ≤ 12
    omega
  · show ((r.arcs.take 40).map _).length ≤ 40
    rw [List.length_map, List.length_take]; omega
theorem setK_small {r : Raw} (h : r.small) (t i : Nat) (u : Int) : (setK r t i u).small := by
  obtain ⟨l1, l2, l3⟩ := setK_len r t i u
  exact ⟨by rw [setK_nodes]; exact h.nodes, by rw [setK_nodes, l1]; exact h.lenX, by rw [setK_nodes, l2]; exact h.lenY, by rw [l3]; exact h.arcs⟩
theorem RawO.setBad {base : Nat} {w : World} {v : Value} {r : Raw} (h : RawO base w v r) {B : Nat} {cs : Array Value} {fr : Nat × Nat} (hb : Blk w B cs 35 fr) (i : Nat) (x : Value) : RawO base (w.setCell ⟨B, i, none⟩ x) v r := by
  obtain ⟨vx, vy, va, e, h1⟩ := h
  exact ⟨vx, vy, va, e, Own3.set (p := ⟨B, i, none⟩) h1 hb (by decide) (by decide) x⟩
/-- a row, copied onto a literal, and a number more -/
theorem app_long {wA : World} {vy : Value} {Y : List Int} (hs : ∀ u, Below wA.heap.size wA u → SlX u vy Y) (hl : Y.length ≤ 1000000) :
    ∃ a n c wC a2 n2 c2 wE, (Builtin.append_ #[22, 22] 22 #[.slice (some ⟨wA.heap.size, 0, none⟩) 0 0, vy]).run Tryd.prog (wA.alloc (.cells #[] 2)) = .ok (.slice a n c) wC ∧
      (Builtin.append_ #[22, 22] 22 #[.slice a n c, .slice (some ⟨wC.heap.size, 0, none⟩) 1 1]).run Tryd.prog (wC.alloc (.cells #[.int .i64 0] 2)) = .ok (.slice a2 n2 c2) wE ∧ wE.ownsRow wA.heap.size 2 1 (.slice a2 n2 c2) (Y ++ [0]).length ((Y ++ [0]).flatMap inC) ∧ Below wA.heap.size wA wE := by
  obtain ⟨wB, hwB⟩ : ∃ wB, wB = wA.alloc (.cells #[] 2) := ⟨_, rfl⟩
  have hbB : Below wA.heap.size wA wB := by rw [hwB]; exact (Below.refl _ _).alloc (Nat.le_refl _) _
  have hz : wB.ownsRow wA.heap.size 2 1 (.slice (some ⟨wA.heap.size, 0, none⟩) 0 0) 0 [] := by rw [hwB]; exact ownsRow_zero _ _ _ _ (Nat.le_refl _)
  obtain ⟨a, n, c, wC, hr, ho, hb, _, _, _⟩ := copyApp (t := 22) Tryd.underlying22 infoI rfl (by omega) (by omega) hz (hs wB hbB).row (by omega) hbB (Nat.le_refl _)
  obtain ⟨wD, hwD⟩ : ∃ wD, wD = wC.alloc (.cells #[.int .i64 0] 2) := ⟨_, rfl⟩
  have hbD : Below wC.heap.size wC wD := by rw [hwD]; exact (Below.refl _ _).alloc (Nat.le_refl _) _
  have hB : Blk wD wC.heap.size (inC 0).toArray 2 (0, 0) := by rw [hwD]; exact Blk.new _ _ _ _
  have hoD := ownsRow_below ho hbD
  have hbAD := hb.next' hbD
  have hsD : SlF 1 wD (.slice (some ⟨wC.heap.size, 0, none⟩) 1 1) 1 (inC 0) := ⟨inC_len 0, fun u hu => by simp only [inC, List.mem_cons, List.not_mem_nil, or_false] at hu; rw [hu]; rfl, _, 1, rfl, Nat.le_refl _, by unfold maxLen; omega, fun j u hu => ⟨_, 0, rfl, by rw [Nat.zero_add, hB.cell, List.getElem?_toArray]; exact hu⟩⟩
  obtain ⟨i0, hi, hz0, hz1, hz2⟩ := info_parts infoI
  obtain ⟨v', wE, hr2, hown, hg, _, _⟩ := run_append_row (P := Tryd.prog) wA.heap.size 22 22 2 i0 _ 1 8 Tryd.underlying22 hi hz0 hz1 hz2 rfl (by omega) (.slice a n c) Y.length _ hoD _ 1 _ hsD (by unfold maxLen; omega) (by omega) hbAD.size
  obtain ⟨a2, n2, c2, rfl⟩ := hown.one'
  refine ⟨a, n, c, wC, a2, n2, c2, wE, by rw [← hwB]; exact hr, by rw [← hwD]; exact hr2, ?_, ?_⟩
  · rw [List.length_append, List.flatMap_append]; simpa using hown
  · exact ⟨hg.os.trans hbAD.os, hg.tape.trans hbAD.tape, hg.output.trans hbAD.output, Nat.le_trans hbAD.size hg.size, fun k hk => (hg.block k (Nat.lt_of_lt_of_le hk hbAD.size) (fun e => by have := (ownsRow_blk' hoD e.symm).1; omega)).trans (hbAD.block k hk)⟩
set_option maxRecDepth 100000 in
set_option maxHeartbeats 32000000 in
theorem graphFirst_any (v : Value) (r0 : Raw) (nn x0 x1 x2 x3 : Nat) (w : World) (h : RawV w v r0) (hn : nn < 256) (l0 : x0 < 256) (l1 : x1 < 256) (l2 : x2 < 256) (l3 : x3 < 256) (hg : HG w) : Calls Tryd.prog 3 #[v, .int .u8 (nn : Nat), .agg #[.int .u8 (x0 : Nat), .int .u8 (x1 : Nat), .int .u8 (x2 : Nat), .int .u8 (x3 : Nat)]] w fun e w' => e = .returned (.bool true) ∧ Below w.heap.size w w' := by
  have HR0 := Lib.hid h
  have fr := h
  obtain ⟨rx, ry, rz, rfl, fx, fy, fz⟩ := fr
  obtain ⟨xa, xc, rfl, _⟩ := fx
  obtain ⟨ya, yc, rfl, _⟩ := fy
  obtain ⟨za, zc, rfl, _⟩ := fz
  obtain ⟨B3, hB3⟩ : ∃ b, b = w.heap.size := ⟨_, rfl⟩
  obtain ⟨B5, hB5⟩ : ∃ b, b = w.heap.size + 1 := ⟨_, rfl⟩
  obtain ⟨w1, hw1⟩ : ∃ u, u = (w.alloc (.cells #[.int .i64 r0.nodes, .slice xa r0.X.length xc, .slice ya r0.Y.length yc, .slice za r0.arcs.length zc] 25)).alloc (.cells #[.int .u8 (x0 : Nat), .int .u8 (x1 : Nat), .int .u8 (x2 : Nat), .int .u8 (x3 : Nat)] 26) := ⟨_, rfl⟩
  have hb1 : Below w.heap.size w w1 := by rw [hw1]; exact ((Below.refl _ _).alloc (Nat.le_refl _) _).alloc (by simp) _
  have K3 : Blk w1 B3 #[.int .i64 r0.nodes, .slice xa r0.X.length xc, .slice ya r0.Y.length yc, .slice za r0.arcs.length zc] 25 (0, 0) := by rw [hw1, hB3]; exact (Blk.new _ _ _ _).alloc _
  have K5 : Blk w1 B5 #[.int .u8 (x0 : Nat), .int .u8 (x1 : Nat), .int .u8 (x2 : Nat), .int .u8 (x3 : Nat)] 26 (0, 0) := by
    rw [hw1, hB5]
    have h := Blk.new (w.alloc (.cells #[.int .i64 r0.nodes, .slice xa r0.X.length xc, .slice ya r0.Y.length yc, .slice za r0.arcs.length zc] 25)) #[.int .u8 (x0 : Nat), .int .u8 (x1 : Nat), .int .u8 (x2 : Nat), .int .u8 (x3 : Nat)] 26 (0, 0)
    rwa [World.size_alloc] at h
  have HB1 := Lib.hid hb1; have HK3 := Lib.hid K3; have HK5 := Lib.hid K5; have HW1 := Lib.hid hw1; have HG0 := Lib.hid hg; have HE3 := Lib.hid hB3; have HE5 := Lib.hid hB5
  clear h hb1 K3 K5 hw1 hg hB3 hB5
  go_enter Tryd.func3, Tryd.ntmps3
  go_wp2_with fail
  rw [← HW1.out, ← HE5.out, ← HE3.out]
  clear HW1 HE5 HE3
  refine (works_any w1 (HG0.out.later HB1.out)).mono ?_
  rintro e w2 ⟨rfl, hb2⟩
  have c0 := (HK3.out.below hb2 HK3.out.lt).cell 0; have c1 := (HK3.out.below hb2 HK3.out.lt).cell 1; have c2 := (HK3.out.below hb2 HK3.out.lt).cell 2; have c3 := (HK3.out.below hb2 HK3.out.lt).cell 3
  change w2.cell? ⟨B3, 0, none⟩ = some (.int .i64 r0.nodes) at c0
  change w2.cell? ⟨B3, 1, none⟩ = some (.slice xa r0.X.length xc) at c1
  change w2.cell? ⟨B3, 2, none⟩ = some (.slice ya r0.Y.length yc) at c2
  change w2.cell? ⟨B3, 3, none⟩ = some (.slice za r0.arcs.length zc) at c3
  have HB2 := Lib.hid hb2
  clear hb2
  go_wp2_with fail
  clear c0 c1 c2 c3
  refine (few_any _ r0 w2 (HR0.out.below (HB1.out.next' HB2.out))).mono ?_
  rintro e w3 ⟨v3, rfl, hr3, hb3⟩
  have HR3 := Lib.hid hr3; have HB3 := Lib.hid hb3
  clear hr3 hb3
  go_wp2_with fail
  refine (right_any v3 (fewR r0) nn w3 HR3.out hn).mono ?_
  rintro e w4 ⟨v4, rfl, hr4, hb4⟩
  have hsm := rightV_small (fewR r0) nn
  have hok := rightV_ok (fewR r0) nn
  obtain ⟨g, hgv⟩ : ∃ g, g = rightV (fewR r0) nn := ⟨_, rfl⟩
  rw [← hgv] at hsm hok hr4
  have HB4 := Lib.hid (((HB1.out.next' HB2.out).next' HB3.out).next' hb4)
  have K5 := ((HK5.out.below HB2.out HK5.out.lt).below (HB3.out.next' hb4) (HK5.out.below HB2.out HK5.out.lt).lt)
  have HK5' := Lib.hid K5
  have HR4 := Lib.hid hr4; have HSm := Lib.hid hsm; have HOk := Lib.hid hok
  clear HR3 HB2 HB3 HB1 HK3 HK5 hsm hok hgv hb4 HR0 K5
  obtain ⟨_, _, _, rfl, fx, fy, fz⟩ := hr4
  obtain ⟨gxa, gxc, rfl, _⟩ := fx
  obtain ⟨gya, gyc, rfl, _⟩ := fy
  obtain ⟨gza, gzc, rfl, _⟩ := fz
  obtain ⟨B7, hB7⟩ : ∃ b, b = w4.heap.size := ⟨_, rfl⟩
  obtain ⟨w5, hw5⟩ : ∃ u, u = w4.alloc (.cells #[.int .i64 g.nodes, .slice gxa g.X.length gxc, .slice gya g.Y.length gyc, .slice gza g.arcs.length gzc] 25) := ⟨_, rfl⟩
  have hb5 : Below w4.heap.size w4 w5 := by rw [hw5]; exact (Below.refl _ _).alloc (Nat.le_refl _) _
  have K7 : Blk w5 B7 #[.int .i64 g.nodes, .slice gxa g.X.length gxc, .slice gya g.Y.length gyc, .slice gza g.arcs.length gzc] 25 (0, 0) := by rw [hw5, hB7]; exact Blk.new _ _ _ _
  have HK7 := Lib.hid K7; have HB5 := Lib.hid (HB4.out.next' hb5); have HRg := Lib.hid (HR4.out.below hb5); have HK5 := Lib.hid (HK5'.out.below hb5 HK5'.out.lt)
  have HW5 := Lib.hid hw5; have HE7 := Lib.hid hB7
  clear K7 hb5 hw5 hB7 HR4 HK5'
  go_wp2_with fail
  rw [← HW5.out, ← HE7.out]
  clear HW5 HE7
  have hC := check_raw _ g w5 HRg.out
  rw [Raw.ok_wrong ((Raw.ok_iff g).2 HOk.out)] at hC
  refine hC.mono ?_
  rintro e w6 ⟨u6, rfl, hi, hb6⟩
  rcases hi.form with ⟨rfl, _⟩ | ⟨_, h⟩
  case inr => exact (h (by decide)).elim
  have HB6 := Lib.hid hb6
  have d0 := (HK7.out.below hb6 HK7.out.lt).cell 0; have d1 := (HK7.out.below hb6 HK7.out.lt).cell 1; have d2 := (HK7.out.below hb6 HK7.out.lt).cell 2; have d3 := (HK7.out.below hb6 HK7.out.lt).cell 3
  change w6.cell? ⟨B7, 0, none⟩ = some (.int .i64 g.nodes) at d0
  change w6.cell? ⟨B7, 1, none⟩ = some (.slice gxa g.X.length gxc) at d1
  change w6.cell? ⟨B7, 2, none⟩ = some (.slice gya g.Y.length gyc) at d2
  change w6.cell? ⟨B7, 3, none⟩ = some (.slice gza g.arcs.length gzc) at d3
  have y0 := (HK5.out.below hb6 HK5.out.lt).cell 0; have y1 := (HK5.out.below hb6 HK5.out.lt).cell 1
  change w6.cell? ⟨B5, 0, none⟩ = some (.int .u8 (x0 : Nat)) at y0
  change w6.cell? ⟨B5, 1, none⟩ = some (.int .u8 (x1 : Nat)) at y1
  clear hi hb6 hC
  go_wp2_with fail
  clear d0 d1 d2 d3 y0 y1
  refine (put_any _ g x0 x1 _ w6 (HRg.out.below HB6.out) HSm.out l0 l1).mono ?_
  rintro e w7 ⟨v7, t1, i1, u1, rfl, hr7, hbad1, hb7⟩
  obtain ⟨h1, hh1⟩ : ∃ q, q = setK g t1 i1 u1 := ⟨_, rfl⟩
  have hsm7 := setK_small HSm.out t1 i1 u1
  rw [← hh1] at hr7 hsm7
  have HR7 := Lib.hid hr7.raw; have HBad1 := Lib.hid hbad1; have HH1 := Lib.hid hh1; have HSm7 := Lib.hid hsm7
  have HB7 := Lib.hid ((HB5.out.next' HB6.out).next' hb7)
  have K5 := ((HK5.out.below HB6.out HK5.out.lt).below hb7 (HK5.out.below HB6.out HK5.out.lt).lt)
  have HK5' := Lib.hid K5
  obtain ⟨_, _, _, rfl, fx, fy, fz⟩ := hr7.raw
  obtain ⟨axa, axc, rfl, _⟩ := fx
  obtain ⟨aya, ayc, rfl, _⟩ := fy
  obtain ⟨aza, azc, rfl, _⟩ := fz
  clear hr7 hbad1 hh1 hsm7 hb7 K5 HK5 HK7 HRg HB6 HB5 HB4
  obtain ⟨B8, hB8⟩ : ∃ b, b = w7.heap.size := ⟨_, rfl⟩
  obtain ⟨B9, hB9⟩ : ∃ b, b = w7.heap.size + 1 := ⟨_, rfl⟩
  obtain ⟨w8, hw8⟩ : ∃ u, u = (w7.alloc (.cells #[.int .i64 h1.nodes, .slice axa h1.X.length axc, .slice aya h1.Y.length ayc, .slice aza h1.arcs.length azc] 25)).alloc (.cells #[.int .i64 (posK t1 i1).1, .int .i64 (posK t1 i1).2.1, .int .i64 (posK t1 i1).2.2, .int .i64 (codeK t1)] 35) := ⟨_, rfl⟩
  have hbn : Below w7.heap.size w7 w8 := by rw [hw8]; exact ((Below.refl _ _).alloc (Nat.le_refl _) _).alloc (by simp) _
  have hk1 : Blk w8 B8 #[.int .i64 h1.nodes, .slice axa h1.X.length axc, .slice aya h1.Y.length ayc, .slice aza h1.arcs.length azc] 25 (0, 0) := by rw [hw8, hB8]; exact (Blk.new _ _ _ _).alloc _
  have hk2 : Blk w8 B9 #[.int .i64 (posK t1 i1).1, .int .i64 (posK t1 i1).2.1, .int .i64 (posK t1 i1).2.2, .int .i64 (codeK t1)] 35 (0, 0) := by
    rw [hw8, hB9]
    have h := Blk.new (w7.alloc (.cells #[.int .i64 h1.nodes, .slice axa h1.X.length axc, .slice aya h1.Y.length ayc, .slice aza h1.arcs.length azc] 25)) #[.int .i64 (posK t1 i1).1, .int .i64 (posK t1 i1).2.1, .int .i64 (posK t1 i1).2.2, .int .i64 (codeK t1)] 35 (0, 0)
    rwa [World.size_alloc] at h
  have HKB8 := Lib.hid hk1; have HKB9 := Lib.hid hk2; have HWw8 := Lib.hid hw8; have HEB8 := Lib.hid hB8; have HEB9 := Lib.hid hB9
  have HBn := Lib.hid hbn
  clear hk1 hk2 hw8 hB8 hB9 hbn
  have HL9 := Lib.hid (show w.heap.size ≤ B9 by have := HB7.out.size; rw [HEB9.out]; omega)
  have HB8 := Lib.hid (HB7.out.next' HBn.out); have HR8 := Lib.hid (HR7.out.below HBn.out); have HK5 := Lib.hid (HK5'.out.below HBn.out HK5'.out.lt)
  clear HBn HR7 HK5' HB7
  have y2 := HK5.out.cell 2; have y3 := HK5.out.cell 3
  change w8.cell? ⟨B5, 2, none⟩ = some (.int .u8 (x2 : Nat)) at y2
  change w8.cell? ⟨B5, 3, none⟩ = some (.int .u8 (x3 : Nat)) at y3
  rw [HWw8.out] at y2 y3
  go_wp2_with fail
  clear y2 y3
  rw [← HWw8.out, ← HEB9.out, ← HEB8.out]
  clear HWw8 HEB9 HEB8
  refine (put_any _ h1 x2 x3 _ w8 HR8.out HSm7.out l2 l3).mono ?_
  rintro e w9 ⟨v9, t2, i2, u2, rfl, hr9, hbad2, hb9⟩
  obtain ⟨h2, hh2⟩ : ∃ q, q = setK h1 t2 i2 u2 := ⟨_, rfl⟩
  have hsm9 := setK_small HSm7.out t2 i2 u2
  rw [← hh2] at hr9 hsm9
  have HR9 := Lib.hid hr9; have HBad2 := Lib.hid hbad2; have HH2 := Lib.hid hh2; have HSm9 := Lib.hid hsm9
  have HB9 := Lib.hid (HB8.out.next' hb9)
  have HK9' := Lib.hid (HKB9.out.below hb9 HKB9.out.lt)
  obtain ⟨_, _, _, rfl, fx0, _⟩ := id hr9
  obtain ⟨_, _, _, e, fx, fy, fz⟩ := hr9.raw
  simp only [Value.agg.injEq, List.cons.injEq, Array.mk.injEq, true_and, and_true] at e
  obtain ⟨rfl, rfl, rfl⟩ := e
  obtain ⟨bxa, bxc, rfl, hbx⟩ := ownForm fx0
  obtain ⟨bg, rfl⟩ := hbx (by have := hsm9.lenX; have := hsm9.nodes; omega)
  obtain ⟨_, _, ec, hxc, _⟩ := fx
  simp only [Value.slice.injEq] at ec
  obtain ⟨rfl, _, rfl⟩ := ec
  obtain ⟨bya, byc, rfl, _⟩ := fy
  obtain ⟨bza, bzc, rfl, _⟩ := fz
  clear hr9 hbad2 hh2 hsm9 hb9 HK5 HKB8 HKB9 HR8 HB8
  obtain ⟨B10, hB10⟩ : ∃ b, b = w9.heap.size := ⟨_, rfl⟩
  obtain ⟨B11, hB11⟩ : ∃ b, b = w9.heap.size + 1 := ⟨_, rfl⟩
  obtain ⟨w10, hw10⟩ : ∃ u, u = (w9.alloc (.cells #[.int .i64 h2.nodes, .slice (some ⟨bg, 0, none⟩) h2.X.length bxc, .slice bya h2.Y.length byc, .slice bza h2.arcs.length bzc] 25)).alloc (.cells #[.int .i64 (posK t2 i2).1, .int .i64 (posK t2 i2).2.1, .int .i64 (posK t2 i2).2.2, .int .i64 (codeK t2)] 35) := ⟨_, rfl⟩
  have hbn : Below w9.heap.size w9 w10 := by rw [hw10]; exact ((Below.refl _ _).alloc (Nat.le_refl _) _).alloc (by simp) _
  have hk1 : Blk w10 B10 #[.int .i64 h2.nodes, .slice (some ⟨bg, 0, none⟩) h2.X.length bxc, .slice bya h2.Y.length byc, .slice bza h2.arcs.length bzc] 25 (0, 0) := by rw [hw10, hB10]; exact (Blk.new _ _ _ _).alloc _
  have hk2 : Blk w10 B11 #[.int .i64 (posK t2 i2).1, .int .i64 (posK t2 i2).2.1, .int .i64 (posK t2 i2).2.2, .int .i64 (codeK t2)] 35 (0, 0) := by
    rw [hw10, hB11]
    have h := Blk.new (w9.alloc (.cells #[.int .i64 h2.nodes, .slice (some ⟨bg, 0, none⟩) h2.X.length bxc, .slice bya h2.Y.length byc, .slice bza h2.arcs.length bzc] 25)) #[.int .i64 (posK t2 i2).1, .int .i64 (posK t2 i2).2.1, .int .i64 (posK t2 i2).2.2, .int .i64 (codeK t2)] 35 (0, 0)
    rwa [World.size_alloc] at h
  have HKB10 := Lib.hid hk1; have HKB11 := Lib.hid hk2; have HWw10 := Lib.hid hw10; have HEB10 := Lib.hid hB10; have HEB11 := Lib.hid hB11
  have HBn := Lib.hid hbn
  clear hk1 hk2 hw10 hB10 hB11 hbn
  have HB10 := Lib.hid (HB9.out.next' HBn.out); have HR10 := Lib.hid (HR9.out.below HBn.out); have HK9 := Lib.hid (HK9'.out.below HBn.out HK9'.out.lt)
  clear HBn HR9 HK9' HB9
  have y0 := HK9.out.cell 0; have y1 := HK9.out.cell 1; have y2 := HK9.out.cell 2; have y3 := HK9.out.cell 3
  change w10.cell? ⟨B9, 0, none⟩ = some (.int .i64 (posK t1 i1).1) at y0
  change w10.cell? ⟨B9, 1, none⟩ = some (.int .i64 (posK t1 i1).2.1) at y1
  change w10.cell? ⟨B9, 2, none⟩ = some (.int .i64 (posK t1 i1).2.2) at y2
  change w10.cell? ⟨B9, 3, none⟩ = some (.int .i64 (codeK t1)) at y3
  rw [HWw10.out] at y0 y1 y2 y3
  go_wp2_with fail
  clear y0 y1 y2 y3
  rw [← HWw10.out, ← HEB11.out, ← HEB10.out]
  clear HWw10 HEB11 HEB10
  refine (ahead_any _ _ _ _ _ _ _ _ w10).mono ?_
  rintro e w11 ⟨rfl, hb11⟩
  have HB11 := Lib.hid (HB10.out.next' hb11); have HR11 := Lib.hid (HR10.out.below hb11); have HK9' := Lib.hid (HK9.out.below hb11 HK9.out.lt); have HK10 := Lib.hid (HKB10.out.below hb11 HKB10.out.lt); have HK11 := Lib.hid (HKB11.out.below hb11 HKB11.out.lt)
  have hwr := first_of_two HOk.out HBad1.out (show Bad g t2 i2 u2 by have h := HBad2.out; rw [HH1.out] at h; refine ⟨h.kind, ?_, ?_⟩; (have hl := h.lt; unfold lenK at hl ⊢; obtain ⟨q1, q2, q3⟩ := setK_len g t1 i1 u1; rwa [q1, q2, q3] at hl); (have hb := h.bad; rwa [setK_nodes] at hb))
  clear hb11 HB10 HR10 HK9 HKB10 HKB11
  rw [← HH1.out, ← HH2.out] at hwr
  have HWr := Lib.hid hwr
  clear hwr
  have HPos := Lib.hid (show ∃ p0 p1 p2 q0 p0' p1' p2' q0' : Int, p0 = (posK t1 i1).1 ∧ p1 = (posK t1 i1).2.1 ∧ p2 = (posK t1 i1).2.2 ∧ q0 = codeK t1 ∧ p0' = (posK t2 i2).1 ∧ p1' = (posK t2 i2).2.1 ∧ p2' = (posK t2 i2).2.2 ∧ q0' = codeK t2 from ⟨_, _, _, _, _, _, _, _, rfl, rfl, rfl, rfl, rfl, rfl, rfl, rfl⟩)
  by_cases hah : aheadB (posK t2 i2) (posK t1 i1) = true
  case pos =>
    have hwr : h2.wrong = (codeK t2, posK t2 i2) := by rw [HWr.out, if_pos hah]
    have HWr2 := Lib.hid hwr
    have a0 := HK11.out.cell 0; have a1 := HK11.out.cell 1; have a2 := HK11.out.cell 2; have a3 := HK11.out.cell 3
    simp only [List.getElem?_toArray, List.getElem?_cons_succ, List.getElem?_cons_zero] at a0 a1 a2 a3
    have y0 := HK9'.out.cell 0; have y1 := HK9'.out.cell 1; have y2 := HK9'.out.cell 2; have y3 := HK9'.out.cell 3
    simp only [List.getElem?_toArray, List.getElem?_cons_succ, List.getElem?_cons_zero] at y0 y1 y2 y3
    have fr := fun i => HK9'.out.free i (Or.inr (Nat.zero_le _))
    have f0 := fr 0; have f1 := fr 1; have f2 := fr 2; have f3 := fr 3
    have hkz := (((HK9'.out.set 0 (.int .i64 (posK t2 i2).1)).set 1 (.int .i64 (posK t2 i2).2.1)).set 2 (.int .i64 (posK t2 i2).2.2)).set 3 (.int .i64 (codeK t2))
    have hne : B10 ≠ B9 := blk_apart HK9'.out HK10.out (by decide)
    have hk10 := (((HK10.out.setOther ⟨B9, 0, none⟩ (.int .i64 (posK t2 i2).1) hne).setOther ⟨B9, 1, none⟩ (.int .i64 (posK t2 i2).2.1) hne).setOther ⟨B9, 2, none⟩ (.int .i64 (posK t2 i2).2.2) hne).setOther ⟨B9, 3, none⟩ (.int .i64 (codeK t2)) hne
    have hbz : Below w.heap.size w ((((w11.setCell ⟨B9, 0, none⟩ (.int .i64 (posK t2 i2).1)).setCell ⟨B9, 1, none⟩ (.int .i64 (posK t2 i2).2.1)).setCell ⟨B9, 2, none⟩ (.int .i64 (posK t2 i2).2.2)).setCell ⟨B9, 3, none⟩ (.int .i64 (codeK t2))) := ((((HB11.out).setCell (p := ⟨B9, 0, none⟩) HL9.out _).setCell (p := ⟨B9, 1, none⟩) HL9.out _).setCell (p := ⟨B9, 2, none⟩) HL9.out _).setCell (p := ⟨B9, 3, none⟩) HL9.out _
    have hrz := (((HR11.out.setBad HK9'.out 0 (.int .i64 (posK t2 i2).1)).setBad (HK9'.out.set 0 (.int .i64 (posK t2 i2).1)) 1 (.int .i64 (posK t2 i2).2.1)).setBad ((HK9'.out.set 0 (.int .i64 (posK t2 i2).1)).set 1 (.int .i64 (posK t2 i2).2.1)) 2 (.int .i64 (posK t2 i2).2.2)).setBad (((HK9'.out.set 0 (.int .i64 (posK t2 i2).1)).set 1 (.int .i64 (posK t2 i2).2.1)).set 2 (.int .i64 (posK t2 i2).2.2)) 3 (.int .i64 (codeK t2))
    have HKz := Lib.hid hkz; have HK10z := Lib.hid hk10; have HBz := Lib.hid hbz; have HRz := Lib.hid hrz
    clear hkz hne hk10 hbz hrz fr hwr
    go_upto_region 10 with fail
    clear a0 a1 a2 a3 y0 y1 y2 y3 f0 f1 f2 f3
    generalize (((w11.setCell ⟨B9, 0, none⟩ (.int .i64 (posK t2 i2).1)).setCell ⟨B9, 1, none⟩ (.int .i64 (posK t2 i2).2.1)).setCell ⟨B9, 2, none⟩ (.int .i64 (posK t2 i2).2.2)).setCell ⟨B9, 3, none⟩ (.int .i64 (codeK t2)) = wz at *
    clear HK9' HK10 HK11 HB11 HR11 HWr HBad1 HBad2 HH1 HH2 hah
    obtain ⟨B12, hB12⟩ : ∃ b, b = wz.heap.size := ⟨_, rfl⟩
    obtain ⟨wA, hwA⟩ : ∃ u, u = wz.alloc (.cells #[.int .i64 h2.nodes, .slice (some ⟨bg, 0, none⟩) h2.X.length bxc, .slice bya h2.Y.length byc, .slice bza h2.arcs.length bzc] 25) := ⟨_, rfl⟩
    have hbA : Below wz.heap.size wz wA := by rw [hwA]; exact (Below.refl _ _).alloc (Nat.le_refl _) _
    have KA : Blk wA B12 #[.int .i64 h2.nodes, .slice (some ⟨bg, 0, none⟩) h2.X.length bxc, .slice bya h2.Y.length byc, .slice bza h2.arcs.length bzc] 25 (0, 0) := by rw [hwA, hB12]; exact Blk.new _ _ _ _
    have hszA : wA.heap.size = wz.heap.size + 1 := by rw [hwA]; simp
    have hrA := HRz.out.below hbA
    have hSY : ∀ u, Below wA.heap.size wA u → SlX u (.slice bya h2.Y.length byc) h2.Y := fun u hu => by
      obtain ⟨_, _, _, e, _, h, _⟩ := (hrA.below hu).raw
      cases e; exact h
    obtain ⟨a, n, c, wC, a2, n2, c2, wE, hr1, hr2, ho, hbE⟩ := app_long hSY (by have := HSm9.out.lenY; have := HSm9.out.nodes; omega)
    have kE := KA.below hbE KA.lt
    have kc0 := HK10z.out.below hbA HK10z.out.lt
    have k10E := kc0.below hbE kc0.lt
    have k9E := (HKz.out.below hbA HKz.out.lt).below hbE (HKz.out.below hbA HKz.out.lt).lt
    have hrE := hrA.below hbE
    have hneA : B10 ≠ B12 := fun e => by have := HK10z.out.lt; omega
    have hne9 : B9 ≠ B12 := fun e => by have := HKz.out.lt; omega
    have kF := kE.set 2 (.slice a2 n2 c2)
    have k10F := k10E.setOther ⟨B12, 2, none⟩ (.slice a2 n2 c2) hneA
    have k9F := k9E.setOther ⟨B12, 2, none⟩ (.slice a2 n2 c2) hne9
    have hbF : Below wz.heap.size wz (wE.setCell ⟨B12, 2, none⟩ (.slice a2 n2 c2)) := (hbA.next' hbE).setCell (p := ⟨B12, 2, none⟩) (by show wz.heap.size ≤ B12; omega) _
    have oF := ownsRow_set ho (p := ⟨B12, 2, none⟩) kE (by decide) (.slice a2 n2 c2)
    have hrF := HRz.out.below hbF
    have HRun1 := Lib.hid hr1; have HRun2 := Lib.hid hr2
    rw [hwA] at HRun1
    have eA1 := kE.cell 2; have eA2 := kE.free 2 (Or.inr (Nat.zero_le _))
    have g0 := HK10z.out.cell 0; have g1 := HK10z.out.cell 1; have g2 := HK10z.out.cell 2; have g3 := HK10z.out.cell 3
    change wz.cell? ⟨B10, 0, none⟩ = some (.int .i64 h2.nodes) at g0
    change wz.cell? ⟨B10, 1, none⟩ = some (.slice (some ⟨bg, 0, none⟩) h2.X.length bxc) at g1
    change wz.cell? ⟨B10, 2, none⟩ = some (.slice bya h2.Y.length byc) at g2
    change wz.cell? ⟨B10, 3, none⟩ = some (.slice bza h2.arcs.length bzc) at g3
    change wE.cell? ⟨B12, 2, none⟩ = some (.slice bya h2.Y.length byc) at eA1
    have HKF := Lib.hid kF; have HK10F := Lib.hid k10F; have HK9F := Lib.hid k9F; have HBF := Lib.hid (HBz.out.next' hbF); have HOF := Lib.hid oF; have HRF := Lib.hid hrF; have HEB := Lib.hid hB12
    have HSzA := Lib.hid hszA
    clear hbA KA hszA hrA hSY hr1 hr2 ho hbE kE kc0 k10E k9E hrE hneA hne9 kF k10F k9F hbF oF hrF hwA hB12
    rw [HEB.out] at eA1 eA2
    have hszz : (wz.alloc (.cells #[.int .i64 h2.nodes, .slice (some ⟨bg, 0, none⟩) h2.X.length bxc, .slice bya h2.Y.length byc, .slice bza h2.arcs.length bzc] 25)).heap.size = wz.heap.size + 1 := by simp
    rw [hszz] at HRun1
    clear hszz
    have m2 := ((HK10z.out.alloc (.cells #[.int .i64 h2.nodes, .slice (some ⟨bg, 0, none⟩) h2.X.length bxc, .slice bya h2.Y.length byc, .slice bza h2.arcs.length bzc] 25)).alloc (.cells #[] 2)).cell 2
    simp only [List.getElem?_toArray, List.getElem?_cons_succ, List.getElem?_cons_zero] at m2
    obtain ⟨m, hm⟩ : ∃ m : Nat, (m : Int) = (h2.X.length : Int) - 1 := ⟨h2.X.length - 1, by have := HSm9.out.lenX; have := HSm9.out.nodes; omega⟩
    have hmw : IntKind.i64.wrap ((h2.X.length : Int) - 1) = (m : Int) := by rw [← hm]; exact wrap_small _ (by omega) (by have := HSm9.out.lenX; have := HSm9.out.nodes; omega)
    have hm0 : (0 : Int) ≤ (m : Int) := by omega
    have hm1 : (m : Int) ≤ (bxc : Int) := by omega
    have hm2 : m ≤ bxc := by omega
    have HM := Lib.hid hm
    clear hm
    go_upto_region 12 with (at_builtin; first | refine wpList_append_run rfl _ _ _ _ rfl HRun1.out ?_ | refine wpList_append_run rfl _ _ _ _ rfl HRun2.out ?_)
    rw [← HEB.out]
    clear eA1 eA2 m2 g0 g1 g2 g3 HRun1 HRun2
    generalize wE.setCell ⟨B12, 2, none⟩ (.slice a2 n2 c2) = wF at *
    obtain ⟨B13, hB13⟩ : ∃ b, b = wF.heap.size := ⟨_, rfl⟩
    obtain ⟨wH, hwH⟩ : ∃ u, u = wF.alloc (.cells #[.int .i64 h2.nodes, .slice (some ⟨bg, 0, none⟩) m bxc, .slice bya h2.Y.length byc, .slice bza h2.arcs.length bzc] 25) := ⟨_, rfl⟩
    have hbH : Below wF.heap.size wF wH := by rw [hwH]; exact (Below.refl _ _).alloc (Nat.le_refl _) _
    have KH : Blk wH B13 #[.int .i64 h2.nodes, .slice (some ⟨bg, 0, none⟩) m bxc, .slice bya h2.Y.length byc, .slice bza h2.arcs.length bzc] 25 (0, 0) := by rw [hwH, hB13]; exact Blk.new _ _ _ _
    have p0 := HK10F.out.cell 0; have p1 := HK10F.out.cell 1; have p2 := HK10F.out.cell 2; have p3 := HK10F.out.cell 3
    change wF.cell? ⟨B10, 0, none⟩ = some (.int .i64 h2.nodes) at p0
    change wF.cell? ⟨B10, 1, none⟩ = some (.slice (some ⟨bg, 0, none⟩) h2.X.length bxc) at p1
    change wF.cell? ⟨B10, 2, none⟩ = some (.slice bya h2.Y.length byc) at p2
    change wF.cell? ⟨B10, 3, none⟩ = some (.slice bza h2.arcs.length bzc) at p3
    have p1a := (HK10F.out.alloc (.cells #[.int .i64 h2.nodes, .slice (some ⟨bg, 0, none⟩) h2.X.length bxc, .slice bya h2.Y.length byc, .slice bza h2.arcs.length bzc] 25)).cell 1
    simp only [List.getElem?_toArray, List.getElem?_cons_succ, List.getElem?_cons_zero] at p1a
    have HKH := Lib.hid KH; have HBH := Lib.hid (HBF.out.next' hbH); have HWH := Lib.hid hwH; have HE13 := Lib.hid hB13
    have HK10H := Lib.hid (HK10F.out.below hbH HK10F.out.lt); have HK9H := Lib.hid (HK9F.out.below hbH HK9F.out.lt); have HKFH := Lib.hid (HKF.out.below hbH HKF.out.lt)
    have HRH := Lib.hid (HRF.out.below hbH).raw; have HOH := Lib.hid (ownsRow_below HOF.out hbH)
    clear hbH KH hwH hB13
    go_upto_region 14 with fail
    rw [← HWH.out, ← HE13.out]
    clear p0 p1 p2 p3 p1a HWH HE13 HEB
    have p0 := HK10H.out.cell 0; have p1 := HK10H.out.cell 1; have p2 := HK10H.out.cell 2; have p3 := HK10H.out.cell 3
    change wH.cell? ⟨B10, 0, none⟩ = some (.int .i64 h2.nodes) at p0
    change wH.cell? ⟨B10, 1, none⟩ = some (.slice (some ⟨bg, 0, none⟩) h2.X.length bxc) at p1
    change wH.cell? ⟨B10, 2, none⟩ = some (.slice bya h2.Y.length byc) at p2
    change wH.cell? ⟨B10, 3, none⟩ = some (.slice bza h2.arcs.length bzc) at p3
    have q0 := HK9H.out.cell 0; have q1 := HK9H.out.cell 1; have q2 := HK9H.out.cell 2; have q3 := HK9H.out.cell 3
    change wH.cell? ⟨B9, 0, none⟩ = some (.int .i64 ((posK t2 i2).1)) at q0
    change wH.cell? ⟨B9, 1, none⟩ = some (.int .i64 ((posK t2 i2).2.1)) at q1
    change wH.cell? ⟨B9, 2, none⟩ = some (.int .i64 ((posK t2 i2).2.2)) at q2
    change wH.cell? ⟨B9, 3, none⟩ = some (.int .i64 (codeK t2)) at q3
    go_wp2_with fail
    clear p0 p1 p2 p3 q0 q1 q2 q3
    refine (fails_any _ h2 wH _ _ _ _ (HG0.out.later HBH.out) HRH.out HWr2.out).mono ?_
    rintro e wI ⟨rfl, hbI⟩
    have HBI := Lib.hid (HBH.out.next' hbI)
    have HKI := Lib.hid (HKFH.out.below hbI HKFH.out.lt); have HKS := Lib.hid (HKH.out.below hbI HKH.out.lt)
    have HRI := Lib.hid (HRH.out.below hbI); have HOI := Lib.hid (ownsRow_below HOH.out hbI)
    have s0 := HKI.out.cell 0; have s1 := HKI.out.cell 1; have s2 := HKI.out.cell 2; have s3 := HKI.out.cell 3
    have HCI := Lib.hid (⟨s0, s1, s2, s3⟩ : wI.cell? ⟨B12, 0, none⟩ = some (.int .i64 h2.nodes) ∧ wI.cell? ⟨B12, 1, none⟩ = some (.slice (some ⟨bg, 0, none⟩) h2.X.length bxc) ∧ wI.cell? ⟨B12, 2, none⟩ = some (.slice a2 n2 c2) ∧ wI.cell? ⟨B12, 3, none⟩ = some (.slice bza h2.arcs.length bzc))
    clear hbI s0 s1 s2 s3 HBH HKFH HKH HRH HOH HK10H HK9H
    obtain ⟨s0, s1, s2, s3⟩ := HCI.out
    go_wp2_with fail
    clear s0 s1 s2 s3 HCI
    have hfx : ∃ fx fy fz, RawV wI (.agg #[.int .i64 h2.nodes, fx, fy, fz]) h2 ∧ fx = .slice (some ⟨bg, 0, none⟩) h2.X.length bxc ∧ fz = .slice bza h2.arcs.length bzc := ⟨_, _, _, HRI.out, rfl, rfl⟩
    have hlong : RawV wI (.agg #[.int .i64 h2.nodes, .slice (some ⟨bg, 0, none⟩) h2.X.length bxc, .slice a2 n2 c2, .slice bza h2.arcs.length bzc]) { h2 with Y := h2.Y ++ [0] } := by
      obtain ⟨_, _, _, e, k1, _, k3⟩ := HRI.out
      cases e
      exact ⟨_, _, _, rfl, k1, slX_own rfl HOI.out, k3⟩
    refine (fails_any _ _ wI _ _ _ _ (HG0.out.later HBI.out) hlong (first_shapeY ⟨HSm9.out.nodes.1, by have := HSm9.out.nodes; show h2.nodes ≤ 16777216; omega⟩ (by show (h2.X.length : Int) = _; have := HSm9.out.lenX; exact this) (by show ¬ ((h2.Y ++ [0]).length : Int) = h2.nodes; rw [List.length_append]; have := HSm9.out.lenY; simp; omega))).mono ?_
    rintro e wJ ⟨rfl, hbJ⟩
    have HBJ := Lib.hid (HBI.out.next' hbJ)
    have HKJ := Lib.hid (HKS.out.below hbJ HKS.out.lt)
    have HRJ := Lib.hid (HRI.out.below hbJ)
    have HCI := Lib.hid (⟨HKJ.out.cell 0, HKJ.out.cell 1, HKJ.out.cell 2, HKJ.out.cell 3⟩ : wJ.cell? ⟨B13, 0, none⟩ = some (.int .i64 h2.nodes) ∧ wJ.cell? ⟨B13, 1, none⟩ = some (.slice (some ⟨bg, 0, none⟩) m bxc) ∧ wJ.cell? ⟨B13, 2, none⟩ = some (.slice bya h2.Y.length byc) ∧ wJ.cell? ⟨B13, 3, none⟩ = some (.slice bza h2.arcs.length bzc))
    clear hbJ hfx hlong HKI HKS HRI HOI HBI
    obtain ⟨s0, s1, s2, s3⟩ := HCI.out
    go_wp2_with fail
    clear s0 s1 s2 s3 HCI
    have hshort : RawV wJ (.agg #[.int .i64 h2.nodes, .slice (some ⟨bg, 0, none⟩) m bxc, .slice bya h2.Y.length byc, .slice bza h2.arcs.length bzc]) { h2 with X := h2.X.take m } := by
      obtain ⟨_, _, _, e, k1, k2, k3⟩ := HRJ.out
      cases e
      exact ⟨_, _, _, rfl, k1.cut m (by have := HM.out; omega), k2, k3⟩
    refine (fails_any _ _ wJ _ _ _ _ (HG0.out.later HBJ.out) hshort (first_shape ⟨HSm9.out.nodes.1, by have := HSm9.out.nodes; show h2.nodes ≤ 16777216; omega⟩ (by show ¬ ((h2.X.take m).length : Int) = h2.nodes; rw [List.length_take]; have := HSm9.out.lenX; have := HM.out; omega))).mono ?_
    rintro e wK ⟨rfl, hbK⟩
    have HBK := Lib.hid (HBJ.out.next' hbK)
    clear hbK hshort
    go_wp2_with fail
    go_ret
    exact ⟨rfl, HBK.out⟩
  case neg =>
    have hahb : aheadB (posK t2 i2) (posK t1 i1) = false := by simpa using hah
    have hwr : h2.wrong = (codeK t1, posK t1 i1) := by rw [HWr.out, if_neg hah]
    have HWr2 := Lib.hid hwr
    obtain ⟨wz, hwz⟩ : ∃ q, q = w11 := ⟨_, rfl⟩
    have HKz := Lib.hid HK9'.out; have HK10z := Lib.hid HK10.out; have HBz := Lib.hid HB11.out; have HRz := Lib.hid HR11.out
    clear hwr
    rw [← hwz] at HKz HK10z HBz HRz ⊢
    clear hwz
    go_upto_region 10 with fail
    clear HK9' HK10 HK11 HB11 HR11 HWr HBad1 HBad2 HH1 HH2 hah hahb
    obtain ⟨B12, hB12⟩ : ∃ b, b = wz.heap.size := ⟨_, rfl⟩
    obtain ⟨wA, hwA⟩ : ∃ u, u = wz.alloc (.cells #[.int .i64 h2.nodes, .slice (some ⟨bg, 0, none⟩) h2.X.length bxc, .slice bya h2.Y.length byc, .slice bza h2.arcs.length bzc] 25) := ⟨_, rfl⟩
    have hbA : Below wz.heap.size wz wA := by rw [hwA]; exact (Below.refl _ _).alloc (Nat.le_refl _) _
    have KA : Blk wA B12 #[.int .i64 h2.nodes, .slice (some ⟨bg, 0, none⟩) h2.X.length bxc, .slice bya h2.Y.length byc, .slice bza h2.arcs.length bzc] 25 (0, 0) := by rw [hwA, hB12]; exact Blk.new _ _ _ _
    have hszA : wA.heap.size = wz.heap.size + 1 := by rw [hwA]; simp
    have hrA := HRz.out.below hbA
    have hSY : ∀ u, Below wA.heap.size wA u → SlX u (.slice bya h2.Y.length byc) h2.Y := fun u hu => by
      obtain ⟨_, _, _, e, _, h, _⟩ := (hrA.below hu).raw
      cases e; exact h
    obtain ⟨a, n, c, wC, a2, n2, c2, wE, hr1, hr2, ho, hbE⟩ := app_long hSY (by have := HSm9.out.lenY; have := HSm9.out.nodes; omega)
    have kE := KA.below hbE KA.lt
    have kc0 := HK10z.out.below hbA HK10z.out.lt
    have k10E := kc0.below hbE kc0.lt
    have k9E := (HKz.out.below hbA HKz.out.lt).below hbE (HKz.out.below hbA HKz.out.lt).lt
    have hrE := hrA.below hbE
    have hneA : B10 ≠ B12 := fun e => by have := HK10z.out.lt; omega
    have hne9 : B9 ≠ B12 := fun e => by have := HKz.out.lt; omega
    have kF := kE.set 2 (.slice a2 n2 c2)
    have k10F := k10E.setOther ⟨B12, 2, none⟩ (.slice a2 n2 c2) hneA
    have k9F := k9E.setOther ⟨B12, 2, none⟩ (.slice a2 n2 c2) hne9
    have hbF : Below wz.heap.size wz (wE.setCell ⟨B12, 2, none⟩ (.slice a2 n2 c2)) := (hbA.next' hbE).setCell (p := ⟨B12, 2, none⟩) (by show wz.heap.size ≤ B12; omega) _
    have oF := ownsRow_set ho (p := ⟨B12, 2, none⟩) kE (by decide) (.slice a2 n2 c2)
    have hrF := HRz.out.below hbF
    have HRun1 := Lib.hid hr1; have HRun2 := Lib.hid hr2
    rw [hwA] at HRun1
    have eA1 := kE.cell 2; have eA2 := kE.free 2 (Or.inr (Nat.zero_le _))
    have g0 := HK10z.out.cell 0; have g1 := HK10z.out.cell 1; have g2 := HK10z.out.cell 2; have g3 := HK10z.out.cell 3
    change wz.cell? ⟨B10, 0, none⟩ = some (.int .i64 h2.nodes) at g0
    change wz.cell? ⟨B10, 1, none⟩ = some (.slice (some ⟨bg, 0, none⟩) h2.X.length bxc) at g1
    change wz.cell? ⟨B10, 2, none⟩ = some (.slice bya h2.Y.length byc) at g2
    change wz.cell? ⟨B10, 3, none⟩ = some (.slice bza h2.arcs.length bzc) at g3
    change wE.cell? ⟨B12, 2, none⟩ = some (.slice bya h2.Y.length byc) at eA1
    have HKF := Lib.hid kF; have HK10F := Lib.hid k10F; have HK9F := Lib.hid k9F; have HBF := Lib.hid (HBz.out.next' hbF); have HOF := Lib.hid oF; have HRF := Lib.hid hrF; have HEB := Lib.hid hB12
    have HSzA := Lib.hid hszA
    clear hbA KA hszA hrA hSY hr1 hr2 ho hbE kE kc0 k10E k9E hrE hneA hne9 kF k10F k9F hbF oF hrF hwA hB12
    rw [HEB.out] at eA1 eA2
    have hszz : (wz.alloc (.cells #[.int .i64 h2.nodes, .slice (some ⟨bg, 0, none⟩) h2.X.length bxc, .slice bya h2.Y.length byc, .slice bza h2.arcs.length bzc] 25)).heap.size = wz.heap.size + 1 := by simp
    rw [hszz] at HRun1
    clear hszz
    have m2 := ((HK10z.out.alloc (.cells #[.int .i64 h2.nodes, .slice (some ⟨bg, 0, none⟩) h2.X.length bxc, .slice bya h2.Y.length byc, .slice bza h2.arcs.length bzc] 25)).alloc (.cells #[] 2)).cell 2
    simp only [List.getElem?_toArray, List.getElem?_cons_succ, List.getElem?_cons_zero] at m2
    obtain ⟨m, hm⟩ : ∃ m : Nat, (m : Int) = (h2.X.length : Int) - 1 := ⟨h2.X.length - 1, by have := HSm9.out.lenX; have := HSm9.out.nodes; omega⟩
    have hmw : IntKind.i64.wrap ((h2.X.length : Int) - 1) = (m : Int) := by rw [← hm]; exact wrap_small _ (by omega) (by have := HSm9.out.lenX; have := HSm9.out.nodes; omega)
    have hm0 : (0 : Int) ≤ (m : Int) := by omega
    have hm1 : (m : Int) ≤ (bxc : Int) := by omega
    have hm2 : m ≤ bxc := by omega
    have HM := Lib.hid hm
    clear hm
    go_upto_region 12 with (at_builtin; first | refine wpList_append_run rfl _ _ _ _ rfl HRun1.out ?_ | refine wpList_append_run rfl _ _ _ _ rfl HRun2.out ?_)
    rw [← HEB.out]
    clear eA1 eA2 m2 g0 g1 g2 g3 HRun1 HRun2
    generalize wE.setCell ⟨B12, 2, none⟩ (.slice a2 n2 c2) = wF at *
    obtain ⟨B13, hB13⟩ : ∃ b, b = wF.heap.size := ⟨_, rfl⟩
    obtain ⟨wH, hwH⟩ : ∃ u, u = wF.alloc (.cells #[.int .i64 h2.nodes, .slice (some ⟨bg, 0, none⟩) m bxc, .slice bya h2.Y.length byc, .slice bza h2.arcs.length bzc] 25) := ⟨_, rfl⟩
    have hbH : Below wF.heap.size wF wH := by rw [hwH]; exact (Below.refl _ _).alloc (Nat.le_refl _) _
    have KH : Blk wH B13 #[.int .i64 h2.nodes, .slice (some ⟨bg, 0, none⟩) m bxc, .slice bya h2.Y.length byc, .slice bza h2.arcs.length bzc] 25 (0, 0) := by rw [hwH, hB13]; exact Blk.new _ _ _ _
    have p0 := HK10F.out.cell 0; have p1 := HK10F.out.cell 1; have p2 := HK10F.out.cell 2; have p3 := HK10F.out.cell 3
    change wF.cell? ⟨B10, 0, none⟩ = some (.int .i64 h2.nodes) at p0
    change wF.cell? ⟨B10, 1, none⟩ = some (.slice (some ⟨bg, 0, none⟩) h2.X.length bxc) at p1
    change wF.cell? ⟨B10, 2, none⟩ = some (.slice bya h2.Y.length byc) at p2
    change wF.cell? ⟨B10, 3, none⟩ = some (.slice bza h2.arcs.length bzc) at p3
    have p1a := (HK10F.out.alloc (.cells #[.int .i64 h2.nodes, .slice (some ⟨bg, 0, none⟩) h2.X.length bxc, .slice bya h2.Y.length byc, .slice bza h2.arcs.length bzc] 25)).cell 1
    simp only [List.getElem?_toArray, List.getElem?_cons_succ, List.getElem?_cons_zero] at p1a
    have HKH := Lib.hid KH; have HBH := Lib.hid (HBF.out.next' hbH); have HWH := Lib.hid hwH; have HE13 := Lib.hid hB13
    have HK10H := Lib.hid (HK10F.out.below hbH HK10F.out.lt); have HK9H := Lib.hid (HK9F.out.below hbH HK9F.out.lt); have HKFH := Lib.hid (HKF.out.below hbH HKF.out.lt)
    have HRH := Lib.hid (HRF.out.below hbH).raw; have HOH := Lib.hid (ownsRow_below HOF.out hbH)
    clear hbH KH hwH hB13
    go_upto_region 14 with fail
    rw [← HWH.out, ← HE13.out]
    clear p0 p1 p2 p3 p1a HWH HE13 HEB
    have p0 := HK10H.out.cell 0; have p1 := HK10H.out.cell 1; have p2 := HK10H.out.cell 2; have p3 := HK10H.out.cell 3
    change wH.cell? ⟨B10, 0, none⟩ = some (.int .i64 h2.nodes) at p0
    change wH.cell? ⟨B10, 1, none⟩ = some (.slice (some ⟨bg, 0, none⟩) h2.X.length bxc) at p1
    change wH.cell? ⟨B10, 2, none⟩ = some (.slice bya h2.Y.length byc) at p2
    change wH.cell? ⟨B10, 3, none⟩ = some (.slice bza h2.arcs.length bzc) at p3
    have q0 := HK9H.out.cell 0; have q1 := HK9H.out.cell 1; have q2 := HK9H.out.cell 2; have q3 := HK9H.out.cell 3
    change wH.cell? ⟨B9, 0, none⟩ = some (.int .i64 ((posK t1 i1).1)) at q0
    change wH.cell? ⟨B9, 1, none⟩ = some (.int .i64 ((posK t1 i1).2.1)) at q1
    change wH.cell? ⟨B9, 2, none⟩ = some (.int .i64 ((posK t1 i1).2.2)) at q2
    change wH.cell? ⟨B9, 3, none⟩ = some (.int .i64 (codeK t1)) at q3
    go_wp2_with fail
    clear p0 p1 p2 p3 q0 q1 q2 q3
    refine (fails_any _ h2 wH _ _ _ _ (HG0.out.later HBH.out) HRH.out HWr2.out).mono ?_
    rintro e wI ⟨rfl, hbI⟩
    have HBI := Lib.hid (HBH.out.next' hbI)
    have HKI := Lib.hid (HKFH.out.below hbI HKFH.out.lt); have HKS := Lib.hid (HKH.out.below hbI HKH.out.lt)
    have HRI := Lib.hid (HRH.out.below hbI); have HOI := Lib.hid (ownsRow_below HOH.out hbI)
    have s0 := HKI.out.cell 0; have s1 := HKI.out.cell 1; have s2 := HKI.out.cell 2; have s3 := HKI.out.cell 3
    have HCI := Lib.hid (⟨s0, s1, s2, s3⟩ : wI.cell? ⟨B12, 0, none⟩ = some (.int .i64 h2.nodes) ∧ wI.cell? ⟨B12, 1, none⟩ = some (.slice (some ⟨bg, 0, none⟩) h2.X.length bxc) ∧ wI.cell? ⟨B12, 2, none⟩ = some (.slice a2 n2 c2) ∧ wI.cell? ⟨B12, 3, none⟩ = some (.slice bza h2.arcs.length bzc))
    clear hbI s0 s1 s2 s3 HBH HKFH HKH HRH HOH HK10H HK9H
    obtain ⟨s0, s1, s2, s3⟩ := HCI.out
    go_wp2_with fail
    clear s0 s1 s2 s3 HCI
    have hfx : ∃ fx fy fz, RawV wI (.agg #[.int .i64 h2.nodes, fx, fy, fz]) h2 ∧ fx = .slice (some ⟨bg, 0, none⟩) h2.X.length bxc ∧ fz = .slice bza h2.arcs.length bzc := ⟨_, _, _, HRI.out, rfl, rfl⟩
    have hlong : RawV wI (.agg #[.int .i64 h2.nodes, .slice (some ⟨bg, 0, none⟩) h2.X.length bxc, .slice a2 n2 c2, .slice bza h2.arcs.length bzc]) { h2 with Y := h2.Y ++ [0] } := by
      obtain ⟨_, _, _, e, k1, _, k3⟩ := HRI.out
      cases e
      exact ⟨_, _, _, rfl, k1, slX_own rfl HOI.out, k3⟩
    refine (fails_any _ _ wI _ _ _ _ (HG0.out.later HBI.out) hlong (first_shapeY ⟨HSm9.out.nodes.1, by have := HSm9.out.nodes; show h2.nodes ≤ 16777216; omega⟩ (by show (h2.X.length : Int) = _; have := HSm9.out.lenX; exact this) (by show ¬ ((h2.Y ++ [0]).length : Int) = h2.nodes; rw [List.length_append]; have := HSm9.out.lenY; simp; omega))).mono ?_
    rintro e wJ ⟨rfl, hbJ⟩
    have HBJ := Lib.hid (HBI.out.next' hbJ)
    have HKJ := Lib.hid (HKS.out.below hbJ HKS.out.lt)
    have HRJ := Lib.hid (HRI.out.below hbJ)
    have HCI := Lib.hid (⟨HKJ.out.cell 0, HKJ.out.cell 1, HKJ.out.cell 2, HKJ.out.cell 3⟩ : wJ.cell? ⟨B13, 0, none⟩ = some (.int .i64 h2.nodes) ∧ wJ.cell? ⟨B13, 1, none⟩ = some (.slice (some ⟨bg, 0, none⟩) m bxc) ∧ wJ.cell? ⟨B13, 2, none⟩ = some (.slice bya h2.Y.length byc) ∧ wJ.cell? ⟨B13, 3, none⟩ = some (.slice bza h2.arcs.length bzc))
    clear hbJ hfx hlong HKI HKS HRI HOI HBI
    obtain ⟨s0, s1, s2, s3⟩ := HCI.out
    go_wp2_with fail
    clear s0 s1 s2 s3 HCI
    have hshort : RawV wJ (.agg #[.int .i64 h2.nodes, .slice (some ⟨bg, 0, none⟩) m bxc, .slice bya h2.Y.length byc, .slice bza h2.arcs.length bzc]) { h2 with X := h2.X.take m } := by
      obtain ⟨_, _, _, e, k1, k2, k3⟩ := HRJ.out
      cases e
      exact ⟨_, _, _, rfl, k1.cut m (by have := HM.out; omega), k2, k3⟩
    refine (fails_any _ _ wJ _ _ _ _ (HG0.out.later HBJ.out) hshort (first_shape ⟨HSm9.out.nodes.1, by have := HSm9.out.nodes; show h2.nodes ≤ 16777216; omega⟩ (by show ¬ ((h2.X.take m).length : Int) = h2.nodes; rw [List.length_take]; have := HSm9.out.lenX; have := HM.out; omega))).mono ?_
    rintro e wK ⟨rfl, hbK⟩
    have HBK := Lib.hid (HBJ.out.next' hbK)
    clear hbK hshort
    go_wp2_with fail
    go_ret
    exact ⟨rfl, HBK.out⟩
end Go.Proofs.YtnkcmlngoeofgaaDoor
/- GraphFirst: its arguments read. -/
namespace Go.Proofs.YtnkcmlngoeofgaaDoor
open Go.RowKit
theorem graphFirst_rd (cs0 : Array Value) (n : Nat) (cs2 : Array Value) (W : World) (R0 : Rd Tryd.prog W 25 cs0.toList) (ln : n < 256) (R2 : Rd Tryd.prog W 26 cs2.toList) (hg : HG W) : Calls Tryd.prog 3 #[.agg cs0, .int .u8 (n : Nat), .agg cs2] W fun e w' => e = .returned (.bool true) ∧ Below W.heap.size W w' := by
  obtain ⟨r, hr⟩ := Rd.raw R0
  obtain ⟨es⟩ := cs2
  obtain ⟨hl, _⟩ := Rd.array Tryd.underlying26 R2
  obtain ⟨e0, e1, e2, e3, rfl⟩ := four_of (hl.trans (show Tryd.prog.cellsOf 26 = 4 by kernel_rfl))
  clear hl
  have rd : ∀ {c : Value}, Rd Tryd.prog W 5 [c] → ∃ n : Nat, c = .int .u8 (n : Nat) ∧ n < 256 := fun h => by
    obtain ⟨x, e, m⟩ := Rd.int (k := .u8) Tryd.underlying5 h
    have bd : 0 ≤ x ∧ x ≤ 255 := by simpa [Lit.wf, IntKind.min, IntKind.max, IntKind.signed, IntKind.bits] using m
    obtain ⟨k, rfl⟩ := Int.eq_ofNat_of_zero_le bd.1
    exact ⟨k, by cases e; rfl, by omega⟩
  obtain ⟨x0, rfl, l0⟩ := rd (Rd.elem (e := 5) (c := e0) Tryd.underlying26 R2 0 (by omega) (by kernel_rfl) rfl)
  obtain ⟨x1, rfl, l1⟩ := rd (Rd.elem (e := 5) (c := e1) Tryd.underlying26 R2 1 (by omega) (by kernel_rfl) rfl)
  obtain ⟨x2, rfl, l2⟩ := rd (Rd.elem (e := 5) (c := e2) Tryd.underlying26 R2 2 (by omega) (by kernel_rfl) rfl)
  obtain ⟨x3, rfl, l3⟩ := rd (Rd.elem (e := 5) (c := e3) Tryd.underlying26 R2 3 (by omega) (by kernel_rfl) rfl)
  exact graphFirst_any (.agg cs0) r n x0 x1 x2 x3 W hr ln l0 l1 l2 l3 hg
end Go.Proofs.YtnkcmlngoeofgaaDoor
/-
  WHAT EVERY LAW's PROOF OF THIS SEAT SHARES: from 'it returns true, and below the heap's size nothing has turned' to the row's own post; no argument need be shut again.
-/
namespace Go.Proofs.YtnkcmlngoeofgaaDoor
open Go.ChangeShapes Go.WideShapes Go.ChangeAt Go.RowKit

theorem own : ownKnob Tryd.prog.godebug = none := by kernel_rfl
theorem laidOut : laidOutB Tryd.prog = true := by kernel_rfl

theorem okWide_agg {P : Program} {w : World} {r : Reach} {base : Nat} {t : TypeId} {v : Value} (ht : (∃ fs, P.underlying t = some (.struct fs)) ∨ (∃ n e, P.underlying t = some (.array n e))) (h : Value.okWide P w r base t v) : ∃ cs, v = .agg cs ∧ cs.size = P.cellsOf t := by
  rcases ht with ⟨fs, ht⟩ | ⟨n, e, ht⟩
  · exact okWide_struct ht h
  · simp only [Value.okWide, ht] at h
    obtain ⟨cs, h1, h2, _⟩ := h
    exact ⟨cs, h1, h2⟩

theorem trodAll_below {H : Type} {enc : TypeId × Value → H} {W W' : World} (hb : Below W.heap.size W W') :
    ∀ (ts : List TypeId) (vs : List Value) (ds : List (DataW H)) (ps : List MemPlace), (∀ t ∈ ts, Tryd.prog.readableRec t = true ∧ t < Tryd.prog.types.size) →
      (∀ x ∈ ps, x.block < W.heap.size) → DataW.TrodAll enc Tryd.prog W 0 (fun _ => true) true ts vs ds ps → DataW.TrodAll enc Tryd.prog W' 0 (fun b => decide (b < W.heap.size)) true ts vs ds ps := by
  intro ts
  induction ts with
  | nil => intro vs ds ps _ _ h; cases vs <;> cases ds <;> exact h
  | cons t ts ih =>
    intro vs ds ps hr hlt h
    obtain ⟨v, vs', d, ds', p, q, rfl, rfl, rfl, h1, h2⟩ := trodAll_cons h
    exact trodAll_cons_mk (Below.trod laidOut (hr t (by simp)).1 (hr t (by simp)).2 h1 hb (fun x hx => hlt x (by simp [hx])))
      (ih vs' ds' q (fun u hu => hr u (by simp [hu])) (fun x hx => hlt x (by simp [hx])) h2)

/-- THE POST OF A LAW's ROW -/
theorem law_post {H : Type} {enc : TypeId × Value → H} {f : Func} {s : ChangeSpec} {W W' : World} {args : Array Value} {ds gs : List (DataW H)} {before : List MemPlace} (tb : TypeId)
    (hbool : Tryd.prog.underlying tb = some .bool) (hres : f.resultTypes = #[tb]) (hr0 : (f.params.toList.all fun t => Tryd.prog.readableRec t && decide (t < Tryd.prog.types.size)) = true)
    (hv : s.vars = []) (hfn : (s.fn H (ds ++ gs)).results = [.lit (.bool true)]) (hfa : (s.fn H (ds ++ gs)).args = ds) (hfv : (s.fn H (ds ++ gs)).vars = [])
    (hW : DataW.Whole enc Tryd.prog f.params.toList s.vars false W args.toList ds gs before) (hb : Below W.heap.size W W') :
    s.post enc Tryd.prog f false true false false W args (.bool true) W' := by
  have hr : ∀ t ∈ f.params.toList, Tryd.prog.readableRec t = true ∧ t < Tryd.prog.types.size := fun t ht => by
    have := List.all_eq_true.1 hr0 t ht; simpa using this
  have hlt := hW.lt
  have hW' := hW
  obtain ⟨p, q, hA, hV, rfl, hz, hn⟩ := hW'
  rw [hv] at hV
  obtain ⟨rfl, rfl⟩ := trodVars_none hV
  refine ⟨ds, [], p ++ [], [], p, [], hW, ?_, ?_, ?_, hb.frame _, fun h => by cases h⟩
  · rw [hres, hfn]; exact trodAll_cons_mk (shut_bool hbool _) trodAll_mk0
  · rw [hfa]; exact trodAll_below hb _ _ _ _ hr (fun x hx => hlt x (by simpa using hx)) hA
  · rw [hfv, hv]; rfl
end Go.Proofs.YtnkcmlngoeofgaaDoor
/- WHAT EVERY LAW's PROOF OF A TIED SEAT SHARES: the condition that the row lays, as the walks take it; a world that meets it. -/
namespace Go.Proofs.YtnkcmlngoeofgaaDoor
open Go.ChangeShapes Go.WideShapes Go.ChangeAt Go.RowKit
theorem laid_et : Tryd.prog.globalNamed "errors.errorType" = some 0 := by kernel_rfl
theorem laid_rt : (Tryd.prog.cutTypes.find? (·.1 == "internal/reflectlite.rtype")).map (·.2) = some 135 := by kernel_rfl
theorem laid_row : ((List.range Tryd.prog.types.size).filter fun t => Tryd.prog.rowNamed t [101, 114, 114, 111, 114]) = [31] := by kernel_rfl
theorem HG.of_laid {W : World} (h : laidMetH Tryd.prog [("errors.errorType", Rows.laid_errors_errorType)] W) : HG W := by
  have h' : laidMet Tryd.prog [] W ∧ handlesMet Tryd.prog [("errors.errorType", Rows.laid_errors_errorType)] W := h
  obtain ⟨name, u, ty, e1, e2, e3, e4, e5⟩ := h'.2 _ (List.mem_singleton.2 rfl)
  have en : name = [101, 114, 114, 111, 114] := (Option.some.inj e1).symm
  subst en
  obtain rfl := Option.some.inj (laid_rt.symm.trans e2)
  have hm : ty ∈ (List.range Tryd.prog.types.size).filter fun t => Tryd.prog.rowNamed t [101, 114, 114, 111, 114] := List.mem_filter.2 ⟨List.mem_range.2 e3, e4⟩
  rw [laid_row] at hm
  obtain rfl := List.mem_singleton.1 hm
  have hh : typeHandle Tryd.prog 31 = .pointer (some ⟨1, 31, none⟩) := by kernel_rfl
  rw [hh] at e5
  simpa [HG] using World.var?_cell laid_et e5 0
/-- a world that meets the condition -/
noncomputable def laidWorld (os : Os) : World :=
  let w0 := World.holding Tryd.prog os ⟨#[], #[], []⟩
  { w0 with heap := w0.heap.modify 0 fun
      | .cells _ t frozen => .cells #[.iface 135 (.agg #[.pointer (some ⟨1, 31, none⟩)])] t frozen
      | o => o }
theorem laidWorld_met (os : Os) (args : Array Value) : laidMetH Tryd.prog [("errors.errorType", Rows.laid_errors_errorType)] ((laidWorld os).forCall (fun _ _ => 0) ⟨#[], args, []⟩).memory :=
  laidMetH_of_parts (laidMet_nil _ _) (by kernel_rfl)
end Go.Proofs.YtnkcmlngoeofgaaDoor
