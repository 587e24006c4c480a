/- Texts of the law GraphTells, merged: GrRightO. -/
import Derived.Test.YtnkcmlngoeofgaaDoorPGraphTells03
import Derived.Deep.RegionLaw
/- the graph laws' right, once more: what it answers is ours. -/
namespace Go.Proofs.YtnkcmlngoeofgaaDoor
open Go.RowKit
set_option maxRecDepth 100000 in
set_option maxHeartbeats 8000000 in
theorem right_anyO (v : Value) (r : Raw) (n : Nat) (w : World) (h : RawV w v r) (hn : n < 256) : Calls Tryd.prog 13 #[v, .int .u8 (n : Nat)] w fun e w' => ∃ v', e = .returned v' ∧ RawO w.heap.size w' v' (rightV r n) ∧ Below w.heap.size w w' := by
  obtain ⟨vx, vy, va, rfl, hx, hy, ha⟩ := h
  obtain ⟨n12, hn12⟩ : ∃ m, m = n % 12 := ⟨_, rfl⟩
  have f1 : (n : Int).tmod 12 = (n12 : Int) := by rw [Int.tmod_eq_emod_of_nonneg (by omega), hn12]; rfl
  have f2 : (n : Int) % 12 = (n12 : Int) := by rw [hn12]; rfl
  have hnl : n12 < 12 := by omega
  have f3 : IntKind.u8.wrap (n12 : Int) = n12 := by simp [IntKind.wrap, IntKind.signed, IntKind.bits]; omega
  obtain ⟨N, hN⟩ : ∃ N, N = 1 + n12 := ⟨_, rfl⟩
  have f4 : IntKind.i64.wrap (1 + (n12 : Int)) = (N : Int) := by rw [wrap_small _ (by omega) (by omega)]; omega
  have f5 : (1 : Int) + (n12 : Int) = (N : Int) := by omega
  have hV : rightV r n = ⟨(N : Nat), (List.range N).map fun i => w32 (r.X[i]?.getD 0), (List.range N).map fun i => w32 (r.Y[i]?.getD 0), (r.arcs.take 40).map (rightA N)⟩ := by
    unfold rightV; rw [← hn12, ← hN]
  have HV := Lib.hid hV
  have hNl : N ≤ 12 := by omega
  have hN1 : 1 ≤ N := by omega
  obtain ⟨ax, cx, rfl, hcx, hmx, _⟩ := id hx
  obtain ⟨ay, cy, rfl, hcy, hmy, _⟩ := id hy
  obtain ⟨aa, ca, rfl, hca, hma, _⟩ := id ha
  unfold maxLen at hmx hmy hma
  obtain ⟨Br, hBr⟩ : ∃ b, b = w.heap.size := ⟨_, rfl⟩
  obtain ⟨Bs, hBs⟩ : ∃ b, b = w.heap.size + 1 := ⟨_, rfl⟩
  obtain ⟨Bo, hBo⟩ : ∃ b, b = w.heap.size + 1 + 1 := ⟨_, rfl⟩
  obtain ⟨w1, hw1⟩ : ∃ w1, w1 = ((w.alloc (.cells #[.int .i64 r.nodes, .slice ax r.X.length cx, .slice ay r.Y.length cy, .slice aa r.arcs.length ca] 25)).alloc (.cells #[.int .i64 0, .slice none 0 0, .slice none 0 0, .slice none 0 0] 25)).alloc (.cells #[.int .i64 (N : Nat), .slice none 0 0, .slice none 0 0, .slice none 0 0] 25) := ⟨_, rfl⟩
  have hb1 : Below w.heap.size w w1 := by rw [hw1]; exact (((Below.refl _ _).alloc (Nat.le_refl _) _).alloc (by simp) _).alloc (by simp; omega) _
  have K1 : Blk w1 Br #[.int .i64 r.nodes, .slice ax r.X.length cx, .slice ay r.Y.length cy, .slice aa r.arcs.length ca] 25 (0, 0) := by rw [hw1, hBr]; exact ((Blk.new _ _ _ _).alloc _).alloc _
  have K2 : Blk w1 Bs #[.int .i64 0, .slice none 0 0, .slice none 0 0, .slice none 0 0] 25 (0, 0) := by
    rw [hw1, hBs]
    have h := Blk.new (w.alloc (.cells #[.int .i64 r.nodes, .slice ax r.X.length cx, .slice ay r.Y.length cy, .slice aa r.arcs.length ca] 25)) #[.int .i64 0, .slice none 0 0, .slice none 0 0, .slice none 0 0] 25 (0, 0)
    rw [World.size_alloc] at h
    exact h.alloc _
  have K3 : Blk w1 Bo #[.int .i64 (N : Nat), .slice none 0 0, .slice none 0 0, .slice none 0 0] 25 (0, 0) := by
    rw [hw1, hBo]
    have h := Blk.new ((w.alloc (.cells #[.int .i64 r.nodes, .slice ax r.X.length cx, .slice ay r.Y.length cy, .slice aa r.arcs.length ca] 25)).alloc (.cells #[.int .i64 0, .slice none 0 0, .slice none 0 0, .slice none 0 0] 25)) #[.int .i64 (N : Nat), .slice none 0 0, .slice none 0 0, .slice none 0 0] 25 (0, 0)
    rw [World.size_alloc, World.size_alloc] at h
    exact h
  have hI0 : OutI w1 Bo (.slice none 0 0) (.slice none 0 0) (.slice none 0 0) ⟨(N : Nat), [], [], []⟩ w1 := ⟨K3, ⟨World.ownsRow_nil _ _ _ _, World.ownsRow_nil _ _ _ _, World.ownsRow_nil _ _ _ _, fun b hb => by cases hb⟩, Kept.refl _ _⟩
  have hle : w.heap.size ≤ Bo := by omega
  have hne1 : ¬ Br = Bo := by omega
  have hne2 : ¬ Bs = Bo := by omega
  have HX := Lib.hid hx; have HY := Lib.hid hy; have HA := Lib.hid ha
  have HB1 := Lib.hid hb1; have HK1 := Lib.hid K1; have HK2 := Lib.hid K2; have HI0 := Lib.hid hI0; have HW1 := Lib.hid hw1
  have HLe := Lib.hid hle; have HN1 := Lib.hid hne1; have HN2 := Lib.hid hne2
  have HBs := Lib.hid hBs; have HBo := Lib.hid hBo; have HBr := Lib.hid hBr; have HNs := Lib.hid hN
  clear hx hy ha hb1 K1 K2 K3 hI0 hw1 hle hne1 hne2 hV hn12 f2 hN f5
  go_enter Tryd.func13, Tryd.ntmps13
  go_wp2_with fail
  rw [← HBo.out, ← HBs.out, ← HBr.out]
  clear hBr hBs hBo f1 f3 f4
  rw [← HW1.out]
  go_loopw [7] (fun i wr => ∃ (k : Nat), k ≤ N ∧ i = .int .i64 k ∧ Hid (∃ vx vy, OutI w1 Bo vx vy (.slice none 0 0) ⟨(N : Nat), (List.range k).map (fun i => w32 (r.X[i]?.getD 0)), (List.range k).map (fun i => w32 (r.Y[i]?.getD 0)), []⟩ wr)) (fun i _ => N - (intOf i).toNat)
  case atStart => exact ⟨0, by omega, rfl, Lib.hid ⟨_, _, HI0.out⟩⟩
  case round =>
    obtain ⟨k, hk, rfl, hrel⟩ := hrel
    obtain ⟨vx, vy, hI⟩ := hrel.out
    have hkp := kpc_of HB1.out hI.kept HLe.out
    have bR := hI.kept.blk HK1.out HN1.out
    have q1 := bR.cell 1; have q2 := bR.cell 2; have q3 := bR.cell 3
    change wr.cell? ⟨Br, 1, none⟩ = some (.slice ax r.X.length cx) at q1
    change wr.cell? ⟨Br, 2, none⟩ = some (.slice ay r.Y.length cy) at q2
    change wr.cell? ⟨Br, 3, none⟩ = some (.slice aa r.arcs.length ca) at q3
    have o1 := hI.blk.cell 1; have o2 := hI.blk.cell 2
    change wr.cell? ⟨Bo, 1, none⟩ = some vx at o1
    change wr.cell? ⟨Bo, 2, none⟩ = some vy at o2
    by_cases hlt : k < N
    · have hltI : (k : Int) < (N : Int) := by omega
      obtain ⟨x', hx'⟩ : ∃ x', x' = w32 (r.X[k]?.getD 0) := ⟨_, rfl⟩
      obtain ⟨y', hy'⟩ : ∃ y', y' = w32 (r.Y[k]?.getD 0) := ⟨_, rfl⟩
      have g1 : IntKind.i64.wrap x' = x' := by rw [hx']; exact w32_lt _
      have g2 : IntKind.i64.wrap y' = y' := by rw [hy']; exact w32_lt _
      have hxc : (∃ b o x0, ax = some ⟨b, o, none⟩ ∧ wr.cell? ⟨b, o + k, none⟩ = some (.int .i64 x0) ∧ (k : Int) < (r.X.length : Int) ∧ IntKind.i32.wrap x0 = x') ∨ (¬ (k : Int) < (r.X.length : Int) ∧ x' = 0) := by
        by_cases h : k < r.X.length
        · obtain ⟨b, o, e1, e2⟩ := (HX.out.keep hkp).at k h
          exact .inl ⟨b, o, _, e1, e2, by omega, by rw [hx', List.getElem?_eq_getElem h]; rfl⟩
        · exact .inr ⟨by omega, by rw [hx', List.getElem?_eq_none (by omega)]; rfl⟩
      have hyc : (∃ b o x0, ay = some ⟨b, o, none⟩ ∧ wr.cell? ⟨b, o + k, none⟩ = some (.int .i64 x0) ∧ (k : Int) < (r.Y.length : Int) ∧ IntKind.i32.wrap x0 = y') ∨ (¬ (k : Int) < (r.Y.length : Int) ∧ y' = 0) := by
        by_cases h : k < r.Y.length
        · obtain ⟨b, o, e1, e2⟩ := (HY.out.keep hkp).at k h
          exact .inl ⟨b, o, _, e1, e2, by omega, by rw [hy', List.getElem?_eq_getElem h]; rfl⟩
        · exact .inr ⟨by omega, by rw [hy', List.getElem?_eq_none (by omega)]; rfl⟩
      have i1 : (0 : Int) ≤ (k : Int) := by omega
      -- the first append
      obtain ⟨wa, hwa⟩ : ∃ wa, wa = wr.alloc (.cells #[.int .i64 x'] 2) := ⟨_, rfl⟩
      have hba : Below wr.heap.size wr wa := by rw [hwa]; exact (Below.refl _ _).alloc (Nat.le_refl _) _
      have hBa : Blk wa wr.heap.size (inC x').toArray 2 (0, 0) := by rw [hwa]; exact Blk.new _ _ _ _
      obtain ⟨v1, W1, hr1, ⟨a1, n1, c1, hv1⟩, hb1, hkg1, hI1⟩ := (hI.below hba).pushX hBa (by show ((List.range k).map _).length ≤ _; rw [List.length_map, List.length_range]; omega)
      subst hv1
      have p1 := hb1.cell 1; have pf1 := hb1.free 1 (Or.inr (Nat.zero_le _))
      change W1.cell? ⟨Bo, 1, none⟩ = some vx at p1
      have p2 := hI1.blk.cell 2
      change (W1.setCell ⟨Bo, 1, none⟩ (.slice a1 n1 c1)).cell? ⟨Bo, 2, none⟩ = some vy at p2
      -- the second append
      obtain ⟨wb, hwb⟩ : ∃ wb, wb = (W1.setCell ⟨Bo, 1, none⟩ (.slice a1 n1 c1)).alloc (.cells #[.int .i64 y'] 2) := ⟨_, rfl⟩
      have hbb : Below (W1.setCell ⟨Bo, 1, none⟩ (.slice a1 n1 c1)).heap.size (W1.setCell ⟨Bo, 1, none⟩ (.slice a1 n1 c1)) wb := by rw [hwb]; exact (Below.refl _ _).alloc (Nat.le_refl _) _
      have hBb : Blk wb W1.heap.size (inC y').toArray 2 (0, 0) := by
        have h := Blk.new (W1.setCell ⟨Bo, 1, none⟩ (.slice a1 n1 c1)) #[.int .i64 y'] 2 (0, 0)
        rw [hwb]; simpa [inC] using h
      obtain ⟨v2, W2, hr2, ⟨a2, n2, c2, hv2⟩, hb2, hkg2, hI2⟩ := (hI1.below hbb).pushY hBb (by show ((List.range k).map _).length ≤ _; rw [List.length_map, List.length_range]; omega)
      subst hv2
      have p3 := hb2.cell 2; have pf3 := hb2.free 2 (Or.inr (Nat.zero_le _))
      change W2.cell? ⟨Bo, 2, none⟩ = some vy at p3
      have HR1 := Lib.hid hr1; have HR2 := Lib.hid hr2; have HI2 := Lib.hid hI2; have HWa := Lib.hid hwa; have HWb := Lib.hid hwb
      have HXk : Hid ((List.range (k + 1)).map (fun i => w32 (r.X[i]?.getD 0)) = (List.range k).map (fun i => w32 (r.X[i]?.getD 0)) ++ [x']) := Lib.hid (by rw [hx']; exact range_push k)
      have HYk : Hid ((List.range (k + 1)).map (fun i => w32 (r.Y[i]?.getD 0)) = (List.range k).map (fun i => w32 (r.Y[i]?.getD 0)) ++ [y']) := Lib.hid (by rw [hy']; exact range_push k)
      rw [hwa] at HR1; rw [hwb] at HR2
      have hbs : w1.heap.size ≤ wr.heap.size := hI.kept.size
      clear hI hkp bR hx' hy' hwa hba hBa hr1 hb1 hkg1 hI1 hwb hbb hBb hr2 hb2 hkg2 hI2 hrel HWa HWb
      rcases hxc with ⟨bx, ox, x0, rfl, t1, t2, t3⟩ | ⟨t2, rfl⟩ <;> rcases hyc with ⟨by_, oy, y0, rfl, s1, s2, s3⟩ | ⟨s2, rfl⟩
      all_goals
        go_wp2_with (at_builtin; first | (refine wpList_append_run rfl _ _ _ _ rfl HR1.out ?_; clear HR1) | (refine wpList_append_run rfl _ _ _ _ rfl HR2.out ?_))
        go_roundw
        case rel =>
          refine ⟨k + 1, by omega, by go_num, Lib.hid ?_⟩
          rw [HXk.out, HYk.out]
          exact ⟨_, _, HI2.out⟩
        case measure => simp [intOf]; omega
    · obtain rfl : N = k := by omega
      clear hkp bR
      have HI1 := Lib.hid hI
      clear hI hrel
      go_wp2_with fail
      go_loopw [10] (fun i wq => ∃ (k : Nat), k ≤ r.arcs.length ∧ k ≤ 40 ∧ i = .int .i64 k ∧ Hid (∃ va, OutI w1 Bo vx vy va ⟨(N : Nat), (List.range N).map (fun i => w32 (r.X[i]?.getD 0)), (List.range N).map (fun i => w32 (r.Y[i]?.getD 0)), (r.arcs.take k).map (rightA N)⟩ wq)) (fun i _ => r.arcs.length - (intOf i).toNat)
      case atStart => exact ⟨0, by omega, by omega, rfl, Lib.hid ⟨_, HI1.out⟩⟩
      case round =>
        clear q1 q2 q3 o1 o2 HI1
        obtain ⟨k, hk, hk40, rfl, hrel⟩ := hrel
        obtain ⟨va, hI⟩ := hrel.out
        have hkp := kpc_of HB1.out hI.kept HLe.out
        have bR := hI.kept.blk HK1.out HN1.out
        have q3 := bR.cell 3
        change wr.cell? ⟨Br, 3, none⟩ = some (.slice aa r.arcs.length ca) at q3
        by_cases hlt2 : k < r.arcs.length
        · have hltI : (k : Int) < (r.arcs.length : Int) := by omega
          by_cases h40 : k < 40
          · have h40I : (k : Int) < 40 := by omega
            obtain ⟨ba, oa, rfl, d0, d1, d2⟩ := (HA.out.keep hkp).at k hlt2
            have htk : (r.arcs.take (k + 1)).map (rightA N) = (r.arcs.take k).map (rightA N) ++ [rightA N r.arcs[k]] := by rw [List.take_succ_eq_append_getElem hlt2, List.map_append]; rfl
            obtain ⟨x, hx⟩ : ∃ x, x = r.arcs[k] := ⟨_, rfl⟩
            rw [← hx] at d0 d1 d2 htk
            obtain ⟨x0, x1, x2⟩ := x
            simp only at d0 d1 d2
            obtain ⟨u0, hu0⟩ : ∃ u, u = x0 % 18446744073709551616 := ⟨_, rfl⟩
            obtain ⟨u1, hu1⟩ : ∃ u, u = x1 % 18446744073709551616 := ⟨_, rfl⟩
            obtain ⟨u2, hu2⟩ : ∃ u, u = x2 % 18446744073709551616 := ⟨_, rfl⟩
            obtain ⟨m0, hm0⟩ : ∃ m, m = u0 % (N : Int) := ⟨_, rfl⟩
            obtain ⟨m1, hm1⟩ : ∃ m, m = u1 % (N : Int) := ⟨_, rfl⟩
            obtain ⟨m2, hm2⟩ : ∃ m, m = u2 % 2147483648 := ⟨_, rfl⟩
            have hr3 : rightA N (x0, x1, x2) = (m0, m1, m2) := by rw [hm0, hm1, hm2, hu0, hu1, hu2]; rfl
            have b0 : 0 ≤ u0 ∧ u0 < 18446744073709551616 := by omega
            have b1 : 0 ≤ u1 ∧ u1 < 18446744073709551616 := by omega
            have b2 : 0 ≤ u2 ∧ u2 < 18446744073709551616 := by omega
            have c0 : 0 ≤ m0 ∧ m0 < 12 := by rw [hm0]; have := Int.emod_nonneg u0 (show (N : Int) ≠ 0 by omega); have := Int.emod_lt_of_pos u0 (show (0 : Int) < N by omega); omega
            have c1 : 0 ≤ m1 ∧ m1 < 12 := by rw [hm1]; have := Int.emod_nonneg u1 (show (N : Int) ≠ 0 by omega); have := Int.emod_lt_of_pos u1 (show (0 : Int) < N by omega); omega
            have c2 : 0 ≤ m2 ∧ m2 < 2147483648 := by omega
            have e0 : IntKind.u64.wrap x0 = u0 := by rw [hu0]; show x0 % 18446744073709551616 = _; rfl
            have e1 : IntKind.u64.wrap x1 = u1 := by rw [hu1]; show x1 % 18446744073709551616 = _; rfl
            have e2 : IntKind.u64.wrap x2 = u2 := by rw [hu2]; show x2 % 18446744073709551616 = _; rfl
            have eN : IntKind.u64.wrap (N : Int) = (N : Int) := by show (N : Int) % 18446744073709551616 = _; omega
            have r0 : u0.tmod (N : Int) = m0 := by rw [hm0, Int.tmod_eq_emod_of_nonneg b0.1]
            have r1 : u1.tmod (N : Int) = m1 := by rw [hm1, Int.tmod_eq_emod_of_nonneg b1.1]
            have r2 : u2.tmod 2147483648 = m2 := by rw [hm2, Int.tmod_eq_emod_of_nonneg b2.1]
            have r0' : u0 % (N : Int) = m0 := hm0.symm
            have r1' : u1 % (N : Int) = m1 := hm1.symm
            have r2' : u2 % 2147483648 = m2 := hm2.symm
            have w0 : IntKind.u64.wrap m0 = m0 := by show m0 % 18446744073709551616 = _; omega
            have w1' : IntKind.u64.wrap m1 = m1 := by show m1 % 18446744073709551616 = _; omega
            have w2' : IntKind.u64.wrap m2 = m2 := by show m2 % 18446744073709551616 = _; omega
            have z0 : IntKind.i64.wrap m0 = m0 := wrap_small _ c0.1 (by omega)
            have z1 : IntKind.i64.wrap m1 = m1 := wrap_small _ c1.1 (by omega)
            have z2 : IntKind.i64.wrap m2 = m2 := wrap_small _ c2.1 (by omega)
            have hN0 : ¬ (N : Int) = 0 := by omega
            have hNn : ¬ N = 0 := by omega
            have hNb : ((N : Int) == 0) = false := by simpa using hN0
            have i1 : (0 : Int) ≤ (k : Int) := by omega
            obtain ⟨wc, hwc⟩ : ∃ wc, wc = wr.alloc (.cells #[.int .i64 x0, .int .i64 x1, .int .i64 x2] 54) := ⟨_, rfl⟩
            have hbc : Below wr.heap.size wr wc := by rw [hwc]; exact (Below.refl _ _).alloc (Nat.le_refl _) _
            have hBc : Blk wc wr.heap.size #[.int .i64 x0, .int .i64 x1, .int .i64 x2] 54 (0, 0) := by rw [hwc]; exact Blk.new _ _ _ _
            have hIc := hI.below hbc
            have hbd : Below wc.heap.size wc (wc.alloc (.cells #[.int .i64 m0, .int .i64 m1, .int .i64 m2] 54)).drew := ((Below.refl _ _).alloc (Nat.le_refl _) _).drew
            have hBd : Blk (wc.alloc (.cells #[.int .i64 m0, .int .i64 m1, .int .i64 m2] 54)).drew wc.heap.size (arC (m0, m1, m2)).toArray 54 (0, 0) := (Blk.new wc #[.int .i64 m0, .int .i64 m1, .int .i64 m2] 54 (0, 0)).drew
            obtain ⟨v3, W3, hr, ⟨a3, n3, k3, hv3⟩, hb3, hkg3, hI3⟩ := (hIc.below hbd).pushA hBd (by show ((r.arcs.take k).map _).length ≤ _; rw [List.length_map, List.length_take]; omega)
            subst hv3
            have p3 := hb3.cell 3; have pf3 := hb3.free 3 (Or.inr (Nat.zero_le _))
            change W3.cell? ⟨Bo, 3, none⟩ = some va at p3
            have o3 := hIc.blk.cell 3
            change wc.cell? ⟨Bo, 3, none⟩ = some va at o3
            have t0 := hBc.cell 0; have t1 := hBc.cell 1; have t2 := hBc.cell 2
            change wc.cell? ⟨wr.heap.size, 0, none⟩ = some (.int .i64 x0) at t0
            change wc.cell? ⟨wr.heap.size, 1, none⟩ = some (.int .i64 x1) at t1
            change wc.cell? ⟨wr.heap.size, 2, none⟩ = some (.int .i64 x2) at t2
            have hBaN : ∀ b, va.ownBlock = some b → b < wr.heap.size := fun b hb => (ownsRow_blk' hI.own.2.2.1 hb).2.choose_spec.lt
            have hBane : some wr.heap.size ≠ va.ownBlock := fun e => by have := hBaN _ e.symm; omega
            have hS1 : (wc.alloc (.cells #[.int .i64 m0, .int .i64 m1, .int .i64 m2] 54)).drew.cell? ⟨Bo, 3, none⟩ = some va ∧ (wc.alloc (.cells #[.int .i64 m0, .int .i64 m1, .int .i64 m2] 54)).drew.cell? ⟨wr.heap.size, 0, none⟩ = some (.int .i64 x0) ∧ (wc.alloc (.cells #[.int .i64 m0, .int .i64 m1, .int .i64 m2] 54)).drew.cell? ⟨wr.heap.size, 1, none⟩ = some (.int .i64 x1) ∧ (wc.alloc (.cells #[.int .i64 m0, .int .i64 m1, .int .i64 m2] 54)).drew.cell? ⟨wr.heap.size, 2, none⟩ = some (.int .i64 x2) := ⟨cell_later hbd o3, cell_later hbd t0, cell_later hbd t1, cell_later hbd t2⟩
            have hlt5 : wr.heap.size < (wc.alloc (.cells #[.int .i64 m0, .int .i64 m1, .int .i64 m2] 54)).drew.heap.size := (hBc.below hbd hBc.lt).lt
            have hS2 : W3.cell? ⟨Bo, 3, none⟩ = some va ∧ W3.cell? ⟨wr.heap.size, 0, none⟩ = some (.int .i64 x0) ∧ W3.cell? ⟨wr.heap.size, 1, none⟩ = some (.int .i64 x1) ∧ W3.cell? ⟨wr.heap.size, 2, none⟩ = some (.int .i64 x2) := ⟨p3, (hkg3.cell_far ⟨wr.heap.size, 0, none⟩ hlt5 hBane).trans hS1.2.1, (hkg3.cell_far ⟨wr.heap.size, 1, none⟩ hlt5 hBane).trans hS1.2.2.1, (hkg3.cell_far ⟨wr.heap.size, 2, none⟩ hlt5 hBane).trans hS1.2.2.2⟩
            have HS1 := Lib.hid hS1; have HS2 := Lib.hid hS2
            clear hS1 hS2 hBaN hBane hlt5
            have HR3 := Lib.hid hr; have HI3 := Lib.hid hI3; have HTk := Lib.hid htk; have HR3A := Lib.hid hr3; have HWc := Lib.hid hwc
            clear hI hkp bR hrel hx htk hr3 hu0 hu1 hu2 hm0 hm1 hm2 hwc hbc hBc hIc hbd hBd hr hb3 hkg3 hI3
            go_wp2_with fail
            rw [← HWc.out]
            generalize wr.heap.size = Ba at *
            refine wp_region_heldD (fun w' => w'.cell? ⟨Bo, 3, none⟩ = some va ∧ w'.cell? ⟨Ba, 0, none⟩ = some (.int .i64 x0) ∧ w'.cell? ⟨Ba, 1, none⟩ = some (.int .i64 x1) ∧ w'.cell? ⟨Ba, 2, none⟩ = some (.int .i64 x2)) 25 rfl ?_
            change heldD _ _ _ _ _ _ _ 26 _ _ wc.drew
            have hS0 : wc.drew.cell? ⟨Bo, 3, none⟩ = some va ∧ wc.drew.cell? ⟨Ba, 0, none⟩ = some (.int .i64 x0) ∧ wc.drew.cell? ⟨Ba, 1, none⟩ = some (.int .i64 x1) ∧ wc.drew.cell? ⟨Ba, 2, none⟩ = some (.int .i64 x2) := ⟨o3, t0, t1, t2⟩
            refine heldD_takeF (i := 0) (v := .pointer (some ⟨Bo, 3, none⟩)) rfl rfl rfl (by kernel_rfl) (by kernel_rfl) (by kernel_rfl) (by kernel_rfl) (fun _ _ _ h => h) (by rfl) (fun w => ⟨by rfl, by go_simp⟩) (fun _ => hS0) ?_
            simp only [List.setIfInBounds_toArray, List.set_cons_zero, List.set_cons_succ]
            refine heldD_take (i := 1) (v := va) rfl rfl rfl (by kernel_rfl) (by kernel_rfl) (by kernel_rfl) (by kernel_rfl) (by kernel_rfl) (by kernel_rfl) (fun _ _ _ h => h) (by rfl) (fun w hS => ⟨by rfl, by obtain ⟨hS1, hS2, hS3, hS4⟩ := hS; go_simp⟩) hS0 ?_
            simp only [List.setIfInBounds_toArray, List.set_cons_zero, List.set_cons_succ]
            refine heldD_takeF (i := 2) (v := .pointer (some ⟨Ba, 0, none⟩)) rfl rfl rfl (by kernel_rfl) (by kernel_rfl) (by kernel_rfl) (by kernel_rfl) (fun _ _ _ h => h) (by rfl) (fun w => ⟨by rfl, by go_simp⟩) (fun _ => hS0) ?_
            simp only [List.setIfInBounds_toArray, List.set_cons_zero, List.set_cons_succ]
            refine heldD_take (i := 3) (v := .int .i64 x0) rfl rfl rfl (by kernel_rfl) (by kernel_rfl) (by kernel_rfl) (by kernel_rfl) (by kernel_rfl) (by kernel_rfl) (fun _ _ _ h => h) (by rfl) (fun w hS => ⟨by rfl, by obtain ⟨hS1, hS2, hS3, hS4⟩ := hS; go_simp⟩) hS0 ?_
            simp only [List.setIfInBounds_toArray, List.set_cons_zero, List.set_cons_succ]
            refine heldD_takeF (i := 4) (v := .int .u64 u0) rfl rfl rfl (by kernel_rfl) (by kernel_rfl) (by kernel_rfl) (by kernel_rfl) (fun _ _ _ h => h) (by rfl) (fun w => ⟨by rfl, by go_simp⟩) (fun _ => hS0) ?_
            simp only [List.setIfInBounds_toArray, List.set_cons_zero, List.set_cons_succ]
            refine heldD_takeF (i := 5) (v := .int .i64 (N : Nat)) rfl rfl rfl (by kernel_rfl) (by kernel_rfl) (by kernel_rfl) (by kernel_rfl) (fun _ _ _ h => h) (by rfl) (fun w => ⟨by rfl, by go_simp⟩) (fun _ => hS0) ?_
            simp only [List.setIfInBounds_toArray, List.set_cons_zero, List.set_cons_succ]
            refine heldD_takeF (i := 6) (v := .int .u64 (N : Nat)) rfl rfl rfl (by kernel_rfl) (by kernel_rfl) (by kernel_rfl) (by kernel_rfl) (fun _ _ _ h => h) (by rfl) (fun w => ⟨by rfl, by go_simp⟩) (fun _ => hS0) ?_
            simp only [List.setIfInBounds_toArray, List.set_cons_zero, List.set_cons_succ]
            refine heldD_takeF (i := 7) (v := .int .u64 m0) rfl rfl rfl (by kernel_rfl) (by kernel_rfl) (by kernel_rfl) (by kernel_rfl) (fun _ _ _ h => h) (by rfl) (fun w => ⟨by rfl, by go_simp⟩) (fun _ => hS0) ?_
            simp only [List.setIfInBounds_toArray, List.set_cons_zero, List.set_cons_succ]
            refine heldD_takeF (i := 8) (v := .int .i64 m0) rfl rfl rfl (by kernel_rfl) (by kernel_rfl) (by kernel_rfl) (by kernel_rfl) (fun _ _ _ h => h) (by rfl) (fun w => ⟨by rfl, by go_simp⟩) (fun _ => hS0) ?_
            simp only [List.setIfInBounds_toArray, List.set_cons_zero, List.set_cons_succ]
            refine heldD_takeF (i := 9) (v := .pointer (some ⟨Ba, 1, none⟩)) rfl rfl rfl (by kernel_rfl) (by kernel_rfl) (by kernel_rfl) (by kernel_rfl) (fun _ _ _ h => h) (by rfl) (fun w => ⟨by rfl, by go_simp⟩) (fun _ => hS0) ?_
            simp only [List.setIfInBounds_toArray, List.set_cons_zero, List.set_cons_succ]
            refine heldD_take (i := 10) (v := .int .i64 x1) rfl rfl rfl (by kernel_rfl) (by kernel_rfl) (by kernel_rfl) (by kernel_rfl) (by kernel_rfl) (by kernel_rfl) (fun _ _ _ h => h) (by rfl) (fun w hS => ⟨by rfl, by obtain ⟨hS1, hS2, hS3, hS4⟩ := hS; go_simp⟩) hS0 ?_
            simp only [List.setIfInBounds_toArray, List.set_cons_zero, List.set_cons_succ]
            refine heldD_takeF (i := 11) (v := .int .u64 u1) rfl rfl rfl (by kernel_rfl) (by kernel_rfl) (by kernel_rfl) (by kernel_rfl) (fun _ _ _ h => h) (by rfl) (fun w => ⟨by rfl, by go_simp⟩) (fun _ => hS0) ?_
            simp only [List.setIfInBounds_toArray, List.set_cons_zero, List.set_cons_succ]
            refine heldD_takeF (i := 12) (v := .int .i64 (N : Nat)) rfl rfl rfl (by kernel_rfl) (by kernel_rfl) (by kernel_rfl) (by kernel_rfl) (fun _ _ _ h => h) (by rfl) (fun w => ⟨by rfl, by go_simp⟩) (fun _ => hS0) ?_
            simp only [List.setIfInBounds_toArray, List.set_cons_zero, List.set_cons_succ]
            refine heldD_takeF (i := 13) (v := .int .u64 (N : Nat)) rfl rfl rfl (by kernel_rfl) (by kernel_rfl) (by kernel_rfl) (by kernel_rfl) (fun _ _ _ h => h) (by rfl) (fun w => ⟨by rfl, by go_simp⟩) (fun _ => hS0) ?_
            simp only [List.setIfInBounds_toArray, List.set_cons_zero, List.set_cons_succ]
            refine heldD_takeF (i := 14) (v := .int .u64 m1) rfl rfl rfl (by kernel_rfl) (by kernel_rfl) (by kernel_rfl) (by kernel_rfl) (fun _ _ _ h => h) (by rfl) (fun w => ⟨by rfl, by go_simp⟩) (fun _ => hS0) ?_
            simp only [List.setIfInBounds_toArray, List.set_cons_zero, List.set_cons_succ]
            refine heldD_takeF (i := 15) (v := .int .i64 m1) rfl rfl rfl (by kernel_rfl) (by kernel_rfl) (by kernel_rfl) (by kernel_rfl) (fun _ _ _ h => h) (by rfl) (fun w => ⟨by rfl, by go_simp⟩) (fun _ => hS0) ?_
            simp only [List.setIfInBounds_toArray, List.set_cons_zero, List.set_cons_succ]
            refine heldD_takeF (i := 16) (v := .pointer (some ⟨Ba, 2, none⟩)) rfl rfl rfl (by kernel_rfl) (by kernel_rfl) (by kernel_rfl) (by kernel_rfl) (fun _ _ _ h => h) (by rfl) (fun w => ⟨by rfl, by go_simp⟩) (fun _ => hS0) ?_
            simp only [List.setIfInBounds_toArray, List.set_cons_zero, List.set_cons_succ]
            refine heldD_take (i := 17) (v := .int .i64 x2) rfl rfl rfl (by kernel_rfl) (by kernel_rfl) (by kernel_rfl) (by kernel_rfl) (by kernel_rfl) (by kernel_rfl) (fun _ _ _ h => h) (by rfl) (fun w hS => ⟨by rfl, by obtain ⟨hS1, hS2, hS3, hS4⟩ := hS; go_simp⟩) hS0 ?_
            simp only [List.setIfInBounds_toArray, List.set_cons_zero, List.set_cons_succ]
            refine heldD_takeF (i := 18) (v := .int .u64 u2) rfl rfl rfl (by kernel_rfl) (by kernel_rfl) (by kernel_rfl) (by kernel_rfl) (fun _ _ _ h => h) (by rfl) (fun w => ⟨by rfl, by go_simp⟩) (fun _ => hS0) ?_
            simp only [List.setIfInBounds_toArray, List.set_cons_zero, List.set_cons_succ]
            refine heldD_takeF (i := 19) (v := .int .u64 m2) rfl rfl rfl (by kernel_rfl) (by kernel_rfl) (by kernel_rfl) (by kernel_rfl) (fun _ _ _ h => h) (by rfl) (fun w => ⟨by rfl, by go_simp⟩) (fun _ => hS0) ?_
            simp only [List.setIfInBounds_toArray, List.set_cons_zero, List.set_cons_succ]
            refine heldD_takeF (i := 20) (v := .int .i64 m2) rfl rfl rfl (by kernel_rfl) (by kernel_rfl) (by kernel_rfl) (by kernel_rfl) (fun _ _ _ h => h) (by rfl) (fun w => ⟨by rfl, by go_simp⟩) (fun _ => hS0) ?_
            simp only [List.setIfInBounds_toArray, List.set_cons_zero, List.set_cons_succ]
            refine heldD_takeF (i := 21) (v := .agg #[.int .i64 m0, .int .i64 m1, .int .i64 m2]) rfl rfl rfl (by kernel_rfl) (by kernel_rfl) (by kernel_rfl) (by kernel_rfl) (fun _ _ _ h => h) (by rfl) (fun w => ⟨by rfl, by go_simp⟩) (fun _ => hS0) ?_
            simp only [List.setIfInBounds_toArray, List.set_cons_zero, List.set_cons_succ]
            refine heldD_one (i := 22) (by kernel_rfl) ?_
            refine wpOpIn_value (v := .slice (some ⟨wc.heap.size, 0, none⟩) 1 1) (w' := (wc.alloc (.cells #[.int .i64 m0, .int .i64 m1, .int .i64 m2] 54)).drew) rfl rfl rfl (by rfl) (by rfl) (by go_simp) ?_
            have HS1 := HS1.out
            refine ⟨fun _ => HS1, ?_⟩
            clear hS0
            have hS0 := HS1
            simp only [List.setIfInBounds_toArray, List.set_cons_zero, List.set_cons_succ]
            refine heldD_one (i := 23) (by kernel_rfl) ?_
            refine wpOpIn_append rfl rfl rfl (by rfl) _ _ _ _ rfl HR3.out ?_
            have HS2 := HS2.out
            refine ⟨fun _ => HS2, ?_⟩
            clear hS0
            have hS0 := HS2
            simp only [List.setIfInBounds_toArray, List.set_cons_zero, List.set_cons_succ]
            refine heldD_takeF (i := 24) (v := .pointer (some ⟨Bo, 3, none⟩)) rfl rfl rfl (by kernel_rfl) (by kernel_rfl) (by kernel_rfl) (by kernel_rfl) (fun _ _ _ h => h) (by rfl) (fun w => ⟨by rfl, by go_simp⟩) (fun _ => hS0) ?_
            simp only [List.setIfInBounds_toArray, List.set_cons_zero, List.set_cons_succ]
            refine heldD_one (i := 25) (by kernel_rfl) ?_
            refine wpOpIn_skip (w' := W3.setCell ⟨Bo, 3, none⟩ (.slice a3 n3 k3)) rfl rfl rfl (by rfl) (by rfl) (by go_simp) ?_
            refine ⟨fun h => (by cases h), ?_⟩
            refine heldD_done (by kernel_rfl) ?_ _
            clear HS1 HS2 hS0 p3 pf3 o3 t0 t1 t2 d0 d1 d2
            go_wp2_with fail
            go_roundw
            case rel =>
              refine ⟨k + 1, by omega, by omega, by go_num, Lib.hid ?_⟩
              rw [HTk.out, HR3A.out]
              exact ⟨_, HI3.out⟩
            case measure => simp [intOf]; omega
          · obtain rfl : k = 40 := by omega
            have HI4 := Lib.hid hI
            clear hkp bR hI hrel
            have fx := HI4.out.own.1.one'; have fy := HI4.out.own.2.1.one'; have fa := HI4.out.own.2.2.1.one'
            obtain ⟨xa, xn, xc, rfl⟩ := fx
            obtain ⟨ya, yn, yc, rfl⟩ := fy
            obtain ⟨za, zn, zc, rfl⟩ := fa
            have bO := HI4.out.blk
            have c0 := bO.cell 0; have c1 := bO.cell 1; have c2 := bO.cell 2; have c3 := bO.cell 3
            change wr.cell? ⟨Bo, 0, none⟩ = some (.int .i64 (N : Nat)) at c0
            change wr.cell? ⟨Bo, 1, none⟩ = some (.slice xa xn xc) at c1
            change wr.cell? ⟨Bo, 2, none⟩ = some (.slice ya yn yc) at c2
            change wr.cell? ⟨Bo, 3, none⟩ = some (.slice za zn zc) at c3
            have bC3 := HI4.out.kept.blk HK2.out HN2.out
            have e0 := bC3.cell 0; have e1 := bC3.cell 1; have e2 := bC3.cell 2; have e3 := bC3.cell 3
            change wr.cell? ⟨Bs, 0, none⟩ = some (.int .i64 0) at e0
            change wr.cell? ⟨Bs, 1, none⟩ = some (.slice none 0 0) at e1
            change wr.cell? ⟨Bs, 2, none⟩ = some (.slice none 0 0) at e2
            change wr.cell? ⟨Bs, 3, none⟩ = some (.slice none 0 0) at e3
            have fr := fun i => bC3.free i (Or.inr (Nat.zero_le _))
            have f0 := fr 0; have f1 := fr 1; have f2 := fr 2; have f3 := fr 3
            have hle : w.heap.size ≤ Bs := by rw [HBs.out]; omega
            have bZ := (((bC3.set 0 (.int .i64 (N : Nat))).set 1 (.slice xa xn xc)).set 2 (.slice ya yn yc)).set 3 (.slice za zn zc)
            have R2 := (((HI4.out.own.set (p := ⟨Bs, 0, none⟩) bC3 (by decide) (by decide) (.int .i64 (N : Nat))).set (p := ⟨Bs, 1, none⟩) (bC3.set 0 (.int .i64 (N : Nat))) (by decide) (by decide) (.slice xa xn xc)).set (p := ⟨Bs, 2, none⟩) ((bC3.set 0 (.int .i64 (N : Nat))).set 1 (.slice xa xn xc)) (by decide) (by decide) (.slice ya yn yc)).set (p := ⟨Bs, 3, none⟩) (((bC3.set 0 (.int .i64 (N : Nat))).set 1 (.slice xa xn xc)).set 2 (.slice ya yn yc)) (by decide) (by decide) (.slice za zn zc)
            have B2 := ((((below_of HB1.out HI4.out.kept HLe.out).setCell (p := ⟨Bs, 0, none⟩) hle (.int .i64 (N : Nat))).setCell (p := ⟨Bs, 1, none⟩) hle (.slice xa xn xc)).setCell (p := ⟨Bs, 2, none⟩) hle (.slice ya yn yc)).setCell (p := ⟨Bs, 3, none⟩) hle (.slice za zn zc)
            have HZ := Lib.hid bZ; have HR2 := Lib.hid R2; have HB2 := Lib.hid B2
            clear bZ R2 B2 bC3 bO fr hle HI4
            go_wp2_with fail
            generalize (((wr.setCell ⟨Bs, 0, none⟩ (.int .i64 (N : Nat))).setCell ⟨Bs, 1, none⟩ (.slice xa xn xc)).setCell ⟨Bs, 2, none⟩ (.slice ya yn yc)).setCell ⟨Bs, 3, none⟩ (.slice za zn zc) = wz at *
            have z0 := HZ.out.cell 0; have z1 := HZ.out.cell 1; have z2 := HZ.out.cell 2; have z3 := HZ.out.cell 3
            change wz.cell? ⟨Bs, 0, none⟩ = some (.int .i64 (N : Nat)) at z0
            change wz.cell? ⟨Bs, 1, none⟩ = some (.slice xa xn xc) at z1
            change wz.cell? ⟨Bs, 2, none⟩ = some (.slice ya yn yc) at z2
            change wz.cell? ⟨Bs, 3, none⟩ = some (.slice za zn zc) at z3
            exact bodyPost_ret (v := .agg #[.int .i64 (N : Nat), .slice xa xn xc, .slice ya yn yc, .slice za zn zc]) (by simp [results, Tryd.results13, go_sem, z0, z1, z2, z3]) rfl ⟨_, rfl, by rw [HV.out]; exact ⟨_, _, _, rfl, ownsRow_le HR2.out.1 HB1.out.size, ownsRow_le HR2.out.2.1 HB1.out.size, ownsRow_le HR2.out.2.2.1 HB1.out.size, HR2.out.2.2.2⟩, HB2.out⟩
        · have hk4 : Hid (r.arcs.take k = r.arcs.take 40) := Lib.hid (by rw [List.take_of_length_le (by omega), List.take_of_length_le (by omega)])
          obtain rfl : k = r.arcs.length := by omega
          rw [hk4.out] at hI
          have HI4 := Lib.hid hI
          clear hkp bR hI hrel
          have fx := HI4.out.own.1.one'; have fy := HI4.out.own.2.1.one'; have fa := HI4.out.own.2.2.1.one'
          obtain ⟨xa, xn, xc, rfl⟩ := fx
          obtain ⟨ya, yn, yc, rfl⟩ := fy
          obtain ⟨za, zn, zc, rfl⟩ := fa
          have bO := HI4.out.blk
          have c0 := bO.cell 0; have c1 := bO.cell 1; have c2 := bO.cell 2; have c3 := bO.cell 3
          change wr.cell? ⟨Bo, 0, none⟩ = some (.int .i64 (N : Nat)) at c0
          change wr.cell? ⟨Bo, 1, none⟩ = some (.slice xa xn xc) at c1
          change wr.cell? ⟨Bo, 2, none⟩ = some (.slice ya yn yc) at c2
          change wr.cell? ⟨Bo, 3, none⟩ = some (.slice za zn zc) at c3
          have bC3 := HI4.out.kept.blk HK2.out HN2.out
          have e0 := bC3.cell 0; have e1 := bC3.cell 1; have e2 := bC3.cell 2; have e3 := bC3.cell 3
          change wr.cell? ⟨Bs, 0, none⟩ = some (.int .i64 0) at e0
          change wr.cell? ⟨Bs, 1, none⟩ = some (.slice none 0 0) at e1
          change wr.cell? ⟨Bs, 2, none⟩ = some (.slice none 0 0) at e2
          change wr.cell? ⟨Bs, 3, none⟩ = some (.slice none 0 0) at e3
          have fr := fun i => bC3.free i (Or.inr (Nat.zero_le _))
          have f0 := fr 0; have f1 := fr 1; have f2 := fr 2; have f3 := fr 3
          have hle : w.heap.size ≤ Bs := by rw [HBs.out]; omega
          have bZ := (((bC3.set 0 (.int .i64 (N : Nat))).set 1 (.slice xa xn xc)).set 2 (.slice ya yn yc)).set 3 (.slice za zn zc)
          have R2 := (((HI4.out.own.set (p := ⟨Bs, 0, none⟩) bC3 (by decide) (by decide) (.int .i64 (N : Nat))).set (p := ⟨Bs, 1, none⟩) (bC3.set 0 (.int .i64 (N : Nat))) (by decide) (by decide) (.slice xa xn xc)).set (p := ⟨Bs, 2, none⟩) ((bC3.set 0 (.int .i64 (N : Nat))).set 1 (.slice xa xn xc)) (by decide) (by decide) (.slice ya yn yc)).set (p := ⟨Bs, 3, none⟩) (((bC3.set 0 (.int .i64 (N : Nat))).set 1 (.slice xa xn xc)).set 2 (.slice ya yn yc)) (by decide) (by decide) (.slice za zn zc)
          have B2 := ((((below_of HB1.out HI4.out.kept HLe.out).setCell (p := ⟨Bs, 0, none⟩) hle (.int .i64 (N : Nat))).setCell (p := ⟨Bs, 1, none⟩) hle (.slice xa xn xc)).setCell (p := ⟨Bs, 2, none⟩) hle (.slice ya yn yc)).setCell (p := ⟨Bs, 3, none⟩) hle (.slice za zn zc)
          have HZ := Lib.hid bZ; have HR2 := Lib.hid R2; have HB2 := Lib.hid B2
          clear bZ R2 B2 bC3 bO fr hle HI4
          go_wp2_with fail
          generalize (((wr.setCell ⟨Bs, 0, none⟩ (.int .i64 (N : Nat))).setCell ⟨Bs, 1, none⟩ (.slice xa xn xc)).setCell ⟨Bs, 2, none⟩ (.slice ya yn yc)).setCell ⟨Bs, 3, none⟩ (.slice za zn zc) = wz at *
          have z0 := HZ.out.cell 0; have z1 := HZ.out.cell 1; have z2 := HZ.out.cell 2; have z3 := HZ.out.cell 3
          change wz.cell? ⟨Bs, 0, none⟩ = some (.int .i64 (N : Nat)) at z0
          change wz.cell? ⟨Bs, 1, none⟩ = some (.slice xa xn xc) at z1
          change wz.cell? ⟨Bs, 2, none⟩ = some (.slice ya yn yc) at z2
          change wz.cell? ⟨Bs, 3, none⟩ = some (.slice za zn zc) at z3
          exact bodyPost_ret (v := .agg #[.int .i64 (N : Nat), .slice xa xn xc, .slice ya yn yc, .slice za zn zc]) (by simp [results, Tryd.results13, go_sem, z0, z1, z2, z3]) rfl ⟨_, rfl, by rw [HV.out]; exact ⟨_, _, _, rfl, ownsRow_le HR2.out.1 HB1.out.size, ownsRow_le HR2.out.2.1 HB1.out.size, ownsRow_le HR2.out.2.2.1 HB1.out.size, HR2.out.2.2.2⟩, HB2.out⟩
end Go.Proofs.YtnkcmlngoeofgaaDoor
