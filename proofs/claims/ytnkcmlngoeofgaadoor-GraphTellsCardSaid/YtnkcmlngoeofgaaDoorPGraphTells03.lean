/- Texts of the law GraphTells, merged: GrRight, GrTurned, GrMove. -/
import Derived.Test.YtnkcmlngoeofgaaDoorPGraphTells02
import Derived.Deep.RegionLaw
import Derived.Test.YtnkcmlngoeofgaaDoorPGraphTells01
import Derived.BigQuiet
import Derived.Deep.QuietTactic
/- the graph laws' few and right. -/
namespace Go.Proofs.YtnkcmlngoeofgaaDoor
open Go.RowKit
/-- a graph's right one, of so many nodes as n says -/
def w32 (x : Int) : Int := IntKind.i32.wrap x
def u64 (x : Int) : Int := x % 18446744073709551616
def rightA (n : Nat) (a : Ar) : Ar := (u64 a.1 % n, u64 a.2.1 % n, u64 a.2.2 % 2147483648)
def rightV (r : Raw) (n : Nat) : Raw :=
  ⟨(1 + n % 12 : Nat), (List.range (1 + n % 12)).map fun i => w32 (r.X[i]?.getD 0), (List.range (1 + n % 12)).map fun i => w32 (r.Y[i]?.getD 0), (r.arcs.take 40).map (rightA (1 + n % 12))⟩
theorem kpc_of {w w1 wr : World} {Bo : Nat} (hb : Below w.heap.size w w1) (hk : Kept (· = Bo) w1 wr) (hB : w.heap.size ≤ Bo) : KpC w wr :=
  ⟨Nat.le_trans hb.size hk.size, fun k cs t fr h => by
    have hlt := (Array.getElem?_eq_some_iff.1 h).1
    have h1 := hb.size
    exact (hk.block k (by omega) (by omega)).trans (hb.block k hlt)⟩
theorem below_of {w w1 wr : World} {Bo : Nat} (hb : Below w.heap.size w w1) (hk : Kept (· = Bo) w1 wr) (hB : w.heap.size ≤ Bo) : Below w.heap.size w wr :=
  ⟨hk.os.trans hb.os, hk.tape.trans hb.tape, hk.output.trans hb.output, Nat.le_trans hb.size hk.size, fun k hlt => by
    have h1 := hb.size
    exact (hk.block k (by omega) (by omega)).trans (hb.block k hlt)⟩
theorem range_push {f : Nat → Int} (k : Nat) : (List.range (k + 1)).map f = (List.range k).map f ++ [f k] := by rw [List.range_succ, List.map_append]; rfl
theorem w32_lt (x : Int) : IntKind.i64.wrap (w32 x) = w32 x := by
  have h : -2147483648 ≤ w32 x ∧ w32 x ≤ 2147483647 := by
    unfold w32
    rw [IntKind.wrap_i32]
    omega
  rw [IntKind.wrap_i64]; omega
set_option maxRecDepth 100000 in
set_option maxHeartbeats 8000000 in
theorem right_any (v : Value) (r : Raw) (n : Nat) (w : World) (h : RawV w v r) (hn : n < 256) : Calls Tryd.prog 13 #[v, .int .u8 (n : Nat)] w fun e w' => ∃ v', e = .returned v' ∧ RawV w' v' (rightV r n) ∧ Below w.heap.size w w' := by
  obtain ⟨vx, vy, va, rfl, hx, hy, ha⟩ := h
  obtain ⟨n12, hn12⟩ : ∃ m, m = n % 12 := ⟨_, rfl⟩
  have f1 : (n : Int).tmod 12 = (n12 : Int) := by rw [Int.tmod_eq_emod_of_nonneg (by omega), hn12]; rfl
  have f2 : (n : Int) % 12 = (n12 : Int) := by rw [hn12]; rfl
  have hnl : n12 < 12 := by omega
  have f3 : IntKind.u8.wrap (n12 : Int) = n12 := by simp [IntKind.wrap, IntKind.signed, IntKind.bits]; omega
  obtain ⟨N, hN⟩ : ∃ N, N = 1 + n12 := ⟨_, rfl⟩
  have f4 : IntKind.i64.wrap (1 + (n12 : Int)) = (N : Int) := by rw [wrap_small _ (by omega) (by omega)]; omega
  have f5 : (1 : Int) + (n12 : Int) = (N : Int) := by omega
  have hV : rightV r n = ⟨(N : Nat), (List.range N).map fun i => w32 (r.X[i]?.getD 0), (List.range N).map fun i => w32 (r.Y[i]?.getD 0), (r.arcs.take 40).map (rightA N)⟩ := by
    unfold rightV; rw [← hn12, ← hN]
  have HV := Lib.hid hV
  have hNl : N ≤ 12 := by omega
  have hN1 : 1 ≤ N := by omega
  obtain ⟨ax, cx, rfl, hcx, hmx, _⟩ := id hx
  obtain ⟨ay, cy, rfl, hcy, hmy, _⟩ := id hy
  obtain ⟨aa, ca, rfl, hca, hma, _⟩ := id ha
  unfold maxLen at hmx hmy hma
  obtain ⟨Br, hBr⟩ : ∃ b, b = w.heap.size := ⟨_, rfl⟩
  obtain ⟨Bs, hBs⟩ : ∃ b, b = w.heap.size + 1 := ⟨_, rfl⟩
  obtain ⟨Bo, hBo⟩ : ∃ b, b = w.heap.size + 1 + 1 := ⟨_, rfl⟩
  obtain ⟨w1, hw1⟩ : ∃ w1, w1 = ((w.alloc (.cells #[.int .i64 r.nodes, .slice ax r.X.length cx, .slice ay r.Y.length cy, .slice aa r.arcs.length ca] 25)).alloc (.cells #[.int .i64 0, .slice none 0 0, .slice none 0 0, .slice none 0 0] 25)).alloc (.cells #[.int .i64 (N : Nat), .slice none 0 0, .slice none 0 0, .slice none 0 0] 25) := ⟨_, rfl⟩
  have hb1 : Below w.heap.size w w1 := by rw [hw1]; exact (((Below.refl _ _).alloc (Nat.le_refl _) _).alloc (by simp) _).alloc (by simp; omega) _
  have K1 : Blk w1 Br #[.int .i64 r.nodes, .slice ax r.X.length cx, .slice ay r.Y.length cy, .slice aa r.arcs.length ca] 25 (0, 0) := by rw [hw1, hBr]; exact ((Blk.new _ _ _ _).alloc _).alloc _
  have K2 : Blk w1 Bs #[.int .i64 0, .slice none 0 0, .slice none 0 0, .slice none 0 0] 25 (0, 0) := by
    rw [hw1, hBs]
    have h := Blk.new (w.alloc (.cells #[.int .i64 r.nodes, .slice ax r.X.length cx, .slice ay r.Y.length cy, .slice aa r.arcs.length ca] 25)) #[.int .i64 0, .slice none 0 0, .slice none 0 0, .slice none 0 0] 25 (0, 0)
    rw [World.size_alloc] at h
    exact h.alloc _
  have K3 : Blk w1 Bo #[.int .i64 (N : Nat), .slice none 0 0, .slice none 0 0, .slice none 0 0] 25 (0, 0) := by
    rw [hw1, hBo]
    have h := Blk.new ((w.alloc (.cells #[.int .i64 r.nodes, .slice ax r.X.length cx, .slice ay r.Y.length cy, .slice aa r.arcs.length ca] 25)).alloc (.cells #[.int .i64 0, .slice none 0 0, .slice none 0 0, .slice none 0 0] 25)) #[.int .i64 (N : Nat), .slice none 0 0, .slice none 0 0, .slice none 0 0] 25 (0, 0)
    rw [World.size_alloc, World.size_alloc] at h
    exact h
  have hI0 : OutI w1 Bo (.slice none 0 0) (.slice none 0 0) (.slice none 0 0) ⟨(N : Nat), [], [], []⟩ w1 := ⟨K3, ⟨World.ownsRow_nil _ _ _ _, World.ownsRow_nil _ _ _ _, World.ownsRow_nil _ _ _ _, fun b hb => by cases hb⟩, Kept.refl _ _⟩
  have hle : w.heap.size ≤ Bo := by omega
  have hne1 : ¬ Br = Bo := by omega
  have hne2 : ¬ Bs = Bo := by omega
  have HX := Lib.hid hx; have HY := Lib.hid hy; have HA := Lib.hid ha
  have HB1 := Lib.hid hb1; have HK1 := Lib.hid K1; have HK2 := Lib.hid K2; have HI0 := Lib.hid hI0; have HW1 := Lib.hid hw1
  have HLe := Lib.hid hle; have HN1 := Lib.hid hne1; have HN2 := Lib.hid hne2
  have HBs := Lib.hid hBs; have HBo := Lib.hid hBo; have HBr := Lib.hid hBr; have HNs := Lib.hid hN
  clear hx hy ha hb1 K1 K2 K3 hI0 hw1 hle hne1 hne2 hV hn12 f2 hN f5
  go_enter Tryd.func13, Tryd.ntmps13
  go_wp2_with fail
  rw [← HBo.out, ← HBs.out, ← HBr.out]
  clear hBr hBs hBo f1 f3 f4
  rw [← HW1.out]
  go_loopw [7] (fun i wr => ∃ (k : Nat), k ≤ N ∧ i = .int .i64 k ∧ Hid (∃ vx vy, OutI w1 Bo vx vy (.slice none 0 0) ⟨(N : Nat), (List.range k).map (fun i => w32 (r.X[i]?.getD 0)), (List.range k).map (fun i => w32 (r.Y[i]?.getD 0)), []⟩ wr)) (fun i _ => N - (intOf i).toNat)
  case atStart => exact ⟨0, by omega, rfl, Lib.hid ⟨_, _, HI0.out⟩⟩
  case round =>
    obtain ⟨k, hk, rfl, hrel⟩ := hrel
    obtain ⟨vx, vy, hI⟩ := hrel.out
    have hkp := kpc_of HB1.out hI.kept HLe.out
    have bR := hI.kept.blk HK1.out HN1.out
    have q1 := bR.cell 1; have q2 := bR.cell 2; have q3 := bR.cell 3
    change wr.cell? ⟨Br, 1, none⟩ = some (.slice ax r.X.length cx) at q1
    change wr.cell? ⟨Br, 2, none⟩ = some (.slice ay r.Y.length cy) at q2
    change wr.cell? ⟨Br, 3, none⟩ = some (.slice aa r.arcs.length ca) at q3
    have o1 := hI.blk.cell 1; have o2 := hI.blk.cell 2
    change wr.cell? ⟨Bo, 1, none⟩ = some vx at o1
    change wr.cell? ⟨Bo, 2, none⟩ = some vy at o2
    by_cases hlt : k < N
    · have hltI : (k : Int) < (N : Int) := by omega
      obtain ⟨x', hx'⟩ : ∃ x', x' = w32 (r.X[k]?.getD 0) := ⟨_, rfl⟩
      obtain ⟨y', hy'⟩ : ∃ y', y' = w32 (r.Y[k]?.getD 0) := ⟨_, rfl⟩
      have g1 : IntKind.i64.wrap x' = x' := by rw [hx']; exact w32_lt _
      have g2 : IntKind.i64.wrap y' = y' := by rw [hy']; exact w32_lt _
      have hxc : (∃ b o x0, ax = some ⟨b, o, none⟩ ∧ wr.cell? ⟨b, o + k, none⟩ = some (.int .i64 x0) ∧ (k : Int) < (r.X.length : Int) ∧ IntKind.i32.wrap x0 = x') ∨ (¬ (k : Int) < (r.X.length : Int) ∧ x' = 0) := by
        by_cases h : k < r.X.length
        · obtain ⟨b, o, e1, e2⟩ := (HX.out.keep hkp).at k h
          exact .inl ⟨b, o, _, e1, e2, by omega, by rw [hx', List.getElem?_eq_getElem h]; rfl⟩
        · exact .inr ⟨by omega, by rw [hx', List.getElem?_eq_none (by omega)]; rfl⟩
      have hyc : (∃ b o x0, ay = some ⟨b, o, none⟩ ∧ wr.cell? ⟨b, o + k, none⟩ = some (.int .i64 x0) ∧ (k : Int) < (r.Y.length : Int) ∧ IntKind.i32.wrap x0 = y') ∨ (¬ (k : Int) < (r.Y.length : Int) ∧ y' = 0) := by
        by_cases h : k < r.Y.length
        · obtain ⟨b, o, e1, e2⟩ := (HY.out.keep hkp).at k h
          exact .inl ⟨b, o, _, e1, e2, by omega, by rw [hy', List.getElem?_eq_getElem h]; rfl⟩
        · exact .inr ⟨by omega, by rw [hy', List.getElem?_eq_none (by omega)]; rfl⟩
      have i1 : (0 : Int) ≤ (k : Int) := by omega
      -- the first append
      obtain ⟨wa, hwa⟩ : ∃ wa, wa = wr.alloc (.cells #[.int .i64 x'] 2) := ⟨_, rfl⟩
      have hba : Below wr.heap.size wr wa := by rw [hwa]; exact (Below.refl _ _).alloc (Nat.le_refl _) _
      have hBa : Blk wa wr.heap.size (inC x').toArray 2 (0, 0) := by rw [hwa]; exact Blk.new _ _ _ _
      obtain ⟨v1, W1, hr1, ⟨a1, n1, c1, hv1⟩, hb1, hkg1, hI1⟩ := (hI.below hba).pushX hBa (by show ((List.range k).map _).length ≤ _; rw [List.length_map, List.length_range]; omega)
      subst hv1
      have p1 := hb1.cell 1; have pf1 := hb1.free 1 (Or.inr (Nat.zero_le _))
      change W1.cell? ⟨Bo, 1, none⟩ = some vx at p1
      have p2 := hI1.blk.cell 2
      change (W1.setCell ⟨Bo, 1, none⟩ (.slice a1 n1 c1)).cell? ⟨Bo, 2, none⟩ = some vy at p2
      -- the second append
      obtain ⟨wb, hwb⟩ : ∃ wb, wb = (W1.setCell ⟨Bo, 1, none⟩ (.slice a1 n1 c1)).alloc (.cells #[.int .i64 y'] 2) := ⟨_, rfl⟩
      have hbb : Below (W1.setCell ⟨Bo, 1, none⟩ (.slice a1 n1 c1)).heap.size (W1.setCell ⟨Bo, 1, none⟩ (.slice a1 n1 c1)) wb := by rw [hwb]; exact (Below.refl _ _).alloc (Nat.le_refl _) _
      have hBb : Blk wb W1.heap.size (inC y').toArray 2 (0, 0) := by
        have h := Blk.new (W1.setCell ⟨Bo, 1, none⟩ (.slice a1 n1 c1)) #[.int .i64 y'] 2 (0, 0)
        rw [hwb]; simpa [inC] using h
      obtain ⟨v2, W2, hr2, ⟨a2, n2, c2, hv2⟩, hb2, hkg2, hI2⟩ := (hI1.below hbb).pushY hBb (by show ((List.range k).map _).length ≤ _; rw [List.length_map, List.length_range]; omega)
      subst hv2
      have p3 := hb2.cell 2; have pf3 := hb2.free 2 (Or.inr (Nat.zero_le _))
      change W2.cell? ⟨Bo, 2, none⟩ = some vy at p3
      have HR1 := Lib.hid hr1; have HR2 := Lib.hid hr2; have HI2 := Lib.hid hI2; have HWa := Lib.hid hwa; have HWb := Lib.hid hwb
      have HXk : Hid ((List.range (k + 1)).map (fun i => w32 (r.X[i]?.getD 0)) = (List.range k).map (fun i => w32 (r.X[i]?.getD 0)) ++ [x']) := Lib.hid (by rw [hx']; exact range_push k)
      have HYk : Hid ((List.range (k + 1)).map (fun i => w32 (r.Y[i]?.getD 0)) = (List.range k).map (fun i => w32 (r.Y[i]?.getD 0)) ++ [y']) := Lib.hid (by rw [hy']; exact range_push k)
      rw [hwa] at HR1; rw [hwb] at HR2
      have hbs : w1.heap.size ≤ wr.heap.size := hI.kept.size
      clear hI hkp bR hx' hy' hwa hba hBa hr1 hb1 hkg1 hI1 hwb hbb hBb hr2 hb2 hkg2 hI2 hrel HWa HWb
      rcases hxc with ⟨bx, ox, x0, rfl, t1, t2, t3⟩ | ⟨t2, rfl⟩ <;> rcases hyc with ⟨by_, oy, y0, rfl, s1, s2, s3⟩ | ⟨s2, rfl⟩
      all_goals
        go_wp2_with (at_builtin; first | (refine wpList_append_run rfl _ _ _ _ rfl HR1.out ?_; clear HR1) | (refine wpList_append_run rfl _ _ _ _ rfl HR2.out ?_))
        go_roundw
        case rel =>
          refine ⟨k + 1, by omega, by go_num, Lib.hid ?_⟩
          rw [HXk.out, HYk.out]
          exact ⟨_, _, HI2.out⟩
        case measure => simp [intOf]; omega
    · obtain rfl : N = k := by omega
      clear hkp bR
      have HI1 := Lib.hid hI
      clear hI hrel
      go_wp2_with fail
      go_loopw [10] (fun i wq => ∃ (k : Nat), k ≤ r.arcs.length ∧ k ≤ 40 ∧ i = .int .i64 k ∧ Hid (∃ va, OutI w1 Bo vx vy va ⟨(N : Nat), (List.range N).map (fun i => w32 (r.X[i]?.getD 0)), (List.range N).map (fun i => w32 (r.Y[i]?.getD 0)), (r.arcs.take k).map (rightA N)⟩ wq)) (fun i _ => r.arcs.length - (intOf i).toNat)
      case atStart => exact ⟨0, by omega, by omega, rfl, Lib.hid ⟨_, HI1.out⟩⟩
      case round =>
        clear q1 q2 q3 o1 o2 HI1
        obtain ⟨k, hk, hk40, rfl, hrel⟩ := hrel
        obtain ⟨va, hI⟩ := hrel.out
        have hkp := kpc_of HB1.out hI.kept HLe.out
        have bR := hI.kept.blk HK1.out HN1.out
        have q3 := bR.cell 3
        change wr.cell? ⟨Br, 3, none⟩ = some (.slice aa r.arcs.length ca) at q3
        by_cases hlt2 : k < r.arcs.length
        · have hltI : (k : Int) < (r.arcs.length : Int) := by omega
          by_cases h40 : k < 40
          · have h40I : (k : Int) < 40 := by omega
            obtain ⟨ba, oa, rfl, d0, d1, d2⟩ := (HA.out.keep hkp).at k hlt2
            have htk : (r.arcs.take (k + 1)).map (rightA N) = (r.arcs.take k).map (rightA N) ++ [rightA N r.arcs[k]] := by rw [List.take_succ_eq_append_getElem hlt2, List.map_append]; rfl
            obtain ⟨x, hx⟩ : ∃ x, x = r.arcs[k] := ⟨_, rfl⟩
            rw [← hx] at d0 d1 d2 htk
            obtain ⟨x0, x1, x2⟩ := x
            simp only at d0 d1 d2
            obtain ⟨u0, hu0⟩ : ∃ u, u = x0 % 18446744073709551616 := ⟨_, rfl⟩
            obtain ⟨u1, hu1⟩ : ∃ u, u = x1 % 18446744073709551616 := ⟨_, rfl⟩
            obtain ⟨u2, hu2⟩ : ∃ u, u = x2 % 18446744073709551616 := ⟨_, rfl⟩
            obtain ⟨m0, hm0⟩ : ∃ m, m = u0 % (N : Int) := ⟨_, rfl⟩
            obtain ⟨m1, hm1⟩ : ∃ m, m = u1 % (N : Int) := ⟨_, rfl⟩
            obtain ⟨m2, hm2⟩ : ∃ m, m = u2 % 2147483648 := ⟨_, rfl⟩
            have hr3 : rightA N (x0, x1, x2) = (m0, m1, m2) := by rw [hm0, hm1, hm2, hu0, hu1, hu2]; rfl
            have b0 : 0 ≤ u0 ∧ u0 < 18446744073709551616 := by omega
            have b1 : 0 ≤ u1 ∧ u1 < 18446744073709551616 := by omega
            have b2 : 0 ≤ u2 ∧ u2 < 18446744073709551616 := by omega
            have c0 : 0 ≤ m0 ∧ m0 < 12 := by rw [hm0]; have := Int.emod_nonneg u0 (show (N : Int) ≠ 0 by omega); have := Int.emod_lt_of_pos u0 (show (0 : Int) < N by omega); omega
            have c1 : 0 ≤ m1 ∧ m1 < 12 := by rw [hm1]; have := Int.emod_nonneg u1 (show (N : Int) ≠ 0 by omega); have := Int.emod_lt_of_pos u1 (show (0 : Int) < N by omega); omega
            have c2 : 0 ≤ m2 ∧ m2 < 2147483648 := by omega
            have e0 : IntKind.u64.wrap x0 = u0 := by rw [hu0]; show x0 % 18446744073709551616 = _; rfl
            have e1 : IntKind.u64.wrap x1 = u1 := by rw [hu1]; show x1 % 18446744073709551616 = _; rfl
            have e2 : IntKind.u64.wrap x2 = u2 := by rw [hu2]; show x2 % 18446744073709551616 = _; rfl
            have eN : IntKind.u64.wrap (N : Int) = (N : Int) := by show (N : Int) % 18446744073709551616 = _; omega
            have r0 : u0.tmod (N : Int) = m0 := by rw [hm0, Int.tmod_eq_emod_of_nonneg b0.1]
            have r1 : u1.tmod (N : Int) = m1 := by rw [hm1, Int.tmod_eq_emod_of_nonneg b1.1]
            have r2 : u2.tmod 2147483648 = m2 := by rw [hm2, Int.tmod_eq_emod_of_nonneg b2.1]
            have r0' : u0 % (N : Int) = m0 := hm0.symm
            have r1' : u1 % (N : Int) = m1 := hm1.symm
            have r2' : u2 % 2147483648 = m2 := hm2.symm
            have w0 : IntKind.u64.wrap m0 = m0 := by show m0 % 18446744073709551616 = _; omega
            have w1' : IntKind.u64.wrap m1 = m1 := by show m1 % 18446744073709551616 = _; omega
            have w2' : IntKind.u64.wrap m2 = m2 := by show m2 % 18446744073709551616 = _; omega
            have z0 : IntKind.i64.wrap m0 = m0 := wrap_small _ c0.1 (by omega)
            have z1 : IntKind.i64.wrap m1 = m1 := wrap_small _ c1.1 (by omega)
            have z2 : IntKind.i64.wrap m2 = m2 := wrap_small _ c2.1 (by omega)
            have hN0 : ¬ (N : Int) = 0 := by omega
            have hNn : ¬ N = 0 := by omega
            have hNb : ((N : Int) == 0) = false := by simpa using hN0
            have i1 : (0 : Int) ≤ (k : Int) := by omega
            obtain ⟨wc, hwc⟩ : ∃ wc, wc = wr.alloc (.cells #[.int .i64 x0, .int .i64 x1, .int .i64 x2] 54) := ⟨_, rfl⟩
            have hbc : Below wr.heap.size wr wc := by rw [hwc]; exact (Below.refl _ _).alloc (Nat.le_refl _) _
            have hBc : Blk wc wr.heap.size #[.int .i64 x0, .int .i64 x1, .int .i64 x2] 54 (0, 0) := by rw [hwc]; exact Blk.new _ _ _ _
            have hIc := hI.below hbc
            have hbd : Below wc.heap.size wc (wc.alloc (.cells #[.int .i64 m0, .int .i64 m1, .int .i64 m2] 54)).drew := ((Below.refl _ _).alloc (Nat.le_refl _) _).drew
            have hBd : Blk (wc.alloc (.cells #[.int .i64 m0, .int .i64 m1, .int .i64 m2] 54)).drew wc.heap.size (arC (m0, m1, m2)).toArray 54 (0, 0) := (Blk.new wc #[.int .i64 m0, .int .i64 m1, .int .i64 m2] 54 (0, 0)).drew
            obtain ⟨v3, W3, hr, ⟨a3, n3, k3, hv3⟩, hb3, hkg3, hI3⟩ := (hIc.below hbd).pushA hBd (by show ((r.arcs.take k).map _).length ≤ _; rw [List.length_map, List.length_take]; omega)
            subst hv3
            have p3 := hb3.cell 3; have pf3 := hb3.free 3 (Or.inr (Nat.zero_le _))
            change W3.cell? ⟨Bo, 3, none⟩ = some va at p3
            have o3 := hIc.blk.cell 3
            change wc.cell? ⟨Bo, 3, none⟩ = some va at o3
            have t0 := hBc.cell 0; have t1 := hBc.cell 1; have t2 := hBc.cell 2
            change wc.cell? ⟨wr.heap.size, 0, none⟩ = some (.int .i64 x0) at t0
            change wc.cell? ⟨wr.heap.size, 1, none⟩ = some (.int .i64 x1) at t1
            change wc.cell? ⟨wr.heap.size, 2, none⟩ = some (.int .i64 x2) at t2
            have hBaN : ∀ b, va.ownBlock = some b → b < wr.heap.size := fun b hb => (ownsRow_blk' hI.own.2.2.1 hb).2.choose_spec.lt
            have hBane : some wr.heap.size ≠ va.ownBlock := fun e => by have := hBaN _ e.symm; omega
            have hS1 : (wc.alloc (.cells #[.int .i64 m0, .int .i64 m1, .int .i64 m2] 54)).drew.cell? ⟨Bo, 3, none⟩ = some va ∧ (wc.alloc (.cells #[.int .i64 m0, .int .i64 m1, .int .i64 m2] 54)).drew.cell? ⟨wr.heap.size, 0, none⟩ = some (.int .i64 x0) ∧ (wc.alloc (.cells #[.int .i64 m0, .int .i64 m1, .int .i64 m2] 54)).drew.cell? ⟨wr.heap.size, 1, none⟩ = some (.int .i64 x1) ∧ (wc.alloc (.cells #[.int .i64 m0, .int .i64 m1, .int .i64 m2] 54)).drew.cell? ⟨wr.heap.size, 2, none⟩ = some (.int .i64 x2) := ⟨cell_later hbd o3, cell_later hbd t0, cell_later hbd t1, cell_later hbd t2⟩
            have hlt5 : wr.heap.size < (wc.alloc (.cells #[.int .i64 m0, .int .i64 m1, .int .i64 m2] 54)).drew.heap.size := (hBc.below hbd hBc.lt).lt
            have hS2 : W3.cell? ⟨Bo, 3, none⟩ = some va ∧ W3.cell? ⟨wr.heap.size, 0, none⟩ = some (.int .i64 x0) ∧ W3.cell? ⟨wr.heap.size, 1, none⟩ = some (.int .i64 x1) ∧ W3.cell? ⟨wr.heap.size, 2, none⟩ = some (.int .i64 x2) := ⟨p3, (hkg3.cell_far ⟨wr.heap.size, 0, none⟩ hlt5 hBane).trans hS1.2.1, (hkg3.cell_far ⟨wr.heap.size, 1, none⟩ hlt5 hBane).trans hS1.2.2.1, (hkg3.cell_far ⟨wr.heap.size, 2, none⟩ hlt5 hBane).trans hS1.2.2.2⟩
            have HS1 := Lib.hid hS1; have HS2 := Lib.hid hS2
            clear hS1 hS2 hBaN hBane hlt5
            have HR3 := Lib.hid hr; have HI3 := Lib.hid hI3; have HTk := Lib.hid htk; have HR3A := Lib.hid hr3; have HWc := Lib.hid hwc
            clear hI hkp bR hrel hx htk hr3 hu0 hu1 hu2 hm0 hm1 hm2 hwc hbc hBc hIc hbd hBd hr hb3 hkg3 hI3
            go_wp2_with fail
            rw [← HWc.out]
            generalize wr.heap.size = Ba at *
            refine wp_region_heldD (fun w' => w'.cell? ⟨Bo, 3, none⟩ = some va ∧ w'.cell? ⟨Ba, 0, none⟩ = some (.int .i64 x0) ∧ w'.cell? ⟨Ba, 1, none⟩ = some (.int .i64 x1) ∧ w'.cell? ⟨Ba, 2, none⟩ = some (.int .i64 x2)) 25 rfl ?_
            change heldD _ _ _ _ _ _ _ 26 _ _ wc.drew
            have hS0 : wc.drew.cell? ⟨Bo, 3, none⟩ = some va ∧ wc.drew.cell? ⟨Ba, 0, none⟩ = some (.int .i64 x0) ∧ wc.drew.cell? ⟨Ba, 1, none⟩ = some (.int .i64 x1) ∧ wc.drew.cell? ⟨Ba, 2, none⟩ = some (.int .i64 x2) := ⟨o3, t0, t1, t2⟩
            refine heldD_takeF (i := 0) (v := .pointer (some ⟨Bo, 3, none⟩)) rfl rfl rfl (by kernel_rfl) (by kernel_rfl) (by kernel_rfl) (by kernel_rfl) (fun _ _ _ h => h) (by rfl) (fun w => ⟨by rfl, by go_simp⟩) (fun _ => hS0) ?_
            simp only [List.setIfInBounds_toArray, List.set_cons_zero, List.set_cons_succ]
            refine heldD_take (i := 1) (v := va) rfl rfl rfl (by kernel_rfl) (by kernel_rfl) (by kernel_rfl) (by kernel_rfl) (by kernel_rfl) (by kernel_rfl) (fun _ _ _ h => h) (by rfl) (fun w hS => ⟨by rfl, by obtain ⟨hS1, hS2, hS3, hS4⟩ := hS; go_simp⟩) hS0 ?_
            simp only [List.setIfInBounds_toArray, List.set_cons_zero, List.set_cons_succ]
            refine heldD_takeF (i := 2) (v := .pointer (some ⟨Ba, 0, none⟩)) rfl rfl rfl (by kernel_rfl) (by kernel_rfl) (by kernel_rfl) (by kernel_rfl) (fun _ _ _ h => h) (by rfl) (fun w => ⟨by rfl, by go_simp⟩) (fun _ => hS0) ?_
            simp only [List.setIfInBounds_toArray, List.set_cons_zero, List.set_cons_succ]
            refine heldD_take (i := 3) (v := .int .i64 x0) rfl rfl rfl (by kernel_rfl) (by kernel_rfl) (by kernel_rfl) (by kernel_rfl) (by kernel_rfl) (by kernel_rfl) (fun _ _ _ h => h) (by rfl) (fun w hS => ⟨by rfl, by obtain ⟨hS1, hS2, hS3, hS4⟩ := hS; go_simp⟩) hS0 ?_
            simp only [List.setIfInBounds_toArray, List.set_cons_zero, List.set_cons_succ]
            refine heldD_takeF (i := 4) (v := .int .u64 u0) rfl rfl rfl (by kernel_rfl) (by kernel_rfl) (by kernel_rfl) (by kernel_rfl) (fun _ _ _ h => h) (by rfl) (fun w => ⟨by rfl, by go_simp⟩) (fun _ => hS0) ?_
            simp only [List.setIfInBounds_toArray, List.set_cons_zero, List.set_cons_succ]
            refine heldD_takeF (i := 5) (v := .int .i64 (N : Nat)) rfl rfl rfl (by kernel_rfl) (by kernel_rfl) (by kernel_rfl) (by kernel_rfl) (fun _ _ _ h => h) (by rfl) (fun w => ⟨by rfl, by go_simp⟩) (fun _ => hS0) ?_
            simp only [List.setIfInBounds_toArray, List.set_cons_zero, List.set_cons_succ]
            refine heldD_takeF (i := 6) (v := .int .u64 (N : Nat)) rfl rfl rfl (by kernel_rfl) (by kernel_rfl) (by kernel_rfl) (by kernel_rfl) (fun _ _ _ h => h) (by rfl) (fun w => ⟨by rfl, by go_simp⟩) (fun _ => hS0) ?_
            simp only [List.setIfInBounds_toArray, List.set_cons_zero, List.set_cons_succ]
            refine heldD_takeF (i := 7) (v := .int .u64 m0) rfl rfl rfl (by kernel_rfl) (by kernel_rfl) (by kernel_rfl) (by kernel_rfl) (fun _ _ _ h => h) (by rfl) (fun w => ⟨by rfl, by go_simp⟩) (fun _ => hS0) ?_
            simp only [List.setIfInBounds_toArray, List.set_cons_zero, List.set_cons_succ]
            refine heldD_takeF (i := 8) (v := .int .i64 m0) rfl rfl rfl (by kernel_rfl) (by kernel_rfl) (by kernel_rfl) (by kernel_rfl) (fun _ _ _ h => h) (by rfl) (fun w => ⟨by rfl, by go_simp⟩) (fun _ => hS0) ?_
            simp only [List.setIfInBounds_toArray, List.set_cons_zero, List.set_cons_succ]
            refine heldD_takeF (i := 9) (v := .pointer (some ⟨Ba, 1, none⟩)) rfl rfl rfl (by kernel_rfl) (by kernel_rfl) (by kernel_rfl) (by kernel_rfl) (fun _ _ _ h => h) (by rfl) (fun w => ⟨by rfl, by go_simp⟩) (fun _ => hS0) ?_
            simp only [List.setIfInBounds_toArray, List.set_cons_zero, List.set_cons_succ]
            refine heldD_take (i := 10) (v := .int .i64 x1) rfl rfl rfl (by kernel_rfl) (by kernel_rfl) (by kernel_rfl) (by kernel_rfl) (by kernel_rfl) (by kernel_rfl) (fun _ _ _ h => h) (by rfl) (fun w hS => ⟨by rfl, by obtain ⟨hS1, hS2, hS3, hS4⟩ := hS; go_simp⟩) hS0 ?_
            simp only [List.setIfInBounds_toArray, List.set_cons_zero, List.set_cons_succ]
            refine heldD_takeF (i := 11) (v := .int .u64 u1) rfl rfl rfl (by kernel_rfl) (by kernel_rfl) (by kernel_rfl) (by kernel_rfl) (fun _ _ _ h => h) (by rfl) (fun w => ⟨by rfl, by go_simp⟩) (fun _ => hS0) ?_
            simp only [List.setIfInBounds_toArray, List.set_cons_zero, List.set_cons_succ]
            refine heldD_takeF (i := 12) (v := .int .i64 (N : Nat)) rfl rfl rfl (by kernel_rfl) (by kernel_rfl) (by kernel_rfl) (by kernel_rfl) (fun _ _ _ h => h) (by rfl) (fun w => ⟨by rfl, by go_simp⟩) (fun _ => hS0) ?_
            simp only [List.setIfInBounds_toArray, List.set_cons_zero, List.set_cons_succ]
            refine heldD_takeF (i := 13) (v := .int .u64 (N : Nat)) rfl rfl rfl (by kernel_rfl) (by kernel_rfl) (by kernel_rfl) (by kernel_rfl) (fun _ _ _ h => h) (by rfl) (fun w => ⟨by rfl, by go_simp⟩) (fun _ => hS0) ?_
            simp only [List.setIfInBounds_toArray, List.set_cons_zero, List.set_cons_succ]
            refine heldD_takeF (i := 14) (v := .int .u64 m1) rfl rfl rfl (by kernel_rfl) (by kernel_rfl) (by kernel_rfl) (by kernel_rfl) (fun _ _ _ h => h) (by rfl) (fun w => ⟨by rfl, by go_simp⟩) (fun _ => hS0) ?_
            simp only [List.setIfInBounds_toArray, List.set_cons_zero, List.set_cons_succ]
            refine heldD_takeF (i := 15) (v := .int .i64 m1) rfl rfl rfl (by kernel_rfl) (by kernel_rfl) (by kernel_rfl) (by kernel_rfl) (fun _ _ _ h => h) (by rfl) (fun w => ⟨by rfl, by go_simp⟩) (fun _ => hS0) ?_
            simp only [List.setIfInBounds_toArray, List.set_cons_zero, List.set_cons_succ]
            refine heldD_takeF (i := 16) (v := .pointer (some ⟨Ba, 2, none⟩)) rfl rfl rfl (by kernel_rfl) (by kernel_rfl) (by kernel_rfl) (by kernel_rfl) (fun _ _ _ h => h) (by rfl) (fun w => ⟨by rfl, by go_simp⟩) (fun _ => hS0) ?_
            simp only [List.setIfInBounds_toArray, List.set_cons_zero, List.set_cons_succ]
            refine heldD_take (i := 17) (v := .int .i64 x2) rfl rfl rfl (by kernel_rfl) (by kernel_rfl) (by kernel_rfl) (by kernel_rfl) (by kernel_rfl) (by kernel_rfl) (fun _ _ _ h => h) (by rfl) (fun w hS => ⟨by rfl, by obtain ⟨hS1, hS2, hS3, hS4⟩ := hS; go_simp⟩) hS0 ?_
            simp only [List.setIfInBounds_toArray, List.set_cons_zero, List.set_cons_succ]
            refine heldD_takeF (i := 18) (v := .int .u64 u2) rfl rfl rfl (by kernel_rfl) (by kernel_rfl) (by kernel_rfl) (by kernel_rfl) (fun _ _ _ h => h) (by rfl) (fun w => ⟨by rfl, by go_simp⟩) (fun _ => hS0) ?_
            simp only [List.setIfInBounds_toArray, List.set_cons_zero, List.set_cons_succ]
            refine heldD_takeF (i := 19) (v := .int .u64 m2) rfl rfl rfl (by kernel_rfl) (by kernel_rfl) (by kernel_rfl) (by kernel_rfl) (fun _ _ _ h => h) (by rfl) (fun w => ⟨by rfl, by go_simp⟩) (fun _ => hS0) ?_
            simp only [List.setIfInBounds_toArray, List.set_cons_zero, List.set_cons_succ]
            refine heldD_takeF (i := 20) (v := .int .i64 m2) rfl rfl rfl (by kernel_rfl) (by kernel_rfl) (by kernel_rfl) (by kernel_rfl) (fun _ _ _ h => h) (by rfl) (fun w => ⟨by rfl, by go_simp⟩) (fun _ => hS0) ?_
            simp only [List.setIfInBounds_toArray, List.set_cons_zero, List.set_cons_succ]
            refine heldD_takeF (i := 21) (v := .agg #[.int .i64 m0, .int .i64 m1, .int .i64 m2]) rfl rfl rfl (by kernel_rfl) (by kernel_rfl) (by kernel_rfl) (by kernel_rfl) (fun _ _ _ h => h) (by rfl) (fun w => ⟨by rfl, by go_simp⟩) (fun _ => hS0) ?_
            simp only [List.setIfInBounds_toArray, List.set_cons_zero, List.set_cons_succ]
            refine heldD_one (i := 22) (by kernel_rfl) ?_
            refine wpOpIn_value (v := .slice (some ⟨wc.heap.size, 0, none⟩) 1 1) (w' := (wc.alloc (.cells #[.int .i64 m0, .int .i64 m1, .int .i64 m2] 54)).drew) rfl rfl rfl (by rfl) (by rfl) (by go_simp) ?_
            have HS1 := HS1.out
            refine ⟨fun _ => HS1, ?_⟩
            clear hS0
            have hS0 := HS1
            simp only [List.setIfInBounds_toArray, List.set_cons_zero, List.set_cons_succ]
            refine heldD_one (i := 23) (by kernel_rfl) ?_
            refine wpOpIn_append rfl rfl rfl (by rfl) _ _ _ _ rfl HR3.out ?_
            have HS2 := HS2.out
            refine ⟨fun _ => HS2, ?_⟩
            clear hS0
            have hS0 := HS2
            simp only [List.setIfInBounds_toArray, List.set_cons_zero, List.set_cons_succ]
            refine heldD_takeF (i := 24) (v := .pointer (some ⟨Bo, 3, none⟩)) rfl rfl rfl (by kernel_rfl) (by kernel_rfl) (by kernel_rfl) (by kernel_rfl) (fun _ _ _ h => h) (by rfl) (fun w => ⟨by rfl, by go_simp⟩) (fun _ => hS0) ?_
            simp only [List.setIfInBounds_toArray, List.set_cons_zero, List.set_cons_succ]
            refine heldD_one (i := 25) (by kernel_rfl) ?_
            refine wpOpIn_skip (w' := W3.setCell ⟨Bo, 3, none⟩ (.slice a3 n3 k3)) rfl rfl rfl (by rfl) (by rfl) (by go_simp) ?_
            refine ⟨fun h => (by cases h), ?_⟩
            refine heldD_done (by kernel_rfl) ?_ _
            clear HS1 HS2 hS0 p3 pf3 o3 t0 t1 t2 d0 d1 d2
            go_wp2_with fail
            go_roundw
            case rel =>
              refine ⟨k + 1, by omega, by omega, by go_num, Lib.hid ?_⟩
              rw [HTk.out, HR3A.out]
              exact ⟨_, HI3.out⟩
            case measure => simp [intOf]; omega
          · obtain rfl : k = 40 := by omega
            have HI4 := Lib.hid hI
            clear hkp bR hI hrel
            have fx := HI4.out.own.1.one'; have fy := HI4.out.own.2.1.one'; have fa := HI4.out.own.2.2.1.one'
            obtain ⟨xa, xn, xc, rfl⟩ := fx
            obtain ⟨ya, yn, yc, rfl⟩ := fy
            obtain ⟨za, zn, zc, rfl⟩ := fa
            have bO := HI4.out.blk
            have c0 := bO.cell 0; have c1 := bO.cell 1; have c2 := bO.cell 2; have c3 := bO.cell 3
            change wr.cell? ⟨Bo, 0, none⟩ = some (.int .i64 (N : Nat)) at c0
            change wr.cell? ⟨Bo, 1, none⟩ = some (.slice xa xn xc) at c1
            change wr.cell? ⟨Bo, 2, none⟩ = some (.slice ya yn yc) at c2
            change wr.cell? ⟨Bo, 3, none⟩ = some (.slice za zn zc) at c3
            have bC3 := HI4.out.kept.blk HK2.out HN2.out
            have e0 := bC3.cell 0; have e1 := bC3.cell 1; have e2 := bC3.cell 2; have e3 := bC3.cell 3
            change wr.cell? ⟨Bs, 0, none⟩ = some (.int .i64 0) at e0
            change wr.cell? ⟨Bs, 1, none⟩ = some (.slice none 0 0) at e1
            change wr.cell? ⟨Bs, 2, none⟩ = some (.slice none 0 0) at e2
            change wr.cell? ⟨Bs, 3, none⟩ = some (.slice none 0 0) at e3
            have fr := fun i => bC3.free i (Or.inr (Nat.zero_le _))
            have f0 := fr 0; have f1 := fr 1; have f2 := fr 2; have f3 := fr 3
            have hle : w.heap.size ≤ Bs := by rw [HBs.out]; omega
            have bZ := (((bC3.set 0 (.int .i64 (N : Nat))).set 1 (.slice xa xn xc)).set 2 (.slice ya yn yc)).set 3 (.slice za zn zc)
            have R2 := (((HI4.out.own.set (p := ⟨Bs, 0, none⟩) bC3 (by decide) (by decide) (.int .i64 (N : Nat))).set (p := ⟨Bs, 1, none⟩) (bC3.set 0 (.int .i64 (N : Nat))) (by decide) (by decide) (.slice xa xn xc)).set (p := ⟨Bs, 2, none⟩) ((bC3.set 0 (.int .i64 (N : Nat))).set 1 (.slice xa xn xc)) (by decide) (by decide) (.slice ya yn yc)).set (p := ⟨Bs, 3, none⟩) (((bC3.set 0 (.int .i64 (N : Nat))).set 1 (.slice xa xn xc)).set 2 (.slice ya yn yc)) (by decide) (by decide) (.slice za zn zc)
            have B2 := ((((below_of HB1.out HI4.out.kept HLe.out).setCell (p := ⟨Bs, 0, none⟩) hle (.int .i64 (N : Nat))).setCell (p := ⟨Bs, 1, none⟩) hle (.slice xa xn xc)).setCell (p := ⟨Bs, 2, none⟩) hle (.slice ya yn yc)).setCell (p := ⟨Bs, 3, none⟩) hle (.slice za zn zc)
            have HZ := Lib.hid bZ; have HR2 := Lib.hid R2; have HB2 := Lib.hid B2
            clear bZ R2 B2 bC3 bO fr hle HI4
            go_wp2_with fail
            generalize (((wr.setCell ⟨Bs, 0, none⟩ (.int .i64 (N : Nat))).setCell ⟨Bs, 1, none⟩ (.slice xa xn xc)).setCell ⟨Bs, 2, none⟩ (.slice ya yn yc)).setCell ⟨Bs, 3, none⟩ (.slice za zn zc) = wz at *
            have z0 := HZ.out.cell 0; have z1 := HZ.out.cell 1; have z2 := HZ.out.cell 2; have z3 := HZ.out.cell 3
            change wz.cell? ⟨Bs, 0, none⟩ = some (.int .i64 (N : Nat)) at z0
            change wz.cell? ⟨Bs, 1, none⟩ = some (.slice xa xn xc) at z1
            change wz.cell? ⟨Bs, 2, none⟩ = some (.slice ya yn yc) at z2
            change wz.cell? ⟨Bs, 3, none⟩ = some (.slice za zn zc) at z3
            exact bodyPost_ret (v := .agg #[.int .i64 (N : Nat), .slice xa xn xc, .slice ya yn yc, .slice za zn zc]) (by simp [results, Tryd.results13, go_sem, z0, z1, z2, z3]) rfl ⟨_, rfl, by rw [HV.out]; exact ⟨_, _, _, rfl, slX_own rfl HR2.out.1, slX_own rfl HR2.out.2.1, slA_own rfl HR2.out.2.2.1⟩, HB2.out⟩
        · have hk4 : Hid (r.arcs.take k = r.arcs.take 40) := Lib.hid (by rw [List.take_of_length_le (by omega), List.take_of_length_le (by omega)])
          obtain rfl : k = r.arcs.length := by omega
          rw [hk4.out] at hI
          have HI4 := Lib.hid hI
          clear hkp bR hI hrel
          have fx := HI4.out.own.1.one'; have fy := HI4.out.own.2.1.one'; have fa := HI4.out.own.2.2.1.one'
          obtain ⟨xa, xn, xc, rfl⟩ := fx
          obtain ⟨ya, yn, yc, rfl⟩ := fy
          obtain ⟨za, zn, zc, rfl⟩ := fa
          have bO := HI4.out.blk
          have c0 := bO.cell 0; have c1 := bO.cell 1; have c2 := bO.cell 2; have c3 := bO.cell 3
          change wr.cell? ⟨Bo, 0, none⟩ = some (.int .i64 (N : Nat)) at c0
          change wr.cell? ⟨Bo, 1, none⟩ = some (.slice xa xn xc) at c1
          change wr.cell? ⟨Bo, 2, none⟩ = some (.slice ya yn yc) at c2
          change wr.cell? ⟨Bo, 3, none⟩ = some (.slice za zn zc) at c3
          have bC3 := HI4.out.kept.blk HK2.out HN2.out
          have e0 := bC3.cell 0; have e1 := bC3.cell 1; have e2 := bC3.cell 2; have e3 := bC3.cell 3
          change wr.cell? ⟨Bs, 0, none⟩ = some (.int .i64 0) at e0
          change wr.cell? ⟨Bs, 1, none⟩ = some (.slice none 0 0) at e1
          change wr.cell? ⟨Bs, 2, none⟩ = some (.slice none 0 0) at e2
          change wr.cell? ⟨Bs, 3, none⟩ = some (.slice none 0 0) at e3
          have fr := fun i => bC3.free i (Or.inr (Nat.zero_le _))
          have f0 := fr 0; have f1 := fr 1; have f2 := fr 2; have f3 := fr 3
          have hle : w.heap.size ≤ Bs := by rw [HBs.out]; omega
          have bZ := (((bC3.set 0 (.int .i64 (N : Nat))).set 1 (.slice xa xn xc)).set 2 (.slice ya yn yc)).set 3 (.slice za zn zc)
          have R2 := (((HI4.out.own.set (p := ⟨Bs, 0, none⟩) bC3 (by decide) (by decide) (.int .i64 (N : Nat))).set (p := ⟨Bs, 1, none⟩) (bC3.set 0 (.int .i64 (N : Nat))) (by decide) (by decide) (.slice xa xn xc)).set (p := ⟨Bs, 2, none⟩) ((bC3.set 0 (.int .i64 (N : Nat))).set 1 (.slice xa xn xc)) (by decide) (by decide) (.slice ya yn yc)).set (p := ⟨Bs, 3, none⟩) (((bC3.set 0 (.int .i64 (N : Nat))).set 1 (.slice xa xn xc)).set 2 (.slice ya yn yc)) (by decide) (by decide) (.slice za zn zc)
          have B2 := ((((below_of HB1.out HI4.out.kept HLe.out).setCell (p := ⟨Bs, 0, none⟩) hle (.int .i64 (N : Nat))).setCell (p := ⟨Bs, 1, none⟩) hle (.slice xa xn xc)).setCell (p := ⟨Bs, 2, none⟩) hle (.slice ya yn yc)).setCell (p := ⟨Bs, 3, none⟩) hle (.slice za zn zc)
          have HZ := Lib.hid bZ; have HR2 := Lib.hid R2; have HB2 := Lib.hid B2
          clear bZ R2 B2 bC3 bO fr hle HI4
          go_wp2_with fail
          generalize (((wr.setCell ⟨Bs, 0, none⟩ (.int .i64 (N : Nat))).setCell ⟨Bs, 1, none⟩ (.slice xa xn xc)).setCell ⟨Bs, 2, none⟩ (.slice ya yn yc)).setCell ⟨Bs, 3, none⟩ (.slice za zn zc) = wz at *
          have z0 := HZ.out.cell 0; have z1 := HZ.out.cell 1; have z2 := HZ.out.cell 2; have z3 := HZ.out.cell 3
          change wz.cell? ⟨Bs, 0, none⟩ = some (.int .i64 (N : Nat)) at z0
          change wz.cell? ⟨Bs, 1, none⟩ = some (.slice xa xn xc) at z1
          change wz.cell? ⟨Bs, 2, none⟩ = some (.slice ya yn yc) at z2
          change wz.cell? ⟨Bs, 3, none⟩ = some (.slice za zn zc) at z3
          exact bodyPost_ret (v := .agg #[.int .i64 (N : Nat), .slice xa xn xc, .slice ya yn yc, .slice za zn zc]) (by simp [results, Tryd.results13, go_sem, z0, z1, z2, z3]) rfl ⟨_, rfl, by rw [HV.out]; exact ⟨_, _, _, rfl, slX_own rfl HR2.out.1, slX_own rfl HR2.out.2.1, slA_own rfl HR2.out.2.2.1⟩, HB2.out⟩
end Go.Proofs.YtnkcmlngoeofgaaDoor
/- graph.Turned. -/
namespace Go.Proofs.YtnkcmlngoeofgaaDoor
open Go.RowKit
theorem ownsRow_setAt {w : World} {base : Nat} {e : TypeId} {size : Nat} {g n cap : Nat} {xs : List Value} (h : w.ownsRow base e size (.slice (some ⟨g, 0, none⟩) n cap) n xs) (j : Nat) (x : Value) :
    (w.setCell ⟨g, j, none⟩ x).ownsRow base e size (.slice (some ⟨g, 0, none⟩) n cap) n (xs.set j x) := by
  obtain ⟨hl, h2⟩ := h
  refine ⟨by rw [List.length_set]; exact hl, ?_⟩
  rcases h2 with ⟨e, _⟩ | ⟨g', cap', cur, ev, h3, h4, h5, h6, h7, h8⟩
  · cases e
  · obtain ⟨rfl, rfl⟩ : g = g' ∧ cap = cap' := by simpa using ev
    refine .inr ⟨g, cap, cur.setIfInBounds j x, rfl, h3, (show Blk w g cur e (0, 0) from h4).set j x, h5, h6, by simpa using h7, ?_⟩
    rw [Array.toList_setIfInBounds, List.take_set, h8]
theorem flat_set {α : Type} (m : Nat) (f : α → List Value) (hf : ∀ x, (f x).length = m) : ∀ (L : List α) (k d : Nat) (y : α) (u : Value), k < L.length → d < m → (∀ x, L[k]? = some x → (f x).set d u = f y) → (L.flatMap f).set (k * m + d) u = (L.set k y).flatMap f
  | x :: L, 0, d, y, u, _, hd, h => by
    rw [List.set_cons_zero, List.flatMap_cons, List.flatMap_cons, Nat.zero_mul, Nat.zero_add, List.set_append_left _ _ (by rw [hf]; exact hd), h x rfl]
  | x :: L, k + 1, d, y, u, hk, hd, h => by
    rw [List.set_cons_succ, List.flatMap_cons, List.flatMap_cons, List.set_append_right _ _ (by rw [hf, Nat.succ_mul]; omega), hf, show (k + 1) * m + d - m = k * m + d by rw [Nat.succ_mul]; omega, flat_set m f hf L k d y u (by simpa using hk) hd (fun x' hx' => h x' (by simpa using hx'))]
/-- an arc's end, or its weight, another one -/
def setArc (d : Nat) (u : Int) (a : Ar) : Ar := match d with
  | 0 => (u, a.2)
  | 1 => (a.1, u, a.2.2)
  | _ => (a.1, a.2.1, u)
theorem setArc_cells (d : Nat) (hd : d < 3) (u : Int) (a : Ar) : (arC a).set d (.int .i64 u) = arC (setArc d u a) := by
  match d, hd with
  | 0, _ => rfl
  | 1, _ => rfl
  | 2, _ => rfl
theorem OutI.setA {w1 W : World} {Bo : Nat} {vx vy : Value} {g n cap : Nat} {r : Raw} (h : OutI w1 Bo vx vy (.slice (some ⟨g, 0, none⟩) n cap) r W) (hn : r.arcs.length = n) (k d : Nat) (hk : k < r.arcs.length) (hd : d < 3) (u : Int) {o : Nat} (ho : o = k * 3 + d) :
    OutI w1 Bo vx vy (.slice (some ⟨g, 0, none⟩) n cap) { r with arcs := r.arcs.set k (setArc d u r.arcs[k]) } (W.setCell ⟨g, o, none⟩ (.int .i64 u)) := by
  subst ho
  have hown := h.own.2.2.1
  obtain ⟨hgb, cur, hc⟩ := ownsRow_blk' hown (g := g) rfl
  have hgBo : Bo ≠ g := fun e => by
    subst e
    have e2 := (show W.heap[Bo]? = some _ from h.blk).symm.trans (show W.heap[Bo]? = some _ from hc)
    cases e2
  have ox := ownsRow_set h.own.1 (p := ⟨g, k * 3 + d, none⟩) hc (by decide) (.int .i64 u)
  have oy := ownsRow_set h.own.2.1 (p := ⟨g, k * 3 + d, none⟩) hc (by decide) (.int .i64 u)
  have oa := ownsRow_setAt (n := n) (by rw [← hn]; rw [← hn] at hown; exact hown) (k * 3 + d) (.int .i64 u)
  rw [flat_set 3 arC arC_len r.arcs k d (setArc d u r.arcs[k]) (.int .i64 u) hk hd (fun x hx => by
    rw [List.getElem?_eq_getElem hk] at hx
    rw [← Option.some.inj hx]; exact setArc_cells d hd u _)] at oa
  refine ⟨h.blk.setOther ⟨g, k * 3 + d, none⟩ (.int .i64 u) hgBo, ⟨ox, oy, ?_, h.own.2.2.2⟩, ?_⟩
  · show World.ownsRow _ _ _ _ _ (r.arcs.set k _).length _
    rw [List.length_set, hn]; exact oa
  · have hk := h.kept
    exact ⟨hk.os, hk.tape, hk.output, by simpa using hk.size, fun j hj hs => (heap_setCell_other _ _ _ _ (show j ≠ g by omega)).trans (hk.block j hj hs)⟩
/-- all arcs the other way -/
def turnA (a : Ar) : Ar := (a.2.1, a.1, a.2.2)
def Raw.turned (r : Raw) : Raw := { r with arcs := r.arcs.map turnA }
theorem turn_step (L : List Ar) (k : Nat) (hk : k < L.length) : (((L.take k).map turnA ++ L.drop k).set k (setArc 0 L[k].2.1 L[k])).set k (setArc 1 L[k].1 (setArc 0 L[k].2.1 L[k])) = (L.take (k + 1)).map turnA ++ L.drop (k + 1) := by
  rw [List.set_set]
  have hl : ((L.take k).map turnA).length = k := by rw [List.length_map, List.length_take]; omega
  rw [List.set_append_right _ _ (by omega), hl, Nat.sub_self, List.drop_eq_getElem_cons hk, List.set_cons_zero, List.take_succ_eq_append_getElem hk, List.map_append, List.append_assoc]
  rfl
set_option maxRecDepth 100000 in
set_option maxHeartbeats 8000000 in
theorem turned_any (v : Value) (r : Raw) (w : World) (h : RawV w v r) (hl : r.few) : Calls Tryd.prog 24 #[v] w fun e w' => ∃ v', e = .returned v' ∧ RawO w.heap.size w' v' r.turned ∧ Below w.heap.size w w' := by
  have h0 := h
  obtain ⟨vx, vy, va, rfl, hx, hy, ha⟩ := h
  have fx := hx.form; have fy := hy.form; have fa := ha.form
  obtain ⟨Bt, hBt⟩ : ∃ b, b = w.heap.size := ⟨_, rfl⟩
  obtain ⟨Bs, hBs⟩ : ∃ b, b = w.heap.size + 1 := ⟨_, rfl⟩
  obtain ⟨w1, hw1⟩ : ∃ w1, w1 = (w.alloc (.cells #[.int .i64 r.nodes, vx, vy, va] 25)).alloc (.cells #[.int .i64 0, .slice none 0 0, .slice none 0 0, .slice none 0 0] 25) := ⟨_, rfl⟩
  have hb1 : Below w.heap.size w w1 := by rw [hw1]; exact ((Below.refl _ _).alloc (Nat.le_refl _) _).alloc (by simp) _
  have K1 : Blk w1 Bt #[.int .i64 r.nodes, vx, vy, va] 25 (0, 0) := by rw [hw1, hBt]; exact (Blk.new _ _ _ _).alloc _
  have K2 : Blk w1 Bs #[.int .i64 0, .slice none 0 0, .slice none 0 0, .slice none 0 0] 25 (0, 0) := by
    rw [hw1, hBs]
    have h := Blk.new (w.alloc (.cells #[.int .i64 r.nodes, vx, vy, va] 25)) #[.int .i64 0, .slice none 0 0, .slice none 0 0, .slice none 0 0] 25 (0, 0)
    rwa [World.size_alloc] at h
  have C := Lib.hid (copied_any _ r w1 (h0.below hb1) hl)
  have HB1 := Lib.hid hb1; have HK1 := Lib.hid K1; have HK2 := Lib.hid K2; have HW1 := Lib.hid hw1; have HL := Lib.hid hl
  have hne2 : ¬ Bs = Bt := by omega
  have hle : w.heap.size ≤ Bt := by omega
  have HN2 := Lib.hid hne2; have HLe := Lib.hid hle; have HBs := Lib.hid hBs; have HBt := Lib.hid hBt
  clear h0 hx hy ha hb1 K1 K2 hw1 hl hne2 hle
  obtain ⟨_, _, _, rfl⟩ := fx
  obtain ⟨_, _, _, rfl⟩ := fy
  obtain ⟨_, _, _, rfl⟩ := fa
  go_enter Tryd.func24, Tryd.ntmps24
  go_wp2_with fail
  rw [← HW1.out, ← HBs.out, ← HBt.out]
  clear hBt hBs
  refine C.out.mono ?_
  rintro e w2 ⟨v2, rfl, ⟨vx, vy, va, rfl, o1, o2, o3, o4⟩, hb2⟩
  have bT := HK1.out.below hb2 HK1.out.lt
  have b0 := bT.cell 0; have b1 := bT.cell 1; have b2 := bT.cell 2; have b3 := bT.cell 3
  simp only [List.getElem?_toArray, List.getElem?_cons_succ, List.getElem?_cons_zero] at b0 b1 b2 b3
  have fr := fun i => bT.free i (Or.inr (Nat.zero_le _))
  have f0 := fr 0; have f1 := fr 1; have f2 := fr 2; have f3 := fr 3
  have hO : Own3 w1.heap.size w2 vx vy va r := ⟨o1, o2, o3, o4⟩
  have fx := o1.one'; have fy := o2.one'
  have fa : ∃ a c, va = .slice a r.arcs.length c ∧ (0 < r.arcs.length → ∃ g, a = some ⟨g, 0, none⟩) := by
    rcases o3.2 with ⟨h, h0⟩ | ⟨g, cap, cur, h, _⟩
    · exact ⟨_, _, by rw [h0]; exact h, fun h => by omega⟩
    · exact ⟨_, _, h, fun _ => ⟨g, rfl⟩⟩
  obtain ⟨xa, xn, xc, rfl⟩ := fx
  obtain ⟨ya, yn, yc, rfl⟩ := fy
  obtain ⟨za, zc, rfl, hza⟩ := fa
  have bZ := (((bT.set 0 (.int .i64 r.nodes)).set 1 (.slice xa xn xc)).set 2 (.slice ya yn yc)).set 3 (.slice za r.arcs.length zc)
  have R2 := (((hO.set (p := ⟨Bt, 0, none⟩) bT (by decide) (by decide) (.int .i64 r.nodes)).set (p := ⟨Bt, 1, none⟩) (bT.set 0 (.int .i64 r.nodes)) (by decide) (by decide) (.slice xa xn xc)).set (p := ⟨Bt, 2, none⟩) ((bT.set 0 (.int .i64 r.nodes)).set 1 (.slice xa xn xc)) (by decide) (by decide) (.slice ya yn yc)).set (p := ⟨Bt, 3, none⟩) (((bT.set 0 (.int .i64 r.nodes)).set 1 (.slice xa xn xc)).set 2 (.slice ya yn yc)) (by decide) (by decide) (.slice za r.arcs.length zc)
  have hk2 : Kept (· = Bt) w1 w2 := ⟨hb2.os, hb2.tape, hb2.output, hb2.size, fun k hk _ => hb2.block k hk⟩
  have K3 := (((hk2.setCell (p := ⟨Bt, 0, none⟩) rfl (.int .i64 r.nodes)).setCell (p := ⟨Bt, 1, none⟩) rfl (.slice xa xn xc)).setCell (p := ⟨Bt, 2, none⟩) rfl (.slice ya yn yc)).setCell (p := ⟨Bt, 3, none⟩) rfl (.slice za r.arcs.length zc)
  have hI : OutI w1 Bt (.slice xa xn xc) (.slice ya yn yc) (.slice za r.arcs.length zc) r ((((w2.setCell ⟨Bt, 0, none⟩ (.int .i64 r.nodes)).setCell ⟨Bt, 1, none⟩ (.slice xa xn xc)).setCell ⟨Bt, 2, none⟩ (.slice ya yn yc)).setCell ⟨Bt, 3, none⟩ (.slice za r.arcs.length zc)) := ⟨bZ, R2, K3⟩
  have HI := Lib.hid hI
  clear hI bZ R2 hk2 K3 bT hO o1 o2 o3 o4 hb2 fr C
  go_wp2_with fail
  generalize (((w2.setCell ⟨Bt, 0, none⟩ (.int .i64 r.nodes)).setCell ⟨Bt, 1, none⟩ (.slice xa xn xc)).setCell ⟨Bt, 2, none⟩ (.slice ya yn yc)).setCell ⟨Bt, 3, none⟩ (.slice za r.arcs.length zc) = w3 at *
  clear b0 b1 b2 b3 f0 f1 f2 f3
  have c3 := HI.out.blk.cell 3
  change w3.cell? ⟨Bt, 3, none⟩ = some (.slice za r.arcs.length zc) at c3
  have hll : (r.arcs.length : Int) ≤ 1000000000000 := by have := HL.out.2.2; omega
  go_wp2_with fail
  go_loopw [10] (fun i wr => ∃ (k : Nat), k ≤ r.arcs.length ∧ i = .int .i64 k ∧ Hid (OutI w1 Bt (.slice xa xn xc) (.slice ya yn yc) (.slice za r.arcs.length zc) { r with arcs := (r.arcs.take k).map turnA ++ r.arcs.drop k } wr)) (fun i _ => r.arcs.length - (intOf i).toNat)
  case atStart => exact ⟨0, by omega, rfl, Lib.hid (by simpa using HI.out)⟩
  case round =>
    clear c3 HI
    obtain ⟨k, hk, rfl, hrel⟩ := hrel
    by_cases hlt : k < r.arcs.length
    · obtain ⟨g, rfl⟩ := hza (by omega)
      have hI := hrel.out
      have hlen : ((r.arcs.take k).map turnA ++ r.arcs.drop k).length = r.arcs.length := by rw [List.length_append, List.length_map, List.length_take, List.length_drop]; omega
      have hget : ((r.arcs.take k).map turnA ++ r.arcs.drop k)[k]'(by omega) = r.arcs[k] := by
        have hl : ((r.arcs.take k).map turnA).length = k := by rw [List.length_map, List.length_take]; omega
        rw [List.getElem_append_right (by omega)]
        simp only [hl, Nat.sub_self, List.getElem_drop, Nat.add_zero]
      have sA : SlA wr (.slice (some ⟨g, 0, none⟩) r.arcs.length zc) ((r.arcs.take k).map turnA ++ r.arcs.drop k) := slA_own rfl (by have h := hI.own.2.2.1; exact h)
      obtain ⟨bg, og, eg, d0, d1, d2⟩ := sA.at k (by omega)
      obtain ⟨rfl, rfl⟩ : g = bg ∧ 0 = og := by simpa using eg
      rw [hget] at d0 d1 d2
      rw [Nat.zero_add] at d0 d1 d2
      obtain ⟨hgb, cur, hgB⟩ := ownsRow_blk' hI.own.2.2.1 (g := g) rfl
      have gfr := fun i => hgB.free i (Or.inr (Nat.zero_le _))
      obtain ⟨x, hx⟩ : ∃ x, x = r.arcs[k] := ⟨_, rfl⟩
      have hst := turn_step r.arcs k hlt
      rw [← hx] at d0 d1 d2 hst
      obtain ⟨x0, x1, x2⟩ := x
      simp only at d0 d1 d2 hst
      have hltI : (k : Int) < (r.arcs.length : Int) := by omega
      have i1 : (0 : Int) ≤ (k : Int) := by omega
      obtain ⟨Ba, hBa⟩ : ∃ b, b = wr.heap.size := ⟨_, rfl⟩
      obtain ⟨wc, hwc⟩ : ∃ wc, wc = wr.alloc (.cells #[.int .i64 x0, .int .i64 x1, .int .i64 x2] 54) := ⟨_, rfl⟩
      have hbc : Below wr.heap.size wr wc := by rw [hwc]; exact (Below.refl _ _).alloc (Nat.le_refl _) _
      have hBc : Blk wc Ba #[.int .i64 x0, .int .i64 x1, .int .i64 x2] 54 (0, 0) := by rw [hwc, hBa]; exact Blk.new _ _ _ _
      have hIc := (hI.below hbc).below (Below.refl _ wc).drew
      have hgl : g < wr.heap.size := hgB.lt
      have hgne : Ba ≠ g := by omega
      have hBtg : Bt ≠ g := fun e => by
        have e2 := (show wr.heap[Bt]? = some _ from hI.blk).symm.trans (show wr.heap[Bt]? = some _ from e ▸ hgB)
        cases e2
      -- the two stores
      have hkl : k < ((r.arcs.take k).map turnA ++ r.arcs.drop k).length := by omega
      have hI1 := hIc.setA (u := x1) hlen k 0 hkl (by omega) (o := k * 3) rfl
      have hkl2 : k < (((r.arcs.take k).map turnA ++ r.arcs.drop k).set k (setArc 0 x1 (((r.arcs.take k).map turnA ++ r.arcs.drop k)[k]'hkl))).length := by rw [List.length_set]; exact hkl
      have hI2 := hI1.setA (u := x0) ((List.length_set ..).trans hlen) k 1 hkl2 (by omega) (o := k * 3 + 1) rfl
      have hfin : ((((r.arcs.take k).map turnA ++ r.arcs.drop k).set k (setArc 0 x1 (((r.arcs.take k).map turnA ++ r.arcs.drop k)[k]'(by omega)))).set k (setArc 1 x0 ((((r.arcs.take k).map turnA ++ r.arcs.drop k).set k (setArc 0 x1 (((r.arcs.take k).map turnA ++ r.arcs.drop k)[k]'(by omega))))[k]'(by rw [List.length_set]; omega)))) = (r.arcs.take (k + 1)).map turnA ++ r.arcs.drop (k + 1) := by
        rw [List.getElem_set_self, hget, ← hx]; exact hst
      have hI3 : OutI w1 Bt (.slice xa xn xc) (.slice ya yn yc) (.slice (some ⟨g, 0, none⟩) r.arcs.length zc) { r with arcs := (r.arcs.take (k + 1)).map turnA ++ r.arcs.drop (k + 1) } ((wc.drew.setCell ⟨g, k * 3, none⟩ (.int .i64 x1)).setCell ⟨g, k * 3 + 1, none⟩ (.int .i64 x0)) := by
        rw [← hfin]; exact hI2
      have hgc := (hgB.below hbc hgl).drew
      have s0 := hgc.cell (k * 3)
      have e0 : wc.drew.cell? ⟨g, k * 3, none⟩ = some (.int .i64 x0) := cell_later (hbc.drew) d0
      have ff := hgc.free (k * 3) (Or.inr (Nat.zero_le _))
      have e1 : wc.cell? ⟨g, k * 3 + 1, none⟩ = some (.int .i64 x1) := cell_later hbc d1
      have ff1 : wc.frozen? ⟨g, k * 3 + 1, none⟩ = false := (hgB.below hbc hgl).free (k * 3 + 1) (Or.inr (Nat.zero_le _))
      have o3 : wc.cell? ⟨Bt, 3, none⟩ = some (.slice (some ⟨g, 0, none⟩) r.arcs.length zc) := (hI.below hbc).blk.cell 3
      have t0 : wc.cell? ⟨Ba, 0, none⟩ = some (.int .i64 x0) := hBc.cell 0
      have t1 : wc.cell? ⟨Ba, 1, none⟩ = some (.int .i64 x1) := hBc.cell 1
      have hS1 : (wc.drew.setCell ⟨g, k * 3, none⟩ (.int .i64 x1)).cell? ⟨Bt, 3, none⟩ = some (.slice (some ⟨g, 0, none⟩) r.arcs.length zc) ∧ (wc.drew.setCell ⟨g, k * 3, none⟩ (.int .i64 x1)).cell? ⟨Ba, 0, none⟩ = some (.int .i64 x0) ∧ (wc.drew.setCell ⟨g, k * 3, none⟩ (.int .i64 x1)).cell? ⟨Ba, 1, none⟩ = some (.int .i64 x1) := ⟨(World.cell?_of_block (heap_setCell_other _ _ _ _ hBtg)).trans o3, (World.cell?_of_block (heap_setCell_other _ _ _ _ hgne)).trans t0, (World.cell?_of_block (heap_setCell_other _ _ _ _ hgne)).trans t1⟩
      have c3 : wr.cell? ⟨Bt, 3, none⟩ = some (.slice (some ⟨g, 0, none⟩) r.arcs.length zc) := hI.blk.cell 3
      have HI3 := Lib.hid hI3; have HS1 := Lib.hid hS1; have HWc := Lib.hid hwc; have HBa := Lib.hid hBa
      clear hrel hI hlen hget sA eg hgB gfr hst hx hbc hBc hIc hgl hI1 hI2 hfin hI3 hgc s0 hS1 hkl hkl2 hwc hgb
      go_wp2_with fail
      rw [← HWc.out, ← HBa.out]
      clear hBa
      refine wp_region_heldD (fun w' => w'.cell? ⟨Bt, 3, none⟩ = some (.slice (some ⟨g, 0, none⟩) r.arcs.length zc) ∧ w'.cell? ⟨Ba, 0, none⟩ = some (.int .i64 x0) ∧ w'.cell? ⟨Ba, 1, none⟩ = some (.int .i64 x1)) 15 rfl ?_
      change heldD _ _ _ _ _ _ _ 16 _ _ wc.drew
      have hS0 : wc.drew.cell? ⟨Bt, 3, none⟩ = some (.slice (some ⟨g, 0, none⟩) r.arcs.length zc) ∧ wc.drew.cell? ⟨Ba, 0, none⟩ = some (.int .i64 x0) ∧ wc.drew.cell? ⟨Ba, 1, none⟩ = some (.int .i64 x1) := ⟨o3, t0, t1⟩
      refine heldD_takeF (i := 0) (v := .pointer (some ⟨Bt, 3, none⟩)) rfl rfl rfl (by kernel_rfl) (by kernel_rfl) (by kernel_rfl) (by kernel_rfl) (fun _ _ _ h => h) (by rfl) (fun w => ⟨by rfl, by go_simp⟩) (fun _ => hS0) ?_
      simp only [List.setIfInBounds_toArray, List.set_cons_zero, List.set_cons_succ]
      refine heldD_take (i := 1) (v := .slice (some ⟨g, 0, none⟩) r.arcs.length zc) rfl rfl rfl (by kernel_rfl) (by kernel_rfl) (by kernel_rfl) (by kernel_rfl) (by kernel_rfl) (by kernel_rfl) (fun _ _ _ h => h) (by rfl) (fun w hS => ⟨by rfl, by obtain ⟨hS1, hS2, hS3⟩ := hS; go_simp⟩) hS0 ?_
      simp only [List.setIfInBounds_toArray, List.set_cons_zero, List.set_cons_succ]
      refine heldD_takeF (i := 2) (v := .int .i64 (k : Nat)) rfl rfl rfl (by kernel_rfl) (by kernel_rfl) (by kernel_rfl) (by kernel_rfl) (fun _ _ _ h => h) (by rfl) (fun w => ⟨by rfl, by go_simp⟩) (fun _ => hS0) ?_
      simp only [List.setIfInBounds_toArray, List.set_cons_zero, List.set_cons_succ]
      refine heldD_takeF (i := 3) (v := .pointer (some ⟨Bt, 3, none⟩)) rfl rfl rfl (by kernel_rfl) (by kernel_rfl) (by kernel_rfl) (by kernel_rfl) (fun _ _ _ h => h) (by rfl) (fun w => ⟨by rfl, by go_simp⟩) (fun _ => hS0) ?_
      simp only [List.setIfInBounds_toArray, List.set_cons_zero, List.set_cons_succ]
      refine heldD_take (i := 4) (v := .slice (some ⟨g, 0, none⟩) r.arcs.length zc) rfl rfl rfl (by kernel_rfl) (by kernel_rfl) (by kernel_rfl) (by kernel_rfl) (by kernel_rfl) (by kernel_rfl) (fun _ _ _ h => h) (by rfl) (fun w hS => ⟨by rfl, by obtain ⟨hS1, hS2, hS3⟩ := hS; go_simp⟩) hS0 ?_
      simp only [List.setIfInBounds_toArray, List.set_cons_zero, List.set_cons_succ]
      refine heldD_takeF (i := 5) (v := .int .i64 (k : Nat)) rfl rfl rfl (by kernel_rfl) (by kernel_rfl) (by kernel_rfl) (by kernel_rfl) (fun _ _ _ h => h) (by rfl) (fun w => ⟨by rfl, by go_simp⟩) (fun _ => hS0) ?_
      simp only [List.setIfInBounds_toArray, List.set_cons_zero, List.set_cons_succ]
      refine heldD_takeF (i := 6) (v := .pointer (some ⟨Ba, 1, none⟩)) rfl rfl rfl (by kernel_rfl) (by kernel_rfl) (by kernel_rfl) (by kernel_rfl) (fun _ _ _ h => h) (by rfl) (fun w => ⟨by rfl, by go_simp⟩) (fun _ => hS0) ?_
      simp only [List.setIfInBounds_toArray, List.set_cons_zero, List.set_cons_succ]
      refine heldD_take (i := 7) (v := .int .i64 x1) rfl rfl rfl (by kernel_rfl) (by kernel_rfl) (by kernel_rfl) (by kernel_rfl) (by kernel_rfl) (by kernel_rfl) (fun _ _ _ h => h) (by rfl) (fun w hS => ⟨by rfl, by obtain ⟨hS1, hS2, hS3⟩ := hS; go_simp⟩) hS0 ?_
      simp only [List.setIfInBounds_toArray, List.set_cons_zero, List.set_cons_succ]
      refine heldD_takeF (i := 8) (v := .pointer (some ⟨Ba, 0, none⟩)) rfl rfl rfl (by kernel_rfl) (by kernel_rfl) (by kernel_rfl) (by kernel_rfl) (fun _ _ _ h => h) (by rfl) (fun w => ⟨by rfl, by go_simp⟩) (fun _ => hS0) ?_
      simp only [List.setIfInBounds_toArray, List.set_cons_zero, List.set_cons_succ]
      refine heldD_take (i := 9) (v := .int .i64 x0) rfl rfl rfl (by kernel_rfl) (by kernel_rfl) (by kernel_rfl) (by kernel_rfl) (by kernel_rfl) (by kernel_rfl) (fun _ _ _ h => h) (by rfl) (fun w hS => ⟨by rfl, by obtain ⟨hS1, hS2, hS3⟩ := hS; go_simp⟩) hS0 ?_
      simp only [List.setIfInBounds_toArray, List.set_cons_zero, List.set_cons_succ]
      refine heldD_takeF (i := 10) (v := .pointer (some ⟨g, k * 3, none⟩)) rfl rfl rfl (by kernel_rfl) (by kernel_rfl) (by kernel_rfl) (by kernel_rfl) (fun _ _ _ h => h) (by rfl) (fun w => ⟨by rfl, by go_simp⟩) (fun _ => hS0) ?_
      simp only [List.setIfInBounds_toArray, List.set_cons_zero, List.set_cons_succ]
      refine heldD_takeF (i := 11) (v := .pointer (some ⟨g, k * 3, none⟩)) rfl rfl rfl (by kernel_rfl) (by kernel_rfl) (by kernel_rfl) (by kernel_rfl) (fun _ _ _ h => h) (by rfl) (fun w => ⟨by rfl, by go_simp⟩) (fun _ => hS0) ?_
      simp only [List.setIfInBounds_toArray, List.set_cons_zero, List.set_cons_succ]
      refine heldD_one (i := 12) (by kernel_rfl) ?_
      refine wpOpIn_skip (w' := wc.drew.setCell ⟨g, k * 3, none⟩ (.int .i64 x1)) rfl rfl rfl (by rfl) (by rfl) (by go_simp) ?_
      have HS1 := HS1.out
      refine ⟨fun _ => HS1, ?_⟩
      clear hS0
      have hS0 := HS1
      refine heldD_takeF (i := 13) (v := .pointer (some ⟨g, k * 3, none⟩)) rfl rfl rfl (by kernel_rfl) (by kernel_rfl) (by kernel_rfl) (by kernel_rfl) (fun _ _ _ h => h) (by rfl) (fun w => ⟨by rfl, by go_simp⟩) (fun _ => hS0) ?_
      simp only [List.setIfInBounds_toArray, List.set_cons_zero, List.set_cons_succ]
      refine heldD_takeF (i := 14) (v := .pointer (some ⟨g, k * 3 + 1, none⟩)) rfl rfl rfl (by kernel_rfl) (by kernel_rfl) (by kernel_rfl) (by kernel_rfl) (fun _ _ _ h => h) (by rfl) (fun w => ⟨by rfl, by go_simp⟩) (fun _ => hS0) ?_
      simp only [List.setIfInBounds_toArray, List.set_cons_zero, List.set_cons_succ]
      refine heldD_one (i := 15) (by kernel_rfl) ?_
      refine wpOpIn_skip (w' := (wc.drew.setCell ⟨g, k * 3, none⟩ (.int .i64 x1)).setCell ⟨g, k * 3 + 1, none⟩ (.int .i64 x0)) rfl rfl rfl (by rfl) (by rfl) (by go_simp) ?_
      refine ⟨fun h => (by cases h), ?_⟩
      refine heldD_done (by kernel_rfl) ?_ _
      clear HS1 hS0 o3 t0 t1 d0 d1 d2 e0 e1 ff ff1 c3
      go_wp2_with fail
      go_roundw
      case rel => exact ⟨k + 1, by omega, by go_num, Lib.hid HI3.out⟩
      case measure => simp [intOf]; omega
    · obtain rfl : k = r.arcs.length := by omega
      have hI := hrel.out
      have he : (r.arcs.take r.arcs.length).map turnA ++ r.arcs.drop r.arcs.length = r.arcs.map turnA := by simp
      rw [he] at hI
      have HI4 := Lib.hid hI
      clear hI hrel he
      have bO := HI4.out.blk
      have c0 := bO.cell 0; have c1 := bO.cell 1; have c2 := bO.cell 2; have c3 := bO.cell 3
      change wr.cell? ⟨Bt, 0, none⟩ = some (.int .i64 r.nodes) at c0
      change wr.cell? ⟨Bt, 1, none⟩ = some (.slice xa xn xc) at c1
      change wr.cell? ⟨Bt, 2, none⟩ = some (.slice ya yn yc) at c2
      change wr.cell? ⟨Bt, 3, none⟩ = some (.slice za r.arcs.length zc) at c3
      have bC3 := HI4.out.kept.blk HK2.out HN2.out
      have e0 := bC3.cell 0; have e1 := bC3.cell 1; have e2 := bC3.cell 2; have e3 := bC3.cell 3
      change wr.cell? ⟨Bs, 0, none⟩ = some (.int .i64 0) at e0
      change wr.cell? ⟨Bs, 1, none⟩ = some (.slice none 0 0) at e1
      change wr.cell? ⟨Bs, 2, none⟩ = some (.slice none 0 0) at e2
      change wr.cell? ⟨Bs, 3, none⟩ = some (.slice none 0 0) at e3
      have fr := fun i => bC3.free i (Or.inr (Nat.zero_le _))
      have f0 := fr 0; have f1 := fr 1; have f2 := fr 2; have f3 := fr 3
      have hle : w.heap.size ≤ Bs := by rw [HBs.out]; omega
      have bZ := (((bC3.set 0 (.int .i64 r.nodes)).set 1 (.slice xa xn xc)).set 2 (.slice ya yn yc)).set 3 (.slice za r.arcs.length zc)
      have R2 := (((HI4.out.own.set (p := ⟨Bs, 0, none⟩) bC3 (by decide) (by decide) (.int .i64 r.nodes)).set (p := ⟨Bs, 1, none⟩) (bC3.set 0 (.int .i64 r.nodes)) (by decide) (by decide) (.slice xa xn xc)).set (p := ⟨Bs, 2, none⟩) ((bC3.set 0 (.int .i64 r.nodes)).set 1 (.slice xa xn xc)) (by decide) (by decide) (.slice ya yn yc)).set (p := ⟨Bs, 3, none⟩) (((bC3.set 0 (.int .i64 r.nodes)).set 1 (.slice xa xn xc)).set 2 (.slice ya yn yc)) (by decide) (by decide) (.slice za r.arcs.length zc)
      have B2 := ((((below_of HB1.out HI4.out.kept HLe.out).setCell (p := ⟨Bs, 0, none⟩) hle (.int .i64 r.nodes)).setCell (p := ⟨Bs, 1, none⟩) hle (.slice xa xn xc)).setCell (p := ⟨Bs, 2, none⟩) hle (.slice ya yn yc)).setCell (p := ⟨Bs, 3, none⟩) hle (.slice za r.arcs.length zc)
      have hsz1 := HB1.out.size
      have HZ := Lib.hid bZ; have HR2 := Lib.hid R2; have HB2 := Lib.hid B2
      clear bZ R2 B2 bC3 bO fr hle HI4
      go_wp2_with fail
      generalize (((wr.setCell ⟨Bs, 0, none⟩ (.int .i64 r.nodes)).setCell ⟨Bs, 1, none⟩ (.slice xa xn xc)).setCell ⟨Bs, 2, none⟩ (.slice ya yn yc)).setCell ⟨Bs, 3, none⟩ (.slice za r.arcs.length zc) = wz at *
      have z0 := HZ.out.cell 0; have z1 := HZ.out.cell 1; have z2 := HZ.out.cell 2; have z3 := HZ.out.cell 3
      change wz.cell? ⟨Bs, 0, none⟩ = some (.int .i64 r.nodes) at z0
      change wz.cell? ⟨Bs, 1, none⟩ = some (.slice xa xn xc) at z1
      change wz.cell? ⟨Bs, 2, none⟩ = some (.slice ya yn yc) at z2
      change wz.cell? ⟨Bs, 3, none⟩ = some (.slice za r.arcs.length zc) at z3
      exact bodyPost_ret (v := .agg #[.int .i64 r.nodes, .slice xa xn xc, .slice ya yn yc, .slice za r.arcs.length zc]) (by simp [results, Tryd.results24, go_sem, z0, z1, z2, z3]) rfl ⟨_, rfl, ⟨_, _, _, rfl, ownsRow_le HR2.out.1 hsz1, ownsRow_le HR2.out.2.1 hsz1, ownsRow_le HR2.out.2.2.1 hsz1, HR2.out.2.2.2⟩, HB2.out⟩
end Go.Proofs.YtnkcmlngoeofgaaDoor
/- graph.Moved's closure: a node's other number. -/
namespace Go.Proofs.YtnkcmlngoeofgaaDoor
open Go.RowKit
/-- a node's other number -/
def mvI (n by_ v : Int) : Int := (v + by_) % n
theorem mvI_range (n by_ v : Int) (hn : 1 ≤ n) : 0 ≤ mvI n by_ v ∧ mvI n by_ v < n := ⟨Int.emod_nonneg _ (by omega), Int.emod_lt_of_pos _ (by omega)⟩
theorem tmod_bounds (a n : Int) (hn : 1 ≤ n) : -n < a.tmod n ∧ a.tmod n < n ∧ a.tmod n = a - n * a.tdiv n := by
  have h1 := Int.tmod_lt_of_pos a (show 0 < n by omega)
  have h2 : -n < a.tmod n := by
    have h := Int.tmod_lt_of_pos (-a) (show 0 < n by omega)
    rw [Int.neg_tmod] at h
    omega
  exact ⟨h2, h1, by have := Int.tmod_add_mul_tdiv a n; omega⟩
theorem mv_eq (n by_ v : Int) (hn : 1 ≤ n) : ((v + by_.tmod n).tmod n + n).tmod n = mvI n by_ v := by
  obtain ⟨a1, a2, a3⟩ := tmod_bounds by_ n hn
  obtain ⟨b1, b2, b3⟩ := tmod_bounds (v + by_.tmod n) n hn
  rw [Int.tmod_eq_emod_of_nonneg (by omega)]
  unfold mvI
  rw [b3, a3]
  rw [show v + (by_ - n * by_.tdiv n) - n * (v + (by_ - n * by_.tdiv n)).tdiv n + n = (v + by_) + n * (1 - by_.tdiv n - (v + (by_ - n * by_.tdiv n)).tdiv n) by rw [Int.mul_sub, Int.mul_sub, Int.mul_one]; omega]
  exact Int.add_mul_emod_self_left _ _ _
set_option maxHeartbeats 1000000 in
theorem move_any (n by_ v : Int) (Br Bb : Nat) (vx vy va : Value) (w : World) (hr : Blk w Br #[.int .i64 n, vx, vy, va] 25 (0, 0)) (hb : Blk w Bb #[.int .i64 by_] 3 (0, 0)) (hn : 1 ≤ n ∧ n ≤ 16777216) (hv : 0 ≤ v ∧ v < n) :
    Calls Tryd.prog 51 #[.int .i64 v, .pointer (some ⟨Bb, 0, none⟩), .pointer (some ⟨Br, 0, none⟩)] w fun e w' => e = .returned (.int .i64 (mvI n by_ v)) ∧ Below w.heap.size w w' := by
  have c0 := hr.cell 0; have c1 := hb.cell 0
  change w.cell? ⟨Br, 0, none⟩ = some (.int .i64 n) at c0
  change w.cell? ⟨Bb, 0, none⟩ = some (.int .i64 by_) at c1
  obtain ⟨t1, ht1⟩ : ∃ t, t = by_.tmod n := ⟨_, rfl⟩
  obtain ⟨t2, ht2⟩ : ∃ t, t = (v + t1).tmod n := ⟨_, rfl⟩
  obtain ⟨t3, ht3⟩ : ∃ t, t = (t2 + n).tmod n := ⟨_, rfl⟩
  have hm : Hid (t3 = mvI n by_ v) := Lib.hid (by rw [ht3, ht2, ht1]; exact mv_eq n by_ v hn.1)
  have b1 := tmod_bounds by_ n hn.1
  have b2 := tmod_bounds (v + t1) n hn.1
  have b3 := tmod_bounds (t2 + n) n hn.1
  rw [← ht1] at b1; rw [← ht2] at b2; rw [← ht3] at b3
  have e1 : by_.tmod n = t1 := ht1.symm
  have e2 : (v + t1).tmod n = t2 := ht2.symm
  have e3 : (t2 + n).tmod n = t3 := ht3.symm
  have w1 : IntKind.i64.wrap t1 = t1 := by rw [IntKind.wrap_i64]; omega
  have w2 : IntKind.i64.wrap (v + t1) = v + t1 := by rw [IntKind.wrap_i64]; omega
  have w3 : IntKind.i64.wrap t2 = t2 := by rw [IntKind.wrap_i64]; omega
  have w4 : IntKind.i64.wrap (t2 + n) = t2 + n := by rw [IntKind.wrap_i64]; omega
  have w5 : IntKind.i64.wrap t3 = t3 := by rw [IntKind.wrap_i64]; omega
  have hn0 : ¬ n = 0 := by omega
  clear ht1 ht2 ht3 b1 b2 b3 hr hb hn hv
  go_enter Tryd.func51, Tryd.ntmps51
  go_wp2_with fail
  go_quiet (fail)
  generalize hwd : w.drewN _ = wd at *
  go_wp2_with fail
  go_ret
  refine ⟨by rw [← hm.out]; first | done | rfl, ?_⟩
  rw [← hwd]; exact below_drewN (Below.refl _ _) _
end Go.Proofs.YtnkcmlngoeofgaaDoor
