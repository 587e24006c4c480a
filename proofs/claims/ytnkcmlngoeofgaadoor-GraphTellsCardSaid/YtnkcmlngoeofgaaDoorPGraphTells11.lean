/- Texts of the law GraphTells, merged: GrRefMoved. -/
import Derived.Test.YtnkcmlngoeofgaaDoorPGraphTells10
import Derived.Test.YtnkcmlngoeofgaaDoorPGraphTells03
import Derived.Test.YtnkcmlngoeofgaaDoorPGraphTells02
/- milestoneref06.Moved. -/
namespace Go.Proofs.YtnkcmlngoeofgaaDoor
open Go.RowKit
theorem grown_below {B : Nat} {w1 wa W' : World} {row : Option Nat} (h : Below B w1 wa) (hg : wa.grownBy W' row) (hB : B ≤ wa.heap.size) (hr : ∀ j, row = some j → B ≤ j) : Below B w1 W' :=
  ⟨hg.os.trans h.os, hg.tape.trans h.tape, hg.output.trans h.output, Nat.le_trans h.size hg.size, fun k hk => (hg.block k (by omega) (fun e => by have := hr k e.symm; omega)).trans (h.block k hk)⟩
/-- X (or Y) of a moved graph, by the reference -/
def mvL (n b : Int) (L : List Int) (k : Nat) : List Int := (List.range k).map fun (i : Nat) => L[(mvI n (-b) (i : Int)).toNat]?.getD 0
theorem mvL_succ (n b : Int) (L : List Int) (k : Nat) (hk : (mvI n (-b) k).toNat < L.length) : mvL n b L (k + 1) = mvL n b L k ++ [L[(mvI n (-b) k).toNat]] := by
  unfold mvL
  rw [List.range_succ, List.map_append, List.map_singleton, List.getElem?_eq_getElem hk]; rfl
theorem mvL_len (n b : Int) (L : List Int) (k : Nat) : (mvL n b L k).length = k := by unfold mvL; rw [List.length_map, List.length_range]
theorem mv_inv (n b : Int) (v : Int) (hv : 0 ≤ v ∧ v < n) : mvI n (-b) (mvI n b v) = v := by
  unfold mvI
  rw [Int.emod_add_emod, show v + b + -b = v by omega, Int.emod_eq_of_lt hv.1 hv.2]
theorem mvL_at (n b : Int) (L : List Int) (hL : (L.length : Int) = n) (hn : 1 ≤ n) (v : Nat) (hv : (v : Int) < n) : (mvL n b L n.toNat)[(mvI n b v).toNat]? = L[v]? := by
  have hr := mvI_range n b v hn
  unfold mvL
  rw [List.getElem?_map, List.getElem?_range (by omega)]
  simp only [Option.map_some]
  rw [Int.toNat_of_nonneg hr.1, mv_inv n b v ⟨by omega, hv⟩, Int.toNat_natCast, List.getElem?_eq_getElem (show v < L.length by omega)]
  rfl
def mvB (n b : Int) (a : Ar) : Ar := (mvI n b a.1, mvI n b a.2.1, a.2.2)
theorem moved_is {r : Raw} {b : Int} (hk : r.Ok) : MovedTo b r ⟨r.nodes, mvL r.nodes b r.X r.nodes.toNat, mvL r.nodes b r.Y r.nodes.toNat, r.arcs.map fun a => (mvI r.nodes b a.1, mvI r.nodes b a.2.1, a.2.2)⟩ := by
  have h1 := hk.lenX; have h2 := hk.lenY; have h3 := hk.nodes
  exact ⟨rfl, by show (mvL _ _ _ _).length = _; rw [mvL_len]; omega, by show (mvL _ _ _ _).length = _; rw [mvL_len]; omega, fun v hv => mvL_at _ _ _ h1 h3.1 v hv, fun v hv => mvL_at _ _ _ h2 h3.1 v hv, rfl⟩
/-- where a moved graph goes is told wholly -/
theorem moved_one {r m q : Raw} {b : Int} (hk : r.Ok) (h1 : MovedTo b r m) (h2 : MovedTo b r q) : m = q := by
  have hn := hk.nodes
  have inv : ∀ i : Nat, (i : Int) < r.nodes → ∃ v : Nat, (v : Int) < r.nodes ∧ (mvI r.nodes b v).toNat = i := fun i hi => by
    have hu := mvI_range r.nodes (-b) i hn.1
    refine ⟨(mvI r.nodes (-b) i).toNat, by omega, ?_⟩
    rw [Int.toNat_of_nonneg hu.1]
    unfold mvI
    rw [Int.emod_add_emod, show (i : Int) + -b + b = i by omega, Int.emod_eq_of_lt (by omega) hi]; simp
  have l1 := hk.lenX; have l2 := hk.lenY
  have hx : m.X = q.X := by
    apply List.ext_getElem?
    intro i
    by_cases hi : (i : Int) < r.nodes
    · obtain ⟨v, hv, e⟩ := inv i hi
      have a := h1.x v hv; have c := h2.x v hv
      rw [e] at a c
      rw [a, c]
    · rw [List.getElem?_eq_none (by have := h1.lenX; omega), List.getElem?_eq_none (by have := h2.lenX; omega)]
  have hy : m.Y = q.Y := by
    apply List.ext_getElem?
    intro i
    by_cases hi : (i : Int) < r.nodes
    · obtain ⟨v, hv, e⟩ := inv i hi
      have a := h1.y v hv; have c := h2.y v hv
      rw [e] at a c
      rw [a, c]
    · rw [List.getElem?_eq_none (by have := h1.lenY; omega), List.getElem?_eq_none (by have := h2.lenY; omega)]
  have ha : m.arcs = q.arcs := by rw [h1.arcs, h2.arcs]
  have hnn : m.nodes = q.nodes := by rw [h1.nodes, h2.nodes]
  obtain ⟨_, _, _, _⟩ := m
  obtain ⟨_, _, _, _⟩ := q
  simp only at hx hy ha hnn
  subst hx hy ha hnn
  rfl
set_option maxRecDepth 100000 in
set_option maxHeartbeats 32000000 in
theorem refMoved6_any (v : Value) (r : Raw) (b : Int) (w : World) (h : RawV w v r) (hl : r.arcs.length ≤ 1000 ∧ r.X.length ≤ 1000) : Calls Tryd.prog 27 #[v, .int .i64 b] w fun e w' => ∃ v' r', e = .returned v' ∧ RawV w' v' r' ∧ (¬ r.ok → r' = r) ∧ (r.ok → MovedTo b r r') ∧ Below w.heap.size w w' := by
  obtain ⟨vx, vy, va, rfl, hx, hy, ha⟩ := id h
  obtain ⟨xa, xc, rfl, hxc, hxm, _⟩ := id hx
  obtain ⟨ya, yc, rfl, hyc, hym, _⟩ := id hy
  obtain ⟨za, zc, rfl, hzc, hzm, _⟩ := id ha
  unfold maxLen at hxm hym hzm
  obtain ⟨B2, hB2⟩ : ∃ b, b = w.heap.size := ⟨_, rfl⟩
  obtain ⟨B4, hB4⟩ : ∃ b, b = w.heap.size + 1 := ⟨_, rfl⟩
  obtain ⟨w0, hw0⟩ : ∃ u, u = (w.alloc (.cells #[.int .i64 r.nodes, .slice xa r.X.length xc, .slice ya r.Y.length yc, .slice za r.arcs.length zc] 25)).alloc (.cells #[.int .i64 0, .slice none 0 0, .slice none 0 0, .slice none 0 0] 25) := ⟨_, rfl⟩
  have hb0 : Below w.heap.size w w0 := by rw [hw0]; exact ((Below.refl _ _).alloc (Nat.le_refl _) _).alloc (by simp) _
  have K2 : Blk w0 B2 #[.int .i64 r.nodes, .slice xa r.X.length xc, .slice ya r.Y.length yc, .slice za r.arcs.length zc] 25 (0, 0) := by rw [hw0, hB2]; exact (Blk.new _ _ _ _).alloc _
  have K4 : Blk w0 B4 #[.int .i64 0, .slice none 0 0, .slice none 0 0, .slice none 0 0] 25 (0, 0) := by
    rw [hw0, hB4]
    have h := Blk.new (w.alloc (.cells #[.int .i64 r.nodes, .slice xa r.X.length xc, .slice ya r.Y.length yc, .slice za r.arcs.length zc] 25)) #[.int .i64 0, .slice none 0 0, .slice none 0 0, .slice none 0 0] 25 (0, 0)
    rwa [World.size_alloc] at h
  have HX := Lib.hid hx; have HY := Lib.hid hy; have HA := Lib.hid ha; have HRv := Lib.hid h
  have HB0 := Lib.hid hb0; have HK2 := Lib.hid K2; have HK4 := Lib.hid K4; have HW0 := Lib.hid hw0; have HE2 := Lib.hid hB2; have HE4 := Lib.hid hB4; have HL4 := Lib.hid (show w.heap.size ≤ B4 by omega)
  clear h hx hy ha hb0 K2 K4 hw0
  go_enter Tryd.func27, Tryd.ntmps27
  go_wp2_with fail
  rw [← HW0.out, ← HE4.out, ← HE2.out]
  clear hB2 hB4 HW0 HE2 HE4
  obtain ⟨q0, q1, q2, q3, hqs⟩ : ∃ q0 q1 q2 q3, r.wrong = (q0, q1, q2, q3) := ⟨_, _, _, _, rfl⟩
  have hC := refCheck6_any _ r w0 (HRv.out.below HB0.out)
  rw [hqs] at hC
  have HQs := Lib.hid hqs
  clear hqs
  refine hC.mono ?_
  rintro e w1 ⟨rfl, hb1⟩
  have HB1 := Lib.hid (HB0.out.next' hb1); have HK2' := Lib.hid (HK2.out.below hb1 HK2.out.lt); have HK4' := Lib.hid (HK4.out.below hb1 HK4.out.lt)
  clear hb1 HK2 HK4 HB0
  have c0 := HK2'.out.cell 0; have c1 := HK2'.out.cell 1; have c2 := HK2'.out.cell 2; have c3 := HK2'.out.cell 3
  change w1.cell? ⟨B2, 0, none⟩ = some (.int .i64 r.nodes) at c0
  change w1.cell? ⟨B2, 1, none⟩ = some (.slice xa r.X.length xc) at c1
  change w1.cell? ⟨B2, 2, none⟩ = some (.slice ya r.Y.length yc) at c2
  change w1.cell? ⟨B2, 3, none⟩ = some (.slice za r.arcs.length zc) at c3
  have hfld : ∀ w, (Instr.field 47 (.agg #[.int .i64 q0, .int .i64 q1, .int .i64 q2, .int .i64 q3]) 0).run Tryd.prog w = .ok (.int .i64 q0) w := fun _ => by kernel_rfl
  clear hC
  by_cases hok : r.ok
  case neg =>
    have hqn : ¬ q0 = 0 := fun e => hok (r.wrong_zero.1 (by rw [HQs.out]; exact e))
    have hqb : (q0 != 0) = true := by rw [bne_iff_ne]; exact hqn
    have HOk := Lib.hid hok
    clear hok
    have k4 := HK4'.out
    have e0 := k4.cell 0; have e1 := k4.cell 1; have e2 := k4.cell 2; have e3 := k4.cell 3
    change w1.cell? ⟨B4, 0, none⟩ = some (.int .i64 0) at e0
    change w1.cell? ⟨B4, 1, none⟩ = some (.slice none 0 0) at e1
    change w1.cell? ⟨B4, 2, none⟩ = some (.slice none 0 0) at e2
    change w1.cell? ⟨B4, 3, none⟩ = some (.slice none 0 0) at e3
    have fr := fun i => k4.free i (Or.inr (Nat.zero_le _))
    have f0 := fr 0; have f1 := fr 1; have f2 := fr 2; have f3 := fr 3
    have hkz := (((k4.set 0 (.int .i64 r.nodes)).set 1 (.slice xa r.X.length xc)).set 2 (.slice ya r.Y.length yc)).set 3 (.slice za r.arcs.length zc)
    have hbz := ((((HB1.out).setCell (p := ⟨B4, 0, none⟩) HL4.out (.int .i64 r.nodes)).setCell (p := ⟨B4, 1, none⟩) HL4.out (.slice xa r.X.length xc)).setCell (p := ⟨B4, 2, none⟩) HL4.out (.slice ya r.Y.length yc)).setCell (p := ⟨B4, 3, none⟩) HL4.out (.slice za r.arcs.length zc)
    have hRz := HRv.out.below hbz
    have HRz := Lib.hid hRz
    clear hRz
    have HZ := Lib.hid hkz; have HBz := Lib.hid hbz
    clear hkz hbz k4 fr
    go_wp2_with fail
    generalize (((w1.setCell ⟨B4, 0, none⟩ (.int .i64 r.nodes)).setCell ⟨B4, 1, none⟩ (.slice xa r.X.length xc)).setCell ⟨B4, 2, none⟩ (.slice ya r.Y.length yc)).setCell ⟨B4, 3, none⟩ (.slice za r.arcs.length zc) = wz at *
    have z0 := HZ.out.cell 0; have z1 := HZ.out.cell 1; have z2 := HZ.out.cell 2; have z3 := HZ.out.cell 3
    change wz.cell? ⟨B4, 0, none⟩ = some (.int .i64 r.nodes) at z0
    change wz.cell? ⟨B4, 1, none⟩ = some (.slice xa r.X.length xc) at z1
    change wz.cell? ⟨B4, 2, none⟩ = some (.slice ya r.Y.length yc) at z2
    change wz.cell? ⟨B4, 3, none⟩ = some (.slice za r.arcs.length zc) at z3
    exact bodyPost_ret (v := .agg #[.int .i64 r.nodes, .slice xa r.X.length xc, .slice ya r.Y.length yc, .slice za r.arcs.length zc]) (by simp [results, Tryd.results27, go_sem, z0, z1, z2, z3]) rfl ⟨_, r, rfl, HRz.out, fun _ => rfl, fun h => absurd h HOk.out, HBz.out⟩
  case pos =>
  have hz : q0 = 0 := by have h := r.wrong_zero.2 hok; rw [HQs.out] at h; exact h
  have hqb : (q0 != 0) = false := by rw [hz]; rfl
  have hOk := (Raw.ok_iff r).1 hok
  have hn := hOk.nodes
  obtain ⟨N, hN⟩ : ∃ N : Nat, (N : Int) = r.nodes := ⟨r.nodes.toNat, by omega⟩
  have HOk := Lib.hid hOk; have HokR := Lib.hid hok; have HN := Lib.hid hN
  rw [← hN] at c0 hn
  have hNb : 1 ≤ N ∧ N ≤ 1000 := by have := hOk.lenX; omega
  have tb := tmod_bounds b N (by omega)
  obtain ⟨t1, ht1⟩ : ∃ t, b.tmod N = t := ⟨_, rfl⟩
  rw [ht1] at tb
  obtain ⟨q, hq⟩ : ∃ q : Nat, (q : Int) = t1 + N := ⟨(t1 + N).toNat, by omega⟩
  have g1 : IntKind.i64.wrap (t1 + (N : Int)) = (q : Int) := by rw [hq]; exact wrap_small _ (by omega) (by omega)
  obtain ⟨p, hp⟩ : ∃ p : Nat, (p : Int) = (q : Int).tmod N := ⟨((q : Int).tmod N).toNat, by rw [Int.tmod_eq_emod_of_nonneg (by omega)]; have := Int.emod_nonneg (q : Int) (b := (N : Int)) (by omega); omega⟩
  have hpE : (p : Int) = b % (N : Int) := by
    rw [hp, Int.tmod_eq_emod_of_nonneg (by omega), hq, tb.2.2, show b - (N : Int) * b.tdiv N + N = b + N * (1 - b.tdiv N) by rw [Int.mul_sub, Int.mul_one]; omega]
    exact Int.add_mul_emod_self_left _ _ _
  have hpN : p < N := by have := Int.emod_lt_of_pos b (show (0 : Int) < N by omega); omega
  have g2 : (q : Int).tmod (N : Int) = (p : Int) := hp.symm
  have g2' : (q : Int) % (N : Int) = (p : Int) := by rw [hp, Int.tmod_eq_emod_of_nonneg (by omega)]
  have hNz : ¬ (N : Int) = 0 := by omega
  have hNzb : ((N : Int) == 0) = false := by simpa using hNz
  have hNz' : ¬ N = 0 := by omega
  have HpE := Lib.hid hpE
  obtain ⟨B6, hB6⟩ : ∃ k, k = w1.heap.size := ⟨_, rfl⟩
  obtain ⟨w5, hw5⟩ : ∃ u, u = w1.alloc (.cells #[.int .i64 (N : Nat), .slice none 0 0, .slice none 0 0, .slice none 0 0] 25) := ⟨_, rfl⟩
  have hb5 : Below w1.heap.size w1 w5 := by rw [hw5]; exact (Below.refl _ _).alloc (Nat.le_refl _) _
  have K6 : Blk w5 B6 #[.int .i64 (N : Nat), .slice none 0 0, .slice none 0 0, .slice none 0 0] 25 (0, 0) := by rw [hw5, hB6]; exact Blk.new _ _ _ _
  have hI0 : OutI w1 B6 (.slice none 0 0) (.slice none 0 0) (.slice none 0 0) ⟨(N : Nat), mvL N b r.X 0, mvL N b r.Y 0, []⟩ w5 := ⟨K6, ⟨⟨rfl, .inl ⟨rfl, rfl⟩⟩, ⟨rfl, .inl ⟨rfl, rfl⟩⟩, ⟨rfl, .inl ⟨rfl, rfl⟩⟩, fun _ h => by cases h⟩, ⟨hb5.os, hb5.tape, hb5.output, hb5.size, fun k hk _ => hb5.block k hk⟩⟩
  have HI0 := Lib.hid hI0; have HW5 := Lib.hid hw5; have HE6 := Lib.hid hB6; have HL6 := Lib.hid (show w1.heap.size ≤ B6 by omega)
  clear hok hz hOk hN tb hq hp hpE hb5 K6 hI0 hw5
  rw [← HN.out] at HK2'
  go_wp2_with fail
  rw [← HW5.out, ← HE6.out]
  clear hB6 HW5 HE6 c0 c1 c2 c3 g1 ht1 hqb hfld
  go_loopw [7] (fun i wr => ∃ (k : Nat) (vx vy : Value), k ≤ N ∧ i = .int .i64 k ∧ Hid (OutI w1 B6 vx vy (.slice none 0 0) ⟨(N : Nat), mvL N b r.X k, mvL N b r.Y k, []⟩ wr)) (fun i _ => N - (intOf i).toNat)
  case atStart => exact ⟨0, _, _, by omega, rfl, HI0⟩
  clear HI0
  obtain ⟨k, vx, vy, hk, rfl, HI⟩ := hrel
  by_cases hkn : k < N
  case pos =>
    have hkb : decide ((k : Int) < (N : Int)) = true := decide_eq_true (by omega)
    obtain ⟨m, hm⟩ : ∃ m : Nat, (m : Int) = mvI N (-b) k := ⟨(mvI N (-b) k).toNat, by have := mvI_range N (-b) k (by omega); omega⟩
    have hmN : m < N := by have := mvI_range N (-b) k (by omega); omega
    have j1 : IntKind.i64.wrap ((k : Int) + (N : Int)) = ((k + N : Nat) : Int) := by rw [IntKind.wrap_i64]; omega
    have j2 : IntKind.i64.wrap (((k + N : Nat) : Int) - (p : Int)) = ((k + N - p : Nat) : Int) := by rw [IntKind.wrap_i64]; omega
    have j2' : IntKind.i64.wrap ((k : Int) + (N : Int) - (p : Int)) = ((k + N - p : Nat) : Int) := by rw [IntKind.wrap_i64]; omega
    have hmE : (m : Int) = ((k + N - p : Nat) : Int) % (N : Int) := by
      rw [hm]
      unfold mvI
      rw [show ((k + N - p : Nat) : Int) = (k : Int) + N - p by omega, HpE.out]
      have e1 : b % (N : Int) = b - N * (b / N) := Int.emod_def b N
      rw [e1, show (k : Int) + N - (b - N * (b / N)) = ((k : Int) + -b) + N * (1 + b / N) by rw [Int.mul_add, Int.mul_one]; omega]
      exact (Int.add_mul_emod_self_left _ _ _).symm
    have j3 : ((k + N - p : Nat) : Int).tmod (N : Int) = (m : Int) := by rw [Int.tmod_eq_emod_of_nonneg (by omega), hmE]
    have j3' : ((k + N - p : Nat) : Int) % (N : Int) = (m : Int) := hmE.symm
    have j4 : IntKind.i64.wrap (m : Int) = (m : Int) := wrap_small _ (by omega) (by omega)
    have ik1 : IntKind.i64.wrap ((k : Int) + 1) = ((k + 1 : Nat) : Int) := by rw [IntKind.wrap_i64]; omega
    have hmt : (mvI N (-b) k).toNat = m := by rw [← hm]; exact Int.toNat_natCast m
    have lX : (r.X.length : Int) = (N : Int) := by rw [HOk.out.lenX, HN.out]
    have lY : (r.Y.length : Int) = (N : Int) := by rw [HOk.out.lenY, HN.out]
    have hmX : m < r.X.length := by omega
    have hmY : m < r.Y.length := by omega
    have im0 : (0 : Int) ≤ (m : Int) := by omega
    have imX : (m : Int) < (r.X.length : Int) := by omega
    have imY : (m : Int) < (r.Y.length : Int) := by omega
    have sX : mvL N b r.X (k + 1) = mvL N b r.X k ++ [r.X[m]] := by
      have h := mvL_succ N b r.X k (by rw [hmt]; exact hmX)
      rw [h]; simp only [hmt]
    have sY : mvL N b r.Y (k + 1) = mvL N b r.Y k ++ [r.Y[m]] := by
      have h := mvL_succ N b r.Y k (by rw [hmt]; exact hmY)
      rw [h]; simp only [hmt]
    obtain ⟨x, hx⟩ : ∃ x, x = r.X[m] := ⟨_, rfl⟩
    obtain ⟨y, hy⟩ : ∃ y, y = r.Y[m] := ⟨_, rfl⟩
    rw [← hx] at sX; rw [← hy] at sY
    have HSx := Lib.hid sX; have HSy := Lib.hid sY; have Hx := Lib.hid hx; have Hy := Lib.hid hy
    clear hm hmE hmt lX lY sX sY hx hy
    have hbr := below_of (Below.refl _ _) HI.out.kept HL6.out
    obtain ⟨bb, oo, ea, dd⟩ := (HX.out.keep ((KpC.of_below HB1.out).trans (KpC.of_below hbr))).at m hmX
    rw [← Hx.out] at dd
    obtain ⟨fa, fc, rfl, _⟩ := ownForm HI.out.own.1
    obtain ⟨wa, hwa⟩ : ∃ wa, wa = wr.drew.alloc (.cells #[.int .i64 x] 2) := ⟨_, rfl⟩
    have hba : Below wr.heap.size wr wa := by rw [hwa]; exact ((Below.refl _ wr).drew).alloc (Nat.le_refl _) _
    have hBa : Blk wa wr.heap.size (inC x).toArray 2 (0, 0) := by rw [hwa]; exact Blk.new wr.drew _ _ _
    obtain ⟨v1, W1, hr1, ⟨a1, n1, c1', hv1⟩, hbo, hkg, hI1⟩ := (HI.out.below hba).pushX hBa (by dsimp only; rw [mvL_len]; omega)
    subst hv1
    have hba1 := hbr.next' hba
    have hown := HI.out.own.1
    have hbW := grown_below hba1 hkg hba1.size (fun j hj => (ownsRow_blk' hown hj).1)
    have k2 := fun u (hu : Below w1.heap.size w1 u) => (HK2'.out.below hu HK2'.out.lt).cell 1
    have cc := fun u (hu : Below w1.heap.size w1 u) => (HX.out.keep ((KpC.of_below HB1.out).trans (KpC.of_below hu))).at m hmX
    have hSb : ∀ u, Below w1.heap.size w1 u → (u.cell? ⟨B2, 1, none⟩ = some (.slice xa r.X.length xc) ∧ u.cell? ⟨bb, oo + m, none⟩ = some (.int .i64 x)) := fun u hu => by
      refine ⟨k2 u hu, ?_⟩
      obtain ⟨b2, o2, e2, d2⟩ := cc u hu
      rw [ea] at e2
      obtain ⟨rfl, rfl⟩ : bb = b2 ∧ oo = o2 := by simpa using e2
      rw [Hx.out]; exact d2
    have kB := HI.out.blk.cell 1
    change wr.cell? ⟨B6, 1, none⟩ = some (.slice fa (mvL N b r.X k).length fc) at kB
    have kBa := (HI.out.below hba).blk.cell 1
    change wa.cell? ⟨B6, 1, none⟩ = some (.slice fa (mvL N b r.X k).length fc) at kBa
    have kB1 := hbo.cell 1
    change W1.cell? ⟨B6, 1, none⟩ = some (.slice fa (mvL N b r.X k).length fc) at kB1
    have ff1 := hbo.free 1 (Or.inr (Nat.zero_le _))
    have h0 : (wr.drew.cell? ⟨B6, 1, none⟩ = some (.slice fa (mvL N b r.X k).length fc) ∧ (wr.drew.cell? ⟨B2, 1, none⟩ = some (.slice xa r.X.length xc) ∧ wr.drew.cell? ⟨bb, oo + m, none⟩ = some (.int .i64 x))) := ⟨kB, hSb wr.drew hbr.drew⟩
    have h1 : (wa.cell? ⟨B6, 1, none⟩ = some (.slice fa (mvL N b r.X k).length fc) ∧ (wa.cell? ⟨B2, 1, none⟩ = some (.slice xa r.X.length xc) ∧ wa.cell? ⟨bb, oo + m, none⟩ = some (.int .i64 x))) := ⟨kBa, hSb wa hba1⟩
    have h2 : (W1.cell? ⟨B6, 1, none⟩ = some (.slice fa (mvL N b r.X k).length fc) ∧ (W1.cell? ⟨B2, 1, none⟩ = some (.slice xa r.X.length xc) ∧ W1.cell? ⟨bb, oo + m, none⟩ = some (.int .i64 x))) := ⟨kB1, hSb W1 hbW⟩
    dsimp only at hI1
    have HH0 := Lib.hid h0; have HH1 := Lib.hid h1; have HH2 := Lib.hid h2; have HR1 := Lib.hid hr1; have HWa := Lib.hid hwa; have HI1 := Lib.hid hI1
    obtain ⟨c1, dd⟩ := hSb wr hbr
    subst ea
    clear hwa hba hBa hr1 hbo hkg hI1 hba1 hbW k2 cc hSb kBa h0 h1 h2 hown hbr
    go_wp2_with fail
    have hS0 := HH0.out
    refine wp_region_heldD (fun w' => (w'.cell? ⟨B6, 1, none⟩ = some (.slice fa (mvL N b r.X k).length fc) ∧ (w'.cell? ⟨B2, 1, none⟩ = some (.slice (some ⟨bb, oo, none⟩) r.X.length xc) ∧ w'.cell? ⟨bb, oo + m, none⟩ = some (.int .i64 x)))) 10 rfl ?_
    change heldD _ _ _ _ _ _ _ 11 _ _ wr.drew
    refine heldD_takeF (i := 0) (v := .pointer (some ⟨B6, 1, none⟩)) rfl rfl rfl (by kernel_rfl) (by kernel_rfl) (by kernel_rfl) (by kernel_rfl) (fun _ _ _ h => h) (by rfl) (fun w => ⟨by rfl, by go_simp⟩) (fun _ => hS0) ?_
    simp only [List.setIfInBounds_toArray, List.set_cons_zero, List.set_cons_succ]
    refine heldD_take (i := 1) (v := .slice fa (mvL N b r.X k).length fc) rfl rfl rfl (by kernel_rfl) (by kernel_rfl) (by kernel_rfl) (by kernel_rfl) (by kernel_rfl) (by kernel_rfl) (fun _ _ _ h => h) (by rfl) (fun w hS => ⟨by rfl, by obtain ⟨hS1, hS2, hS3⟩ := hS; go_simp⟩) hS0 ?_
    simp only [List.setIfInBounds_toArray, List.set_cons_zero, List.set_cons_succ]
    refine heldD_takeF (i := 2) (v := .pointer (some ⟨B2, 1, none⟩)) rfl rfl rfl (by kernel_rfl) (by kernel_rfl) (by kernel_rfl) (by kernel_rfl) (fun _ _ _ h => h) (by rfl) (fun w => ⟨by rfl, by go_simp⟩) (fun _ => hS0) ?_
    simp only [List.setIfInBounds_toArray, List.set_cons_zero, List.set_cons_succ]
    refine heldD_take (i := 3) (v := .slice (some ⟨bb, oo, none⟩) r.X.length xc) rfl rfl rfl (by kernel_rfl) (by kernel_rfl) (by kernel_rfl) (by kernel_rfl) (by kernel_rfl) (by kernel_rfl) (fun _ _ _ h => h) (by rfl) (fun w hS => ⟨by rfl, by obtain ⟨hS1, hS2, hS3⟩ := hS; go_simp⟩) hS0 ?_
    simp only [List.setIfInBounds_toArray, List.set_cons_zero, List.set_cons_succ]
    refine heldD_takeF (i := 4) (v := .int .i64 (m : Nat)) rfl rfl rfl (by kernel_rfl) (by kernel_rfl) (by kernel_rfl) (by kernel_rfl) (fun _ _ _ h => h) (by rfl) (fun w => ⟨by rfl, by go_simp⟩) (fun _ => hS0) ?_
    simp only [List.setIfInBounds_toArray, List.set_cons_zero, List.set_cons_succ]
    refine heldD_takeF (i := 5) (v := .pointer (some ⟨bb, oo + m, none⟩)) rfl rfl rfl (by kernel_rfl) (by kernel_rfl) (by kernel_rfl) (by kernel_rfl) (fun _ _ _ h => h) (by rfl) (fun w => ⟨by rfl, by go_simp⟩) (fun _ => hS0) ?_
    simp only [List.setIfInBounds_toArray, List.set_cons_zero, List.set_cons_succ]
    refine heldD_take (i := 6) (v := .int .i64 x) rfl rfl rfl (by kernel_rfl) (by kernel_rfl) (by kernel_rfl) (by kernel_rfl) (by kernel_rfl) (by kernel_rfl) (fun _ _ _ h => h) (by rfl) (fun w hS => ⟨by rfl, by obtain ⟨hS1, hS2, hS3⟩ := hS; go_simp⟩) hS0 ?_
    simp only [List.setIfInBounds_toArray, List.set_cons_zero, List.set_cons_succ]
    refine heldD_one (i := 7) (by kernel_rfl) ?_
    refine wpOpIn_value (v := .slice (some ⟨wr.heap.size, 0, none⟩) 1 1) (w' := wa) rfl rfl rfl (by rfl) (by rfl) (by rw [HWa.out]; go_simp) ?_
    refine ⟨fun _ => HH1.out, ?_⟩
    simp only [List.setIfInBounds_toArray, List.set_cons_zero, List.set_cons_succ]
    refine heldD_one (i := 8) (by kernel_rfl) ?_
    refine wpOpIn_append rfl rfl rfl (by rfl) _ _ _ _ rfl HR1.out ?_
    refine ⟨fun _ => HH2.out, ?_⟩
    simp only [List.setIfInBounds_toArray, List.set_cons_zero, List.set_cons_succ]
    refine heldD_takeF (i := 9) (v := .pointer (some ⟨B6, 1, none⟩)) rfl rfl rfl (by kernel_rfl) (by kernel_rfl) (by kernel_rfl) (by kernel_rfl) (fun _ _ _ h => h) (by rfl) (fun w => ⟨by rfl, by go_simp⟩) (fun _ => HH2.out) ?_
    simp only [List.setIfInBounds_toArray, List.set_cons_zero, List.set_cons_succ]
    refine heldD_one (i := 10) (by kernel_rfl) ?_
    refine wpOpIn_skip (w' := W1.setCell ⟨B6, 1, none⟩ (.slice a1 n1 c1')) rfl rfl rfl (by rfl) (by rfl) (by go_simp) ?_
    refine ⟨fun h => (by cases h), ?_⟩
    refine heldD_done (by kernel_rfl) ?_ _
    clear hS0 kB kB1 ff1 c1 dd HH0 HH1 HH2 HR1 HWa
    generalize W1.setCell ⟨B6, 1, none⟩ (.slice a1 n1 c1') = W2 at *
    rw [← HSx.out] at HI1
    have HI := HI1
    clear HI1
    have hbr := below_of (Below.refl _ _) HI.out.kept HL6.out
    obtain ⟨bb, oo, ea, dd⟩ := (HY.out.keep ((KpC.of_below HB1.out).trans (KpC.of_below hbr))).at m hmY
    rw [← Hy.out] at dd
    obtain ⟨fa, fc, rfl, _⟩ := ownForm HI.out.own.2.1
    obtain ⟨wa, hwa⟩ : ∃ wa, wa = W2.drew.alloc (.cells #[.int .i64 y] 2) := ⟨_, rfl⟩
    have hba : Below W2.heap.size W2 wa := by rw [hwa]; exact ((Below.refl _ W2).drew).alloc (Nat.le_refl _) _
    have hBa : Blk wa W2.heap.size (inC y).toArray 2 (0, 0) := by rw [hwa]; exact Blk.new W2.drew _ _ _
    obtain ⟨v1, W1, hr1, ⟨a1, n1, c1', hv1⟩, hbo, hkg, hI1⟩ := (HI.out.below hba).pushY hBa (by dsimp only; rw [mvL_len]; omega)
    subst hv1
    have hba1 := hbr.next' hba
    have hown := HI.out.own.2.1
    have hbW := grown_below hba1 hkg hba1.size (fun j hj => (ownsRow_blk' hown hj).1)
    have k2 := fun u (hu : Below w1.heap.size w1 u) => (HK2'.out.below hu HK2'.out.lt).cell 2
    have cc := fun u (hu : Below w1.heap.size w1 u) => (HY.out.keep ((KpC.of_below HB1.out).trans (KpC.of_below hu))).at m hmY
    have hSb : ∀ u, Below w1.heap.size w1 u → (u.cell? ⟨B2, 2, none⟩ = some (.slice ya r.Y.length yc) ∧ u.cell? ⟨bb, oo + m, none⟩ = some (.int .i64 y)) := fun u hu => by
      refine ⟨k2 u hu, ?_⟩
      obtain ⟨b2, o2, e2, d2⟩ := cc u hu
      rw [ea] at e2
      obtain ⟨rfl, rfl⟩ : bb = b2 ∧ oo = o2 := by simpa using e2
      rw [Hy.out]; exact d2
    have kB := HI.out.blk.cell 2
    change W2.cell? ⟨B6, 2, none⟩ = some (.slice fa (mvL N b r.Y k).length fc) at kB
    have kBa := (HI.out.below hba).blk.cell 2
    change wa.cell? ⟨B6, 2, none⟩ = some (.slice fa (mvL N b r.Y k).length fc) at kBa
    have kB1 := hbo.cell 2
    change W1.cell? ⟨B6, 2, none⟩ = some (.slice fa (mvL N b r.Y k).length fc) at kB1
    have ff1 := hbo.free 2 (Or.inr (Nat.zero_le _))
    have h0 : (W2.drew.cell? ⟨B6, 2, none⟩ = some (.slice fa (mvL N b r.Y k).length fc) ∧ (W2.drew.cell? ⟨B2, 2, none⟩ = some (.slice ya r.Y.length yc) ∧ W2.drew.cell? ⟨bb, oo + m, none⟩ = some (.int .i64 y))) := ⟨kB, hSb W2.drew hbr.drew⟩
    have h1 : (wa.cell? ⟨B6, 2, none⟩ = some (.slice fa (mvL N b r.Y k).length fc) ∧ (wa.cell? ⟨B2, 2, none⟩ = some (.slice ya r.Y.length yc) ∧ wa.cell? ⟨bb, oo + m, none⟩ = some (.int .i64 y))) := ⟨kBa, hSb wa hba1⟩
    have h2 : (W1.cell? ⟨B6, 2, none⟩ = some (.slice fa (mvL N b r.Y k).length fc) ∧ (W1.cell? ⟨B2, 2, none⟩ = some (.slice ya r.Y.length yc) ∧ W1.cell? ⟨bb, oo + m, none⟩ = some (.int .i64 y))) := ⟨kB1, hSb W1 hbW⟩
    dsimp only at hI1
    have HH0 := Lib.hid h0; have HH1 := Lib.hid h1; have HH2 := Lib.hid h2; have HR1 := Lib.hid hr1; have HWa := Lib.hid hwa; have HI1 := Lib.hid hI1
    obtain ⟨c1, dd⟩ := hSb W2 hbr
    subst ea
    clear hwa hba hBa hr1 hbo hkg hI1 hba1 hbW k2 cc hSb kBa h0 h1 h2 hown hbr
    go_wp2_with fail
    have hS0 := HH0.out
    refine wp_region_heldD (fun w' => (w'.cell? ⟨B6, 2, none⟩ = some (.slice fa (mvL N b r.Y k).length fc) ∧ (w'.cell? ⟨B2, 2, none⟩ = some (.slice (some ⟨bb, oo, none⟩) r.Y.length yc) ∧ w'.cell? ⟨bb, oo + m, none⟩ = some (.int .i64 y)))) 10 rfl ?_
    change heldD _ _ _ _ _ _ _ 11 _ _ W2.drew
    refine heldD_takeF (i := 0) (v := .pointer (some ⟨B6, 2, none⟩)) rfl rfl rfl (by kernel_rfl) (by kernel_rfl) (by kernel_rfl) (by kernel_rfl) (fun _ _ _ h => h) (by rfl) (fun w => ⟨by rfl, by go_simp⟩) (fun _ => hS0) ?_
    simp only [List.setIfInBounds_toArray, List.set_cons_zero, List.set_cons_succ]
    refine heldD_take (i := 1) (v := .slice fa (mvL N b r.Y k).length fc) rfl rfl rfl (by kernel_rfl) (by kernel_rfl) (by kernel_rfl) (by kernel_rfl) (by kernel_rfl) (by kernel_rfl) (fun _ _ _ h => h) (by rfl) (fun w hS => ⟨by rfl, by obtain ⟨hS1, hS2, hS3⟩ := hS; go_simp⟩) hS0 ?_
    simp only [List.setIfInBounds_toArray, List.set_cons_zero, List.set_cons_succ]
    refine heldD_takeF (i := 2) (v := .pointer (some ⟨B2, 2, none⟩)) rfl rfl rfl (by kernel_rfl) (by kernel_rfl) (by kernel_rfl) (by kernel_rfl) (fun _ _ _ h => h) (by rfl) (fun w => ⟨by rfl, by go_simp⟩) (fun _ => hS0) ?_
    simp only [List.setIfInBounds_toArray, List.set_cons_zero, List.set_cons_succ]
    refine heldD_take (i := 3) (v := .slice (some ⟨bb, oo, none⟩) r.Y.length yc) rfl rfl rfl (by kernel_rfl) (by kernel_rfl) (by kernel_rfl) (by kernel_rfl) (by kernel_rfl) (by kernel_rfl) (fun _ _ _ h => h) (by rfl) (fun w hS => ⟨by rfl, by obtain ⟨hS1, hS2, hS3⟩ := hS; go_simp⟩) hS0 ?_
    simp only [List.setIfInBounds_toArray, List.set_cons_zero, List.set_cons_succ]
    refine heldD_takeF (i := 4) (v := .int .i64 (m : Nat)) rfl rfl rfl (by kernel_rfl) (by kernel_rfl) (by kernel_rfl) (by kernel_rfl) (fun _ _ _ h => h) (by rfl) (fun w => ⟨by rfl, by go_simp⟩) (fun _ => hS0) ?_
    simp only [List.setIfInBounds_toArray, List.set_cons_zero, List.set_cons_succ]
    refine heldD_takeF (i := 5) (v := .pointer (some ⟨bb, oo + m, none⟩)) rfl rfl rfl (by kernel_rfl) (by kernel_rfl) (by kernel_rfl) (by kernel_rfl) (fun _ _ _ h => h) (by rfl) (fun w => ⟨by rfl, by go_simp⟩) (fun _ => hS0) ?_
    simp only [List.setIfInBounds_toArray, List.set_cons_zero, List.set_cons_succ]
    refine heldD_take (i := 6) (v := .int .i64 y) rfl rfl rfl (by kernel_rfl) (by kernel_rfl) (by kernel_rfl) (by kernel_rfl) (by kernel_rfl) (by kernel_rfl) (fun _ _ _ h => h) (by rfl) (fun w hS => ⟨by rfl, by obtain ⟨hS1, hS2, hS3⟩ := hS; go_simp⟩) hS0 ?_
    simp only [List.setIfInBounds_toArray, List.set_cons_zero, List.set_cons_succ]
    refine heldD_one (i := 7) (by kernel_rfl) ?_
    refine wpOpIn_value (v := .slice (some ⟨W2.heap.size, 0, none⟩) 1 1) (w' := wa) rfl rfl rfl (by rfl) (by rfl) (by rw [HWa.out]; go_simp) ?_
    refine ⟨fun _ => HH1.out, ?_⟩
    simp only [List.setIfInBounds_toArray, List.set_cons_zero, List.set_cons_succ]
    refine heldD_one (i := 8) (by kernel_rfl) ?_
    refine wpOpIn_append rfl rfl rfl (by rfl) _ _ _ _ rfl HR1.out ?_
    refine ⟨fun _ => HH2.out, ?_⟩
    simp only [List.setIfInBounds_toArray, List.set_cons_zero, List.set_cons_succ]
    refine heldD_takeF (i := 9) (v := .pointer (some ⟨B6, 2, none⟩)) rfl rfl rfl (by kernel_rfl) (by kernel_rfl) (by kernel_rfl) (by kernel_rfl) (fun _ _ _ h => h) (by rfl) (fun w => ⟨by rfl, by go_simp⟩) (fun _ => HH2.out) ?_
    simp only [List.setIfInBounds_toArray, List.set_cons_zero, List.set_cons_succ]
    refine heldD_one (i := 10) (by kernel_rfl) ?_
    refine wpOpIn_skip (w' := W1.setCell ⟨B6, 2, none⟩ (.slice a1 n1 c1')) rfl rfl rfl (by rfl) (by rfl) (by go_simp) ?_
    refine ⟨fun h => (by cases h), ?_⟩
    refine heldD_done (by kernel_rfl) ?_ _
    clear hS0 kB kB1 ff1 c1 dd HH0 HH1 HH2 HR1 HWa
    generalize W1.setCell ⟨B6, 2, none⟩ (.slice a1 n1 c1') = W3 at *
    rw [← HSy.out] at HI1
    go_wp2_with fail
    go_roundw
    case rel => exact ⟨k + 1, _, _, by omega, by go_num, HI1⟩
    case measure => simp [intOf]; omega
  case neg =>
  obtain rfl : N = k := by omega
  have hkb : decide ((N : Int) < (N : Int)) = false := decide_eq_false (by omega)
  obtain ⟨fxa, fxc, rfl, _⟩ := ownForm HI.out.own.1
  obtain ⟨fya, fyc, rfl, _⟩ := ownForm HI.out.own.2.1
  dsimp only at HI
  go_wp2_with fail
  go_loopw [9] (fun i wr => ∃ (k : Nat) (va : Value), k ≤ r.arcs.length ∧ i = .int .i64 k ∧ Hid (OutI w1 B6 (.slice fxa (mvL N b r.X N).length fxc) (.slice fya (mvL N b r.Y N).length fyc) va ⟨(N : Nat), mvL N b r.X N, mvL N b r.Y N, (r.arcs.take k).map (mvB N b)⟩ wr)) (fun i _ => r.arcs.length - (intOf i).toNat)
  case atStart => exact ⟨0, _, by omega, rfl, HI⟩
  clear HI hkb
  obtain ⟨k, va, hk, rfl, HI⟩ := hrel
  have hbr := below_of (Below.refl _ _) HI.out.kept HL6.out
  have HBr := Lib.hid hbr
  have k2 := HK2'.out.below hbr HK2'.out.lt
  have c3 := k2.cell 3
  change wr.cell? ⟨B2, 3, none⟩ = some (.slice za r.arcs.length zc) at c3
  clear k2 hbr
  by_cases hkn : k < r.arcs.length
  case pos =>
    have hkb : decide ((k : Int) < (r.arcs.length : Int)) = true := decide_eq_true (by omega)
    obtain ⟨bz, oz, rfl, d0, d1, d2⟩ := (HA.out.keep ((KpC.of_below HB1.out).trans (KpC.of_below HBr.out))).at k hkn
    have ik0 : (0 : Int) ≤ (k : Int) := by omega
    have ikA : (k : Int) < (r.arcs.length : Int) := by omega
    have ik1 : IntKind.i64.wrap ((k : Int) + 1) = ((k + 1 : Nat) : Int) := by rw [IntKind.wrap_i64]; omega
    have hao := HOk.out.arc _ (List.getElem_mem hkn)
    have htk : (r.arcs.take (k + 1)).map (mvB N b) = (r.arcs.take k).map (mvB N b) ++ [mvB N b r.arcs[k]] := by rw [List.take_succ_eq_append_getElem hkn, List.map_append]; rfl
    obtain ⟨a, hae⟩ : ∃ a, a = r.arcs[k] := ⟨_, rfl⟩
    rw [← hae] at d0 d1 d2 hao htk
    obtain ⟨x0, x1, x2⟩ := a
    dsimp only at d0 d1 d2
    obtain ⟨ha0, ha1, ha2⟩ := hao
    dsimp only at ha0 ha1 ha2
    rw [← HN.out] at ha0 ha1
    have mve : ∀ x : Int, 0 ≤ x ∧ x < (N : Int) → ∃ m : Nat, (m : Int) = mvI N b x ∧ (x + (p : Int)).tmod (N : Int) = (m : Int) ∧ IntKind.i64.wrap (x + (p : Int)) = x + (p : Int) ∧ IntKind.i64.wrap (m : Int) = (m : Int) := fun x hx => by
      have hr := mvI_range N b x (by omega)
      refine ⟨(mvI N b x).toNat, by omega, ?_, wrap_small _ (by omega) (by omega), wrap_small _ (by omega) (by omega)⟩
      rw [Int.tmod_eq_emod_of_nonneg (by omega), HpE.out, Int.toNat_of_nonneg hr.1, Int.add_comm, Int.emod_add_emod, Int.add_comm]; rfl
    obtain ⟨m0, hm0, u0, v0, s0⟩ := mve x0 ha0
    obtain ⟨m1, hm1, u1, v1, s1⟩ := mve x1 ha1
    have hmv : mvB N b (x0, x1, x2) = ((m0 : Int), (m1 : Int), x2) := by unfold mvB; dsimp only; rw [← hm0, ← hm1]
    rw [hmv] at htk
    have HTk := Lib.hid htk
    clear hae htk hm0 hm1 hmv mve ha0 ha1 ha2
    obtain ⟨fa, fc, rfl, _⟩ := ownForm HI.out.own.2.2.1
    obtain ⟨B10, hB10⟩ : ∃ q, q = wr.heap.size := ⟨_, rfl⟩
    obtain ⟨wb, hwb⟩ : ∃ u, u = wr.alloc (.cells #[.int .i64 x0, .int .i64 x1, .int .i64 x2] 54) := ⟨_, rfl⟩
    have hbb : Below wr.heap.size wr wb := by rw [hwb]; exact (Below.refl _ _).alloc (Nat.le_refl _) _
    have K10 : Blk wb B10 #[.int .i64 x0, .int .i64 x1, .int .i64 x2] 54 (0, 0) := by rw [hwb, hB10]; exact Blk.new _ _ _ _
    obtain ⟨wa, hwa⟩ : ∃ wa, wa = wb.drew.alloc (.cells #[.int .i64 (m0 : Nat), .int .i64 (m1 : Nat), .int .i64 x2] 54) := ⟨_, rfl⟩
    have hba : Below wb.heap.size wb wa := by rw [hwa]; exact ((Below.refl _ wb).drew).alloc (Nat.le_refl _) _
    have hBa : Blk wa wb.heap.size (arC (((m0 : Int), (m1 : Int), x2) : Ar)).toArray 54 (0, 0) := by rw [hwa]; exact Blk.new wb.drew _ _ _
    have hIb := HI.out.below hbb
    obtain ⟨v1', W1, hr1, ⟨a1, n1, c1', hv1⟩, hbo, hkg, hI1⟩ := (hIb.below hba).pushA hBa (by dsimp only; rw [List.length_map, List.length_take]; omega)
    subst hv1
    dsimp only at hI1
    rw [← HTk.out] at hI1
    have hne : some B10 ≠ (Value.slice fa ((r.arcs.take k).map (mvB N b)).length fc).ownBlock := fun e => by
      have := (ownsRow_blk' HI.out.own.2.2.1 e.symm).2.choose_spec.lt; omega
    have k10a := K10.below hba K10.lt
    have k10w := (hkg.block B10 k10a.lt hne).trans k10a
    have kB := hIb.blk.cell 3
    change wb.cell? ⟨B6, 3, none⟩ = some (.slice fa ((r.arcs.take k).map (mvB N b)).length fc) at kB
    have kBa := (hIb.below hba).blk.cell 3
    change wa.cell? ⟨B6, 3, none⟩ = some (.slice fa ((r.arcs.take k).map (mvB N b)).length fc) at kBa
    have kB1 := hbo.cell 3
    change W1.cell? ⟨B6, 3, none⟩ = some (.slice fa ((r.arcs.take k).map (mvB N b)).length fc) at kB1
    have ff1 := hbo.free 3 (Or.inr (Nat.zero_le _))
    have h0 : (wb.drew.cell? ⟨B6, 3, none⟩ = some (.slice fa ((r.arcs.take k).map (mvB N b)).length fc) ∧ wb.drew.cell? ⟨B10, 0, none⟩ = some (.int .i64 x0) ∧ wb.drew.cell? ⟨B10, 1, none⟩ = some (.int .i64 x1) ∧ wb.drew.cell? ⟨B10, 2, none⟩ = some (.int .i64 x2)) := ⟨kB, K10.cell 0, K10.cell 1, K10.cell 2⟩
    have h1 : (wa.cell? ⟨B6, 3, none⟩ = some (.slice fa ((r.arcs.take k).map (mvB N b)).length fc) ∧ wa.cell? ⟨B10, 0, none⟩ = some (.int .i64 x0) ∧ wa.cell? ⟨B10, 1, none⟩ = some (.int .i64 x1) ∧ wa.cell? ⟨B10, 2, none⟩ = some (.int .i64 x2)) := ⟨kBa, k10a.cell 0, k10a.cell 1, k10a.cell 2⟩
    have h2 : (W1.cell? ⟨B6, 3, none⟩ = some (.slice fa ((r.arcs.take k).map (mvB N b)).length fc) ∧ W1.cell? ⟨B10, 0, none⟩ = some (.int .i64 x0) ∧ W1.cell? ⟨B10, 1, none⟩ = some (.int .i64 x1) ∧ W1.cell? ⟨B10, 2, none⟩ = some (.int .i64 x2)) := ⟨kB1, Blk.cell k10w 0, Blk.cell k10w 1, Blk.cell k10w 2⟩
    have HH0 := Lib.hid h0; have HH1 := Lib.hid h1; have HH2 := Lib.hid h2; have HR1 := Lib.hid hr1; have HWa := Lib.hid hwa; have HI1 := Lib.hid hI1; have HWb := Lib.hid hwb; have HE10 := Lib.hid hB10
    clear hwa hba hBa hr1 hbo hkg hI1 kBa h0 h1 h2 hwb hB10 hbb K10 hIb hne k10a k10w
    go_wp2_with fail
    rw [← HWb.out, ← HE10.out]
    clear HWb HE10
    have hS0 := HH0.out
    refine wp_region_heldD (fun w' => (w'.cell? ⟨B6, 3, none⟩ = some (.slice fa ((r.arcs.take k).map (mvB N b)).length fc) ∧ w'.cell? ⟨B10, 0, none⟩ = some (.int .i64 x0) ∧ w'.cell? ⟨B10, 1, none⟩ = some (.int .i64 x1) ∧ w'.cell? ⟨B10, 2, none⟩ = some (.int .i64 x2))) 20 rfl ?_
    change heldD _ _ _ _ _ _ _ 21 _ _ wb.drew
    refine heldD_takeF (i := 0) (v := .pointer (some ⟨B6, 3, none⟩)) rfl rfl rfl (by kernel_rfl) (by kernel_rfl) (by kernel_rfl) (by kernel_rfl) (fun _ _ _ h => h) (by rfl) (fun w => ⟨by rfl, by go_simp⟩) (fun _ => hS0) ?_
    simp only [List.setIfInBounds_toArray, List.set_cons_zero, List.set_cons_succ]
    refine heldD_take (i := 1) (v := .slice fa ((r.arcs.take k).map (mvB N b)).length fc) rfl rfl rfl (by kernel_rfl) (by kernel_rfl) (by kernel_rfl) (by kernel_rfl) (by kernel_rfl) (by kernel_rfl) (fun _ _ _ h => h) (by rfl) (fun w hS => ⟨by rfl, by obtain ⟨hS1, hS2, hS3, hS4⟩ := hS; go_simp⟩) hS0 ?_
    simp only [List.setIfInBounds_toArray, List.set_cons_zero, List.set_cons_succ]
    refine heldD_takeF (i := 2) (v := .pointer (some ⟨B10, 0, none⟩)) rfl rfl rfl (by kernel_rfl) (by kernel_rfl) (by kernel_rfl) (by kernel_rfl) (fun _ _ _ h => h) (by rfl) (fun w => ⟨by rfl, by go_simp⟩) (fun _ => hS0) ?_
    simp only [List.setIfInBounds_toArray, List.set_cons_zero, List.set_cons_succ]
    refine heldD_take (i := 3) (v := .int .i64 x0) rfl rfl rfl (by kernel_rfl) (by kernel_rfl) (by kernel_rfl) (by kernel_rfl) (by kernel_rfl) (by kernel_rfl) (fun _ _ _ h => h) (by rfl) (fun w hS => ⟨by rfl, by obtain ⟨hS1, hS2, hS3, hS4⟩ := hS; go_simp⟩) hS0 ?_
    simp only [List.setIfInBounds_toArray, List.set_cons_zero, List.set_cons_succ]
    refine heldD_takeF (i := 4) (v := .int .i64 (p : Nat)) rfl rfl rfl (by kernel_rfl) (by kernel_rfl) (by kernel_rfl) (by kernel_rfl) (fun _ _ _ h => h) (by rfl) (fun w => ⟨by rfl, by go_simp⟩) (fun _ => hS0) ?_
    simp only [List.setIfInBounds_toArray, List.set_cons_zero, List.set_cons_succ]
    refine heldD_takeF (i := 5) (v := .int .i64 (x0 + (p : Int))) rfl rfl rfl (by kernel_rfl) (by kernel_rfl) (by kernel_rfl) (by kernel_rfl) (fun _ _ _ h => h) (by rfl) (fun w => ⟨by rfl, by go_simp⟩) (fun _ => hS0) ?_
    simp only [List.setIfInBounds_toArray, List.set_cons_zero, List.set_cons_succ]
    refine heldD_takeF (i := 6) (v := .int .i64 (N : Nat)) rfl rfl rfl (by kernel_rfl) (by kernel_rfl) (by kernel_rfl) (by kernel_rfl) (fun _ _ _ h => h) (by rfl) (fun w => ⟨by rfl, by go_simp⟩) (fun _ => hS0) ?_
    simp only [List.setIfInBounds_toArray, List.set_cons_zero, List.set_cons_succ]
    refine heldD_takeF (i := 7) (v := .int .i64 (m0 : Nat)) rfl rfl rfl (by kernel_rfl) (by kernel_rfl) (by kernel_rfl) (by kernel_rfl) (fun _ _ _ h => h) (by rfl) (fun w => ⟨by rfl, by go_simp⟩) (fun _ => hS0) ?_
    simp only [List.setIfInBounds_toArray, List.set_cons_zero, List.set_cons_succ]
    refine heldD_takeF (i := 8) (v := .pointer (some ⟨B10, 1, none⟩)) rfl rfl rfl (by kernel_rfl) (by kernel_rfl) (by kernel_rfl) (by kernel_rfl) (fun _ _ _ h => h) (by rfl) (fun w => ⟨by rfl, by go_simp⟩) (fun _ => hS0) ?_
    simp only [List.setIfInBounds_toArray, List.set_cons_zero, List.set_cons_succ]
    refine heldD_take (i := 9) (v := .int .i64 x1) rfl rfl rfl (by kernel_rfl) (by kernel_rfl) (by kernel_rfl) (by kernel_rfl) (by kernel_rfl) (by kernel_rfl) (fun _ _ _ h => h) (by rfl) (fun w hS => ⟨by rfl, by obtain ⟨hS1, hS2, hS3, hS4⟩ := hS; go_simp⟩) hS0 ?_
    simp only [List.setIfInBounds_toArray, List.set_cons_zero, List.set_cons_succ]
    refine heldD_takeF (i := 10) (v := .int .i64 (p : Nat)) rfl rfl rfl (by kernel_rfl) (by kernel_rfl) (by kernel_rfl) (by kernel_rfl) (fun _ _ _ h => h) (by rfl) (fun w => ⟨by rfl, by go_simp⟩) (fun _ => hS0) ?_
    simp only [List.setIfInBounds_toArray, List.set_cons_zero, List.set_cons_succ]
    refine heldD_takeF (i := 11) (v := .int .i64 (x1 + (p : Int))) rfl rfl rfl (by kernel_rfl) (by kernel_rfl) (by kernel_rfl) (by kernel_rfl) (fun _ _ _ h => h) (by rfl) (fun w => ⟨by rfl, by go_simp⟩) (fun _ => hS0) ?_
    simp only [List.setIfInBounds_toArray, List.set_cons_zero, List.set_cons_succ]
    refine heldD_takeF (i := 12) (v := .int .i64 (N : Nat)) rfl rfl rfl (by kernel_rfl) (by kernel_rfl) (by kernel_rfl) (by kernel_rfl) (fun _ _ _ h => h) (by rfl) (fun w => ⟨by rfl, by go_simp⟩) (fun _ => hS0) ?_
    simp only [List.setIfInBounds_toArray, List.set_cons_zero, List.set_cons_succ]
    refine heldD_takeF (i := 13) (v := .int .i64 (m1 : Nat)) rfl rfl rfl (by kernel_rfl) (by kernel_rfl) (by kernel_rfl) (by kernel_rfl) (fun _ _ _ h => h) (by rfl) (fun w => ⟨by rfl, by go_simp⟩) (fun _ => hS0) ?_
    simp only [List.setIfInBounds_toArray, List.set_cons_zero, List.set_cons_succ]
    refine heldD_takeF (i := 14) (v := .pointer (some ⟨B10, 2, none⟩)) rfl rfl rfl (by kernel_rfl) (by kernel_rfl) (by kernel_rfl) (by kernel_rfl) (fun _ _ _ h => h) (by rfl) (fun w => ⟨by rfl, by go_simp⟩) (fun _ => hS0) ?_
    simp only [List.setIfInBounds_toArray, List.set_cons_zero, List.set_cons_succ]
    refine heldD_take (i := 15) (v := .int .i64 x2) rfl rfl rfl (by kernel_rfl) (by kernel_rfl) (by kernel_rfl) (by kernel_rfl) (by kernel_rfl) (by kernel_rfl) (fun _ _ _ h => h) (by rfl) (fun w hS => ⟨by rfl, by obtain ⟨hS1, hS2, hS3, hS4⟩ := hS; go_simp⟩) hS0 ?_
    simp only [List.setIfInBounds_toArray, List.set_cons_zero, List.set_cons_succ]
    refine heldD_takeF (i := 16) (v := .agg #[.int .i64 (m0 : Nat), .int .i64 (m1 : Nat), .int .i64 x2]) rfl rfl rfl (by kernel_rfl) (by kernel_rfl) (by kernel_rfl) (by kernel_rfl) (fun _ _ _ h => h) (by rfl) (fun w => ⟨by rfl, by go_simp⟩) (fun _ => hS0) ?_
    simp only [List.setIfInBounds_toArray, List.set_cons_zero, List.set_cons_succ]
    refine heldD_one (i := 17) (by kernel_rfl) ?_
    refine wpOpIn_value (v := .slice (some ⟨wb.heap.size, 0, none⟩) 1 1) (w' := wa) rfl rfl rfl (by rfl) (by rfl) (by rw [HWa.out]; go_simp) ?_
    refine ⟨fun _ => HH1.out, ?_⟩
    simp only [List.setIfInBounds_toArray, List.set_cons_zero, List.set_cons_succ]
    refine heldD_one (i := 18) (by kernel_rfl) ?_
    refine wpOpIn_append rfl rfl rfl (by rfl) _ _ _ _ rfl HR1.out ?_
    refine ⟨fun _ => HH2.out, ?_⟩
    simp only [List.setIfInBounds_toArray, List.set_cons_zero, List.set_cons_succ]
    refine heldD_takeF (i := 19) (v := .pointer (some ⟨B6, 3, none⟩)) rfl rfl rfl (by kernel_rfl) (by kernel_rfl) (by kernel_rfl) (by kernel_rfl) (fun _ _ _ h => h) (by rfl) (fun w => ⟨by rfl, by go_simp⟩) (fun _ => HH2.out) ?_
    simp only [List.setIfInBounds_toArray, List.set_cons_zero, List.set_cons_succ]
    refine heldD_one (i := 20) (by kernel_rfl) ?_
    refine wpOpIn_skip (w' := W1.setCell ⟨B6, 3, none⟩ (.slice a1 n1 c1')) rfl rfl rfl (by rfl) (by rfl) (by go_simp) ?_
    refine ⟨fun h => (by cases h), ?_⟩
    refine heldD_done (by kernel_rfl) ?_ _
    clear c3 d0 d1 d2 hS0 kB kB1 ff1 HH0 HH1 HH2 HR1 HWa
    generalize W1.setCell ⟨B6, 3, none⟩ (.slice a1 n1 c1') = W3 at *
    go_wp2_with fail
    go_roundw
    case rel => exact ⟨k + 1, _, by omega, by go_num, HI1⟩
    case measure => simp [intOf]; omega
  case neg =>
  obtain rfl : k = r.arcs.length := by omega
  have hkb : decide ((r.arcs.length : Int) < (r.arcs.length : Int)) = false := decide_eq_false (by omega)
  obtain ⟨fa, fc, rfl, _⟩ := ownForm HI.out.own.2.2.1
  rw [List.take_length] at HI
  dsimp only at HI
  obtain ⟨lA, hlA⟩ : ∃ q, q = (r.arcs.map (mvB N b)).length := ⟨_, rfl⟩
  rw [← hlA] at HI
  clear hlA
  have o0 := HI.out.blk.cell 0; have o1 := HI.out.blk.cell 1; have o2 := HI.out.blk.cell 2; have o3 := HI.out.blk.cell 3
  change wr.cell? ⟨B6, 0, none⟩ = some (.int .i64 (N : Nat)) at o0
  change wr.cell? ⟨B6, 1, none⟩ = some (.slice fxa (mvL N b r.X N).length fxc) at o1
  change wr.cell? ⟨B6, 2, none⟩ = some (.slice fya (mvL N b r.Y N).length fyc) at o2
  change wr.cell? ⟨B6, 3, none⟩ = some (.slice fa lA fc) at o3
  have k4 := HK4'.out.below HBr.out HK4'.out.lt
  have e0 := k4.cell 0; have e1 := k4.cell 1; have e2 := k4.cell 2; have e3 := k4.cell 3
  change wr.cell? ⟨B4, 0, none⟩ = some (.int .i64 0) at e0
  change wr.cell? ⟨B4, 1, none⟩ = some (.slice none 0 0) at e1
  change wr.cell? ⟨B4, 2, none⟩ = some (.slice none 0 0) at e2
  change wr.cell? ⟨B4, 3, none⟩ = some (.slice none 0 0) at e3
  have fr := fun i => k4.free i (Or.inr (Nat.zero_le _))
  have f0 := fr 0; have f1 := fr 1; have f2 := fr 2; have f3 := fr 3
  have hkz := (((k4.set 0 (.int .i64 (N : Nat))).set 1 (.slice fxa (mvL N b r.X N).length fxc)).set 2 (.slice fya (mvL N b r.Y N).length fyc)).set 3 (.slice fa lA fc)
  have hbz := ((((HB1.out.next' HBr.out).setCell (p := ⟨B4, 0, none⟩) HL4.out (.int .i64 (N : Nat))).setCell (p := ⟨B4, 1, none⟩) HL4.out (.slice fxa (mvL N b r.X N).length fxc)).setCell (p := ⟨B4, 2, none⟩) HL4.out (.slice fya (mvL N b r.Y N).length fyc)).setCell (p := ⟨B4, 3, none⟩) HL4.out (.slice fa lA fc)
  have h4 := store4 (w0 := w) HI.out.own k4 HL4.out (HB1.out.next' HBr.out)
  have hRz := RawO.raw (⟨_, _, _, rfl, h4.2.1⟩ : RawO w1.heap.size _ _ _)
  have HRz := Lib.hid hRz
  have hMv : MovedTo b r ⟨(N : Nat), mvL N b r.X N, mvL N b r.Y N, r.arcs.map (mvB N b)⟩ := by
    have h := moved_is (b := b) HOk.out
    rw [← HN.out, Int.toNat_natCast] at h
    exact h
  have HMv := Lib.hid hMv
  clear h4 hRz hMv
  have HZ := Lib.hid hkz; have HBz := Lib.hid hbz
  clear hkz hbz k4 fr
  go_wp2_with fail
  generalize (((wr.setCell ⟨B4, 0, none⟩ (.int .i64 (N : Nat))).setCell ⟨B4, 1, none⟩ (.slice fxa (mvL N b r.X N).length fxc)).setCell ⟨B4, 2, none⟩ (.slice fya (mvL N b r.Y N).length fyc)).setCell ⟨B4, 3, none⟩ (.slice fa lA fc) = wz at *
  have z0 := HZ.out.cell 0; have z1 := HZ.out.cell 1; have z2 := HZ.out.cell 2; have z3 := HZ.out.cell 3
  change wz.cell? ⟨B4, 0, none⟩ = some (.int .i64 (N : Nat)) at z0
  change wz.cell? ⟨B4, 1, none⟩ = some (.slice fxa (mvL N b r.X N).length fxc) at z1
  change wz.cell? ⟨B4, 2, none⟩ = some (.slice fya (mvL N b r.Y N).length fyc) at z2
  change wz.cell? ⟨B4, 3, none⟩ = some (.slice fa lA fc) at z3
  exact bodyPost_ret (v := .agg #[.int .i64 (N : Nat), .slice fxa (mvL N b r.X N).length fxc, .slice fya (mvL N b r.Y N).length fyc, .slice fa lA fc]) (by simp [results, Tryd.results27, go_sem, z0, z1, z2, z3]) rfl ⟨_, rfl, ⟨(N : Nat), mvL N b r.X N, mvL N b r.Y N, r.arcs.map (mvB N b)⟩, HRz.out, fun h => absurd HokR.out h, fun _ => HMv.out, HBz.out⟩
end Go.Proofs.YtnkcmlngoeofgaaDoor
