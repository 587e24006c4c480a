/- Texts of the law GraphTells, merged: GrMoved. -/
import Derived.Test.YtnkcmlngoeofgaaDoorPGraphTells05
/- graph.Moved. -/
namespace Go.Proofs.YtnkcmlngoeofgaaDoor
open Go.RowKit
/-- an arc's ends moved -/
def mvA (n by_ : Int) (a : Ar) : Ar := (mvI n by_ a.1, mvI n by_ a.2.1, a.2.2)
theorem move_step (n by_ : Int) (L : List Ar) (k : Nat) (hk : k < L.length) : (((L.take k).map (mvA n by_) ++ L.drop k).set k (setArc 0 (mvI n by_ L[k].1) L[k])).set k (setArc 1 (mvI n by_ L[k].2.1) (setArc 0 (mvI n by_ L[k].1) L[k])) = (L.take (k + 1)).map (mvA n by_) ++ L.drop (k + 1) := by
  rw [List.set_set]
  have hl : ((L.take k).map (mvA n by_)).length = k := by rw [List.length_map, List.length_take]; omega
  rw [List.set_append_right _ _ (by omega), hl, Nat.sub_self, List.drop_eq_getElem_cons hk, List.set_cons_zero, List.take_succ_eq_append_getElem hk, List.map_append, List.append_assoc]
  rfl
set_option maxRecDepth 100000 in
set_option maxHeartbeats 16000000 in
theorem moved_any (v : Value) (r : Raw) (by_ : Int) (w : World) (h : RawV w v r) (hl : r.few) : Calls Tryd.prog 26 #[v, .int .i64 by_] w fun e w' =>
    ∃ v' r', e = .returned v' ∧ RawO w.heap.size w' v' r' ∧ (¬ r.ok → r' = r) ∧ (r.ok → MovedTo by_ r r') ∧ Below w.heap.size w w' := by
  have h0 := h
  obtain ⟨vx, vy, va, rfl, hx, hy, ha⟩ := h
  have fx := id hx; have fy := id hy; have fa := id ha
  obtain ⟨B2, hB2⟩ : ∃ b, b = w.heap.size := ⟨_, rfl⟩
  obtain ⟨B3, hB3⟩ : ∃ b, b = w.heap.size + 1 := ⟨_, rfl⟩
  obtain ⟨B4, hB4⟩ : ∃ b, b = w.heap.size + 1 + 1 := ⟨_, rfl⟩
  obtain ⟨w1, hw1⟩ : ∃ w1, w1 = ((w.alloc (.cells #[.int .i64 r.nodes, vx, vy, va] 25)).alloc (.cells #[.int .i64 by_] 3)).alloc (.cells #[.int .i64 0, .slice none 0 0, .slice none 0 0, .slice none 0 0] 25) := ⟨_, rfl⟩
  have hb1 : Below w.heap.size w w1 := by rw [hw1]; exact (((Below.refl _ _).alloc (Nat.le_refl _) _).alloc (by simp) _).alloc (by simp; omega) _
  have K2 : Blk w1 B2 #[.int .i64 r.nodes, vx, vy, va] 25 (0, 0) := by rw [hw1, hB2]; exact ((Blk.new _ _ _ _).alloc _).alloc _
  have K3 : Blk w1 B3 #[.int .i64 by_] 3 (0, 0) := by
    rw [hw1, hB3]
    have h := Blk.new (w.alloc (.cells #[.int .i64 r.nodes, vx, vy, va] 25)) #[.int .i64 by_] 3 (0, 0)
    rw [World.size_alloc] at h
    exact h.alloc _
  have K4 : Blk w1 B4 #[.int .i64 0, .slice none 0 0, .slice none 0 0, .slice none 0 0] 25 (0, 0) := by
    rw [hw1, hB4]
    have h := Blk.new ((w.alloc (.cells #[.int .i64 r.nodes, vx, vy, va] 25)).alloc (.cells #[.int .i64 by_] 3)) #[.int .i64 0, .slice none 0 0, .slice none 0 0, .slice none 0 0] 25 (0, 0)
    rw [World.size_alloc, World.size_alloc] at h
    exact h
  have C := Lib.hid (copied_any _ r w1 (h0.below hb1) hl)
  have HV := Lib.hid (h0.below hb1)
  have HX := Lib.hid hx; have HY := Lib.hid hy; have HA := Lib.hid ha
  have HB1 := Lib.hid hb1; have HK2 := Lib.hid K2; have HK3 := Lib.hid K3; have HK4 := Lib.hid K4; have HW1 := Lib.hid hw1; have HL := Lib.hid hl
  have hle2 : w.heap.size ≤ B4 := by omega
  have HLe := Lib.hid hle2
  have HB2 := Lib.hid hB2; have HB3 := Lib.hid hB3; have HB4 := Lib.hid hB4
  have hh1 : B2 < w1.heap.size ∧ B3 < w1.heap.size ∧ B4 < w1.heap.size := ⟨K2.lt, K3.lt, K4.lt⟩
  have HH := Lib.hid hh1
  have hhn : B2 ≠ B4 ∧ B3 ≠ B4 := by omega
  have HNe := Lib.hid hhn
  clear h0 hx hy ha hb1 K2 K3 K4 hw1 hl hle2 hh1 hhn
  obtain ⟨pax, pcx, rfl, pq1, pq2, _⟩ := fx
  obtain ⟨pay, pcy, rfl, pq3, pq4, _⟩ := fy
  obtain ⟨paa, pca, rfl, pq5, pq6, _⟩ := fa
  unfold maxLen at pq2 pq4 pq6
  have hmf : ∀ (fn : Fn) (first cap : Array Value) (w : World), (Instr.makeFunc fn first cap).run Tryd.prog w = .ok (.func fn first cap) w := fun _ _ _ _ => rfl
  go_enter Tryd.func26, Tryd.ntmps26
  go_wp2_with fail
  rw [← HW1.out, ← HB4.out, ← HB3.out, ← HB2.out]
  clear hB2 hB3 hB4
  refine C.out.mono ?_
  rintro e w2 ⟨v2, rfl, ⟨vx, vy, va, rfl, o1, o2, o3, o4⟩, hb2⟩
  obtain ⟨B5, hB5⟩ : ∃ b, b = w2.heap.size := ⟨_, rfl⟩
  obtain ⟨w3, hw3⟩ : ∃ w3, w3 = w2.alloc (.cells #[.int .i64 r.nodes, vx, vy, va] 25) := ⟨_, rfl⟩
  have hb3 : Below w2.heap.size w2 w3 := by rw [hw3]; exact (Below.refl _ _).alloc (Nat.le_refl _) _
  have K5 : Blk w3 B5 #[.int .i64 r.nodes, vx, vy, va] 25 (0, 0) := by rw [hw3, hB5]; exact Blk.new _ _ _ _
  have hO : Own3 w1.heap.size w3 vx vy va r := Own3.below ⟨o1, o2, o3, o4⟩ hb3
  have hb13 := hb2.next' hb3
  have hI : OutI w1 B5 vx vy va r w3 := ⟨K5, hO, ⟨hb13.os, hb13.tape, hb13.output, hb13.size, fun k hk _ => hb13.block k hk⟩⟩
  have C2 := Lib.hid (check_raw _ r w3 (HV.out.below hb13))
  have c20 := (HK2.out.below hb13 HK2.out.lt)
  have hB5l : w1.heap.size ≤ B5 := by rw [hB5]; exact hb2.size
  have HI := Lib.hid hI; have HC20 := Lib.hid c20; have HW3 := Lib.hid hw3; have HB5l := Lib.hid hB5l
  have fx : ∃ a c, vx = .slice a r.X.length c ∧ (0 < r.X.length → ∃ g, a = some ⟨g, 0, none⟩) := by
    rcases o1.2 with ⟨h, h0⟩ | ⟨g, cap, cur, h, _⟩
    · exact ⟨_, _, by rw [h0]; exact h, fun h => by omega⟩
    · exact ⟨_, _, h, fun _ => ⟨g, rfl⟩⟩
  have fy : ∃ a c, vy = .slice a r.Y.length c ∧ (0 < r.Y.length → ∃ g, a = some ⟨g, 0, none⟩) := by
    rcases o2.2 with ⟨h, h0⟩ | ⟨g, cap, cur, h, _⟩
    · exact ⟨_, _, by rw [h0]; exact h, fun h => by omega⟩
    · exact ⟨_, _, h, fun _ => ⟨g, rfl⟩⟩
  have fa : ∃ a c, va = .slice a r.arcs.length c ∧ (0 < r.arcs.length → ∃ g, a = some ⟨g, 0, none⟩) := by
    rcases o3.2 with ⟨h, h0⟩ | ⟨g, cap, cur, h, _⟩
    · exact ⟨_, _, by rw [h0]; exact h, fun h => by omega⟩
    · exact ⟨_, _, h, fun _ => ⟨g, rfl⟩⟩
  clear hI c20 hw3 hO hb3 hb13 K5 o1 o2 o3 o4 hb2 C hB5l
  obtain ⟨xa, xc, rfl, hxa⟩ := fx
  obtain ⟨ya, yc, rfl, hya⟩ := fy
  obtain ⟨za, zc, rfl, hza⟩ := fa
  have c21 := HC20.out
  rw [HW3.out] at c21
  have q0 := c21.cell 0
  change (w2.alloc (.cells #[.int .i64 r.nodes, .slice xa r.X.length xc, .slice ya r.Y.length yc, .slice za r.arcs.length zc] 25)).cell? ⟨B2, 0, none⟩ = some (.int .i64 r.nodes) at q0
  have q1 := c21.cell 1
  change (w2.alloc (.cells #[.int .i64 r.nodes, .slice xa r.X.length xc, .slice ya r.Y.length yc, .slice za r.arcs.length zc] 25)).cell? ⟨B2, 1, none⟩ = some (.slice pax r.X.length pcx) at q1
  have q2 := c21.cell 2
  change (w2.alloc (.cells #[.int .i64 r.nodes, .slice xa r.X.length xc, .slice ya r.Y.length yc, .slice za r.arcs.length zc] 25)).cell? ⟨B2, 2, none⟩ = some (.slice pay r.Y.length pcy) at q2
  have q3 := c21.cell 3
  change (w2.alloc (.cells #[.int .i64 r.nodes, .slice xa r.X.length xc, .slice ya r.Y.length yc, .slice za r.arcs.length zc] 25)).cell? ⟨B2, 3, none⟩ = some (.slice paa r.arcs.length pca) at q3
  clear c21
  go_wp2_with fail
  rw [← HW3.out, ← hB5]
  clear hB5
  refine C2.out.mono ?_
  rintro e w4 ⟨u, rfl, hi, hb4⟩
  have hI4 := HI.out.below hb4
  have K2' := HC20.out.below hb4 HC20.out.lt
  have hw := r.wrong_zero
  rcases hi.form with ⟨rfl, hz⟩ | ⟨⟨ty, xv, rfl⟩, hz⟩
  · have hok : r.ok := hw.1 hz
    have HOk := Lib.hid (r.ok_iff.1 hok); have Hok := Lib.hid hok
    have HI4 := Lib.hid hI4; have HK2' := Lib.hid K2'
    have qq := K2'.cell 0
    change w4.cell? ⟨B2, 0, none⟩ = some (.int .i64 r.nodes) at qq
    obtain ⟨N, hN⟩ : ∃ N : Nat, (N : Int) = r.nodes := ⟨r.nodes.toNat, by have := HOk.out.nodes; omega⟩
    have HN := Lib.hid hN
    rw [← hN] at qq
    have hNb : 1 ≤ N ∧ N ≤ 16777216 := by have := HOk.out.nodes; omega
    clear hok hw hz hi hb4 hI4 K2' C2 HI HC20 q0 q1 q2 q3 hN
    go_wp2_with fail
    go_loopw [19] (fun i wr => ∃ (k : Nat), k ≤ N ∧ i = .int .i64 k ∧ Hid (∃ X' Y', OutI w1 B5 (.slice xa r.X.length xc) (.slice ya r.Y.length yc) (.slice za r.arcs.length zc) { r with X := X', Y := Y' } wr ∧ X'.length = r.X.length ∧ Y'.length = r.Y.length ∧ (∀ v : Nat, v < k → X'[(mvI r.nodes by_ v).toNat]? = r.X[v]?) ∧ (∀ v : Nat, v < k → Y'[(mvI r.nodes by_ v).toNat]? = r.Y[v]?))) (fun i _ => N - (intOf i).toNat)
    case atStart => exact ⟨0, by omega, rfl, Lib.hid ⟨r.X, r.Y, HI4.out, rfl, rfl, fun v hv => by omega, fun v hv => by omega⟩⟩
    case round =>
      clear qq
      obtain ⟨k, hk, rfl, hrel⟩ := hrel
      obtain ⟨X', Y', hI, hlx, hly, hxs, hys⟩ := hrel.out
      by_cases hlt : k < N
      · have hltI : (k : Int) < (N : Int) := by omega
        have hxl : r.X.length = N := by have := HOk.out.lenX; have := HN.out; omega
        have hyl : r.Y.length = N := by have := HOk.out.lenY; have := HN.out; omega
        obtain ⟨gx, rfl⟩ := hxa (by omega)
        obtain ⟨gy, rfl⟩ := hya (by omega)
        have hle5 : w.heap.size ≤ B5 := by have := HB1.out.size; have := HB5l.out; omega
        have hkp := kpc_of HB1.out hI.kept hle5
        have hn25 : ¬ B2 = B5 := by have := HH.out.1; have := HB5l.out; omega
        have hn35 : ¬ B3 = B5 := by have := HH.out.2.1; have := HB5l.out; omega
        have b2 := hI.kept.blk HK2.out hn25
        have b3 := hI.kept.blk HK3.out hn35
        obtain ⟨bx, ox, epx, hxc⟩ := (HX.out.keep hkp).at k (by omega)
        obtain ⟨bY, oy, epy, hyc⟩ := (HY.out.keep hkp).at k (by omega)
        subst epx epy
        have hbxl : bx < w.heap.size := by
          obtain ⟨bx', ox', e1, e2⟩ := HX.out.at k (by omega)
          obtain ⟨rfl, rfl⟩ : bx = bx' ∧ ox = ox' := by simpa using e1
          exact block_lt_of_cell e2
        have hbyl : bY < w.heap.size := by
          obtain ⟨bx', ox', e1, e2⟩ := HY.out.at k (by omega)
          obtain ⟨rfl, rfl⟩ : bY = bx' ∧ oy = ox' := by simpa using e1
          exact block_lt_of_cell e2
        obtain ⟨x, hx⟩ : ∃ x, x = r.X[k]'(by omega) := ⟨_, rfl⟩
        obtain ⟨y, hy⟩ : ∃ y, y = r.Y[k]'(by omega) := ⟨_, rfl⟩
        rw [← hx] at hxc
        rw [← hy] at hyc
        obtain ⟨M, hM⟩ : ∃ M, M = (mvI r.nodes by_ k).toNat := ⟨_, rfl⟩
        have hmr := mvI_range r.nodes by_ k (by have := HOk.out.nodes; omega)
        have hMI : (M : Int) = mvI r.nodes by_ k := by omega
        have hMN : M < N := by have := HN.out; omega
        obtain ⟨ogx, curx, hgx⟩ := ownsRow_blk' hI.own.1 (g := gx) rfl
        obtain ⟨ogy, cury, hgy⟩ := ownsRow_blk' hI.own.2.1 (g := gy) rfl
        have hgne : gx ≠ gy := fun e => hI.own.2.2.2 gx rfl (by rw [e]; rfl)
        have hsz1 := HB1.out.size
        have t1 : B5 ≠ gx := fun e => by
          have e2 := (show wr.heap[B5]? = some _ from hI.blk).symm.trans (show wr.heap[B5]? = some _ from e ▸ hgx)
          cases e2
        have t2 : B5 ≠ gy := fun e => by
          have e2 := (show wr.heap[B5]? = some _ from hI.blk).symm.trans (show wr.heap[B5]? = some _ from e ▸ hgy)
          cases e2
        have t3 : B2 ≠ gx := by have := HH.out.1; omega
        have t4 : B2 ≠ gy := by have := HH.out.1; omega
        have t5 : bx ≠ gx := by omega
        have t6 : bY ≠ gx := by omega
        have hSf : ∀ u, Below wr.heap.size wr u → (u.cell? ⟨B5, 1, none⟩ = some (.slice (some ⟨gx, 0, none⟩) r.X.length xc) ∧ u.cell? ⟨B5, 2, none⟩ = some (.slice (some ⟨gy, 0, none⟩) r.Y.length yc) ∧ u.cell? ⟨B2, 1, none⟩ = some (.slice (some ⟨bx, ox, none⟩) r.X.length pcx) ∧ u.cell? ⟨B2, 2, none⟩ = some (.slice (some ⟨bY, oy, none⟩) r.Y.length pcy) ∧ u.cell? ⟨bx, ox + k, none⟩ = some (.int .i64 x) ∧ u.cell? ⟨bY, oy + k, none⟩ = some (.int .i64 y)) := fun u hu => by
          have q1 := (hI.blk.below hu hI.blk.lt).cell 1; have q2 := (hI.blk.below hu hI.blk.lt).cell 2
          have q3 := (b2.below hu b2.lt).cell 1; have q4 := (b2.below hu b2.lt).cell 2
          exact ⟨q1, q2, q3, q4, cell_later hu hxc, cell_later hu hyc⟩
        have hCm : ∀ u, Below wr.heap.size wr u → Calls Tryd.prog 51 #[.int .i64 (k : Nat), .pointer (some ⟨B3, 0, none⟩), .pointer (some ⟨B2, 0, none⟩)] u fun e w' => e = .returned (.int .i64 (M : Nat)) ∧ Below u.heap.size u w' := fun u hu => by
          rw [hMI]
          exact move_any r.nodes by_ k B2 B3 _ _ _ u (b2.below hu b2.lt) (b3.below hu b3.lt) HOk.out.nodes (by have := HN.out; omega)
        have hW : ∀ u, Below wr.heap.size wr u → (∃ cx cy : Int, u.cell? ⟨gx, M, none⟩ = some (.int .i64 cx) ∧ u.cell? ⟨gy, M, none⟩ = some (.int .i64 cy) ∧ u.frozen? ⟨gx, M, none⟩ = false ∧ u.frozen? ⟨gy, M, none⟩ = false) := fun u hu => by
          have hIu := hI.below hu
          have sx : SlX u (.slice (some ⟨gx, 0, none⟩) r.X.length xc) X' := slX_own rfl hIu.own.1
          have sy : SlX u (.slice (some ⟨gy, 0, none⟩) r.Y.length yc) Y' := slX_own rfl hIu.own.2.1
          obtain ⟨b1, o1, e1, d1⟩ := sx.at M (by omega)
          obtain ⟨b2', o2, e2, d2⟩ := sy.at M (by omega)
          obtain ⟨rfl, rfl⟩ : gx = b1 ∧ 0 = o1 := by simpa using e1
          obtain ⟨rfl, rfl⟩ : gy = b2' ∧ 0 = o2 := by simpa using e2
          rw [Nat.zero_add] at d1 d2
          exact ⟨_, _, d1, d2, (hgx.below hu hgx.lt).free M (Or.inr (Nat.zero_le _)), (hgy.below hu hgy.lt).free M (Or.inr (Nat.zero_le _))⟩
        have hfin : ∀ u, Below wr.heap.size wr u → (∃ X' Y', OutI w1 B5 (.slice (some ⟨gx, 0, none⟩) r.X.length xc) (.slice (some ⟨gy, 0, none⟩) r.Y.length yc) (.slice za r.arcs.length zc) { r with X := X', Y := Y' } ((u.setCell ⟨gx, M, none⟩ (.int .i64 x)).setCell ⟨gy, M, none⟩ (.int .i64 y)) ∧ X'.length = r.X.length ∧ Y'.length = r.Y.length ∧ (∀ v : Nat, v < k + 1 → X'[(mvI r.nodes by_ v).toNat]? = r.X[v]?) ∧ (∀ v : Nat, v < k + 1 → Y'[(mvI r.nodes by_ v).toNat]? = r.Y[v]?)) := fun u hu => by
          have hIu := hI.below hu
          have h1 := hIu.setX hlx M (show M < X'.length by omega) x
          have h2 := h1.setY hly M (show M < Y'.length by omega) y
          have hne : ∀ v : Nat, v < k → M ≠ (mvI r.nodes by_ v).toNat := fun v hv e => by
            have hv2 := mvI_range r.nodes by_ v (by have := HOk.out.nodes; omega)
            have := mv_inj (n := r.nodes) (by_ := by_) (u := (v : Int)) (v := (k : Int)) (by have := HN.out; omega) (by have := HN.out; omega) (by omega)
            omega
          refine ⟨X'.set M x, Y'.set M y, h2, by rw [List.length_set]; exact hlx, by rw [List.length_set]; exact hly, fun v hv => ?_, fun v hv => ?_⟩
          · rcases Nat.lt_or_ge v k with h | h
            · rw [List.getElem?_set_ne (hne v h)]; exact hxs v h
            · obtain rfl : v = k := by omega
              rw [← hM, List.getElem?_set_self (by omega), hx, List.getElem?_eq_getElem (by omega)]
          · rcases Nat.lt_or_ge v k with h | h
            · rw [List.getElem?_set_ne (hne v h)]; exact hys v h
            · obtain rfl : v = k := by omega
              rw [← hM, List.getElem?_set_self (by omega), hy, List.getElem?_eq_getElem (by omega)]
        have i0 : (0 : Int) ≤ (k : Int) := by omega
        have i1 : (k : Int) < (r.X.length : Int) := by omega
        have i2 : (k : Int) < (r.Y.length : Int) := by omega
        have i3 : (0 : Int) ≤ (M : Int) := by omega
        have i4 : (M : Int) < (r.X.length : Int) := by omega
        have i5 : (M : Int) < (r.Y.length : Int) := by omega
        have HSf := Lib.hid hSf; have HCm := Lib.hid hCm; have HW := Lib.hid hW; have HFin := Lib.hid hfin
        have HT := Lib.hid (And.intro t1 (And.intro t2 (And.intro t3 (And.intro t4 (And.intro t5 t6)))))
        have hgne' : gy ≠ gx := fun e => hgne e.symm
        clear hrel hI hxs hys hxl hyl hle5 hkp hn25 hn35 b2 b3 hxc hyc hbxl hbyl hx hy hM hmr hMI hgx hgy ogx ogy hsz1 t1 t2 t3 t4 t5 t6 hSf hCm hW hfin hlx hly
        go_wp2_with fail
        refine wp_region_heldD (fun w' => w'.cell? ⟨B5, 1, none⟩ = some (.slice (some ⟨gx, 0, none⟩) r.X.length xc) ∧ w'.cell? ⟨B5, 2, none⟩ = some (.slice (some ⟨gy, 0, none⟩) r.Y.length yc) ∧ w'.cell? ⟨B2, 1, none⟩ = some (.slice (some ⟨bx, ox, none⟩) r.X.length pcx) ∧ w'.cell? ⟨B2, 2, none⟩ = some (.slice (some ⟨bY, oy, none⟩) r.Y.length pcy) ∧ w'.cell? ⟨bx, ox + k, none⟩ = some (.int .i64 x) ∧ w'.cell? ⟨bY, oy + k, none⟩ = some (.int .i64 y)) 23 rfl ?_
        change heldD _ _ _ _ _ _ _ 24 _ _ wr.drew
        have hd0 : Below wr.heap.size wr wr.drew := (Below.refl _ _).drew
        have hS0 : wr.drew.cell? ⟨B5, 1, none⟩ = some (.slice (some ⟨gx, 0, none⟩) r.X.length xc) ∧ wr.drew.cell? ⟨B5, 2, none⟩ = some (.slice (some ⟨gy, 0, none⟩) r.Y.length yc) ∧ wr.drew.cell? ⟨B2, 1, none⟩ = some (.slice (some ⟨bx, ox, none⟩) r.X.length pcx) ∧ wr.drew.cell? ⟨B2, 2, none⟩ = some (.slice (some ⟨bY, oy, none⟩) r.Y.length pcy) ∧ wr.drew.cell? ⟨bx, ox + k, none⟩ = some (.int .i64 x) ∧ wr.drew.cell? ⟨bY, oy + k, none⟩ = some (.int .i64 y) := HSf.out _ hd0
        refine heldD_takeF (i := 0) (v := .pointer (some ⟨B5, 1, none⟩)) rfl rfl rfl (by kernel_rfl) (by kernel_rfl) (by kernel_rfl) (by kernel_rfl) (fun _ _ _ h => h) (by rfl) (fun w => ⟨by rfl, by go_simp⟩) (fun _ => hS0) ?_
        simp only [List.setIfInBounds_toArray, List.set_cons_zero, List.set_cons_succ]
        refine heldD_take (i := 1) (v := .slice (some ⟨gx, 0, none⟩) r.X.length xc) rfl rfl rfl (by kernel_rfl) (by kernel_rfl) (by kernel_rfl) (by kernel_rfl) (by kernel_rfl) (by kernel_rfl) (fun _ _ _ h => h) (by rfl) (fun w hS => ⟨by rfl, by obtain ⟨hS1, hS2, hS3, hS4, hS5, hS6⟩ := hS; go_simp⟩) hS0 ?_
        simp only [List.setIfInBounds_toArray, List.set_cons_zero, List.set_cons_succ]
        refine heldD_takeF (i := 2) (v := .func (.func 51) #[] #[.pointer (some ⟨B3, 0, none⟩), .pointer (some ⟨B2, 0, none⟩)]) rfl rfl rfl (by kernel_rfl) (by kernel_rfl) (by kernel_rfl) (by kernel_rfl) (fun _ _ _ h => h) (by rfl) (fun w => ⟨by rfl, by go_simp⟩) (fun _ => hS0) ?_
        simp only [List.setIfInBounds_toArray, List.set_cons_zero, List.set_cons_succ]
        refine heldD_takeF (i := 3) (v := .int .i64 (k : Nat)) rfl rfl rfl (by kernel_rfl) (by kernel_rfl) (by kernel_rfl) (by kernel_rfl) (fun _ _ _ h => h) (by rfl) (fun w => ⟨by rfl, by go_simp⟩) (fun _ => hS0) ?_
        simp only [List.setIfInBounds_toArray, List.set_cons_zero, List.set_cons_succ]
        refine heldD_takeF (i := 5) (v := .pointer (some ⟨B5, 2, none⟩)) rfl rfl rfl (by kernel_rfl) (by kernel_rfl) (by kernel_rfl) (by kernel_rfl) (fun _ _ _ h => h) (by rfl) (fun w => ⟨by rfl, by go_simp⟩) (fun _ => hS0) ?_
        simp only [List.setIfInBounds_toArray, List.set_cons_zero, List.set_cons_succ]
        refine heldD_take (i := 6) (v := .slice (some ⟨gy, 0, none⟩) r.Y.length yc) rfl rfl rfl (by kernel_rfl) (by kernel_rfl) (by kernel_rfl) (by kernel_rfl) (by kernel_rfl) (by kernel_rfl) (fun _ _ _ h => h) (by rfl) (fun w hS => ⟨by rfl, by obtain ⟨hS1, hS2, hS3, hS4, hS5, hS6⟩ := hS; go_simp⟩) hS0 ?_
        simp only [List.setIfInBounds_toArray, List.set_cons_zero, List.set_cons_succ]
        refine heldD_takeF (i := 7) (v := .func (.func 51) #[] #[.pointer (some ⟨B3, 0, none⟩), .pointer (some ⟨B2, 0, none⟩)]) rfl rfl rfl (by kernel_rfl) (by kernel_rfl) (by kernel_rfl) (by kernel_rfl) (fun _ _ _ h => h) (by rfl) (fun w => ⟨by rfl, by go_simp⟩) (fun _ => hS0) ?_
        simp only [List.setIfInBounds_toArray, List.set_cons_zero, List.set_cons_succ]
        refine heldD_takeF (i := 8) (v := .int .i64 (k : Nat)) rfl rfl rfl (by kernel_rfl) (by kernel_rfl) (by kernel_rfl) (by kernel_rfl) (fun _ _ _ h => h) (by rfl) (fun w => ⟨by rfl, by go_simp⟩) (fun _ => hS0) ?_
        simp only [List.setIfInBounds_toArray, List.set_cons_zero, List.set_cons_succ]
        refine heldD_takeF (i := 10) (v := .pointer (some ⟨B2, 1, none⟩)) rfl rfl rfl (by kernel_rfl) (by kernel_rfl) (by kernel_rfl) (by kernel_rfl) (fun _ _ _ h => h) (by rfl) (fun w => ⟨by rfl, by go_simp⟩) (fun _ => hS0) ?_
        simp only [List.setIfInBounds_toArray, List.set_cons_zero, List.set_cons_succ]
        refine heldD_take (i := 11) (v := .slice (some ⟨bx, ox, none⟩) r.X.length pcx) rfl rfl rfl (by kernel_rfl) (by kernel_rfl) (by kernel_rfl) (by kernel_rfl) (by kernel_rfl) (by kernel_rfl) (fun _ _ _ h => h) (by rfl) (fun w hS => ⟨by rfl, by obtain ⟨hS1, hS2, hS3, hS4, hS5, hS6⟩ := hS; go_simp⟩) hS0 ?_
        simp only [List.setIfInBounds_toArray, List.set_cons_zero, List.set_cons_succ]
        refine heldD_takeF (i := 12) (v := .int .i64 (k : Nat)) rfl rfl rfl (by kernel_rfl) (by kernel_rfl) (by kernel_rfl) (by kernel_rfl) (fun _ _ _ h => h) (by rfl) (fun w => ⟨by rfl, by go_simp⟩) (fun _ => hS0) ?_
        simp only [List.setIfInBounds_toArray, List.set_cons_zero, List.set_cons_succ]
        refine heldD_takeF (i := 13) (v := .pointer (some ⟨bx, ox + k, none⟩)) rfl rfl rfl (by kernel_rfl) (by kernel_rfl) (by kernel_rfl) (by kernel_rfl) (fun _ _ _ h => h) (by rfl) (fun w => ⟨by rfl, by go_simp⟩) (fun _ => hS0) ?_
        simp only [List.setIfInBounds_toArray, List.set_cons_zero, List.set_cons_succ]
        refine heldD_take (i := 14) (v := .int .i64 x) rfl rfl rfl (by kernel_rfl) (by kernel_rfl) (by kernel_rfl) (by kernel_rfl) (by kernel_rfl) (by kernel_rfl) (fun _ _ _ h => h) (by rfl) (fun w hS => ⟨by rfl, by obtain ⟨hS1, hS2, hS3, hS4, hS5, hS6⟩ := hS; go_simp⟩) hS0 ?_
        simp only [List.setIfInBounds_toArray, List.set_cons_zero, List.set_cons_succ]
        refine heldD_takeF (i := 15) (v := .pointer (some ⟨B2, 2, none⟩)) rfl rfl rfl (by kernel_rfl) (by kernel_rfl) (by kernel_rfl) (by kernel_rfl) (fun _ _ _ h => h) (by rfl) (fun w => ⟨by rfl, by go_simp⟩) (fun _ => hS0) ?_
        simp only [List.setIfInBounds_toArray, List.set_cons_zero, List.set_cons_succ]
        refine heldD_take (i := 16) (v := .slice (some ⟨bY, oy, none⟩) r.Y.length pcy) rfl rfl rfl (by kernel_rfl) (by kernel_rfl) (by kernel_rfl) (by kernel_rfl) (by kernel_rfl) (by kernel_rfl) (fun _ _ _ h => h) (by rfl) (fun w hS => ⟨by rfl, by obtain ⟨hS1, hS2, hS3, hS4, hS5, hS6⟩ := hS; go_simp⟩) hS0 ?_
        simp only [List.setIfInBounds_toArray, List.set_cons_zero, List.set_cons_succ]
        refine heldD_takeF (i := 17) (v := .int .i64 (k : Nat)) rfl rfl rfl (by kernel_rfl) (by kernel_rfl) (by kernel_rfl) (by kernel_rfl) (fun _ _ _ h => h) (by rfl) (fun w => ⟨by rfl, by go_simp⟩) (fun _ => hS0) ?_
        simp only [List.setIfInBounds_toArray, List.set_cons_zero, List.set_cons_succ]
        refine heldD_takeF (i := 18) (v := .pointer (some ⟨bY, oy + k, none⟩)) rfl rfl rfl (by kernel_rfl) (by kernel_rfl) (by kernel_rfl) (by kernel_rfl) (fun _ _ _ h => h) (by rfl) (fun w => ⟨by rfl, by go_simp⟩) (fun _ => hS0) ?_
        simp only [List.setIfInBounds_toArray, List.set_cons_zero, List.set_cons_succ]
        refine heldD_take (i := 19) (v := .int .i64 y) rfl rfl rfl (by kernel_rfl) (by kernel_rfl) (by kernel_rfl) (by kernel_rfl) (by kernel_rfl) (by kernel_rfl) (fun _ _ _ h => h) (by rfl) (fun w hS => ⟨by rfl, by obtain ⟨hS1, hS2, hS3, hS4, hS5, hS6⟩ := hS; go_simp⟩) hS0 ?_
        simp only [List.setIfInBounds_toArray, List.set_cons_zero, List.set_cons_succ]
        refine heldD_one (i := 4) (by kernel_rfl) ?_
        refine wpOpIn_calls' (f := 51) (args := #[.int .i64 (k : Nat), .pointer (some ⟨B3, 0, none⟩), .pointer (some ⟨B2, 0, none⟩)]) rfl rfl (by rfl) (by go_simp) (HCm.out _ hd0) ?_
        rintro e w5 ⟨rfl, hb5⟩
        refine ⟨_, rfl, ?_⟩
        have hd1 := hd0.next' hb5
        clear hS0
        have hS0 := HSf.out _ hd1
        refine ⟨fun _ => hS0, ?_⟩
        simp only [List.setIfInBounds_toArray, List.set_cons_zero, List.set_cons_succ]
        refine heldD_one (i := 9) (by kernel_rfl) ?_
        refine wpOpIn_calls' (f := 51) (args := #[.int .i64 (k : Nat), .pointer (some ⟨B3, 0, none⟩), .pointer (some ⟨B2, 0, none⟩)]) rfl rfl (by rfl) (by go_simp) (HCm.out _ hd1) ?_
        rintro e w6 ⟨rfl, hb6⟩
        refine ⟨_, rfl, ?_⟩
        have hd2 := hd1.next' hb6
        clear hS0
        have hS0 := HSf.out _ hd2
        refine ⟨fun _ => hS0, ?_⟩
        simp only [List.setIfInBounds_toArray, List.set_cons_zero, List.set_cons_succ]
        obtain ⟨ocx, ocy, s1, s2, s3, s4⟩ := HW.out _ hd2
        refine heldD_takeF (i := 20) (v := .pointer (some ⟨gx, M, none⟩)) rfl rfl rfl (by kernel_rfl) (by kernel_rfl) (by kernel_rfl) (by kernel_rfl) (fun _ _ _ h => h) (by rfl) (fun w => ⟨by rfl, by go_simp⟩) (fun _ => hS0) ?_
        simp only [List.setIfInBounds_toArray, List.set_cons_zero, List.set_cons_succ]
        refine heldD_one (i := 21) (by kernel_rfl) ?_
        refine wpOpIn_skip (w' := w6.setCell ⟨gx, M, none⟩ (.int .i64 x)) rfl rfl rfl (by rfl) (by rfl) (by go_simp) ?_
        have hS2 : (w6.setCell ⟨gx, M, none⟩ (.int .i64 x)).cell? ⟨B5, 1, none⟩ = some (.slice (some ⟨gx, 0, none⟩) r.X.length xc) ∧ (w6.setCell ⟨gx, M, none⟩ (.int .i64 x)).cell? ⟨B5, 2, none⟩ = some (.slice (some ⟨gy, 0, none⟩) r.Y.length yc) ∧ (w6.setCell ⟨gx, M, none⟩ (.int .i64 x)).cell? ⟨B2, 1, none⟩ = some (.slice (some ⟨bx, ox, none⟩) r.X.length pcx) ∧ (w6.setCell ⟨gx, M, none⟩ (.int .i64 x)).cell? ⟨B2, 2, none⟩ = some (.slice (some ⟨bY, oy, none⟩) r.Y.length pcy) ∧ (w6.setCell ⟨gx, M, none⟩ (.int .i64 x)).cell? ⟨bx, ox + k, none⟩ = some (.int .i64 x) ∧ (w6.setCell ⟨gx, M, none⟩ (.int .i64 x)).cell? ⟨bY, oy + k, none⟩ = some (.int .i64 y) := ⟨(World.cell?_of_block (heap_setCell_other _ _ _ _ HT.out.1)).trans hS0.1, (World.cell?_of_block (heap_setCell_other _ _ _ _ HT.out.1)).trans hS0.2.1, (World.cell?_of_block (heap_setCell_other _ _ _ _ HT.out.2.2.1)).trans hS0.2.2.1, (World.cell?_of_block (heap_setCell_other _ _ _ _ HT.out.2.2.1)).trans hS0.2.2.2.1, (World.cell?_of_block (heap_setCell_other _ _ _ _ HT.out.2.2.2.2.1)).trans hS0.2.2.2.2.1, (World.cell?_of_block (heap_setCell_other _ _ _ _ HT.out.2.2.2.2.2)).trans hS0.2.2.2.2.2⟩
        refine ⟨fun _ => hS2, ?_⟩
        clear hS0
        refine heldD_takeF (i := 22) (v := .pointer (some ⟨gy, M, none⟩)) rfl rfl rfl (by kernel_rfl) (by kernel_rfl) (by kernel_rfl) (by kernel_rfl) (fun _ _ _ h => h) (by rfl) (fun w => ⟨by rfl, by go_simp⟩) (fun _ => hS2) ?_
        simp only [List.setIfInBounds_toArray, List.set_cons_zero, List.set_cons_succ]
        refine heldD_one (i := 23) (by kernel_rfl) ?_
        refine wpOpIn_skip (w' := (w6.setCell ⟨gx, M, none⟩ (.int .i64 x)).setCell ⟨gy, M, none⟩ (.int .i64 y)) rfl rfl rfl (by rfl) (by rfl) (by go_simp) ?_
        refine ⟨fun h => (by cases h), ?_⟩
        refine heldD_done (by kernel_rfl) ?_ _
        have HF := Lib.hid (HFin.out _ hd2)
        clear hS2 s1 s2 s3 s4 hd0 hd1 hd2 hb5 hb6
        go_wp2_with fail
        go_roundw
        case rel => exact ⟨k + 1, by omega, by go_num, Lib.hid HF.out⟩
        case measure => simp [intOf]; omega
      · obtain rfl : N = k := by omega
        have HI1 := Lib.hid hI
        have HXs := Lib.hid hxs; have HYs := Lib.hid hys; have HLx := Lib.hid hlx; have HLy := Lib.hid hly
        have hn25 : ¬ B2 = B5 := by have := HH.out.1; have := HB5l.out; omega
        have q3 := (hI.kept.blk HK2.out hn25).cell 3
        change wr.cell? ⟨B2, 3, none⟩ = some (.slice paa r.arcs.length pca) at q3
        clear hrel hI hxs hys hlx hly HI4 hn25
        go_wp2_with fail
        go_loopw [48] (fun i wq => ∃ (k : Nat), k ≤ r.arcs.length ∧ i = .int .i64 k ∧ Hid (OutI w1 B5 (.slice xa r.X.length xc) (.slice ya r.Y.length yc) (.slice za r.arcs.length zc) { r with X := X', Y := Y', arcs := (r.arcs.take k).map (mvA r.nodes by_) ++ r.arcs.drop k } wq)) (fun i _ => r.arcs.length - (intOf i).toNat)
        case atStart => exact ⟨0, by omega, rfl, Lib.hid (by simpa using HI1.out)⟩
        case round =>
          clear q3 HI1
          obtain ⟨k, hk, rfl, hrel⟩ := hrel
          have hI := hrel.out
          by_cases hlt2 : k < r.arcs.length
          · have hltI2 : (k : Int) < (r.arcs.length : Int) := by omega
            obtain ⟨gz, rfl⟩ := hza (by omega)
            have hle5 : w.heap.size ≤ B5 := by have := HB1.out.size; have := HB5l.out; omega
            have hkp := kpc_of HB1.out hI.kept hle5
            have hn25 : ¬ B2 = B5 := by have := HH.out.1; have := HB5l.out; omega
            have hn35 : ¬ B3 = B5 := by have := HH.out.2.1; have := HB5l.out; omega
            have b2 := hI.kept.blk HK2.out hn25
            have b3 := hI.kept.blk HK3.out hn35
            obtain ⟨ba, oa, epa, d0, d1, d2⟩ := (HA.out.keep hkp).at k hlt2
            subst epa
            have hak := HOk.out.arc _ (List.getElem_mem hlt2)
            have hlen : ((r.arcs.take k).map (mvA r.nodes by_) ++ r.arcs.drop k).length = r.arcs.length := by rw [List.length_append, List.length_map, List.length_take, List.length_drop]; omega
            have hget : ((r.arcs.take k).map (mvA r.nodes by_) ++ r.arcs.drop k)[k]'(by omega) = r.arcs[k] := by
              have hl : ((r.arcs.take k).map (mvA r.nodes by_)).length = k := by rw [List.length_map, List.length_take]; omega
              rw [List.getElem_append_right (by omega)]
              simp only [hl, Nat.sub_self, List.getElem_drop, Nat.add_zero]
            have hst := move_step r.nodes by_ r.arcs k hlt2
            obtain ⟨x, hx⟩ : ∃ x, x = r.arcs[k] := ⟨_, rfl⟩
            rw [← hx] at d0 d1 d2 hst hak
            obtain ⟨x0, x1, x2⟩ := x
            simp only at d0 d1 d2 hst
            obtain ⟨ha0, ha1, _⟩ := hak
            simp only at ha0 ha1
            obtain ⟨M0, hM0⟩ : ∃ M, M = mvI r.nodes by_ x0 := ⟨_, rfl⟩
            obtain ⟨M1, hM1⟩ : ∃ M, M = mvI r.nodes by_ x1 := ⟨_, rfl⟩
            rw [← hM0, ← hM1] at hst
            obtain ⟨Ba, hBa⟩ : ∃ b, b = wr.heap.size := ⟨_, rfl⟩
            obtain ⟨wc, hwc⟩ : ∃ wc, wc = wr.alloc (.cells #[.int .i64 x0, .int .i64 x1, .int .i64 x2] 54) := ⟨_, rfl⟩
            have hbc : Below wr.heap.size wr wc := by rw [hwc]; exact (Below.refl _ _).alloc (Nat.le_refl _) _
            have hBc : Blk wc Ba #[.int .i64 x0, .int .i64 x1, .int .i64 x2] 54 (0, 0) := by rw [hwc, hBa]; exact Blk.new _ _ _ _
            obtain ⟨hgb, cur, hgB⟩ := ownsRow_blk' hI.own.2.2.1 (g := gz) rfl
            have hgl : gz < wr.heap.size := hgB.lt
            have hgne : Ba ≠ gz := by omega
            have hBtg : B5 ≠ gz := fun e => by
              have e2 := (show wr.heap[B5]? = some _ from hI.blk).symm.trans (show wr.heap[B5]? = some _ from e ▸ hgB)
              cases e2
            have sA : SlA wr (.slice (some ⟨gz, 0, none⟩) r.arcs.length zc) ((r.arcs.take k).map (mvA r.nodes by_) ++ r.arcs.drop k) := slA_own rfl (by have h := hI.own.2.2.1; exact h)
            obtain ⟨bg, og, eg, u0, u1, u2⟩ := sA.at k (by omega)
            obtain ⟨rfl, rfl⟩ : gz = bg ∧ 0 = og := by simpa using eg
            rw [hget, ← hx] at u0 u1
            rw [Nat.zero_add] at u0 u1
            simp only at u0 u1
            have hkl : k < ((r.arcs.take k).map (mvA r.nodes by_) ++ r.arcs.drop k).length := by omega
            have hfin : ∀ u, Below wc.heap.size wc u → OutI w1 B5 (.slice xa r.X.length xc) (.slice ya r.Y.length yc) (.slice (some ⟨gz, 0, none⟩) r.arcs.length zc) { r with X := X', Y := Y', arcs := (r.arcs.take (k + 1)).map (mvA r.nodes by_) ++ r.arcs.drop (k + 1) } ((u.setCell ⟨gz, k * 3, none⟩ (.int .i64 M0)).setCell ⟨gz, k * 3 + 1, none⟩ (.int .i64 M1)) := fun u hu => by
              have hI1 := ((hI.below hbc).below hu).setA (u := M0) hlen k 0 hkl (by omega) (o := k * 3) rfl
              have hkl2 : k < (((r.arcs.take k).map (mvA r.nodes by_) ++ r.arcs.drop k).set k (setArc 0 M0 (((r.arcs.take k).map (mvA r.nodes by_) ++ r.arcs.drop k)[k]'hkl))).length := by rw [List.length_set]; exact hkl
              have hI2 := hI1.setA (u := M1) ((List.length_set ..).trans hlen) k 1 hkl2 (by omega) (o := k * 3 + 1) rfl
              have hfin : ((((r.arcs.take k).map (mvA r.nodes by_) ++ r.arcs.drop k).set k (setArc 0 M0 (((r.arcs.take k).map (mvA r.nodes by_) ++ r.arcs.drop k)[k]'(by omega)))).set k (setArc 1 M1 ((((r.arcs.take k).map (mvA r.nodes by_) ++ r.arcs.drop k).set k (setArc 0 M0 (((r.arcs.take k).map (mvA r.nodes by_) ++ r.arcs.drop k)[k]'(by omega))))[k]'(by rw [List.length_set]; omega)))) = (r.arcs.take (k + 1)).map (mvA r.nodes by_) ++ r.arcs.drop (k + 1) := by
                rw [List.getElem_set_self, hget, ← hx]; exact hst
              rw [← hfin]; exact hI2
            have hSf : ∀ u, Below wc.heap.size wc u → (u.cell? ⟨B5, 3, none⟩ = some (.slice (some ⟨gz, 0, none⟩) r.arcs.length zc) ∧ u.cell? ⟨Ba, 0, none⟩ = some (.int .i64 x0) ∧ u.cell? ⟨Ba, 1, none⟩ = some (.int .i64 x1)) := fun u hu => by
              have q1 := ((hI.below hbc).below hu).blk.cell 3
              have q2 := (hBc.below hu hBc.lt).cell 0; have q3 := (hBc.below hu hBc.lt).cell 1
              exact ⟨q1, q2, q3⟩
            have hCm : ∀ (x M : Int), M = mvI r.nodes by_ x → (0 ≤ x ∧ x < r.nodes) → ∀ u, Below wc.heap.size wc u → Calls Tryd.prog 51 #[.int .i64 x, .pointer (some ⟨B3, 0, none⟩), .pointer (some ⟨B2, 0, none⟩)] u fun e w' => e = .returned (.int .i64 M) ∧ Below u.heap.size u w' := fun x M hM hx u hu => by
              rw [hM]
              exact move_any r.nodes by_ x B2 B3 _ _ _ u ((b2.below hbc b2.lt).below hu (b2.below hbc b2.lt).lt) ((b3.below hbc b3.lt).below hu (b3.below hbc b3.lt).lt) HOk.out.nodes hx
            have hC0 := hCm x0 M0 hM0 ha0
            have hC1 := hCm x1 M1 hM1 ha1
            have hW : ∀ u, Below wc.heap.size wc u → (u.cell? ⟨gz, k * 3, none⟩ = some (.int .i64 x0) ∧ u.cell? ⟨gz, k * 3 + 1, none⟩ = some (.int .i64 x1) ∧ u.frozen? ⟨gz, k * 3, none⟩ = false ∧ u.frozen? ⟨gz, k * 3 + 1, none⟩ = false) := fun u hu => by
              have hg2 := (hgB.below hbc hgl)
              have hg3 := hg2.below hu hg2.lt
              exact ⟨cell_later hu (cell_later hbc u0), cell_later hu (cell_later hbc u1), hg3.free _ (Or.inr (Nat.zero_le _)), hg3.free _ (Or.inr (Nat.zero_le _))⟩
            have i0 : (0 : Int) ≤ (k : Int) := by omega
            have HSf := Lib.hid hSf; have HC0 := Lib.hid hC0; have HC1 := Lib.hid hC1; have HW := Lib.hid hW; have HFin := Lib.hid hfin
            have HT := Lib.hid (And.intro hBtg hgne)
            have HWc := Lib.hid hwc; have HBa := Lib.hid hBa
            clear hrel hI hle5 hkp hn25 hn35 b2 b3 hlen hget hst hx ha0 ha1 hM0 hM1 hwc hbc hBc hgB hgb hgl hgne hBtg sA eg u0 u1 u2 hkl hfin hSf hCm hC0 hC1 hW
            go_wp2_with fail
            rw [← HWc.out, ← HBa.out]
            clear hBa
            refine wp_region_heldD (fun w' => w'.cell? ⟨B5, 3, none⟩ = some (.slice (some ⟨gz, 0, none⟩) r.arcs.length zc) ∧ w'.cell? ⟨Ba, 0, none⟩ = some (.int .i64 x0) ∧ w'.cell? ⟨Ba, 1, none⟩ = some (.int .i64 x1)) 19 rfl ?_
            change heldD _ _ _ _ _ _ _ 20 _ _ wc.drew
            have hd0 : Below wc.heap.size wc wc.drew := (Below.refl _ _).drew
            have hS0 : wc.drew.cell? ⟨B5, 3, none⟩ = some (.slice (some ⟨gz, 0, none⟩) r.arcs.length zc) ∧ wc.drew.cell? ⟨Ba, 0, none⟩ = some (.int .i64 x0) ∧ wc.drew.cell? ⟨Ba, 1, none⟩ = some (.int .i64 x1) := HSf.out _ hd0
            refine heldD_takeF (i := 0) (v := .pointer (some ⟨B5, 3, none⟩)) rfl rfl rfl (by kernel_rfl) (by kernel_rfl) (by kernel_rfl) (by kernel_rfl) (fun _ _ _ h => h) (by rfl) (fun w => ⟨by rfl, by go_simp⟩) (fun _ => hS0) ?_
            simp only [List.setIfInBounds_toArray, List.set_cons_zero, List.set_cons_succ]
            refine heldD_take (i := 1) (v := .slice (some ⟨gz, 0, none⟩) r.arcs.length zc) rfl rfl rfl (by kernel_rfl) (by kernel_rfl) (by kernel_rfl) (by kernel_rfl) (by kernel_rfl) (by kernel_rfl) (fun _ _ _ h => h) (by rfl) (fun w hS => ⟨by rfl, by obtain ⟨hS1, hS2, hS3⟩ := hS; go_simp⟩) hS0 ?_
            simp only [List.setIfInBounds_toArray, List.set_cons_zero, List.set_cons_succ]
            refine heldD_takeF (i := 2) (v := .int .i64 (k : Nat)) rfl rfl rfl (by kernel_rfl) (by kernel_rfl) (by kernel_rfl) (by kernel_rfl) (fun _ _ _ h => h) (by rfl) (fun w => ⟨by rfl, by go_simp⟩) (fun _ => hS0) ?_
            simp only [List.setIfInBounds_toArray, List.set_cons_zero, List.set_cons_succ]
            refine heldD_takeF (i := 3) (v := .pointer (some ⟨B5, 3, none⟩)) rfl rfl rfl (by kernel_rfl) (by kernel_rfl) (by kernel_rfl) (by kernel_rfl) (fun _ _ _ h => h) (by rfl) (fun w => ⟨by rfl, by go_simp⟩) (fun _ => hS0) ?_
            simp only [List.setIfInBounds_toArray, List.set_cons_zero, List.set_cons_succ]
            refine heldD_take (i := 4) (v := .slice (some ⟨gz, 0, none⟩) r.arcs.length zc) rfl rfl rfl (by kernel_rfl) (by kernel_rfl) (by kernel_rfl) (by kernel_rfl) (by kernel_rfl) (by kernel_rfl) (fun _ _ _ h => h) (by rfl) (fun w hS => ⟨by rfl, by obtain ⟨hS1, hS2, hS3⟩ := hS; go_simp⟩) hS0 ?_
            simp only [List.setIfInBounds_toArray, List.set_cons_zero, List.set_cons_succ]
            refine heldD_takeF (i := 5) (v := .int .i64 (k : Nat)) rfl rfl rfl (by kernel_rfl) (by kernel_rfl) (by kernel_rfl) (by kernel_rfl) (fun _ _ _ h => h) (by rfl) (fun w => ⟨by rfl, by go_simp⟩) (fun _ => hS0) ?_
            simp only [List.setIfInBounds_toArray, List.set_cons_zero, List.set_cons_succ]
            refine heldD_takeF (i := 6) (v := .func (.func 51) #[] #[.pointer (some ⟨B3, 0, none⟩), .pointer (some ⟨B2, 0, none⟩)]) rfl rfl rfl (by kernel_rfl) (by kernel_rfl) (by kernel_rfl) (by kernel_rfl) (fun _ _ _ h => h) (by rfl) (fun w => ⟨by rfl, by go_simp⟩) (fun _ => hS0) ?_
            simp only [List.setIfInBounds_toArray, List.set_cons_zero, List.set_cons_succ]
            refine heldD_takeF (i := 7) (v := .pointer (some ⟨Ba, 0, none⟩)) rfl rfl rfl (by kernel_rfl) (by kernel_rfl) (by kernel_rfl) (by kernel_rfl) (fun _ _ _ h => h) (by rfl) (fun w => ⟨by rfl, by go_simp⟩) (fun _ => hS0) ?_
            simp only [List.setIfInBounds_toArray, List.set_cons_zero, List.set_cons_succ]
            refine heldD_take (i := 8) (v := .int .i64 x0) rfl rfl rfl (by kernel_rfl) (by kernel_rfl) (by kernel_rfl) (by kernel_rfl) (by kernel_rfl) (by kernel_rfl) (fun _ _ _ h => h) (by rfl) (fun w hS => ⟨by rfl, by obtain ⟨hS1, hS2, hS3⟩ := hS; go_simp⟩) hS0 ?_
            simp only [List.setIfInBounds_toArray, List.set_cons_zero, List.set_cons_succ]
            refine heldD_takeF (i := 10) (v := .func (.func 51) #[] #[.pointer (some ⟨B3, 0, none⟩), .pointer (some ⟨B2, 0, none⟩)]) rfl rfl rfl (by kernel_rfl) (by kernel_rfl) (by kernel_rfl) (by kernel_rfl) (fun _ _ _ h => h) (by rfl) (fun w => ⟨by rfl, by go_simp⟩) (fun _ => hS0) ?_
            simp only [List.setIfInBounds_toArray, List.set_cons_zero, List.set_cons_succ]
            refine heldD_takeF (i := 11) (v := .pointer (some ⟨Ba, 1, none⟩)) rfl rfl rfl (by kernel_rfl) (by kernel_rfl) (by kernel_rfl) (by kernel_rfl) (fun _ _ _ h => h) (by rfl) (fun w => ⟨by rfl, by go_simp⟩) (fun _ => hS0) ?_
            simp only [List.setIfInBounds_toArray, List.set_cons_zero, List.set_cons_succ]
            refine heldD_take (i := 12) (v := .int .i64 x1) rfl rfl rfl (by kernel_rfl) (by kernel_rfl) (by kernel_rfl) (by kernel_rfl) (by kernel_rfl) (by kernel_rfl) (fun _ _ _ h => h) (by rfl) (fun w hS => ⟨by rfl, by obtain ⟨hS1, hS2, hS3⟩ := hS; go_simp⟩) hS0 ?_
            simp only [List.setIfInBounds_toArray, List.set_cons_zero, List.set_cons_succ]
            refine heldD_one (i := 9) (by kernel_rfl) ?_
            refine wpOpIn_calls' (f := 51) (args := #[.int .i64 x0, .pointer (some ⟨B3, 0, none⟩), .pointer (some ⟨B2, 0, none⟩)]) rfl rfl (by rfl) (by go_simp) (HC0.out _ hd0) ?_
            rintro e w5 ⟨rfl, hb5⟩
            refine ⟨_, rfl, ?_⟩
            have hd1 := hd0.next' hb5
            clear hS0
            have hS0 := HSf.out _ hd1
            refine ⟨fun _ => hS0, ?_⟩
            simp only [List.setIfInBounds_toArray, List.set_cons_zero, List.set_cons_succ]
            refine heldD_one (i := 13) (by kernel_rfl) ?_
            refine wpOpIn_calls' (f := 51) (args := #[.int .i64 x1, .pointer (some ⟨B3, 0, none⟩), .pointer (some ⟨B2, 0, none⟩)]) rfl rfl (by rfl) (by go_simp) (HC1.out _ hd1) ?_
            rintro e w6 ⟨rfl, hb6⟩
            refine ⟨_, rfl, ?_⟩
            have hd2 := hd1.next' hb6
            clear hS0
            have hS0 := HSf.out _ hd2
            refine ⟨fun _ => hS0, ?_⟩
            simp only [List.setIfInBounds_toArray, List.set_cons_zero, List.set_cons_succ]
            obtain ⟨s1, s2, s3, s4⟩ := HW.out _ hd2
            refine heldD_takeF (i := 14) (v := .pointer (some ⟨gz, k * 3, none⟩)) rfl rfl rfl (by kernel_rfl) (by kernel_rfl) (by kernel_rfl) (by kernel_rfl) (fun _ _ _ h => h) (by rfl) (fun w => ⟨by rfl, by go_simp⟩) (fun _ => hS0) ?_
            simp only [List.setIfInBounds_toArray, List.set_cons_zero, List.set_cons_succ]
            refine heldD_takeF (i := 15) (v := .pointer (some ⟨gz, k * 3, none⟩)) rfl rfl rfl (by kernel_rfl) (by kernel_rfl) (by kernel_rfl) (by kernel_rfl) (fun _ _ _ h => h) (by rfl) (fun w => ⟨by rfl, by go_simp⟩) (fun _ => hS0) ?_
            simp only [List.setIfInBounds_toArray, List.set_cons_zero, List.set_cons_succ]
            refine heldD_one (i := 16) (by kernel_rfl) ?_
            refine wpOpIn_skip (w' := w6.setCell ⟨gz, k * 3, none⟩ (.int .i64 M0)) rfl rfl rfl (by rfl) (by rfl) (by go_simp) ?_
            have hS2 : (w6.setCell ⟨gz, k * 3, none⟩ (.int .i64 M0)).cell? ⟨B5, 3, none⟩ = some (.slice (some ⟨gz, 0, none⟩) r.arcs.length zc) ∧ (w6.setCell ⟨gz, k * 3, none⟩ (.int .i64 M0)).cell? ⟨Ba, 0, none⟩ = some (.int .i64 x0) ∧ (w6.setCell ⟨gz, k * 3, none⟩ (.int .i64 M0)).cell? ⟨Ba, 1, none⟩ = some (.int .i64 x1) := ⟨(World.cell?_of_block (heap_setCell_other _ _ _ _ HT.out.1)).trans hS0.1, (World.cell?_of_block (heap_setCell_other _ _ _ _ HT.out.2)).trans hS0.2.1, (World.cell?_of_block (heap_setCell_other _ _ _ _ HT.out.2)).trans hS0.2.2⟩
            refine ⟨fun _ => hS2, ?_⟩
            clear hS0
            refine heldD_takeF (i := 17) (v := .pointer (some ⟨gz, k * 3, none⟩)) rfl rfl rfl (by kernel_rfl) (by kernel_rfl) (by kernel_rfl) (by kernel_rfl) (fun _ _ _ h => h) (by rfl) (fun w => ⟨by rfl, by go_simp⟩) (fun _ => hS2) ?_
            simp only [List.setIfInBounds_toArray, List.set_cons_zero, List.set_cons_succ]
            refine heldD_takeF (i := 18) (v := .pointer (some ⟨gz, k * 3 + 1, none⟩)) rfl rfl rfl (by kernel_rfl) (by kernel_rfl) (by kernel_rfl) (by kernel_rfl) (fun _ _ _ h => h) (by rfl) (fun w => ⟨by rfl, by go_simp⟩) (fun _ => hS2) ?_
            simp only [List.setIfInBounds_toArray, List.set_cons_zero, List.set_cons_succ]
            refine heldD_one (i := 19) (by kernel_rfl) ?_
            refine wpOpIn_skip (w' := (w6.setCell ⟨gz, k * 3, none⟩ (.int .i64 M0)).setCell ⟨gz, k * 3 + 1, none⟩ (.int .i64 M1)) rfl rfl rfl (by rfl) (by rfl) (by go_simp) ?_
            refine ⟨fun h => (by cases h), ?_⟩
            refine heldD_done (by kernel_rfl) ?_ _
            have HF := Lib.hid (HFin.out _ hd2)
            clear hS2 s1 s2 s3 s4 hd0 hd1 hd2 hb5 hb6 d0 d1 d2
            go_wp2_with fail
            go_roundw
            case rel => exact ⟨k + 1, by omega, by go_num, Lib.hid HF.out⟩
            case measure => simp [intOf]; omega
          · obtain rfl : k = r.arcs.length := by omega
            have he : (r.arcs.take r.arcs.length).map (mvA r.nodes by_) ++ r.arcs.drop r.arcs.length = r.arcs.map (mvA r.nodes by_) := by simp
            rw [he] at hI
            have HI4 := Lib.hid hI
            have hmt : MovedTo by_ r { r with X := X', Y := Y', arcs := r.arcs.map (mvA r.nodes by_) } := ⟨rfl, HLx.out, HLy.out, fun v hv => HXs.out v (by have := HN.out; omega), fun v hv => HYs.out v (by have := HN.out; omega), rfl⟩
            have HMt := Lib.hid hmt
            clear hI hrel he hmt
            have fxy := HI4.out.own.1.one'; have fyy := HI4.out.own.2.1.one'; have faa := HI4.out.own.2.2.1.one'
            obtain ⟨xa, xn, xc, exX⟩ := fxy
            obtain ⟨ya, yn, yc, exY⟩ := fyy
            obtain ⟨za, zn, zc, exA⟩ := faa
            rw [exX, exY, exA] at HI4
            have bO := HI4.out.blk
            have c0 := bO.cell 0; have c1 := bO.cell 1; have c2 := bO.cell 2; have c3 := bO.cell 3
            change wr.cell? ⟨B5, 0, none⟩ = some (.int .i64 r.nodes) at c0
            change wr.cell? ⟨B5, 1, none⟩ = some (.slice xa xn xc) at c1
            change wr.cell? ⟨B5, 2, none⟩ = some (.slice ya yn yc) at c2
            change wr.cell? ⟨B5, 3, none⟩ = some (.slice za zn zc) at c3
            have hn45 : ¬ B4 = B5 := by have := HH.out.2.2; have := HB5l.out; omega
            have bC3 := HI4.out.kept.blk HK4.out hn45
            have e0 := bC3.cell 0; have e1 := bC3.cell 1; have e2 := bC3.cell 2; have e3 := bC3.cell 3
            change wr.cell? ⟨B4, 0, none⟩ = some (.int .i64 0) at e0
            change wr.cell? ⟨B4, 1, none⟩ = some (.slice none 0 0) at e1
            change wr.cell? ⟨B4, 2, none⟩ = some (.slice none 0 0) at e2
            change wr.cell? ⟨B4, 3, none⟩ = some (.slice none 0 0) at e3
            have fr := fun i => bC3.free i (Or.inr (Nat.zero_le _))
            have f0 := fr 0; have f1 := fr 1; have f2 := fr 2; have f3 := fr 3
            have hle := HLe.out
            have hle5 : w.heap.size ≤ B5 := by have := HB1.out.size; have := HB5l.out; omega
            have bZ := (((bC3.set 0 (.int .i64 r.nodes)).set 1 (.slice xa xn xc)).set 2 (.slice ya yn yc)).set 3 (.slice za zn zc)
            have R2 := (((HI4.out.own.set (p := ⟨B4, 0, none⟩) bC3 (by decide) (by decide) (.int .i64 r.nodes)).set (p := ⟨B4, 1, none⟩) (bC3.set 0 (.int .i64 r.nodes)) (by decide) (by decide) (.slice xa xn xc)).set (p := ⟨B4, 2, none⟩) ((bC3.set 0 (.int .i64 r.nodes)).set 1 (.slice xa xn xc)) (by decide) (by decide) (.slice ya yn yc)).set (p := ⟨B4, 3, none⟩) (((bC3.set 0 (.int .i64 r.nodes)).set 1 (.slice xa xn xc)).set 2 (.slice ya yn yc)) (by decide) (by decide) (.slice za zn zc)
            have B2' := ((((below_of HB1.out HI4.out.kept hle5).setCell (p := ⟨B4, 0, none⟩) hle (.int .i64 r.nodes)).setCell (p := ⟨B4, 1, none⟩) hle (.slice xa xn xc)).setCell (p := ⟨B4, 2, none⟩) hle (.slice ya yn yc)).setCell (p := ⟨B4, 3, none⟩) hle (.slice za zn zc)
            have hsz1 := HB1.out.size
            have HZ := Lib.hid bZ; have HR2 := Lib.hid R2; have HBz := Lib.hid B2'
            clear bZ R2 B2' bC3 bO fr hle hle5 HI4 hn45 exX exY exA
            go_wp2_with fail
            generalize (((wr.setCell ⟨B4, 0, none⟩ (.int .i64 r.nodes)).setCell ⟨B4, 1, none⟩ (.slice xa xn xc)).setCell ⟨B4, 2, none⟩ (.slice ya yn yc)).setCell ⟨B4, 3, none⟩ (.slice za zn zc) = wz at *
            have z0 := HZ.out.cell 0; have z1 := HZ.out.cell 1; have z2 := HZ.out.cell 2; have z3 := HZ.out.cell 3
            change wz.cell? ⟨B4, 0, none⟩ = some (.int .i64 r.nodes) at z0
            change wz.cell? ⟨B4, 1, none⟩ = some (.slice xa xn xc) at z1
            change wz.cell? ⟨B4, 2, none⟩ = some (.slice ya yn yc) at z2
            change wz.cell? ⟨B4, 3, none⟩ = some (.slice za zn zc) at z3
            exact bodyPost_ret (v := .agg #[.int .i64 r.nodes, .slice xa xn xc, .slice ya yn yc, .slice za zn zc]) (by simp [results, Tryd.results26, go_sem, z0, z1, z2, z3]) rfl ⟨_, { r with X := X', Y := Y', arcs := r.arcs.map (mvA r.nodes by_) }, rfl, ⟨_, _, _, rfl, ownsRow_le HR2.out.1 hsz1, ownsRow_le HR2.out.2.1 hsz1, ownsRow_le HR2.out.2.2.1 hsz1, HR2.out.2.2.2⟩, fun h => (h Hok.out).elim, fun _ => HMt.out, HBz.out⟩
  · have hnok : ¬ r.ok := fun h => hz (hw.2 h)
    have HNok := Lib.hid hnok
    have HI4 := Lib.hid hI4
    clear hnok hw hz hi hb4 hI4 K2' C2 HI HC20 q0 q1 q2 q3
    have fxy := HI4.out.own.1.one'; have fyy := HI4.out.own.2.1.one'; have faa := HI4.out.own.2.2.1.one'
    obtain ⟨xa, xn, xc, exX⟩ := fxy
    obtain ⟨ya, yn, yc, exY⟩ := fyy
    obtain ⟨za, zn, zc, exA⟩ := faa
    rw [exX, exY, exA] at HI4
    have bO := HI4.out.blk
    have c0 := bO.cell 0; have c1 := bO.cell 1; have c2 := bO.cell 2; have c3 := bO.cell 3
    change w4.cell? ⟨B5, 0, none⟩ = some (.int .i64 r.nodes) at c0
    change w4.cell? ⟨B5, 1, none⟩ = some (.slice xa xn xc) at c1
    change w4.cell? ⟨B5, 2, none⟩ = some (.slice ya yn yc) at c2
    change w4.cell? ⟨B5, 3, none⟩ = some (.slice za zn zc) at c3
    have hn45 : ¬ B4 = B5 := by have := HH.out.2.2; have := HB5l.out; omega
    have bC3 := HI4.out.kept.blk HK4.out hn45
    have e0 := bC3.cell 0; have e1 := bC3.cell 1; have e2 := bC3.cell 2; have e3 := bC3.cell 3
    change w4.cell? ⟨B4, 0, none⟩ = some (.int .i64 0) at e0
    change w4.cell? ⟨B4, 1, none⟩ = some (.slice none 0 0) at e1
    change w4.cell? ⟨B4, 2, none⟩ = some (.slice none 0 0) at e2
    change w4.cell? ⟨B4, 3, none⟩ = some (.slice none 0 0) at e3
    have fr := fun i => bC3.free i (Or.inr (Nat.zero_le _))
    have f0 := fr 0; have f1 := fr 1; have f2 := fr 2; have f3 := fr 3
    have hle := HLe.out
    have hle5 : w.heap.size ≤ B5 := by have := HB1.out.size; have := HB5l.out; omega
    have bZ := (((bC3.set 0 (.int .i64 r.nodes)).set 1 (.slice xa xn xc)).set 2 (.slice ya yn yc)).set 3 (.slice za zn zc)
    have R2 := (((HI4.out.own.set (p := ⟨B4, 0, none⟩) bC3 (by decide) (by decide) (.int .i64 r.nodes)).set (p := ⟨B4, 1, none⟩) (bC3.set 0 (.int .i64 r.nodes)) (by decide) (by decide) (.slice xa xn xc)).set (p := ⟨B4, 2, none⟩) ((bC3.set 0 (.int .i64 r.nodes)).set 1 (.slice xa xn xc)) (by decide) (by decide) (.slice ya yn yc)).set (p := ⟨B4, 3, none⟩) (((bC3.set 0 (.int .i64 r.nodes)).set 1 (.slice xa xn xc)).set 2 (.slice ya yn yc)) (by decide) (by decide) (.slice za zn zc)
    have B2' := ((((below_of HB1.out HI4.out.kept hle5).setCell (p := ⟨B4, 0, none⟩) hle (.int .i64 r.nodes)).setCell (p := ⟨B4, 1, none⟩) hle (.slice xa xn xc)).setCell (p := ⟨B4, 2, none⟩) hle (.slice ya yn yc)).setCell (p := ⟨B4, 3, none⟩) hle (.slice za zn zc)
    have hsz1 := HB1.out.size
    have HZ := Lib.hid bZ; have HR2 := Lib.hid R2; have HBz := Lib.hid B2'
    clear bZ R2 B2' bC3 bO fr hle hle5 HI4 hn45 exX exY exA
    go_wp2_with fail
    generalize (((w4.setCell ⟨B4, 0, none⟩ (.int .i64 r.nodes)).setCell ⟨B4, 1, none⟩ (.slice xa xn xc)).setCell ⟨B4, 2, none⟩ (.slice ya yn yc)).setCell ⟨B4, 3, none⟩ (.slice za zn zc) = wz at *
    have z0 := HZ.out.cell 0; have z1 := HZ.out.cell 1; have z2 := HZ.out.cell 2; have z3 := HZ.out.cell 3
    change wz.cell? ⟨B4, 0, none⟩ = some (.int .i64 r.nodes) at z0
    change wz.cell? ⟨B4, 1, none⟩ = some (.slice xa xn xc) at z1
    change wz.cell? ⟨B4, 2, none⟩ = some (.slice ya yn yc) at z2
    change wz.cell? ⟨B4, 3, none⟩ = some (.slice za zn zc) at z3
    exact bodyPost_ret (v := .agg #[.int .i64 r.nodes, .slice xa xn xc, .slice ya yn yc, .slice za zn zc]) (by simp [results, Tryd.results26, go_sem, z0, z1, z2, z3]) rfl ⟨_, r, rfl, ⟨_, _, _, rfl, ownsRow_le HR2.out.1 hsz1, ownsRow_le HR2.out.2.1 hsz1, ownsRow_le HR2.out.2.2.1 hsz1, HR2.out.2.2.2⟩, fun _ => rfl, fun h => (HNok.out h).elim, HBz.out⟩
end Go.Proofs.YtnkcmlngoeofgaaDoor
