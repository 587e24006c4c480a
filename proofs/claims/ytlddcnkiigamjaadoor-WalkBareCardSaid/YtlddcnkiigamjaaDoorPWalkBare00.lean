/- Texts of the law WalkBare, merged: WalkBareQ, WalkBareW, WalkBareL. -/
import Derived.Test.YtlddcnkiigamjaaDoorPWalkJoins00
import Derived.Test.YtlddcnkiigamjaaDoorPWalkTurned15
import Derived.Test.YtlddcnkiigamjaaDoorPWalkTurned18
/- what WalkBare says of a bare walk, in plain words. -/
namespace Go.Proofs.YtlddcnkiigamjaaDoor
open Go.RowKit
/-- all that is asked of a bare walk O, whose nodes are s :: lb -/
structure Bared (g : Raw) (s cur : Int) (M O lb : List Int) : Prop where
  bare : bareO g s M = some O
  walk : wk g s O = some lb
  last : lastN s lb = cur
  len : lb.length = O.length
  few : (O.length : Int) < g.nodes
  light : wt g O ≤ wt g M
  nodup : (s :: lb).Nodup
  sub : O.Sublist M
  again : bareO g s O = some O
theorem bared {g : Raw} (hok : g.Ok) {s cur : Int} {M l : List Int} (hs : 0 ≤ s ∧ s < g.nodes) (hw : wk g s M = some l) (ht : lastN s l = cur) : ∃ O lb, Bared g s cur M O lb := by
  obtain ⟨hbi, hlast, hsub⟩ := bare_of hw
  obtain ⟨lb, h1, h2, h3⟩ := hbi.last
  have hlen := wk_len h2
  refine ⟨(bareV s (M.zip l)).2, lb, ?_, h2, ?_, hlen, ?_, ?_, ?_, hsub, ?_⟩
  · unfold bareO; rw [if_pos hs, hw]; rfl
  · rw [← h3, hlast]; exact ht
  · have hnd := hbi.nodup
    rw [h1] at hnd
    have := nodup_lt g.nodes.toNat (s :: lb) hnd (fun v hv => by
      rcases List.mem_cons.1 hv with rfl | hv
      · omega
      · have := wk_nodes hok.ends h2 v hv; omega)
    rw [List.length_cons] at this
    omega
  · exact wt_sub (fun a ha => (hok.wts a ha).1) hsub
  · have hnd := hbi.nodup
    rw [h1] at hnd
    exact hnd
  · unfold bareO; rw [if_pos hs, h2]
    exact congrArg some (bare_again hbi h2)
/-- the rest of a row that lies in another one, in order -/
theorem sub_hit {x : Int} {A B : List Int} (h : (x :: A).Sublist (x :: B)) : A.Sublist B := List.cons_sublist_cons.1 h
theorem sub_miss {x y : Int} {A B : List Int} (hne : y ≠ x) (h : (x :: A).Sublist (y :: B)) : (x :: A).Sublist B := by
  cases h with
  | cons _ h => exact h
  | cons_cons _ h => exact absurd rfl hne
theorem sub_drop_hit {O M : List Int} {i j : Nat} (hi : i < M.length) (hj : j < O.length) (h : (O.drop j).Sublist (M.drop i)) (e : M[i] = O[j]) : (O.drop (j + 1)).Sublist (M.drop (i + 1)) := by
  rw [List.drop_eq_getElem_cons hj, List.drop_eq_getElem_cons hi, e] at h
  exact sub_hit h
theorem sub_drop_miss {O M : List Int} {i j : Nat} (hi : i < M.length) (hj : j < O.length) (h : (O.drop j).Sublist (M.drop i)) (e : M[i] ≠ O[j]) : (O.drop j).Sublist (M.drop (i + 1)) := by
  rw [List.drop_eq_getElem_cons hj] at h ⊢
  rw [List.drop_eq_getElem_cons hi] at h
  exact sub_miss e h
theorem nodup_apart {L : List Int} (h : L.Nodup) {i j : Nat} (hi : i < L.length) (hj : j < i) : L[i] ≠ L[j] := fun e => by
  have := (List.getElem_inj h).1 e
  omega
end Go.Proofs.YtlddcnkiigamjaaDoor
/- WalkBare, its walk. -/
namespace Go.Proofs.YtlddcnkiigamjaaDoor
open Go.RowKit Go.Shelf
attribute [local go_sem] Oper.semAt_some
set_option maxRecDepth 100000 in
set_option maxHeartbeats 8000000 in
theorem walkBare_any (vb vw : Value) (lb0 lw : List Int) (x0 : Nat) (x1 : Int) (w : World) (hB : SlI w vb .u8 lb0) (hW : SlI w vw .u8 lw) (hx0 : x0 < 256) (hlw : ∀ b ∈ lw, 0 ≤ b ∧ b < 256) (hg : HG w) :
    Calls Tryd.prog 6 #[.agg #[vb, vw, .int .u8 (x0 : Nat), .int .u8 x1]] w fun e w' => e = .returned (.bool true) ∧ Below w.heap.size w w' := by
  obtain ⟨ba, bc, rfl, hb1, hb2, hb3⟩ := id hB
  obtain ⟨wa, wc, rfl, hw1, hw2, hw3⟩ := id hW
  obtain ⟨w0, hw0⟩ : ∃ u, u = w.alloc (.cells #[.slice ba lb0.length bc, .slice wa lw.length wc, .int .u8 (x0 : Nat), .int .u8 x1] 44) := ⟨_, rfl⟩
  have hb0 : Below w.heap.size w w0 := by rw [hw0]; exact (Below.refl _ _).alloc (Nat.le_refl _) _
  have k1 : Blk w0 w.heap.size #[.slice ba lb0.length bc, .slice wa lw.length wc, .int .u8 (x0 : Nat), .int .u8 x1] 44 (0, 0) := by rw [hw0]; exact Blk.new _ _ _ _
  obtain ⟨B1, hB1⟩ : ∃ b, b = w.heap.size := ⟨_, rfl⟩
  rw [← hB1] at k1
  have HG0 := Lib.hid hg; have HB := Lib.hid hB; have HWd := Lib.hid hW; have HW0 := Lib.hid hw0; have HB0 := Lib.hid hb0; have HK1 := Lib.hid k1; have HB1 := Lib.hid hB1
  clear hg hB hW hw0 hb0 k1 hb1 hb2 hb3 hw1 hw3
  unfold maxLen at hw2
  have hwl : lw.length ≤ wc := by have := HWd.out; obtain ⟨_, _, e, h, _⟩ := this; simp at e; obtain ⟨_, rfl⟩ := e; exact h
  go_enter Tryd.func6, Tryd.ntmps6
  go_wp2_with fail
  rw [← HW0.out, ← hB1]
  clear hB1
  refine (works09_any w0 (HG0.out.later HB0.out)).mono ?_
  rintro e w1 ⟨rfl, hb⟩
  have HBw1 := Lib.hid (HB0.out.next' hb)
  have k1 := HK1.out.below hb HK1.out.lt
  have HK1' := Lib.hid k1
  have c0 := k1.cell 0
  simp only [List.getElem?_toArray, List.getElem?_cons_zero] at c0
  clear hb k1 HK1
  have HSb := Lib.hid (SlI.later HBw1.out HB.out)
  go_wp2_with fail
  refine (drawn09_any _ lb0 w1 (HG0.out.later HBw1.out) HSb.out).mono ?_
  rintro e w2 ⟨rv, g, q, rfl, hraw, hnet, hok, hgl, hb⟩
  obtain ⟨vx, vy, vz, rfl, hx, hy, hz⟩ := id hraw
  obtain ⟨xa, xn, xc, rfl⟩ := hx.form
  obtain ⟨ya, yn, yc, rfl⟩ := hy.form
  obtain ⟨za, zn, zc, rfl⟩ := hz.form
  have HBw2 := Lib.hid (HBw1.out.next' hb)
  have k1 := HK1'.out.below hb HK1'.out.lt
  have HK2 := Lib.hid k1
  obtain ⟨w3, hw3⟩ : ∃ u, u = w2.alloc (.cells #[.int .i64 g.nodes, .slice xa xn xc, .slice ya yn yc, .slice za zn zc] 26) := ⟨_, rfl⟩
  have hb3 : Below w2.heap.size w2 w3 := by rw [hw3]; exact (Below.refl _ _).alloc (Nat.le_refl _) _
  have k3 : Blk w3 w2.heap.size #[.int .i64 g.nodes, .slice xa xn xc, .slice ya yn yc, .slice za zn zc] 26 (0, 0) := by rw [hw3]; exact Blk.new _ _ _ _
  have hc3 := (k1.below hb3 k1.lt)
  have c2 := hc3.cell 2
  simp only [List.getElem?_toArray, List.getElem?_cons_succ, List.getElem?_cons_zero] at c2
  have n0 := k3.cell 0
  simp only [List.getElem?_toArray, List.getElem?_cons_zero] at n0
  rw [hw3] at c2 n0
  have hN := hok.nodes.1
  have hnz : (g.nodes == 0) = false := by simp; omega
  obtain ⟨s, hs⟩ : ∃ s, s = (x0 : Int).tmod g.nodes := ⟨_, rfl⟩
  have hs2 : (x0 : Int).tmod g.nodes = s := hs.symm
  have HW3 := Lib.hid hw3; have HK3 := Lib.hid k3; have HKd := Lib.hid hc3; have HRw := Lib.hid hraw; have HNt := Lib.hid hnet; have HOk := Lib.hid hok; have HGl := Lib.hid hgl; have HBw3 := Lib.hid (HBw2.out.next' hb3); have HS := Lib.hid hs
  clear hw3 hb3 k3 hc3 hraw hnet hok hgl hb k1 hx hy hz hs c0
  have hx1 : (0 : Int) ≤ (x0 : Int) ∧ (x0 : Int) < 256 := ⟨by omega, by omega⟩
  go_upto_region 5 with fail
  obtain ⟨mw, hmw⟩ : ∃ m : Nat, m = min lw.length 40 := ⟨_, rfl⟩
  have f1 : (if (40 : Int) < (lw.length : Int) then (40 : Int) else (lw.length : Int)) = (mw : Int) := by split <;> omega
  have f2 : (mw : Int) ≤ (wc : Int) := by omega
  have f3 : (0 : Int) ≤ (mw : Int) := by omega
  have HMw := Lib.hid (show (lw.take mw).length ≤ 40 by rw [List.length_take]; omega)
  rw [← HW3.out]
  obtain ⟨B3, hB3⟩ : ∃ b, b = w2.heap.size := ⟨_, rfl⟩
  rw [← hB3] at HK3 ⊢
  have HB3 := Lib.hid hB3
  clear hB3
  have HCW := Lib.hid (show ∀ u, Below w3.heap.size w3 u → Calls Tryd.prog 20 #[.agg #[.int .i64 g.nodes, .slice xa xn xc, .slice ya yn yc, .slice za zn zc], .int .i64 s, .slice wa mw wc] u fun e w' => ∃ x M cur, e = .returned x ∧ WkAt g s cur M ∧ M.length ≤ (lw.take mw).length ∧ w'.ownsRow u.heap.size 3 1 x M.length (M.flatMap inC) ∧ Below u.heap.size u w' from fun u hu => by
    have hb23 : Below w2.heap.size w2 u := by
      have h1 : Below w2.heap.size w2 w3 := by rw [HW3.out]; exact (Below.refl _ _).alloc (Nat.le_refl _) _
      exact h1.trans (hu.mono h1.size)
    have hr : RawV u (.agg #[.int .i64 g.nodes, .slice xa xn xc, .slice ya yn yc, .slice za zn zc]) g := by
      obtain ⟨_, _, _, e, q1, q2, q3⟩ := HRw.out
      have hk := KpC.of_below hb23
      exact ⟨_, _, _, e, q1.keep hk, q2.keep hk, q3.keep hk⟩
    exact refWalk_any _ g (by have := HGl.out.2; omega) s _ (lw.take mw) (by have := HMw.out; omega) (fun b hb => hlw b (List.mem_of_mem_take hb)) u hr (SlI.cut (SlI.later (HBw3.out.trans (hu.mono HBw3.out.size)) HWd.out) mw (by rw [hmw]; exact Nat.min_le_left _ _)))
  have HSS := Lib.hid (show ∀ u, Below w3.heap.size w3 u → u.cell? ⟨B3, 0, none⟩ = some (.int .i64 g.nodes) ∧ u.cell? ⟨B3, 1, none⟩ = some (.slice xa xn xc) ∧ u.cell? ⟨B3, 2, none⟩ = some (.slice ya yn yc) ∧ u.cell? ⟨B3, 3, none⟩ = some (.slice za zn zc) ∧ u.cell? ⟨B1, 1, none⟩ = some (.slice wa lw.length wc) from fun u hu => by
    have k3 := HK3.out.below hu HK3.out.lt
    have k1 := HKd.out.below hu HKd.out.lt
    exact ⟨k3.cell 0, k3.cell 1, k3.cell 2, k3.cell 3, k1.cell 1⟩)
  clear c2 n0 hmw
  refine wp_region_heldD (fun w' => w'.cell? ⟨B3, 0, none⟩ = some (.int .i64 g.nodes) ∧ w'.cell? ⟨B3, 1, none⟩ = some (.slice xa xn xc) ∧ w'.cell? ⟨B3, 2, none⟩ = some (.slice ya yn yc) ∧ w'.cell? ⟨B3, 3, none⟩ = some (.slice za zn zc) ∧ w'.cell? ⟨B1, 1, none⟩ = some (.slice wa lw.length wc)) 10 rfl ?_
  change heldD _ _ _ _ _ _ _ 11 _ _ w3.drew
  obtain ⟨wk0, hu0⟩ : ∃ u, u = w3.drew := ⟨_, rfl⟩
  have HBu := Lib.hid (show Below w3.heap.size w3 wk0 by rw [hu0]; exact (Below.refl _ _).drew)
  rw [← hu0]
  clear hu0
  refine heldD_take (i := 0) (v := .agg #[.int .i64 g.nodes, .slice xa xn xc, .slice ya yn yc, .slice za zn zc]) rfl rfl rfl (by kernel_rfl) (by kernel_rfl) (by kernel_rfl) (by kernel_rfl) (by kernel_rfl) (by kernel_rfl) (fun _ _ _ h => h) (by rfl) (fun w hS => ⟨by rfl, by obtain ⟨hS1, hS2, hS3, hS4, hS5⟩ := hS; go_simp⟩) (HSS.out _ HBu.out) ?_
  simp only [List.setIfInBounds_toArray, List.set_cons_zero, List.set_cons_succ]
  refine heldD_takeF (i := 1) (v := .int .i64 s) rfl rfl rfl (by kernel_rfl) (by kernel_rfl) (by kernel_rfl) (by kernel_rfl) (fun _ _ _ h => h) (by rfl) (fun w => ⟨by rfl, by go_simp⟩) (fun _ => HSS.out _ HBu.out) ?_
  simp only [List.setIfInBounds_toArray, List.set_cons_zero, List.set_cons_succ]
  refine heldD_takeF (i := 2) (v := .pointer (some ⟨B1, 1, none⟩)) rfl rfl rfl (by kernel_rfl) (by kernel_rfl) (by kernel_rfl) (by kernel_rfl) (fun _ _ _ h => h) (by rfl) (fun w => ⟨by rfl, by go_simp⟩) (fun _ => HSS.out _ HBu.out) ?_
  simp only [List.setIfInBounds_toArray, List.set_cons_zero, List.set_cons_succ]
  refine heldD_take (i := 3) (v := .slice wa lw.length wc) rfl rfl rfl (by kernel_rfl) (by kernel_rfl) (by kernel_rfl) (by kernel_rfl) (by kernel_rfl) (by kernel_rfl) (fun _ _ _ h => h) (by rfl) (fun w hS => ⟨by rfl, by obtain ⟨hS1, hS2, hS3, hS4, hS5⟩ := hS; go_simp⟩) (HSS.out _ HBu.out) ?_
  simp only [List.setIfInBounds_toArray, List.set_cons_zero, List.set_cons_succ]
  refine heldD_takeF (i := 4) (v := .pointer (some ⟨B1, 1, none⟩)) rfl rfl rfl (by kernel_rfl) (by kernel_rfl) (by kernel_rfl) (by kernel_rfl) (fun _ _ _ h => h) (by rfl) (fun w => ⟨by rfl, by go_simp⟩) (fun _ => HSS.out _ HBu.out) ?_
  simp only [List.setIfInBounds_toArray, List.set_cons_zero, List.set_cons_succ]
  refine heldD_take (i := 5) (v := .slice wa lw.length wc) rfl rfl rfl (by kernel_rfl) (by kernel_rfl) (by kernel_rfl) (by kernel_rfl) (by kernel_rfl) (by kernel_rfl) (fun _ _ _ h => h) (by rfl) (fun w hS => ⟨by rfl, by obtain ⟨hS1, hS2, hS3, hS4, hS5⟩ := hS; go_simp⟩) (HSS.out _ HBu.out) ?_
  simp only [List.setIfInBounds_toArray, List.set_cons_zero, List.set_cons_succ]
  refine heldD_takeF (i := 6) (v := .int .i64 (lw.length : Nat)) rfl rfl rfl (by kernel_rfl) (by kernel_rfl) (by kernel_rfl) (by kernel_rfl) (fun _ _ _ h => h) (by rfl) (fun w => ⟨by rfl, by go_simp⟩) (fun _ => HSS.out _ HBu.out) ?_
  simp only [List.setIfInBounds_toArray, List.set_cons_zero, List.set_cons_succ]
  refine heldD_takeF (i := 7) (v := .int .i64 (mw : Nat)) rfl rfl rfl (by kernel_rfl) (by kernel_rfl) (by kernel_rfl) (by kernel_rfl) (fun _ _ _ h => h) (by rfl) (fun w => ⟨by rfl, by go_simp⟩) (fun _ => HSS.out _ HBu.out) ?_
  simp only [List.setIfInBounds_toArray, List.set_cons_zero, List.set_cons_succ]
  refine heldD_takeF (i := 8) (v := .slice wa mw wc) rfl rfl rfl (by kernel_rfl) (by kernel_rfl) (by kernel_rfl) (by kernel_rfl) (fun _ _ _ h => h) (by rfl) (fun w => ⟨by rfl, by go_simp⟩) (fun _ => HSS.out _ HBu.out) ?_
  simp only [List.setIfInBounds_toArray, List.set_cons_zero, List.set_cons_succ]
  refine heldD_HT ?_
  intro H hH T hT
  have HH := Lib.hid hH; have HT := Lib.hid hT
  clear hH hT
  suffices rw_9 : ∀ (u : World) (rx : Value) (M : List Int) (cur : Int), Hid (Below w3.heap.size w3 u) → Hid (WkAt g s cur M ∧ M.length ≤ 40 ∧ SlX u rx M) → H 1 #[true, true, true, true, true, true, true, true, true, true, false] { tmps := (T.setIfInBounds 48 (rx)), defers := [] } u from by
    have rw_ : ∀ (u : World), Hid (Below w3.heap.size w3 u) → H 2 #[true, true, true, true, true, true, true, true, true, false, false] { tmps := T, defers := [] } u := by
      clear HBu
      intro u HBu
      rw [HH.out, HT.out]
      refine heldD_one (i := 9) (by kernel_rfl) ?_
      refine wpOpIn_calls' (f := 20) (args := #[.agg #[.int .i64 g.nodes, .slice xa xn xc, .slice ya yn yc, .slice za zn zc], .int .i64 s, .slice wa mw wc]) rfl rfl (by rfl) (by go_simp) (HCW.out u HBu.out) ?_
      rintro e u2 ⟨rx, M, cur, rfl, hwa, hml, hrow, hb⟩
      refine ⟨_, rfl, ?_⟩
      have hf : (WkAt g s cur M ∧ M.length ≤ 40 ∧ SlX u2 rx M) := ⟨hwa, by have := HMw.out; omega, slX_own rfl hrow⟩
      have HBu0 := HBu
      have HBu : Hid (Below w3.heap.size w3 u2) := Lib.hid (HBu0.out.trans (hb.mono HBu0.out.size))
      refine ⟨fun _ => HSS.out _ HBu.out, ?_⟩
      simp only [List.setIfInBounds_toArray, List.set_cons_zero, List.set_cons_succ]
      have q := rw_9 _ rx M cur HBu (Lib.hid hf)
      rw [HH.out, HT.out] at q
      simp only [List.setIfInBounds_toArray, List.set_cons_zero, List.set_cons_succ] at q ⊢
      exact q
    exact rw_ wk0 HBu
  clear HBu
  intro u rx M cur HBu HF9
  rw [HH.out, HT.out]
  simp only [List.setIfInBounds_toArray, List.set_cons_zero, List.set_cons_succ]
  clear HH HT
  refine heldD_one (i := 10) (by kernel_rfl) ?_
  refine wpOpIn_value (v := rx) (w' := u) rfl rfl rfl (by rfl) (by rfl) (by go_simp) ?_
  refine ⟨fun h => (by cases h), ?_⟩
  simp only [List.setIfInBounds_toArray, List.set_cons_zero, List.set_cons_succ]
  refine heldD_done (by kernel_rfl) ?_ _
  have HBu3 := Lib.hid (HBw3.out.trans (HBu.out.mono HBw3.out.size))
  have HWk := Lib.hid (HF9).out.1; have HMl := Lib.hid (HF9).out.2.1; have HMs := Lib.hid (HF9).out.2.2
  have hnet := HNt.out.keep (KpC.of_below (show Below w2.heap.size w2 u from by
    have h1 : Below w2.heap.size w2 w3 := by rw [HW3.out]; exact (Below.refl _ _).alloc (Nat.le_refl _) _
    exact h1.trans (HBu.out.mono h1.size)))
  have HNu := Lib.hid hnet
  have HK3u := Lib.hid (HK3.out.below HBu.out HK3.out.lt)
  clear hnet HSS HCW HBu f1 f2 f3 hs2 hnz hN hwl hw2 hx1 hx0 hlw
  obtain ⟨ra, rc, erx, -⟩ := id HMs.out
  subst erx
  have hsr : 0 ≤ s ∧ s < g.nodes := by
    have h1 := HS.out
    have h2 := HOk.out.nodes.1
    rw [Int.tmod_eq_emod_of_nonneg (by omega)] at h1
    rw [h1]
    exact ⟨Int.emod_nonneg _ (by omega), Int.emod_lt_of_pos _ (by omega)⟩
  obtain ⟨l, hwk, hlast⟩ := HWk.out
  have hnv : nodesV g s M = some (s :: l) := by unfold nodesV; rw [if_pos hsr, hwk]; rfl
  have hlen := wk_len hwk
  have HPl := Lib.hid (And.intro hsr (And.intro hwk (And.intro hlast hlen)))
  have HCn := Lib.hid (nodes_is _ hnv (by have := HMl.out; omega) q _ u HNu.out HMs.out)
  clear hsr hwk hlast hnv hlen HWk
  go_wp2_with fail
  refine HCn.out.mono ?_
  rintro e u1 ⟨a1, cp1, rfl, hs1, hb⟩
  simp only [Option.getD_some, List.length_cons, Option.isSome_some] at hs1 ⊢
  have HBu1 := Lib.hid (HBu3.out.next' hb)
  have hq1 := HNu.out.keep (KpC.of_below hb); have hm1 := HMs.out.keep (KpC.of_below hb)
  have HK3v := Lib.hid (HK3u.out.below hb HK3u.out.lt)
  clear HK3u
  have HN1 := Lib.hid hq1; have HM1 := Lib.hid hm1; have HS1 := Lib.hid hs1
  clear hb hq1 hm1 hs1 HNu HMs HCn HBu3
  have HGq := HGl
  clear HGl HB3 HK3 HKd HWd HSb HW3 HK2 HB0 HW0 HB HBw1 HBw2 HBw3 HMw HS HRw HK1' HNt HF9
  rw [HPl.out.2.2.2] at HS1 ⊢
  obtain ⟨bl, ol, ea1, -⟩ := HS1.out.at 0 (by simp)
  subst ea1
  obtain ⟨O, lb, hbd⟩ := bared HOk.out HPl.out.1 HPl.out.2.1 HPl.out.2.2.1
  have HBd := Lib.hid hbd
  have hOM : O.length ≤ M.length := hbd.sub.length_le
  have HOM := Lib.hid hOM
  clear hbd
  have hM40 := HMl.out
  have HCb := Lib.hid (bare_is _ HBd.out.bare (by omega) HOk.out.ends (by have := HGq.out; omega) q _ u1 HN1.out HM1.out)
  clear hOM hM40
  go_wp2_with fail
  refine HCb.out.mono ?_
  rintro e u2 ⟨a2, c2, rfl, hs2, hb⟩
  simp only [Option.getD_some, Option.isSome_some] at hs2 ⊢
  have HB2 := Lib.hid hb
  have hn2 := HN1.out.keep (KpC.of_below hb); have hm2 := HM1.out.keep (KpC.of_below hb)
  have HN2 := Lib.hid hn2; have HM2 := Lib.hid hm2; have HO2 := Lib.hid hs2
  have hc : u2.cell? ⟨bl, ol + M.length, none⟩ = some (.int .i64 cur) := by
    obtain ⟨b2, o2, e2, hc⟩ := (HS1.out.keep (KpC.of_below hb)).at M.length (by rw [List.length_cons, HPl.out.2.2.2]; omega)
    obtain ⟨rfl, rfl⟩ : bl = b2 ∧ ol = o2 := by simpa using e2
    rw [hc, last_get? s l HPl.out.2.2.2.symm, HPl.out.2.2.1]
  have HC := Lib.hid (chk_walk HOk.out HPl.out.1 HPl.out.2.1 HPl.out.2.2.1 (by have := HMl.out; omega) q _ _ hn2 hm2)
  clear hb hn2 hm2 hs2 HCb
  obtain ⟨wm, hwm⟩ : ∃ x, x = wt g M := ⟨_, rfl⟩
  rw [← hwm] at HC
  have HWm := Lib.hid hwm
  clear hwm
  have hM40 : M.length ≤ 40 := HMl.out
  go_wp2_with fail
  clear hM40
  refine HC.out.mono ?_
  rintro e u3 ⟨rfl, hb⟩
  have hk3 := KpC.of_below hb
  have HB25 := Lib.hid hb
  have HN3 := Lib.hid (HN2.out.keep hk3); have HO3 := Lib.hid (HO2.out.keep hk3); have HB3 := Lib.hid (HB2.out.next' hb)
  have HC3 := Lib.hid (chk_walk HOk.out HPl.out.1 HBd.out.walk HBd.out.last (by have := HMl.out; have := HOM.out; omega) q _ _ HN3.out HO3.out)
  obtain ⟨wo, hwo⟩ : ∃ x, x = wt g O := ⟨_, rfl⟩
  rw [← hwo] at HC3
  have HWo := Lib.hid hwo
  clear hwo hb hk3 hc HC HN2 HO2 HB2
  go_wp2_with fail
  refine HC3.out.mono ?_
  rintro e u4 ⟨rfl, hb⟩
  have hk4 := KpC.of_below hb
  have HB25 := Lib.hid (HB25.out.next' hb)
  have HN4 := Lib.hid (HN3.out.keep hk4); have HO4 := Lib.hid (HO3.out.keep hk4); have HB4 := Lib.hid (HB3.out.next' hb)
  have hnv : nodesV g s O = some (s :: lb) := by unfold nodesV; rw [if_pos HPl.out.1, HBd.out.walk]; rfl
  have HC4 := Lib.hid (nodes_is _ hnv (by have := HMl.out; have := HOM.out; omega) q _ u4 HN4.out HO4.out)
  clear hb hk4 HC3 HN3 HO3 HB3 hnv
  go_wp2_with fail
  refine HC4.out.mono ?_
  rintro e u5 ⟨a5, c5, rfl, hs5, hb⟩
  simp only [Option.getD_some, List.length_cons, Option.isSome_some] at hs5 ⊢
  rw [HBd.out.len] at hs5 ⊢
  obtain ⟨b5, o5, ea5, -⟩ := hs5.at 0 (by simp)
  subst ea5
  have hk5 := KpC.of_below hb
  have HB25 := Lib.hid (HB25.out.next' hb)
  have HBq := Lib.hid (HB4.out.next' hb)
  have HN5 := Lib.hid (HN4.out.keep hk5); have HO5 := Lib.hid (HO4.out.keep hk5); have HB5 := Lib.hid (HB4.out.next' hb)
  have HM5 := Lib.hid (HM2.out.keep (KpC.of_below HB25.out))
  have HT5 := Lib.hid hs5
  have n0 : u5.cell? ⟨B3, 0, none⟩ = some (.int .i64 g.nodes) := (HK3v.out.below HB5.out HK3v.out.lt).cell 0
  have hle : wo ≤ wm := by rw [HWm.out, HWo.out]; exact HBd.out.light
  have hfew : (O.length : Int) < g.nodes := HBd.out.few
  have hO40 : O.length ≤ 40 := by have := HMl.out; have := HOM.out; omega
  clear hb hk5 hs5 HC4 HN4 HO4 HB4
  go_wp2_with fail
  clear n0 hle hfew
  have HCl := Lib.hid (show ∀ (k : Nat) (hk : k < (s :: lb).length) (u : World), Below u5.heap.size u5 u → u.cell? ⟨b5, o5 + k, none⟩ = some (.int .i64 (s :: lb)[k]) from fun k hk u hu => by
    obtain ⟨b2, o2, e2, hc⟩ := (HT5.out.keep (KpC.of_below hu)).at k hk
    obtain ⟨rfl, rfl⟩ : b5 = b2 ∧ o5 = o2 := by simpa using e2
    exact hc)
  go_loopw [18] (fun i wr => ∃ k : Nat, i = .int .i64 k ∧ Hid (k ≤ O.length + 1 ∧ Below u5.heap.size u5 wr)) (fun i _ => O.length + 1 - (intOf i).toNat)
  case atStart => exact ⟨0, rfl, Lib.hid ⟨Nat.zero_le _, Below.refl _ _⟩⟩
  case round =>
    obtain ⟨i, rfl, HI⟩ := hrel
    obtain ⟨wo2, hwo2⟩ : ∃ x, x = wr := ⟨_, rfl⟩
    subst hwo2
    by_cases hi : i < O.length + 1
    · have hiI : (i : Int) < (O.length : Int) + 1 := by omega
      go_wp2_with fail
      go_loopw [19] (fun j wr => ∃ k : Nat, j = .int .i64 k ∧ Hid (k ≤ i ∧ Below u5.heap.size u5 wr)) (fun j _ => i - (intOf j).toNat)
      case atStart => exact ⟨0, rfl, Lib.hid ⟨Nat.zero_le _, HI.out.2⟩⟩
      case round =>
        obtain ⟨k, rfl, HJ⟩ := hrel
        by_cases hk : k < i
        · have hkI : (k : Int) < (i : Int) := by omega
          have hkO : (k : Int) < (O.length : Int) + 1 := by omega
          have hil : i < (s :: lb).length := by rw [List.length_cons, HBd.out.len]; exact hi
          obtain ⟨x, hx⟩ : ∃ x, x = (s :: lb)[i] := ⟨_, rfl⟩
          obtain ⟨y, hy⟩ : ∃ y, y = (s :: lb)[k] := ⟨_, rfl⟩
          have hne : (x == y) = false := by
            rw [hx, hy]
            simpa using nodup_apart HBd.out.nodup hil hk
          have c1 := HCl.out i hil _ HJ.out.2; have c2 := HCl.out k (by omega) _ HJ.out.2
          rw [← hx] at c1
          rw [← hy] at c2
          have k0 : (0 : Int) ≤ (k : Int) := by omega
          have i0 : (0 : Int) ≤ (i : Int) := by omega
          clear hx hy hil
          go_wp2_with fail
          go_quiet (fail)
          go_wp2_with fail
          go_roundw
          case rel => exact ⟨k + 1, by go_num, Lib.hid ⟨by omega, below_drewN HJ.out.2 _⟩⟩
          case measure => simp [intOf]; omega
        · obtain rfl : k = i := by have := HJ.out.1; omega
          go_wp2_with fail
          go_roundw
          case rel => exact ⟨k + 1, by go_num, Lib.hid ⟨by omega, HJ.out.2⟩⟩
          case measure => simp [intOf]; omega
    · obtain rfl : i = O.length + 1 := by have := HI.out.1; omega
      go_wp2_with fail
      clear HCl
      have HCm := Lib.hid (show ∀ (k : Nat) (hk : k < M.length), ∃ b o, ra = some ⟨b, o, none⟩ ∧ ∀ u : World, Below u5.heap.size u5 u → u.cell? ⟨b, o + k, none⟩ = some (.int .i64 M[k]) from fun k hk => by
        obtain ⟨b, o, e, _⟩ := HM5.out.at k hk
        subst e
        refine ⟨b, o, rfl, fun u hu => ?_⟩
        obtain ⟨b2, o2, e2, hc⟩ := (HM5.out.keep (KpC.of_below hu)).at k hk
        obtain ⟨rfl, rfl⟩ : b = b2 ∧ o = o2 := by simpa using e2
        exact hc)
      have HCo := Lib.hid (show ∀ (k : Nat) (hk : k < O.length), ∃ b o, a2 = some ⟨b, o, none⟩ ∧ ∀ u : World, Below u5.heap.size u5 u → u.cell? ⟨b, o + k, none⟩ = some (.int .i64 O[k]) from fun k hk => by
        obtain ⟨b, o, e, _⟩ := HO5.out.at k hk
        subst e
        refine ⟨b, o, rfl, fun u hu => ?_⟩
        obtain ⟨b2, o2, e2, hc⟩ := (HO5.out.keep (KpC.of_below hu)).at k hk
        obtain ⟨rfl, rfl⟩ : b = b2 ∧ o = o2 := by simpa using e2
        exact hc)
      go_loopw [20, 21] (fun at_ i wr => ∃ (k j : Nat), at_ = .int .i64 j ∧ i = .int .i64 k ∧ Hid (k ≤ M.length ∧ j ≤ O.length ∧ (O.drop j).Sublist (M.drop k) ∧ Below u5.heap.size u5 wr)) (fun _ i _ => M.length - (intOf i).toNat)
      case atStart => exact ⟨0, 0, rfl, rfl, Lib.hid ⟨Nat.zero_le _, Nat.zero_le _, HBd.out.sub, HI.out.2⟩⟩
      case round =>
        obtain ⟨k, j, rfl, rfl, HJ⟩ := hrel
        have hM40 := HMl.out
        by_cases hkj : k < M.length ∧ j < O.length
        · obtain ⟨hk, hj⟩ := hkj
          have hkI : (k : Int) < (M.length : Int) := by omega
          have hjI : (j : Int) < (O.length : Int) := by omega
          have k0 : (0 : Int) ≤ (k : Int) := by omega
          have j0 : (0 : Int) ≤ (j : Int) := by omega
          obtain ⟨bm, om, rfl, cm⟩ := HCm.out k hk
          obtain ⟨bo, oo, rfl, co⟩ := HCo.out j hj
          have c1 := cm _ HJ.out.2.2.2; have c2 := co _ HJ.out.2.2.2
          clear cm co
          have HSl := Lib.hid HJ.out.2.2.1
          by_cases hxy : M[k] = O[j]
          · have HNx := Lib.hid (sub_drop_hit hk hj HSl.out hxy)
            rw [← hxy] at c2
            obtain ⟨x, hx⟩ : ∃ x, x = M[k] := ⟨_, rfl⟩
            rw [← hx] at c1 c2
            clear hx hxy
            go_wp2_with fail
            go_quiet (fail)
            go_wp2_with fail
            go_roundw
            case rel => exact ⟨k + 1, j + 1, by go_num, by go_num, Lib.hid ⟨by omega, by omega, HNx.out, below_drewN HJ.out.2.2.2 _⟩⟩
            case measure => simp [intOf]; omega
          · have HNx := Lib.hid (sub_drop_miss hk hj HSl.out hxy)
            obtain ⟨x, hx⟩ : ∃ x, x = M[k] := ⟨_, rfl⟩
            obtain ⟨y, hy⟩ : ∃ y, y = O[j] := ⟨_, rfl⟩
            have hne : (x == y) = false := by rw [hx, hy]; simpa using hxy
            rw [← hx] at c1
            rw [← hy] at c2
            clear hx hy hxy
            go_wp2_with fail
            go_quiet (fail)
            go_wp2_with fail
            go_roundw
            case rel => exact ⟨k + 1, j, rfl, by go_num, Lib.hid ⟨by omega, by omega, HNx.out, below_drewN HJ.out.2.2.2 _⟩⟩
            case measure => simp [intOf]; omega
        · obtain rfl : j = O.length := by
            by_cases hk : k < M.length
            · have := HJ.out.2.1; omega
            · have h1 := HJ.out.2.2.1.length_le
              rw [List.length_drop, List.length_drop] at h1
              have := HJ.out.1; have := HJ.out.2.1; omega
          have HC6 := Lib.hid (bare_is _ HBd.out.again (by omega) HOk.out.ends (by have := HGq.out; omega) q _ _ (HN5.out.keep (KpC.of_below HJ.out.2.2.2)) (HO5.out.keep (KpC.of_below HJ.out.2.2.2)))
          by_cases hk : k < M.length
          all_goals
            have hkI : (k : Int) < (M.length : Int) ∨ ¬ (k : Int) < (M.length : Int) := by omega
            go_wp2_with fail
            refine HC6.out.mono ?_
            rintro e u6 ⟨a6, c6, rfl, hs6, hb⟩
            simp only [Option.getD_some, Option.isSome_some] at hs6 ⊢
            have HB6 := Lib.hid (HJ.out.2.2.2.next' hb)
            have HI6 := Lib.hid (ints_any _ _ O O u6 hs6 (HO5.out.keep (KpC.of_below HB6.out)))
            rw [decide_eq_true (show O = O from rfl)] at HI6
            clear hb hs6
            go_wp2_with fail
            refine HI6.out.mono ?_
            rintro e u7 ⟨rfl, hb⟩
            have HB7 := Lib.hid (HBu1.out.next' (HBq.out.next' (HB6.out.next' hb)))
            clear hb
            go_wp2_with fail
            go_ret
            exact ⟨rfl, HB7.out⟩
end Go.Proofs.YtlddcnkiigamjaaDoor
/- WalkBare: its argument read. -/
namespace Go.Proofs.YtlddcnkiigamjaaDoor
open Go.RowKit
theorem walkBare_rd (cs : Array Value) (W : World) (R0 : Rd Tryd.prog W 44 cs.toList) (hg : HG W) : Calls Tryd.prog 6 #[.agg cs] W fun e w' => e = .returned (.bool true) ∧ Below W.heap.size W w' := by
  obtain ⟨vb, vw, lb, lw, x0, x1, rfl, hb, hw, h0, h1, hlw⟩ := Rd.drawn09 R0
  exact walkBare_any vb vw lb lw x0 x1 W hb hw h0 hlw hg
end Go.Proofs.YtlddcnkiigamjaaDoor
