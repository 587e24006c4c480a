/- Texts of the law WalkTurned, merged: WalkTurned, GrRead, WalkRd, WalkTurnedL, LawKitD. -/
import Derived.Test.YtlddcnkiigamjaaDoorPWalkTurned17
import Derived.Test.YtlddcnkiigamjaaDoorPWalkTurned06
import Derived.Test.YtlddcnkiigamjaaDoorPWalkTurned02
import Derived.Test.YtlddcnkiigamjaaDoorPWalkTurned00
import Derived.Test.YtlddcnkiigamjaaDoorPWalkTurned12
import Derived.Test.YtlddcnkiigamjaaDoorPWalkTurned04
import Derived.ChangeSame
import Derived.ChangeVars
import Derived.JoinedOf
import Derived.RowKit
import Derived.RowKitTokens
import Derived.LaidLaws
import Derived.LaidHandle
import Derived.Stop.Joined
/- WalkTurned, its walk. -/
namespace Go.Proofs.YtlddcnkiigamjaaDoor
open Go.RowKit Go.Shelf
attribute [local go_sem] Oper.semAt_some
set_option maxRecDepth 100000 in
set_option maxHeartbeats 8000000 in
theorem walkTurned_any (vb vw : Value) (lb lw : List Int) (x0 : Nat) (x1 : Int) (w : World) (hB : SlI w vb .u8 lb) (hW : SlI w vw .u8 lw) (hx0 : x0 < 256) (hlw : ∀ b ∈ lw, 0 ≤ b ∧ b < 256) (hg : HG w) :
    Calls Tryd.prog 9 #[.agg #[vb, vw, .int .u8 (x0 : Nat), .int .u8 x1]] w fun e w' => e = .returned (.bool true) ∧ Below w.heap.size w w' := by
  obtain ⟨ba, bc, rfl, hb1, hb2, hb3⟩ := id hB
  obtain ⟨wa, wc, rfl, hw1, hw2, hw3⟩ := id hW
  obtain ⟨w0, hw0⟩ : ∃ u, u = w.alloc (.cells #[.slice ba lb.length bc, .slice wa lw.length wc, .int .u8 (x0 : Nat), .int .u8 x1] 44) := ⟨_, rfl⟩
  have hb0 : Below w.heap.size w w0 := by rw [hw0]; exact (Below.refl _ _).alloc (Nat.le_refl _) _
  have k1 : Blk w0 w.heap.size #[.slice ba lb.length bc, .slice wa lw.length wc, .int .u8 (x0 : Nat), .int .u8 x1] 44 (0, 0) := by rw [hw0]; exact Blk.new _ _ _ _
  obtain ⟨B1, hB1⟩ : ∃ b, b = w.heap.size := ⟨_, rfl⟩
  rw [← hB1] at k1
  have HG0 := Lib.hid hg; have HB := Lib.hid hB; have HWd := Lib.hid hW; have HW0 := Lib.hid hw0; have HB0 := Lib.hid hb0; have HK1 := Lib.hid k1; have HB1 := Lib.hid hB1
  clear hg hB hW hw0 hb0 k1 hb1 hb2 hb3 hw1 hw3
  unfold maxLen at hw2
  have hwl : lw.length ≤ wc := by have := HWd.out; obtain ⟨_, _, e, h, _⟩ := this; simp at e; obtain ⟨_, rfl⟩ := e; exact h
  go_enter Tryd.func9, Tryd.ntmps9
  go_wp2_with fail
  rw [← HW0.out, ← hB1]
  clear hB1
  refine (works09_any w0 (HG0.out.later HB0.out)).mono ?_
  rintro e w1 ⟨rfl, hb⟩
  have HBw1 := Lib.hid (HB0.out.next' hb)
  have k1 := HK1.out.below hb HK1.out.lt
  have HK1' := Lib.hid k1
  have c0 := k1.cell 0
  simp only [List.getElem?_toArray, List.getElem?_cons_zero] at c0
  clear hb k1 HK1
  have HSb := Lib.hid (SlI.later HBw1.out HB.out)
  go_wp2_with fail
  refine (drawn09_any _ lb w1 (HG0.out.later HBw1.out) HSb.out).mono ?_
  rintro e w2 ⟨rv, g, q, rfl, hraw, hnet, hok, hgl, hb⟩
  obtain ⟨vx, vy, vz, rfl, hx, hy, hz⟩ := id hraw
  obtain ⟨xa, xn, xc, rfl⟩ := hx.form
  obtain ⟨ya, yn, yc, rfl⟩ := hy.form
  obtain ⟨za, zn, zc, rfl⟩ := hz.form
  have HBw2 := Lib.hid (HBw1.out.next' hb)
  have k1 := HK1'.out.below hb HK1'.out.lt
  have HK2 := Lib.hid k1
  obtain ⟨w3, hw3⟩ : ∃ u, u = w2.alloc (.cells #[.int .i64 g.nodes, .slice xa xn xc, .slice ya yn yc, .slice za zn zc] 26) := ⟨_, rfl⟩
  have hb3 : Below w2.heap.size w2 w3 := by rw [hw3]; exact (Below.refl _ _).alloc (Nat.le_refl _) _
  have k3 : Blk w3 w2.heap.size #[.int .i64 g.nodes, .slice xa xn xc, .slice ya yn yc, .slice za zn zc] 26 (0, 0) := by rw [hw3]; exact Blk.new _ _ _ _
  have hc3 := (k1.below hb3 k1.lt)
  have c2 := hc3.cell 2
  simp only [List.getElem?_toArray, List.getElem?_cons_succ, List.getElem?_cons_zero] at c2
  have n0 := k3.cell 0
  simp only [List.getElem?_toArray, List.getElem?_cons_zero] at n0
  rw [hw3] at c2 n0
  have hN := hok.nodes.1
  have hnz : (g.nodes == 0) = false := by simp; omega
  obtain ⟨s, hs⟩ : ∃ s, s = (x0 : Int).tmod g.nodes := ⟨_, rfl⟩
  have hs2 : (x0 : Int).tmod g.nodes = s := hs.symm
  have HW3 := Lib.hid hw3; have HK3 := Lib.hid k3; have HKd := Lib.hid hc3; have HRw := Lib.hid hraw; have HNt := Lib.hid hnet; have HOk := Lib.hid hok; have HGl := Lib.hid hgl; have HBw3 := Lib.hid (HBw2.out.next' hb3); have HS := Lib.hid hs
  clear hw3 hb3 k3 hc3 hraw hnet hok hgl hb k1 hx hy hz hs c0
  have hx1 : (0 : Int) ≤ (x0 : Int) ∧ (x0 : Int) < 256 := ⟨by omega, by omega⟩
  go_upto_region 5 with fail
  obtain ⟨mw, hmw⟩ : ∃ m : Nat, m = min lw.length 40 := ⟨_, rfl⟩
  have f1 : (if (40 : Int) < (lw.length : Int) then (40 : Int) else (lw.length : Int)) = (mw : Int) := by split <;> omega
  have f2 : (mw : Int) ≤ (wc : Int) := by omega
  have f3 : (0 : Int) ≤ (mw : Int) := by omega
  have HMw := Lib.hid (show (lw.take mw).length ≤ 40 by rw [List.length_take]; omega)
  rw [← HW3.out]
  obtain ⟨B3, hB3⟩ : ∃ b, b = w2.heap.size := ⟨_, rfl⟩
  rw [← hB3] at HK3 ⊢
  have HB3 := Lib.hid hB3
  clear hB3
  have HCW := Lib.hid (show ∀ u, Below w3.heap.size w3 u → Calls Tryd.prog 20 #[.agg #[.int .i64 g.nodes, .slice xa xn xc, .slice ya yn yc, .slice za zn zc], .int .i64 s, .slice wa mw wc] u fun e w' => ∃ x M cur, e = .returned x ∧ WkAt g s cur M ∧ M.length ≤ (lw.take mw).length ∧ w'.ownsRow u.heap.size 3 1 x M.length (M.flatMap inC) ∧ Below u.heap.size u w' from fun u hu => by
    have hb23 : Below w2.heap.size w2 u := by
      have h1 : Below w2.heap.size w2 w3 := by rw [HW3.out]; exact (Below.refl _ _).alloc (Nat.le_refl _) _
      exact h1.trans (hu.mono h1.size)
    have hr : RawV u (.agg #[.int .i64 g.nodes, .slice xa xn xc, .slice ya yn yc, .slice za zn zc]) g := by
      obtain ⟨_, _, _, e, q1, q2, q3⟩ := HRw.out
      have hk := KpC.of_below hb23
      exact ⟨_, _, _, e, q1.keep hk, q2.keep hk, q3.keep hk⟩
    exact refWalk_any _ g (by have := HGl.out.2; omega) s _ (lw.take mw) (by have := HMw.out; omega) (fun b hb => hlw b (List.mem_of_mem_take hb)) u hr (SlI.cut (SlI.later (HBw3.out.trans (hu.mono HBw3.out.size)) HWd.out) mw (by rw [hmw]; exact Nat.min_le_left _ _)))
  have HSS := Lib.hid (show ∀ u, Below w3.heap.size w3 u → u.cell? ⟨B3, 0, none⟩ = some (.int .i64 g.nodes) ∧ u.cell? ⟨B3, 1, none⟩ = some (.slice xa xn xc) ∧ u.cell? ⟨B3, 2, none⟩ = some (.slice ya yn yc) ∧ u.cell? ⟨B3, 3, none⟩ = some (.slice za zn zc) ∧ u.cell? ⟨B1, 1, none⟩ = some (.slice wa lw.length wc) from fun u hu => by
    have k3 := HK3.out.below hu HK3.out.lt
    have k1 := HKd.out.below hu HKd.out.lt
    exact ⟨k3.cell 0, k3.cell 1, k3.cell 2, k3.cell 3, k1.cell 1⟩)
  clear c2 n0 hmw
  refine wp_region_heldD (fun w' => w'.cell? ⟨B3, 0, none⟩ = some (.int .i64 g.nodes) ∧ w'.cell? ⟨B3, 1, none⟩ = some (.slice xa xn xc) ∧ w'.cell? ⟨B3, 2, none⟩ = some (.slice ya yn yc) ∧ w'.cell? ⟨B3, 3, none⟩ = some (.slice za zn zc) ∧ w'.cell? ⟨B1, 1, none⟩ = some (.slice wa lw.length wc)) 10 rfl ?_
  change heldD _ _ _ _ _ _ _ 11 _ _ w3.drew
  obtain ⟨wk0, hu0⟩ : ∃ u, u = w3.drew := ⟨_, rfl⟩
  have HBu := Lib.hid (show Below w3.heap.size w3 wk0 by rw [hu0]; exact (Below.refl _ _).drew)
  rw [← hu0]
  clear hu0
  refine heldD_take (i := 0) (v := .agg #[.int .i64 g.nodes, .slice xa xn xc, .slice ya yn yc, .slice za zn zc]) rfl rfl rfl (by kernel_rfl) (by kernel_rfl) (by kernel_rfl) (by kernel_rfl) (by kernel_rfl) (by kernel_rfl) (fun _ _ _ h => h) (by rfl) (fun w hS => ⟨by rfl, by obtain ⟨hS1, hS2, hS3, hS4, hS5⟩ := hS; go_simp⟩) (HSS.out _ HBu.out) ?_
  simp only [List.setIfInBounds_toArray, List.set_cons_zero, List.set_cons_succ]
  refine heldD_takeF (i := 1) (v := .int .i64 s) rfl rfl rfl (by kernel_rfl) (by kernel_rfl) (by kernel_rfl) (by kernel_rfl) (fun _ _ _ h => h) (by rfl) (fun w => ⟨by rfl, by go_simp⟩) (fun _ => HSS.out _ HBu.out) ?_
  simp only [List.setIfInBounds_toArray, List.set_cons_zero, List.set_cons_succ]
  refine heldD_takeF (i := 2) (v := .pointer (some ⟨B1, 1, none⟩)) rfl rfl rfl (by kernel_rfl) (by kernel_rfl) (by kernel_rfl) (by kernel_rfl) (fun _ _ _ h => h) (by rfl) (fun w => ⟨by rfl, by go_simp⟩) (fun _ => HSS.out _ HBu.out) ?_
  simp only [List.setIfInBounds_toArray, List.set_cons_zero, List.set_cons_succ]
  refine heldD_take (i := 3) (v := .slice wa lw.length wc) rfl rfl rfl (by kernel_rfl) (by kernel_rfl) (by kernel_rfl) (by kernel_rfl) (by kernel_rfl) (by kernel_rfl) (fun _ _ _ h => h) (by rfl) (fun w hS => ⟨by rfl, by obtain ⟨hS1, hS2, hS3, hS4, hS5⟩ := hS; go_simp⟩) (HSS.out _ HBu.out) ?_
  simp only [List.setIfInBounds_toArray, List.set_cons_zero, List.set_cons_succ]
  refine heldD_takeF (i := 4) (v := .pointer (some ⟨B1, 1, none⟩)) rfl rfl rfl (by kernel_rfl) (by kernel_rfl) (by kernel_rfl) (by kernel_rfl) (fun _ _ _ h => h) (by rfl) (fun w => ⟨by rfl, by go_simp⟩) (fun _ => HSS.out _ HBu.out) ?_
  simp only [List.setIfInBounds_toArray, List.set_cons_zero, List.set_cons_succ]
  refine heldD_take (i := 5) (v := .slice wa lw.length wc) rfl rfl rfl (by kernel_rfl) (by kernel_rfl) (by kernel_rfl) (by kernel_rfl) (by kernel_rfl) (by kernel_rfl) (fun _ _ _ h => h) (by rfl) (fun w hS => ⟨by rfl, by obtain ⟨hS1, hS2, hS3, hS4, hS5⟩ := hS; go_simp⟩) (HSS.out _ HBu.out) ?_
  simp only [List.setIfInBounds_toArray, List.set_cons_zero, List.set_cons_succ]
  refine heldD_takeF (i := 6) (v := .int .i64 (lw.length : Nat)) rfl rfl rfl (by kernel_rfl) (by kernel_rfl) (by kernel_rfl) (by kernel_rfl) (fun _ _ _ h => h) (by rfl) (fun w => ⟨by rfl, by go_simp⟩) (fun _ => HSS.out _ HBu.out) ?_
  simp only [List.setIfInBounds_toArray, List.set_cons_zero, List.set_cons_succ]
  refine heldD_takeF (i := 7) (v := .int .i64 (mw : Nat)) rfl rfl rfl (by kernel_rfl) (by kernel_rfl) (by kernel_rfl) (by kernel_rfl) (fun _ _ _ h => h) (by rfl) (fun w => ⟨by rfl, by go_simp⟩) (fun _ => HSS.out _ HBu.out) ?_
  simp only [List.setIfInBounds_toArray, List.set_cons_zero, List.set_cons_succ]
  refine heldD_takeF (i := 8) (v := .slice wa mw wc) rfl rfl rfl (by kernel_rfl) (by kernel_rfl) (by kernel_rfl) (by kernel_rfl) (fun _ _ _ h => h) (by rfl) (fun w => ⟨by rfl, by go_simp⟩) (fun _ => HSS.out _ HBu.out) ?_
  simp only [List.setIfInBounds_toArray, List.set_cons_zero, List.set_cons_succ]
  refine heldD_HT ?_
  intro H hH T hT
  have HH := Lib.hid hH; have HT := Lib.hid hT
  clear hH hT
  suffices rw_9 : ∀ (u : World) (rx : Value) (M : List Int) (cur : Int), Hid (Below w3.heap.size w3 u) → Hid (WkAt g s cur M ∧ M.length ≤ 40 ∧ SlX u rx M) → H 1 #[true, true, true, true, true, true, true, true, true, true, false] { tmps := (T.setIfInBounds 40 (rx)), defers := [] } u from by
    have rw_ : ∀ (u : World), Hid (Below w3.heap.size w3 u) → H 2 #[true, true, true, true, true, true, true, true, true, false, false] { tmps := T, defers := [] } u := by
      clear HBu
      intro u HBu
      rw [HH.out, HT.out]
      refine heldD_one (i := 9) (by kernel_rfl) ?_
      refine wpOpIn_calls' (f := 20) (args := #[.agg #[.int .i64 g.nodes, .slice xa xn xc, .slice ya yn yc, .slice za zn zc], .int .i64 s, .slice wa mw wc]) rfl rfl (by rfl) (by go_simp) (HCW.out u HBu.out) ?_
      rintro e u2 ⟨rx, M, cur, rfl, hwa, hml, hrow, hb⟩
      refine ⟨_, rfl, ?_⟩
      have hf : (WkAt g s cur M ∧ M.length ≤ 40 ∧ SlX u2 rx M) := ⟨hwa, by have := HMw.out; omega, slX_own rfl hrow⟩
      have HBu0 := HBu
      have HBu : Hid (Below w3.heap.size w3 u2) := Lib.hid (HBu0.out.trans (hb.mono HBu0.out.size))
      refine ⟨fun _ => HSS.out _ HBu.out, ?_⟩
      simp only [List.setIfInBounds_toArray, List.set_cons_zero, List.set_cons_succ]
      have q := rw_9 _ rx M cur HBu (Lib.hid hf)
      rw [HH.out, HT.out] at q
      simp only [List.setIfInBounds_toArray, List.set_cons_zero, List.set_cons_succ] at q ⊢
      exact q
    exact rw_ wk0 HBu
  clear HBu
  intro u rx M cur HBu HF9
  rw [HH.out, HT.out]
  simp only [List.setIfInBounds_toArray, List.set_cons_zero, List.set_cons_succ]
  clear HH HT
  refine heldD_one (i := 10) (by kernel_rfl) ?_
  refine wpOpIn_value (v := rx) (w' := u) rfl rfl rfl (by rfl) (by rfl) (by go_simp) ?_
  refine ⟨fun h => (by cases h), ?_⟩
  simp only [List.setIfInBounds_toArray, List.set_cons_zero, List.set_cons_succ]
  refine heldD_done (by kernel_rfl) ?_ _
  have HBu3 := Lib.hid (HBw3.out.trans (HBu.out.mono HBw3.out.size))
  have HWk := Lib.hid (HF9).out.1; have HMl := Lib.hid (HF9).out.2.1; have HMs := Lib.hid (HF9).out.2.2
  have hnet := HNt.out.keep (KpC.of_below (show Below w2.heap.size w2 u from by
    have h1 : Below w2.heap.size w2 w3 := by rw [HW3.out]; exact (Below.refl _ _).alloc (Nat.le_refl _) _
    exact h1.trans (HBu.out.mono h1.size)))
  have HNu := Lib.hid hnet
  clear hnet HSS HCW HBu f1 f2 f3 hs2 hnz hN hwl hw2 hx1 hx0 hlw
  obtain ⟨ra, rc, erx, -⟩ := id HMs.out
  subst erx
  have hsr : 0 ≤ s ∧ s < g.nodes := by
    have h1 := HS.out
    have h2 := HOk.out.nodes.1
    rw [Int.tmod_eq_emod_of_nonneg (by omega)] at h1
    rw [h1]
    exact ⟨Int.emod_nonneg _ (by omega), Int.emod_lt_of_pos _ (by omega)⟩
  obtain ⟨l, hwk, hlast⟩ := HWk.out
  have hnv : nodesV g s M = some (s :: l) := by unfold nodesV; rw [if_pos hsr, hwk]; rfl
  have hlen := wk_len hwk
  have HPl := Lib.hid (And.intro hsr (And.intro hwk (And.intro hlast hlen)))
  have HCn := Lib.hid (nodes_is _ hnv (by have := HMl.out; omega) q _ u HNu.out HMs.out)
  clear hsr hwk hlast hnv hlen HWk
  go_wp2_with fail
  refine HCn.out.mono ?_
  rintro e u1 ⟨a1, cp1, rfl, hs1, hb⟩
  simp only [Option.getD_some, List.length_cons, Option.isSome_some] at hs1 ⊢
  have HBu1 := Lib.hid (HBu3.out.next' hb)
  have hq1 := HNu.out.keep (KpC.of_below hb); have hm1 := HMs.out.keep (KpC.of_below hb)
  have HN1 := Lib.hid hq1; have HM1 := Lib.hid hm1; have HS1 := Lib.hid hs1
  clear hb hq1 hm1 hs1 HNu HMs HCn HBu3
  have HGq := HGl
  clear HGl HB3 HK3 HKd HWd HSb HW3 HK2 HB0 HW0 HB HBw1 HBw2 HBw3 HMw HS HRw
  have hM40 := HMl.out
  go_wp2_with fail
  clear hM40
  go_loopw [9, 10] (fun o j wr => ∃ (k : Nat) (x : Int) (vo : Value), vo = o ∧ k ≤ M.length ∧ j = .int .i64 x ∧ Hid (Below u1.heap.size u1 wr ∧ wr.ownsRow u1.heap.size 3 1 vo (M.drop k).reverse.length ((M.drop k).reverse.flatMap inC) ∧ x + 1 = (k : Int))) (fun _ j _ => (intOf j + 1).toNat)
  case atStart => exact ⟨M.length, _, _, rfl, Nat.le_refl _, rfl, Lib.hid ⟨Below.refl _ _, by rw [List.drop_length]; exact World.ownsRow_nil _ _ _ _, by omega⟩⟩
  case round =>
    obtain ⟨k, x, vo, rfl, hk, rfl, HI⟩ := hrel
    by_cases hx : 0 ≤ x
    · obtain ⟨j, rfl⟩ : ∃ j : Nat, x = j := ⟨x.toNat, by omega⟩
      obtain rfl : k = j + 1 := by have := HI.out.2.2; omega
      have hjl : j < M.length := by omega
      have hjI : (j : Int) < (M.length : Int) := by omega
      obtain ⟨bm, om, rfl, hc⟩ := (HM1.out.keep (KpC.of_below HI.out.1)).at j hjl
      obtain ⟨m, hm⟩ : ∃ m, m = M[j] := ⟨_, rfl⟩
      rw [← hm] at hc
      obtain ⟨wc, hwc⟩ : ∃ wc, wc = wr.alloc (.cells #[.int .i64 m] 3) := ⟨_, rfl⟩
      have hbc : Below wr.heap.size wr wc := by rw [hwc]; exact (Below.refl _ _).alloc (Nat.le_refl _) _
      obtain ⟨a2, n2, c2, w', hr, ho, hg, hat⟩ := push_intG u1.heap.size vo (M.drop (j + 1)).reverse m wc wr.heap.size (ownsRow_below HI.out.2.1 hbc) (by rw [hwc]; exact Blk.new _ _ _ _) (by have := HMl.out; rw [List.length_reverse, List.length_drop]; omega) (Nat.le_trans HI.out.1.size hbc.size)
      have hb' : Below u1.heap.size u1 w' := (HI.out.1.next' hbc).grown hg (Nat.le_trans HI.out.1.size hbc.size) (fun j ej => (ownsRow_blk' HI.out.2.1 ej).1)
      rw [hwc] at hr
      rw [hm, rev_drop M j hjl] at ho
      obtain ⟨oa, on, oc, rfl⟩ := HI.out.2.1.one'
      have HR := Lib.hid hr
      have HNew := Lib.hid (show Below u1.heap.size u1 w' ∧ w'.ownsRow u1.heap.size 3 1 (.slice a2 n2 c2) (M.drop j).reverse.length ((M.drop j).reverse.flatMap inC) ∧ wrap64 ((j : Int) - 1) + 1 = (j : Int) from ⟨hb', ho, by have := HMl.out; unfold wrap64; omega⟩)
      clear hwc hbc hr ho hg hat hb' hm
      go_wp2_with (at_builtin; refine wpList_append_run rfl _ _ _ _ rfl HR.out ?_)
      go_roundw
      case rel => exact ⟨j, _, _, rfl, by omega, rfl, HNew⟩
      case measure => have := HNew.out.2.2; simp [intOf]; omega
    · obtain rfl : k = 0 := by have := HI.out.2.2; omega
      have hr0 := HI.out.2.1
      rw [List.drop_zero] at hr0
      obtain ⟨va, vc, rfl, _⟩ := ownForm hr0
      have hs2 := slX_own rfl hr0
      rw [List.length_reverse] at hs2
      obtain ⟨bl, ol, rfl, hc⟩ := (HS1.out.keep (KpC.of_below HI.out.1)).at l.length (by simp)
      have hc2 : (s :: l)[l.length]'(by simp) = cur := (last_get s l).trans HPl.out.2.2.1
      rw [hc2] at hc
      have hn2 := HN1.out.keep (KpC.of_below HI.out.1)
      have hm2 := HM1.out.keep (KpC.of_below HI.out.1)
      have HC := Lib.hid (chk_walk HOk.out HPl.out.1 HPl.out.2.1 HPl.out.2.2.1 (by have := HMl.out; omega) q _ _ hn2 hm2)
      have HB2 := Lib.hid (HBu1.out.next' HI.out.1); have HN2 := Lib.hid hn2; have HR2 := Lib.hid hs2
      have hl40 : l.length ≤ 40 := by have := HPl.out.2.2.2; have := HMl.out; omega
      clear hr0 hs2 hc2 hn2 hm2 HI
      go_wp2_with fail
      refine HC.out.mono ?_
      rintro e u3 ⟨rfl, hb⟩
      have hn3 := HN2.out.keep (KpC.of_below hb); have hr3 := HR2.out.keep (KpC.of_below hb)
      have HB3 := Lib.hid (HB2.out.next' hb)
      have HC2 := Lib.hid (turnedN_any q g u3 hn3 (by have := HGq.out; have := HOk.out; exact ⟨by have := this.lenX; omega, by have := this.lenY; omega, by omega⟩) HOk.out)
      have HR3 := Lib.hid hr3
      clear hb hn3 hr3 hc HC HR2 HN2
      go_wp2_with fail
      refine HC2.out.mono ?_
      rintro e u4 ⟨qt, rfl, hnb, hb⟩
      have HC3 := Lib.hid (chk_turned HOk.out HPl.out.1 HPl.out.2.1 HPl.out.2.2.1 (by have := HMl.out; omega) qt _ u4 hnb.at (HR3.out.keep (KpC.of_below hb)))
      have HB4 := Lib.hid (HB3.out.next' hb)
      clear hb hnb HC2 HR3
      go_wp2_with fail
      refine HC3.out.mono ?_
      rintro e u5 ⟨rfl, hb⟩
      have HB5 := Lib.hid (HB4.out.next' hb)
      clear hb
      go_wp2_with fail
      go_ret
      exact ⟨by simp, HB5.out⟩
end Go.Proofs.YtlddcnkiigamjaaDoor
/- an argument that is a raw graph; one of three numbers. -/
namespace Go.Proofs.YtlddcnkiigamjaaDoor
open Go.RowKit Go.Deep
theorem blk_of_cell {w : World} {b i : Nat} {v : Value} (h : w.cell? ⟨b, i, none⟩ = some v) : ∃ cs t fr, Blk w b cs t fr ∧ cs[i]? = some v := by
  unfold World.cell? at h
  split at h
  · rename_i cs t fr hb
    exact ⟨cs, t, fr, hb, h⟩
  · cases h
theorem blk_cell_same {w : World} {b i : Nat} {cs : Array Value} {t : TypeId} {fr : Nat × Nat} {v : Value} (hb : Blk w b cs t fr) (h : w.cell? ⟨b, i, none⟩ = some v) : cs[i]? = some v := by
  rw [hb.cell] at h; exact h
theorem SlX.of_I {w : World} {v : Value} {L : List Int} (h : SlI w v .i64 L) : SlX w v L := by
  obtain ⟨a, cap, rfl, h1, h2, h3⟩ := h
  refine ⟨a, cap, rfl, h1, h2, fun i hi => ?_⟩
  obtain ⟨b, off, ha, hc⟩ := h3 i hi
  obtain ⟨cs, t, fr, hb, hx⟩ := blk_of_cell hc
  exact ⟨b, off, cs, t, fr, ha, hb, hx⟩
theorem three_of {α : Type} : ∀ {l : List α}, l.length = 3 → ∃ a b c, l = [a, b, c]
  | [a, b, c], _ => ⟨a, b, c, rfl⟩
theorem four_of {α : Type} : ∀ {l : List α}, l.length = 4 → ∃ a b c d, l = [a, b, c, d]
  | [a, b, c, d], _ => ⟨a, b, c, d, rfl⟩
theorem Rd.arc {w : World} {es : List Value} (h : Rd Tryd.prog w 58 es) : ∃ a : Ar, es = arC a := by
  obtain ⟨hl, _⟩ := Rd.struct Tryd.underlying58 h
  obtain ⟨e0, e1, e2, rfl⟩ := three_of (hl.trans (show Tryd.prog.cellsOf 58 = 3 by kernel_rfl))
  clear hl
  · skip
    obtain ⟨n0, h0, _⟩ := Rd.int (k := .i64) Tryd.underlying3 (Rd.field (e := 3) (c := e0) Tryd.underlying58 h 0 (by kernel_rfl) (by kernel_rfl) rfl)
    obtain ⟨n1, h1, _⟩ := Rd.int (k := .i64) Tryd.underlying3 (Rd.field (e := 3) (c := e1) Tryd.underlying58 h 1 (by kernel_rfl) (by kernel_rfl) rfl)
    obtain ⟨n2, h2, _⟩ := Rd.int (k := .i64) Tryd.underlying2 (Rd.field (e := 2) (c := e2) Tryd.underlying58 h 2 (by kernel_rfl) (by kernel_rfl) rfl)
    cases h0; cases h1; cases h2
    exact ⟨(n0, n1, n2), rfl⟩
theorem Rd.arcs {w : World} {v : Value} (h : Rd Tryd.prog w 24 [v]) : ∃ L : List Ar, SlA w v L := by
  obtain ⟨a, len, cap, h1, hl, hm, hel⟩ := Rd.slice Tryd.underlying24 (by rw [show Tryd.prog.cellsOf 58 = 3 by kernel_rfl]; omega) h
  have hc : Tryd.prog.cellsOf 58 = 3 := by kernel_rfl
  have hex : ∀ i, i < len → ∃ x : Ar, ∃ b off cs t fr, a = some ⟨b, off, none⟩ ∧ Blk w b cs t fr ∧ cs[off + i * 3]? = some (.int .i64 x.1) ∧ cs[off + i * 3 + 1]? = some (.int .i64 x.2.1) ∧ cs[off + i * 3 + 2]? = some (.int .i64 x.2.2) := fun i hi => by
    obtain ⟨b, off, ha, es, hes, hcell, hrd⟩ := hel i hi
    obtain ⟨x, rfl⟩ := Rd.arc hrd
    rw [hc] at hcell
    have c0 := hcell 0 (by omega); have c1 := hcell 1 (by omega); have c2 := hcell 2 (by omega)
    obtain ⟨cs, t, fr, hb, hx⟩ := blk_of_cell (c0.trans (show (arC x)[0]? = some (.int .i64 x.1) from rfl))
    exact ⟨x, b, off, cs, t, fr, ha, hb, hx, blk_cell_same hb (c1.trans rfl), blk_cell_same hb (c2.trans rfl)⟩
  obtain ⟨f, hf⟩ := choose_lt hex
  have hv : v = .slice a len cap := by simpa using h1
  refine ⟨(List.range len).map f, a, cap, by rw [hv]; simp, by simpa using hl, hm, fun i hi => ?_⟩
  have hi' : i < len := by simpa using hi
  obtain ⟨b, off, cs, t, fr, ha, hb, h0, h1, h2⟩ := hf i hi'
  exact ⟨b, off, cs, t, fr, ha, hb, by simpa using h0, by simpa using h1, by simpa using h2⟩
/-- a raw graph as an argument -/
theorem Rd.raw {w : World} {cs : Array Value} (h : Rd Tryd.prog w 26 cs.toList) : ∃ r : Raw, RawV w (.agg cs) r := by
  obtain ⟨es⟩ := cs
  obtain ⟨hl, _⟩ := Rd.struct Tryd.underlying26 h
  obtain ⟨e0, e1, e2, e3, rfl⟩ := four_of (hl.trans (show Tryd.prog.cellsOf 26 = 4 by kernel_rfl))
  clear hl
  · skip
    obtain ⟨n, h0, _⟩ := Rd.int (k := .i64) Tryd.underlying3 (Rd.field (e := 3) (c := e0) Tryd.underlying26 h 0 (by kernel_rfl) (by kernel_rfl) rfl)
    obtain ⟨X, hX, _⟩ := Rd.ints (k := .i64) Tryd.underlying22 Tryd.underlying2 (by kernel_rfl) (Rd.field (e := 22) (c := e1) Tryd.underlying26 h 1 (by kernel_rfl) (by kernel_rfl) rfl)
    obtain ⟨Y, hY, _⟩ := Rd.ints (k := .i64) Tryd.underlying22 Tryd.underlying2 (by kernel_rfl) (Rd.field (e := 22) (c := e2) Tryd.underlying26 h 2 (by kernel_rfl) (by kernel_rfl) rfl)
    obtain ⟨L, hL⟩ := Rd.arcs (Rd.field (e := 24) (c := e3) Tryd.underlying26 h 3 (by kernel_rfl) (by kernel_rfl) rfl)
    cases h0
    exact ⟨⟨n, X, Y, L⟩, e1, e2, e3, rfl, SlX.of_I hX, SlX.of_I hY, hL⟩
end Go.Proofs.YtlddcnkiigamjaaDoor
/- the walk laws' argument: a drawn graph, a walk's bytes, numbers. -/
namespace Go.Proofs.YtlddcnkiigamjaaDoor
open Go.RowKit Go.Deep
theorem byte_wf {x : Int} (h : (Lit.int .u8 x).wf = true) : 0 ≤ x ∧ x < 256 := by
  have : 0 ≤ x ∧ x ≤ 255 := by simpa [Lit.wf, IntKind.min, IntKind.max, IntKind.signed, IntKind.bits] using h
  omega
theorem Rd.fieldN {P : Program} {w : World} {t e : TypeId} {cs : List Value} {fs : Array Field} (n : Nat) (ht : P.underlying t = some (.struct fs)) (h : Rd P w t cs) (i o : Nat) (hf : (fs[i]?).map (fun f => (f.offset, f.type)) = some (o, e)) (hc : P.cellsOf e = n) : Rd P w e ((cs.drop o).take n) := by
  cases hfi : fs[i]? with
  | none => rw [hfi] at hf; cases hf
  | some f =>
    rw [hfi] at hf
    obtain ⟨h1, h2⟩ : f.offset = o ∧ f.type = e := by simpa using hf
    have := (Rd.struct ht h).2 i f hfi
    rw [h1, h2, hc] at this
    exact this
theorem Rd.drawn09 {w : World} {cs : Array Value} (h : Rd Tryd.prog w 44 cs.toList) : ∃ vb vw lb lw, ∃ x0 x1 : Nat, cs = #[vb, vw, .int .u8 (x0 : Nat), .int .u8 (x1 : Nat)] ∧ SlI w vb .u8 lb ∧ SlI w vw .u8 lw ∧ x0 < 256 ∧ x1 < 256 ∧ ∀ b ∈ lw, 0 ≤ b ∧ b < 256 := by
  obtain ⟨es⟩ := cs
  obtain ⟨hl, _⟩ := Rd.struct Tryd.underlying44 h
  obtain ⟨e0, e1, e2, e3, rfl⟩ := four_of (hl.trans (show Tryd.prog.cellsOf 44 = 4 by kernel_rfl))
  clear hl
  obtain ⟨lb, hb, _⟩ := Rd.ints (k := .u8) Tryd.underlying41 Tryd.underlying5 (by kernel_rfl) (Rd.field (e := 41) (c := e0) Tryd.underlying44 h 0 (by kernel_rfl) (by kernel_rfl) rfl)
  obtain ⟨lw, hw, hwf⟩ := Rd.ints (k := .u8) Tryd.underlying41 Tryd.underlying5 (by kernel_rfl) (Rd.field (e := 41) (c := e1) Tryd.underlying44 h 1 (by kernel_rfl) (by kernel_rfl) rfl)
  have hx : Rd Tryd.prog w 42 [e2, e3] := Rd.fieldN 2 Tryd.underlying44 h 2 2 (by kernel_rfl) (by kernel_rfl)
  obtain ⟨a0, h0, w0⟩ := Rd.int (k := .u8) Tryd.underlying5 (Rd.elem (e := 5) (c := e2) Tryd.underlying42 hx 0 (by decide) (by kernel_rfl) rfl)
  obtain ⟨a1, h1, w1⟩ := Rd.int (k := .u8) Tryd.underlying5 (Rd.elem (e := 5) (c := e3) Tryd.underlying42 hx 1 (by decide) (by kernel_rfl) rfl)
  cases h0; cases h1
  have b0 := byte_wf w0; have b1 := byte_wf w1
  obtain ⟨x0, rfl⟩ := Int.eq_ofNat_of_zero_le b0.1
  obtain ⟨x1, rfl⟩ := Int.eq_ofNat_of_zero_le b1.1
  exact ⟨e0, e1, lb, lw, x0, x1, rfl, hb, hw, by omega, by omega, fun b hm => byte_wf (hwf b hm)⟩
end Go.Proofs.YtlddcnkiigamjaaDoor
/- WalkTurned: its argument read. -/
namespace Go.Proofs.YtlddcnkiigamjaaDoor
open Go.RowKit
theorem walkTurned_rd (cs : Array Value) (W : World) (R0 : Rd Tryd.prog W 44 cs.toList) (hg : HG W) : Calls Tryd.prog 9 #[.agg cs] W fun e w' => e = .returned (.bool true) ∧ Below W.heap.size W w' := by
  obtain ⟨vb, vw, lb, lw, x0, x1, rfl, hb, hw, h0, h1, hlw⟩ := Rd.drawn09 R0
  exact walkTurned_any vb vw lb lw x0 x1 W hb hw h0 hlw hg
end Go.Proofs.YtlddcnkiigamjaaDoor
/- WHAT EVERY LAW's PROOF OF A TIED SEAT SHARES: the condition that the row lays, as the walks take it; a world that meets it. -/
namespace Go.Proofs.YtlddcnkiigamjaaDoor
open Go.ChangeShapes Go.WideShapes Go.ChangeAt Go.RowKit
theorem laid_et : Tryd.prog.globalNamed "errors.errorType" = some 0 := by kernel_rfl
theorem laid_rt : (Tryd.prog.cutTypes.find? (·.1 == "internal/reflectlite.rtype")).map (·.2) = some 136 := by kernel_rfl
theorem laid_row : ((List.range Tryd.prog.types.size).filter fun t => Tryd.prog.rowNamed t [101, 114, 114, 111, 114]) = [30] := by kernel_rfl
theorem HG.of_laid {W : World} (h : laidMetH Tryd.prog [("errors.errorType", Rows.laid_errors_errorType)] W) : HG W := by
  have h' : laidMet Tryd.prog [] W ∧ handlesMet Tryd.prog [("errors.errorType", Rows.laid_errors_errorType)] W := h
  obtain ⟨name, u, ty, e1, e2, e3, e4, e5⟩ := h'.2 _ (List.mem_singleton.2 rfl)
  have en : name = [101, 114, 114, 111, 114] := (Option.some.inj e1).symm
  subst en
  obtain rfl := Option.some.inj (laid_rt.symm.trans e2)
  have hm : ty ∈ (List.range Tryd.prog.types.size).filter fun t => Tryd.prog.rowNamed t [101, 114, 114, 111, 114] := List.mem_filter.2 ⟨List.mem_range.2 e3, e4⟩
  rw [laid_row] at hm
  obtain rfl := List.mem_singleton.1 hm
  have hh : typeHandle Tryd.prog 30 = .pointer (some ⟨1, 30, none⟩) := by kernel_rfl
  rw [hh] at e5
  simpa [HG] using World.var?_cell laid_et e5 0
/-- a world that meets the condition -/
noncomputable def laidWorld (os : Os) : World :=
  let w0 := World.holding Tryd.prog os ⟨#[], #[], []⟩
  { w0 with heap := w0.heap.modify 0 fun
      | .cells _ t frozen => .cells #[.iface 136 (.agg #[.pointer (some ⟨1, 30, none⟩)])] t frozen
      | o => o }
theorem laidWorld_met (os : Os) (args : Array Value) : laidMetH Tryd.prog [("errors.errorType", Rows.laid_errors_errorType)] ((laidWorld os).forCall (fun _ _ => 0) ⟨#[], args, []⟩).memory :=
  laidMetH_of_parts (laidMet_nil _ _) (by kernel_rfl)
end Go.Proofs.YtlddcnkiigamjaaDoor
