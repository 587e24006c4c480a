/- Texts of the law WalkJoins, merged: WalkCut, WalkJoins, WalkJoinsL. -/
import Derived.Test.YtlddcnkiigamjaaDoorPWalkTurned17
import Derived.Test.YtlddcnkiigamjaaDoorPWalkTurned18
/- a row of numbers, cut; a walk, parted. -/
namespace Go.Proofs.YtlddcnkiigamjaaDoor
open Go.RowKit Go.Shelf
attribute [local go_sem] Oper.semAt_some
/-- v[k:] -/
theorem slX_from {w : World} {ra : Option Addr} {n rc : Nat} {M : List Int} (hn : n = M.length) (h : SlX w (.slice ra n rc) M) (k : Nat) (hk : k ≤ M.length) :
    ∃ a2 c2, (∀ u, (Instr.slice 35 (.slice ra n rc) (some (.int .i64 (k : Nat))) none none).run Tryd.prog u = .ok (.slice a2 (n - k) c2) u) ∧ ∀ w', SlX w' (.slice ra n rc) M → SlX w' (.slice a2 (n - k) c2) (M.drop k) := by
  subst hn
  have hlc : M.length ≤ rc := by obtain ⟨_, _, e, h, _⟩ := h; simp at e; obtain ⟨_, rfl⟩ := e; exact h
  refine ⟨if rc = k then ra else ra.map (·.add (k * 1)), rc - k, fun u => ?_, fun w' h' => ?_⟩
  · have ht : Tryd.prog.underlying 35 = some (.slice (Tryd.prog.elem 35)) := by
      have he : Tryd.prog.elem 35 = 3 := by kernel_rfl
      rw [he]; exact Tryd.underlying35
    rw [run_slice_l u 35 ra M.length rc ht .i64 (k : Nat) (by omega) (by omega)]
    have hs : (sizeOf (Tryd.prog.elem 35)).run Tryd.prog u = .ok 1 u := by kernel_rfl
    rw [hs]
    simp [Result.andThen, sliced]
  · obtain ⟨a, cap, e, h1, h2, h3⟩ := h'
    simp only [Value.slice.injEq] at e
    obtain ⟨rfl, -, rfl⟩ := e
    refine ⟨_, rc - k, by rw [List.length_drop], by rw [List.length_drop]; omega, by omega, fun i hi => ?_⟩
    rw [List.length_drop] at hi
    obtain ⟨b, off, cs, t, fr, rfl, hb, hc⟩ := h3 (k + i) (by omega)
    rw [if_neg (by omega)]
    refine ⟨b, off + k, cs, t, fr, by simp [Addr.add], hb, ?_⟩
    rw [List.getElem_drop, ← hc, Nat.add_assoc]
/-- v[:k] -/
theorem slX_upto {w : World} {a : Option Addr} {n cap : Nat} {L : List Int} (h : SlX w (.slice a n cap) L) (m : Nat) (hm : m ≤ L.length) : SlX w (.slice a m cap) (L.take m) := by
  obtain ⟨a', cap', e, h1, h2, h3⟩ := h
  simp only [Value.slice.injEq] at e
  obtain ⟨rfl, -, rfl⟩ := e
  have hl : (L.take m).length = m := by rw [List.length_take]; omega
  refine ⟨a, cap, by rw [hl], by omega, h2, fun i hi => ?_⟩
  obtain ⟨b, off, cs, t, fr, rfl, hb, hc⟩ := h3 i (by omega)
  exact ⟨b, off, cs, t, fr, rfl, hb, by rw [List.getElem_take]; exact hc⟩
theorem last_take (s : Int) : ∀ (l : List Int) (k : Nat) (hk : k < (s :: l).length), (s :: l)[k] = lastN s (l.take k)
  | l, 0, _ => rfl
  | [], k + 1, hk => by simp at hk
  | a :: l, k + 1, hk => by
    rw [List.take_succ_cons, lastN_cons, List.getElem_cons_succ]
    exact last_take a l k (by simpa using hk)
theorem last_drop (s : Int) : ∀ (l : List Int) (k : Nat), lastN (lastN s (l.take k)) (l.drop k) = lastN s l
  | l, 0 => rfl
  | [], k + 1 => rfl
  | a :: l, k + 1 => by rw [List.take_succ_cons, lastN_cons, lastN_cons, List.drop_succ_cons]; exact last_drop a l k
theorem drop_cons (s : Int) : ∀ (l : List Int) (k : Nat), k ≤ l.length → (s :: l).drop k = lastN s (l.take k) :: l.drop k
  | l, 0, _ => rfl
  | [], k + 1, h => by simp at h
  | a :: l, k + 1, h => by rw [List.take_succ_cons, lastN_cons, List.drop_succ_cons, List.drop_succ_cons]; exact drop_cons a l k (by simpa using h)
theorem wt_parts (g : Raw) (M : List Int) (k : Nat) : wt g (M.take k) + wt g (M.drop k) = wt g M := by rw [← wt_append, List.take_append_drop]
end Go.Proofs.YtlddcnkiigamjaaDoor
/- WalkJoins, its walk. -/
namespace Go.Proofs.YtlddcnkiigamjaaDoor
open Go.RowKit Go.Shelf
attribute [local go_sem] Oper.semAt_some
set_option maxRecDepth 100000 in
set_option maxHeartbeats 8000000 in
theorem walkJoins_any (vb vw : Value) (lb lw : List Int) (x0 : Nat) (x1 : Int) (w : World) (hB : SlI w vb .u8 lb) (hW : SlI w vw .u8 lw) (hx0 : x0 < 256) (hlw : ∀ b ∈ lw, 0 ≤ b ∧ b < 256) (hg : HG w) :
    Calls Tryd.prog 7 #[.agg #[vb, vw, .int .u8 (x0 : Nat), .int .u8 x1]] w fun e w' => e = .returned (.bool true) ∧ Below w.heap.size w w' := by
  obtain ⟨ba, bc, rfl, hb1, hb2, hb3⟩ := id hB
  obtain ⟨wa, wc, rfl, hw1, hw2, hw3⟩ := id hW
  obtain ⟨w0, hw0⟩ : ∃ u, u = w.alloc (.cells #[.slice ba lb.length bc, .slice wa lw.length wc, .int .u8 (x0 : Nat), .int .u8 x1] 44) := ⟨_, rfl⟩
  have hb0 : Below w.heap.size w w0 := by rw [hw0]; exact (Below.refl _ _).alloc (Nat.le_refl _) _
  have k1 : Blk w0 w.heap.size #[.slice ba lb.length bc, .slice wa lw.length wc, .int .u8 (x0 : Nat), .int .u8 x1] 44 (0, 0) := by rw [hw0]; exact Blk.new _ _ _ _
  obtain ⟨B1, hB1⟩ : ∃ b, b = w.heap.size := ⟨_, rfl⟩
  rw [← hB1] at k1
  have HG0 := Lib.hid hg; have HB := Lib.hid hB; have HWd := Lib.hid hW; have HW0 := Lib.hid hw0; have HB0 := Lib.hid hb0; have HK1 := Lib.hid k1; have HB1 := Lib.hid hB1
  clear hg hB hW hw0 hb0 k1 hb1 hb2 hb3 hw1 hw3
  unfold maxLen at hw2
  have hwl : lw.length ≤ wc := by have := HWd.out; obtain ⟨_, _, e, h, _⟩ := this; simp at e; obtain ⟨_, rfl⟩ := e; exact h
  go_enter Tryd.func7, Tryd.ntmps7
  go_wp2_with fail
  rw [← HW0.out, ← hB1]
  clear hB1
  refine (works09_any w0 (HG0.out.later HB0.out)).mono ?_
  rintro e w1 ⟨rfl, hb⟩
  have HBw1 := Lib.hid (HB0.out.next' hb)
  have k1 := HK1.out.below hb HK1.out.lt
  have HK1' := Lib.hid k1
  have c0 := k1.cell 0
  simp only [List.getElem?_toArray, List.getElem?_cons_zero] at c0
  clear hb k1 HK1
  have HSb := Lib.hid (SlI.later HBw1.out HB.out)
  go_wp2_with fail
  refine (drawn09_any _ lb w1 (HG0.out.later HBw1.out) HSb.out).mono ?_
  rintro e w2 ⟨rv, g, q, rfl, hraw, hnet, hok, hgl, hb⟩
  obtain ⟨vx, vy, vz, rfl, hx, hy, hz⟩ := id hraw
  obtain ⟨xa, xn, xc, rfl⟩ := hx.form
  obtain ⟨ya, yn, yc, rfl⟩ := hy.form
  obtain ⟨za, zn, zc, rfl⟩ := hz.form
  have HBw2 := Lib.hid (HBw1.out.next' hb)
  have k1 := HK1'.out.below hb HK1'.out.lt
  have HK2 := Lib.hid k1
  obtain ⟨w3, hw3⟩ : ∃ u, u = w2.alloc (.cells #[.int .i64 g.nodes, .slice xa xn xc, .slice ya yn yc, .slice za zn zc] 26) := ⟨_, rfl⟩
  have hb3 : Below w2.heap.size w2 w3 := by rw [hw3]; exact (Below.refl _ _).alloc (Nat.le_refl _) _
  have k3 : Blk w3 w2.heap.size #[.int .i64 g.nodes, .slice xa xn xc, .slice ya yn yc, .slice za zn zc] 26 (0, 0) := by rw [hw3]; exact Blk.new _ _ _ _
  have hc3 := (k1.below hb3 k1.lt)
  have c2 := hc3.cell 2
  simp only [List.getElem?_toArray, List.getElem?_cons_succ, List.getElem?_cons_zero] at c2
  have n0 := k3.cell 0
  simp only [List.getElem?_toArray, List.getElem?_cons_zero] at n0
  rw [hw3] at c2 n0
  have hN := hok.nodes.1
  have hnz : (g.nodes == 0) = false := by simp; omega
  obtain ⟨s, hs⟩ : ∃ s, s = (x0 : Int).tmod g.nodes := ⟨_, rfl⟩
  have hs2 : (x0 : Int).tmod g.nodes = s := hs.symm
  have HW3 := Lib.hid hw3; have HK3 := Lib.hid k3; have HKd := Lib.hid hc3; have HRw := Lib.hid hraw; have HNt := Lib.hid hnet; have HOk := Lib.hid hok; have HGl := Lib.hid hgl; have HBw3 := Lib.hid (HBw2.out.next' hb3); have HS := Lib.hid hs
  clear hw3 hb3 k3 hc3 hraw hnet hok hgl hb k1 hx hy hz hs c0
  have hx1 : (0 : Int) ≤ (x0 : Int) ∧ (x0 : Int) < 256 := ⟨by omega, by omega⟩
  go_upto_region 5 with fail
  obtain ⟨mw, hmw⟩ : ∃ m : Nat, m = min lw.length 40 := ⟨_, rfl⟩
  have f1 : (if (40 : Int) < (lw.length : Int) then (40 : Int) else (lw.length : Int)) = (mw : Int) := by split <;> omega
  have f2 : (mw : Int) ≤ (wc : Int) := by omega
  have f3 : (0 : Int) ≤ (mw : Int) := by omega
  have HMw := Lib.hid (show (lw.take mw).length ≤ 40 by rw [List.length_take]; omega)
  rw [← HW3.out]
  obtain ⟨B3, hB3⟩ : ∃ b, b = w2.heap.size := ⟨_, rfl⟩
  rw [← hB3] at HK3 ⊢
  have HB3 := Lib.hid hB3
  clear hB3
  have HCW := Lib.hid (show ∀ u, Below w3.heap.size w3 u → Calls Tryd.prog 20 #[.agg #[.int .i64 g.nodes, .slice xa xn xc, .slice ya yn yc, .slice za zn zc], .int .i64 s, .slice wa mw wc] u fun e w' => ∃ x M cur, e = .returned x ∧ WkAt g s cur M ∧ M.length ≤ (lw.take mw).length ∧ w'.ownsRow u.heap.size 3 1 x M.length (M.flatMap inC) ∧ Below u.heap.size u w' from fun u hu => by
    have hb23 : Below w2.heap.size w2 u := by
      have h1 : Below w2.heap.size w2 w3 := by rw [HW3.out]; exact (Below.refl _ _).alloc (Nat.le_refl _) _
      exact h1.trans (hu.mono h1.size)
    have hr : RawV u (.agg #[.int .i64 g.nodes, .slice xa xn xc, .slice ya yn yc, .slice za zn zc]) g := by
      obtain ⟨_, _, _, e, q1, q2, q3⟩ := HRw.out
      have hk := KpC.of_below hb23
      exact ⟨_, _, _, e, q1.keep hk, q2.keep hk, q3.keep hk⟩
    exact refWalk_any _ g (by have := HGl.out.2; omega) s _ (lw.take mw) (by have := HMw.out; omega) (fun b hb => hlw b (List.mem_of_mem_take hb)) u hr (SlI.cut (SlI.later (HBw3.out.trans (hu.mono HBw3.out.size)) HWd.out) mw (by rw [hmw]; exact Nat.min_le_left _ _)))
  have HSS := Lib.hid (show ∀ u, Below w3.heap.size w3 u → u.cell? ⟨B3, 0, none⟩ = some (.int .i64 g.nodes) ∧ u.cell? ⟨B3, 1, none⟩ = some (.slice xa xn xc) ∧ u.cell? ⟨B3, 2, none⟩ = some (.slice ya yn yc) ∧ u.cell? ⟨B3, 3, none⟩ = some (.slice za zn zc) ∧ u.cell? ⟨B1, 1, none⟩ = some (.slice wa lw.length wc) from fun u hu => by
    have k3 := HK3.out.below hu HK3.out.lt
    have k1 := HKd.out.below hu HKd.out.lt
    exact ⟨k3.cell 0, k3.cell 1, k3.cell 2, k3.cell 3, k1.cell 1⟩)
  clear c2 n0 hmw
  refine wp_region_heldD (fun w' => w'.cell? ⟨B3, 0, none⟩ = some (.int .i64 g.nodes) ∧ w'.cell? ⟨B3, 1, none⟩ = some (.slice xa xn xc) ∧ w'.cell? ⟨B3, 2, none⟩ = some (.slice ya yn yc) ∧ w'.cell? ⟨B3, 3, none⟩ = some (.slice za zn zc) ∧ w'.cell? ⟨B1, 1, none⟩ = some (.slice wa lw.length wc)) 10 rfl ?_
  change heldD _ _ _ _ _ _ _ 11 _ _ w3.drew
  obtain ⟨wk0, hu0⟩ : ∃ u, u = w3.drew := ⟨_, rfl⟩
  have HBu := Lib.hid (show Below w3.heap.size w3 wk0 by rw [hu0]; exact (Below.refl _ _).drew)
  rw [← hu0]
  clear hu0
  refine heldD_take (i := 0) (v := .agg #[.int .i64 g.nodes, .slice xa xn xc, .slice ya yn yc, .slice za zn zc]) rfl rfl rfl (by kernel_rfl) (by kernel_rfl) (by kernel_rfl) (by kernel_rfl) (by kernel_rfl) (by kernel_rfl) (fun _ _ _ h => h) (by rfl) (fun w hS => ⟨by rfl, by obtain ⟨hS1, hS2, hS3, hS4, hS5⟩ := hS; go_simp⟩) (HSS.out _ HBu.out) ?_
  simp only [List.setIfInBounds_toArray, List.set_cons_zero, List.set_cons_succ]
  refine heldD_takeF (i := 1) (v := .int .i64 s) rfl rfl rfl (by kernel_rfl) (by kernel_rfl) (by kernel_rfl) (by kernel_rfl) (fun _ _ _ h => h) (by rfl) (fun w => ⟨by rfl, by go_simp⟩) (fun _ => HSS.out _ HBu.out) ?_
  simp only [List.setIfInBounds_toArray, List.set_cons_zero, List.set_cons_succ]
  refine heldD_takeF (i := 2) (v := .pointer (some ⟨B1, 1, none⟩)) rfl rfl rfl (by kernel_rfl) (by kernel_rfl) (by kernel_rfl) (by kernel_rfl) (fun _ _ _ h => h) (by rfl) (fun w => ⟨by rfl, by go_simp⟩) (fun _ => HSS.out _ HBu.out) ?_
  simp only [List.setIfInBounds_toArray, List.set_cons_zero, List.set_cons_succ]
  refine heldD_take (i := 3) (v := .slice wa lw.length wc) rfl rfl rfl (by kernel_rfl) (by kernel_rfl) (by kernel_rfl) (by kernel_rfl) (by kernel_rfl) (by kernel_rfl) (fun _ _ _ h => h) (by rfl) (fun w hS => ⟨by rfl, by obtain ⟨hS1, hS2, hS3, hS4, hS5⟩ := hS; go_simp⟩) (HSS.out _ HBu.out) ?_
  simp only [List.setIfInBounds_toArray, List.set_cons_zero, List.set_cons_succ]
  refine heldD_takeF (i := 4) (v := .pointer (some ⟨B1, 1, none⟩)) rfl rfl rfl (by kernel_rfl) (by kernel_rfl) (by kernel_rfl) (by kernel_rfl) (fun _ _ _ h => h) (by rfl) (fun w => ⟨by rfl, by go_simp⟩) (fun _ => HSS.out _ HBu.out) ?_
  simp only [List.setIfInBounds_toArray, List.set_cons_zero, List.set_cons_succ]
  refine heldD_take (i := 5) (v := .slice wa lw.length wc) rfl rfl rfl (by kernel_rfl) (by kernel_rfl) (by kernel_rfl) (by kernel_rfl) (by kernel_rfl) (by kernel_rfl) (fun _ _ _ h => h) (by rfl) (fun w hS => ⟨by rfl, by obtain ⟨hS1, hS2, hS3, hS4, hS5⟩ := hS; go_simp⟩) (HSS.out _ HBu.out) ?_
  simp only [List.setIfInBounds_toArray, List.set_cons_zero, List.set_cons_succ]
  refine heldD_takeF (i := 6) (v := .int .i64 (lw.length : Nat)) rfl rfl rfl (by kernel_rfl) (by kernel_rfl) (by kernel_rfl) (by kernel_rfl) (fun _ _ _ h => h) (by rfl) (fun w => ⟨by rfl, by go_simp⟩) (fun _ => HSS.out _ HBu.out) ?_
  simp only [List.setIfInBounds_toArray, List.set_cons_zero, List.set_cons_succ]
  refine heldD_takeF (i := 7) (v := .int .i64 (mw : Nat)) rfl rfl rfl (by kernel_rfl) (by kernel_rfl) (by kernel_rfl) (by kernel_rfl) (fun _ _ _ h => h) (by rfl) (fun w => ⟨by rfl, by go_simp⟩) (fun _ => HSS.out _ HBu.out) ?_
  simp only [List.setIfInBounds_toArray, List.set_cons_zero, List.set_cons_succ]
  refine heldD_takeF (i := 8) (v := .slice wa mw wc) rfl rfl rfl (by kernel_rfl) (by kernel_rfl) (by kernel_rfl) (by kernel_rfl) (fun _ _ _ h => h) (by rfl) (fun w => ⟨by rfl, by go_simp⟩) (fun _ => HSS.out _ HBu.out) ?_
  simp only [List.setIfInBounds_toArray, List.set_cons_zero, List.set_cons_succ]
  refine heldD_HT ?_
  intro H hH T hT
  have HH := Lib.hid hH; have HT := Lib.hid hT
  clear hH hT
  suffices rw_9 : ∀ (u : World) (rx : Value) (M : List Int) (cur : Int), Hid (Below w3.heap.size w3 u) → Hid (WkAt g s cur M ∧ M.length ≤ 40 ∧ SlX u rx M) → H 1 #[true, true, true, true, true, true, true, true, true, true, false] { tmps := (T.setIfInBounds 43 (rx)), defers := [] } u from by
    have rw_ : ∀ (u : World), Hid (Below w3.heap.size w3 u) → H 2 #[true, true, true, true, true, true, true, true, true, false, false] { tmps := T, defers := [] } u := by
      clear HBu
      intro u HBu
      rw [HH.out, HT.out]
      refine heldD_one (i := 9) (by kernel_rfl) ?_
      refine wpOpIn_calls' (f := 20) (args := #[.agg #[.int .i64 g.nodes, .slice xa xn xc, .slice ya yn yc, .slice za zn zc], .int .i64 s, .slice wa mw wc]) rfl rfl (by rfl) (by go_simp) (HCW.out u HBu.out) ?_
      rintro e u2 ⟨rx, M, cur, rfl, hwa, hml, hrow, hb⟩
      refine ⟨_, rfl, ?_⟩
      have hf : (WkAt g s cur M ∧ M.length ≤ 40 ∧ SlX u2 rx M) := ⟨hwa, by have := HMw.out; omega, slX_own rfl hrow⟩
      have HBu0 := HBu
      have HBu : Hid (Below w3.heap.size w3 u2) := Lib.hid (HBu0.out.trans (hb.mono HBu0.out.size))
      refine ⟨fun _ => HSS.out _ HBu.out, ?_⟩
      simp only [List.setIfInBounds_toArray, List.set_cons_zero, List.set_cons_succ]
      have q := rw_9 _ rx M cur HBu (Lib.hid hf)
      rw [HH.out, HT.out] at q
      simp only [List.setIfInBounds_toArray, List.set_cons_zero, List.set_cons_succ] at q ⊢
      exact q
    exact rw_ wk0 HBu
  clear HBu
  intro u rx M cur HBu HF9
  rw [HH.out, HT.out]
  simp only [List.setIfInBounds_toArray, List.set_cons_zero, List.set_cons_succ]
  clear HH HT
  refine heldD_one (i := 10) (by kernel_rfl) ?_
  refine wpOpIn_value (v := rx) (w' := u) rfl rfl rfl (by rfl) (by rfl) (by go_simp) ?_
  refine ⟨fun h => (by cases h), ?_⟩
  simp only [List.setIfInBounds_toArray, List.set_cons_zero, List.set_cons_succ]
  refine heldD_done (by kernel_rfl) ?_ _
  have HBu3 := Lib.hid (HBw3.out.trans (HBu.out.mono HBw3.out.size))
  have HWk := Lib.hid (HF9).out.1; have HMl := Lib.hid (HF9).out.2.1; have HMs := Lib.hid (HF9).out.2.2
  have hnet := HNt.out.keep (KpC.of_below (show Below w2.heap.size w2 u from by
    have h1 : Below w2.heap.size w2 w3 := by rw [HW3.out]; exact (Below.refl _ _).alloc (Nat.le_refl _) _
    exact h1.trans (HBu.out.mono h1.size)))
  have HNu := Lib.hid hnet
  clear hnet HSS HCW HBu f1 f2 f3 hs2 hnz hN hwl hw2 hx1 hx0 hlw
  obtain ⟨ra, rc, erx, -⟩ := id HMs.out
  subst erx
  have hsr : 0 ≤ s ∧ s < g.nodes := by
    have h1 := HS.out
    have h2 := HOk.out.nodes.1
    rw [Int.tmod_eq_emod_of_nonneg (by omega)] at h1
    rw [h1]
    exact ⟨Int.emod_nonneg _ (by omega), Int.emod_lt_of_pos _ (by omega)⟩
  obtain ⟨l, hwk, hlast⟩ := HWk.out
  have hnv : nodesV g s M = some (s :: l) := by unfold nodesV; rw [if_pos hsr, hwk]; rfl
  have hlen := wk_len hwk
  have HPl := Lib.hid (And.intro hsr (And.intro hwk (And.intro hlast hlen)))
  have HCn := Lib.hid (nodes_is _ hnv (by have := HMl.out; omega) q _ u HNu.out HMs.out)
  clear hsr hwk hlast hnv hlen HWk
  go_wp2_with fail
  refine HCn.out.mono ?_
  rintro e u1 ⟨a1, cp1, rfl, hs1, hb⟩
  simp only [Option.getD_some, List.length_cons, Option.isSome_some] at hs1 ⊢
  have HBu1 := Lib.hid (HBu3.out.next' hb)
  have hq1 := HNu.out.keep (KpC.of_below hb); have hm1 := HMs.out.keep (KpC.of_below hb)
  have HN1 := Lib.hid hq1; have HM1 := Lib.hid hm1; have HS1 := Lib.hid hs1
  clear hb hq1 hm1 hs1 HNu HMs HCn HBu3
  have HGq := HGl
  clear HGl HB3 HK3 HKd HWd HSb HW3 HK2 HB0 HW0 HB HBw1 HBw2 HBw3 HMw HS HRw HK1' HNt HF9
  obtain ⟨bl, ol, ea1, -⟩ := HS1.out.at 0 (by simp)
  subst ea1
  have HCl := Lib.hid (show ∀ (k : Nat) (hk : k < (s :: l).length) (u : World), Below u1.heap.size u1 u → u.cell? ⟨bl, ol + k, none⟩ = some (.int .i64 (s :: l)[k]) from fun k hk u hu => by
    obtain ⟨b2, o2, e2, hc⟩ := (HS1.out.keep (KpC.of_below hu)).at k hk
    obtain ⟨rfl, rfl⟩ : bl = b2 ∧ ol = o2 := by simpa using e2
    exact hc)
  have hc : u1.cell? ⟨bl, ol + l.length, none⟩ = some (.int .i64 cur) := by
    rw [← show (s :: l)[l.length]'(by simp) = cur from (last_get s l).trans HPl.out.2.2.1]
    exact HCl.out l.length (by simp) u1 (Below.refl _ _)
  have hlM := HPl.out.2.2.2
  have hl40 : l.length ≤ 40 := by have := HMl.out; omega
  have HLM := Lib.hid hlM
  clear hlM
  have HC := Lib.hid (chk_walk HOk.out HPl.out.1 HPl.out.2.1 HPl.out.2.2.1 (by have := HMl.out; omega) q _ _ HN1.out HM1.out)
  obtain ⟨wm, hwm⟩ : ∃ x, x = wt g M := ⟨_, rfl⟩
  rw [← hwm] at HC
  have HWm := Lib.hid hwm
  clear hwm
  go_wp2_with fail
  refine HC.out.mono ?_
  rintro e u2 ⟨rfl, hb0⟩
  have HB2 := Lib.hid hb0
  clear hb0 hc HC
  go_wp2_with fail
  clear hl40
  go_loopw [12] (fun i wr => ∃ k : Nat, i = .int .i64 k ∧ Hid (k ≤ M.length + 1 ∧ Below u1.heap.size u1 wr)) (fun i _ => M.length + 1 - (intOf i).toNat)
  case atStart => exact ⟨0, rfl, Lib.hid ⟨Nat.zero_le _, HB2.out⟩⟩
  case round =>
    obtain ⟨k, rfl, HI⟩ := hrel
    by_cases hk : k ≤ M.length
    · have hkI : (k : Int) ≤ (M.length : Int) := by omega
      have hkl : k < (s :: l).length := by have := HLM.out; simp; omega
      obtain ⟨lk, hlk⟩ : ∃ x, x = (s :: l)[k] := ⟨_, rfl⟩
      have HLk := Lib.hid (hlk.trans (last_take s l k hkl))
      have HSSa := Lib.hid (show ∀ u, Below u1.heap.size u1 u → u.cell? ⟨bl, ol + k, none⟩ = some (.int .i64 lk) from fun u hu => by rw [hlk]; exact HCl.out k hkl u hu)
      have HSSb := HSSa; have HSSc := HSSa
      clear hlk hkl
      obtain ⟨a2, c2, hcut, hcutS⟩ := slX_from rfl HM1.out k hk
      obtain ⟨a3, c3, hcut3, hcutS3⟩ := slX_from (by rfl) HS1.out k (by have := HLM.out; simp; omega)
      have HCt := Lib.hid hcutS; have HCt3 := Lib.hid hcutS3; have HCu := Lib.hid hcut; have HCu3 := Lib.hid hcut3
      clear hcutS hcutS3 hcut hcut3
      obtain ⟨wa, hwa⟩ : ∃ x, x = wt g (M.take k) := ⟨_, rfl⟩
      obtain ⟨wb, hwb⟩ : ∃ x, x = wt g (M.drop k) := ⟨_, rfl⟩
      have HCa := Lib.hid (show ∀ u, Below u1.heap.size u1 u → Calls Tryd.prog 21 #[.pointer (some ⟨q, 0, none⟩), .int .i64 s, .int .i64 lk, .slice ra k rc] u fun e w' => e = .returned (.tuple #[.int .i64 wa, .bool true]) ∧ Below u.heap.size u w' from fun u hu => by
        rw [hwa]
        exact chk_walk HOk.out HPl.out.1 (wk_take k HPl.out.2.1) HLk.out.symm (by have := HMl.out; rw [List.length_take]; omega) q _ _ (HN1.out.keep (KpC.of_below hu)) (slX_upto (HM1.out.keep (KpC.of_below hu)) k hk))
      have hwk2 : wk g lk (M.drop k) = some (l.drop k) := by rw [HLk.out]; exact wk_drop k hk HPl.out.2.1
      have hlast2 : lastN lk (l.drop k) = cur := by rw [HLk.out, last_drop]; exact HPl.out.2.2.1
      have hnode : 0 ≤ lk ∧ lk < g.nodes := by rw [HLk.out]; exact lastN_node HOk.out HPl.out.1 (wk_take k HPl.out.2.1)
      have HCb := Lib.hid (show ∀ u, Below u1.heap.size u1 u → Calls Tryd.prog 21 #[.pointer (some ⟨q, 0, none⟩), .int .i64 lk, .int .i64 cur, .slice a2 (M.length - k) c2] u fun e w' => e = .returned (.tuple #[.int .i64 wb, .bool true]) ∧ Below u.heap.size u w' from fun u hu => by
        rw [hwb]
        exact chk_walk HOk.out hnode hwk2 hlast2 (by have := HMl.out; rw [List.length_drop]; omega) q _ _ (HN1.out.keep (KpC.of_below hu)) (HCt.out u (HM1.out.keep (KpC.of_below hu))))
      have hnv2 : nodesV g lk (M.drop k) = some (lk :: l.drop k) := by unfold nodesV; rw [if_pos hnode, hwk2]; rfl
      have HCc := Lib.hid (show ∀ u, Below u1.heap.size u1 u → Calls Tryd.prog 23 #[.pointer (some ⟨q, 0, none⟩), .int .i64 lk, .slice a2 (M.length - k) c2] u fun e w' => ∃ am nm cm, e = .returned (.tuple #[.slice am nm cm, .bool true]) ∧ SlX w' (.slice am nm cm) (lk :: l.drop k) ∧ Below u.heap.size u w' from fun u hu =>
        (nodes_is _ hnv2 (by have := HMl.out; rw [List.length_drop]; omega) q _ u (HN1.out.keep (KpC.of_below hu)) (HCt.out u (HM1.out.keep (KpC.of_below hu)))).mono fun e w' h => by
          obtain ⟨a, c, rfl, h1, h2⟩ := h
          exact ⟨a, _, c, rfl, h1, h2⟩)
      have HAB := Lib.hid (show wa + wb = wm ∧ 0 ≤ wm ∧ wm ≤ 214748364800000 from ⟨by rw [hwa, hwb, HWm.out]; exact wt_parts g M k, by rw [HWm.out]; exact wt_small HOk.out (by have := HMl.out; omega)⟩)
      clear hwa hwb hwk2 hlast2 hnode hnv2
      have hkl : (k : Int) < (l.length : Int) + 1 := by have := HLM.out; omega
      have hk0 : (0 : Int) ≤ (k : Int) ∧ (k : Int) ≤ 40 := by have := HMl.out; omega
      have hkc : (k : Int) ≤ (rc : Int) := by
        obtain ⟨_, _, e, h, _⟩ := HM1.out
        simp at e
        obtain ⟨_, rfl⟩ := e
        omega
      go_upto_region 14 with fail
      refine wp_region_heldD (fun w' => w'.cell? ⟨bl, ol + k, none⟩ = some (.int .i64 lk)) 14 rfl ?_
      change heldD _ _ _ _ _ _ _ 15 _ _ wr.drew
      obtain ⟨wka, hu0a⟩ : ∃ ua, ua = wr.drew := ⟨_, rfl⟩
      have HBa := Lib.hid (show Below u1.heap.size u1 wka by rw [hu0a]; exact (HI.out.2).drew)
      rw [← hu0a]
      clear hu0a
      refine heldD_takeF (i := 0) (v := .pointer (some ⟨q, 0, none⟩)) rfl rfl rfl (by kernel_rfl) (by kernel_rfl) (by kernel_rfl) (by kernel_rfl) (fun _ _ _ h => h) (by rfl) (fun w => ⟨by rfl, by go_simp⟩) (fun _ => HSSa.out _ HBa.out) ?_
      simp only [List.setIfInBounds_toArray, List.set_cons_zero, List.set_cons_succ]
      refine heldD_takeF (i := 1) (v := .int .i64 s) rfl rfl rfl (by kernel_rfl) (by kernel_rfl) (by kernel_rfl) (by kernel_rfl) (fun _ _ _ h => h) (by rfl) (fun w => ⟨by rfl, by go_simp⟩) (fun _ => HSSa.out _ HBa.out) ?_
      simp only [List.setIfInBounds_toArray, List.set_cons_zero, List.set_cons_succ]
      refine heldD_takeF (i := 2) (v := .slice (some ⟨bl, ol, none⟩) (l.length + 1) cp1) rfl rfl rfl (by kernel_rfl) (by kernel_rfl) (by kernel_rfl) (by kernel_rfl) (fun _ _ _ h => h) (by rfl) (fun w => ⟨by rfl, by go_simp⟩) (fun _ => HSSa.out _ HBa.out) ?_
      simp only [List.setIfInBounds_toArray, List.set_cons_zero, List.set_cons_succ]
      refine heldD_takeF (i := 3) (v := .int .i64 (k : Nat)) rfl rfl rfl (by kernel_rfl) (by kernel_rfl) (by kernel_rfl) (by kernel_rfl) (fun _ _ _ h => h) (by rfl) (fun w => ⟨by rfl, by go_simp⟩) (fun _ => HSSa.out _ HBa.out) ?_
      simp only [List.setIfInBounds_toArray, List.set_cons_zero, List.set_cons_succ]
      refine heldD_takeF (i := 4) (v := .pointer (some ⟨bl, ol + k, none⟩)) rfl rfl rfl (by kernel_rfl) (by kernel_rfl) (by kernel_rfl) (by kernel_rfl) (fun _ _ _ h => h) (by rfl) (fun w => ⟨by rfl, by go_simp⟩) (fun _ => HSSa.out _ HBa.out) ?_
      simp only [List.setIfInBounds_toArray, List.set_cons_zero, List.set_cons_succ]
      refine heldD_take (i := 5) (v := .int .i64 lk) rfl rfl rfl (by kernel_rfl) (by kernel_rfl) (by kernel_rfl) (by kernel_rfl) (by kernel_rfl) (by kernel_rfl) (fun _ _ _ h => h) (by rfl) (fun w hS => ⟨by rfl, by obtain hS1 := hS; go_simp⟩) (HSSa.out _ HBa.out) ?_
      simp only [List.setIfInBounds_toArray, List.set_cons_zero, List.set_cons_succ]
      refine heldD_takeF (i := 6) (v := .slice ra M.length rc) rfl rfl rfl (by kernel_rfl) (by kernel_rfl) (by kernel_rfl) (by kernel_rfl) (fun _ _ _ h => h) (by rfl) (fun w => ⟨by rfl, by go_simp⟩) (fun _ => HSSa.out _ HBa.out) ?_
      simp only [List.setIfInBounds_toArray, List.set_cons_zero, List.set_cons_succ]
      refine heldD_takeF (i := 7) (v := .int .i64 (k : Nat)) rfl rfl rfl (by kernel_rfl) (by kernel_rfl) (by kernel_rfl) (by kernel_rfl) (fun _ _ _ h => h) (by rfl) (fun w => ⟨by rfl, by go_simp⟩) (fun _ => HSSa.out _ HBa.out) ?_
      simp only [List.setIfInBounds_toArray, List.set_cons_zero, List.set_cons_succ]
      refine heldD_takeF (i := 8) (v := .slice ra k rc) rfl rfl rfl (by kernel_rfl) (by kernel_rfl) (by kernel_rfl) (by kernel_rfl) (fun _ _ _ h => h) (by rfl) (fun w => ⟨by rfl, by go_simp⟩) (fun _ => HSSa.out _ HBa.out) ?_
      simp only [List.setIfInBounds_toArray, List.set_cons_zero, List.set_cons_succ]
      refine heldD_HT ?_
      intro H hH T hT
      have HH := Lib.hid hH; have HT := Lib.hid hT
      clear hH hT
      suffices ga_9 : ∀ (ua : World), Hid (Below u1.heap.size u1 ua) → Hid True → H 1 #[true, true, true, true, true, true, true, true, true, true, true, true, true, true, false] { tmps := (((((T.setIfInBounds 83 (.tuple #[.int .i64 wa, .bool true])).setIfInBounds 73 (.tuple #[.int .i64 wa, .bool true])).setIfInBounds 84 (.int .i64 wa)).setIfInBounds 85 (.bool true)).setIfInBounds 13 (.int .i64 wa)), defers := [] } ua from by
        have ga_ : ∀ (ua : World), Hid (Below u1.heap.size u1 ua) → H 6 #[true, true, true, true, true, true, true, true, true, false, false, false, false, false, false] { tmps := T, defers := [] } ua := by
          clear HBa
          intro ua HBa
          rw [HH.out, HT.out]
          refine heldD_one (i := 9) (by kernel_rfl) ?_
          refine wpOpIn_calls' (f := 21) (args := #[.pointer (some ⟨q, 0, none⟩), .int .i64 s, .int .i64 lk, .slice ra k rc]) rfl rfl (by rfl) (by go_simp) (HCa.out ua HBa.out) ?_
          rintro e u2 ⟨rfl, hb⟩
          refine ⟨_, rfl, ?_⟩
          have hf : True := trivial
          have HB0a := HBa
          have HBa : Hid (Below u1.heap.size u1 u2) := Lib.hid (HB0a.out.trans (hb.mono HB0a.out.size))
          refine ⟨fun _ => HSSa.out _ HBa.out, ?_⟩
          simp only [List.setIfInBounds_toArray, List.set_cons_zero, List.set_cons_succ]
          refine heldD_takeF (i := 10) (v := .tuple #[.int .i64 wa, .bool true]) rfl rfl rfl (by kernel_rfl) (by kernel_rfl) (by kernel_rfl) (by kernel_rfl) (fun _ _ _ h => h) (by rfl) (fun w => ⟨by rfl, by go_simp⟩) (fun _ => HSSa.out _ HBa.out) ?_
          simp only [List.setIfInBounds_toArray, List.set_cons_zero, List.set_cons_succ]
          refine heldD_takeF (i := 11) (v := .int .i64 wa) rfl rfl rfl (by kernel_rfl) (by kernel_rfl) (by kernel_rfl) (by kernel_rfl) (fun _ _ _ h => h) (by rfl) (fun w => ⟨by rfl, by go_simp⟩) (fun _ => HSSa.out _ HBa.out) ?_
          simp only [List.setIfInBounds_toArray, List.set_cons_zero, List.set_cons_succ]
          refine heldD_takeF (i := 12) (v := .bool true) rfl rfl rfl (by kernel_rfl) (by kernel_rfl) (by kernel_rfl) (by kernel_rfl) (fun _ _ _ h => h) (by rfl) (fun w => ⟨by rfl, by go_simp⟩) (fun _ => HSSa.out _ HBa.out) ?_
          simp only [List.setIfInBounds_toArray, List.set_cons_zero, List.set_cons_succ]
          refine heldD_takeF (i := 13) (v := .int .i64 wa) rfl rfl rfl (by kernel_rfl) (by kernel_rfl) (by kernel_rfl) (by kernel_rfl) (fun _ _ _ h => h) (by rfl) (fun w => ⟨by rfl, by go_simp⟩) (fun _ => HSSa.out _ HBa.out) ?_
          simp only [List.setIfInBounds_toArray, List.set_cons_zero, List.set_cons_succ]
          have q := ga_9 _ HBa (Lib.hid hf)
          rw [HH.out, HT.out] at q
          simp only [List.setIfInBounds_toArray, List.set_cons_zero, List.set_cons_succ] at q ⊢
          exact q
        exact ga_ wka HBa
      clear HBa
      intro ua HBa HEa
      rw [HH.out, HT.out]
      simp only [List.setIfInBounds_toArray, List.set_cons_zero, List.set_cons_succ]
      clear HH HT
      refine heldD_one (i := 14) (by kernel_rfl) ?_
      refine wpOpIn_value (v := .bool true) (w' := ua) rfl rfl rfl (by rfl) (by rfl) (by go_simp) ?_
      refine ⟨fun h => (by cases h), ?_⟩
      simp only [List.setIfInBounds_toArray, List.set_cons_zero, List.set_cons_succ]
      refine heldD_done (by kernel_rfl) ?_ _
      clear hkc
      have hcut := HCu.out
      go_upto_region 15 with fail
      refine wp_region_heldD (fun w' => w'.cell? ⟨bl, ol + k, none⟩ = some (.int .i64 lk)) 14 rfl ?_
      change heldD _ _ _ _ _ _ _ 15 _ _ ua.drew
      obtain ⟨wkb, hu0b⟩ : ∃ ub, ub = ua.drew := ⟨_, rfl⟩
      have HBb := Lib.hid (show Below u1.heap.size u1 wkb by rw [hu0b]; exact (HBa.out).drew)
      rw [← hu0b]
      clear hu0b
      refine heldD_takeF (i := 0) (v := .pointer (some ⟨q, 0, none⟩)) rfl rfl rfl (by kernel_rfl) (by kernel_rfl) (by kernel_rfl) (by kernel_rfl) (fun _ _ _ h => h) (by rfl) (fun w => ⟨by rfl, by go_simp⟩) (fun _ => HSSb.out _ HBb.out) ?_
      simp only [List.setIfInBounds_toArray, List.set_cons_zero, List.set_cons_succ]
      refine heldD_takeF (i := 1) (v := .slice (some ⟨bl, ol, none⟩) (l.length + 1) cp1) rfl rfl rfl (by kernel_rfl) (by kernel_rfl) (by kernel_rfl) (by kernel_rfl) (fun _ _ _ h => h) (by rfl) (fun w => ⟨by rfl, by go_simp⟩) (fun _ => HSSb.out _ HBb.out) ?_
      simp only [List.setIfInBounds_toArray, List.set_cons_zero, List.set_cons_succ]
      refine heldD_takeF (i := 2) (v := .int .i64 (k : Nat)) rfl rfl rfl (by kernel_rfl) (by kernel_rfl) (by kernel_rfl) (by kernel_rfl) (fun _ _ _ h => h) (by rfl) (fun w => ⟨by rfl, by go_simp⟩) (fun _ => HSSb.out _ HBb.out) ?_
      simp only [List.setIfInBounds_toArray, List.set_cons_zero, List.set_cons_succ]
      refine heldD_takeF (i := 3) (v := .pointer (some ⟨bl, ol + k, none⟩)) rfl rfl rfl (by kernel_rfl) (by kernel_rfl) (by kernel_rfl) (by kernel_rfl) (fun _ _ _ h => h) (by rfl) (fun w => ⟨by rfl, by go_simp⟩) (fun _ => HSSb.out _ HBb.out) ?_
      simp only [List.setIfInBounds_toArray, List.set_cons_zero, List.set_cons_succ]
      refine heldD_take (i := 4) (v := .int .i64 lk) rfl rfl rfl (by kernel_rfl) (by kernel_rfl) (by kernel_rfl) (by kernel_rfl) (by kernel_rfl) (by kernel_rfl) (fun _ _ _ h => h) (by rfl) (fun w hS => ⟨by rfl, by obtain hS1 := hS; go_simp⟩) (HSSb.out _ HBb.out) ?_
      simp only [List.setIfInBounds_toArray, List.set_cons_zero, List.set_cons_succ]
      refine heldD_takeF (i := 5) (v := .int .i64 cur) rfl rfl rfl (by kernel_rfl) (by kernel_rfl) (by kernel_rfl) (by kernel_rfl) (fun _ _ _ h => h) (by rfl) (fun w => ⟨by rfl, by go_simp⟩) (fun _ => HSSb.out _ HBb.out) ?_
      simp only [List.setIfInBounds_toArray, List.set_cons_zero, List.set_cons_succ]
      refine heldD_takeF (i := 6) (v := .slice ra M.length rc) rfl rfl rfl (by kernel_rfl) (by kernel_rfl) (by kernel_rfl) (by kernel_rfl) (fun _ _ _ h => h) (by rfl) (fun w => ⟨by rfl, by go_simp⟩) (fun _ => HSSb.out _ HBb.out) ?_
      simp only [List.setIfInBounds_toArray, List.set_cons_zero, List.set_cons_succ]
      refine heldD_takeF (i := 7) (v := .int .i64 (k : Nat)) rfl rfl rfl (by kernel_rfl) (by kernel_rfl) (by kernel_rfl) (by kernel_rfl) (fun _ _ _ h => h) (by rfl) (fun w => ⟨by rfl, by go_simp⟩) (fun _ => HSSb.out _ HBb.out) ?_
      simp only [List.setIfInBounds_toArray, List.set_cons_zero, List.set_cons_succ]
      refine heldD_takeF (i := 8) (v := .slice a2 (M.length - k) c2) rfl rfl rfl (by kernel_rfl) (by kernel_rfl) (by kernel_rfl) (by kernel_rfl) (fun _ _ _ h => h) (by rfl) (fun w => ⟨by rfl, by go_simp⟩) (fun _ => HSSb.out _ HBb.out) ?_
      simp only [List.setIfInBounds_toArray, List.set_cons_zero, List.set_cons_succ]
      refine heldD_HT ?_
      intro H hH T hT
      have HH := Lib.hid hH; have HT := Lib.hid hT
      clear hH hT
      suffices gb_9 : ∀ (ub : World), Hid (Below u1.heap.size u1 ub) → Hid True → H 1 #[true, true, true, true, true, true, true, true, true, true, true, true, true, true, false] { tmps := (((((T.setIfInBounds 96 (.tuple #[.int .i64 wb, .bool true])).setIfInBounds 86 (.tuple #[.int .i64 wb, .bool true])).setIfInBounds 97 (.int .i64 wb)).setIfInBounds 98 (.bool true)).setIfInBounds 15 (.int .i64 wb)), defers := [] } ub from by
        have gb_ : ∀ (ub : World), Hid (Below u1.heap.size u1 ub) → H 6 #[true, true, true, true, true, true, true, true, true, false, false, false, false, false, false] { tmps := T, defers := [] } ub := by
          clear HBb
          intro ub HBb
          rw [HH.out, HT.out]
          refine heldD_one (i := 9) (by kernel_rfl) ?_
          refine wpOpIn_calls' (f := 21) (args := #[.pointer (some ⟨q, 0, none⟩), .int .i64 lk, .int .i64 cur, .slice a2 (M.length - k) c2]) rfl rfl (by rfl) (by go_simp) (HCb.out ub HBb.out) ?_
          rintro e u2 ⟨rfl, hb⟩
          refine ⟨_, rfl, ?_⟩
          have hf : True := trivial
          have HB0b := HBb
          have HBb : Hid (Below u1.heap.size u1 u2) := Lib.hid (HB0b.out.trans (hb.mono HB0b.out.size))
          refine ⟨fun _ => HSSb.out _ HBb.out, ?_⟩
          simp only [List.setIfInBounds_toArray, List.set_cons_zero, List.set_cons_succ]
          refine heldD_takeF (i := 10) (v := .tuple #[.int .i64 wb, .bool true]) rfl rfl rfl (by kernel_rfl) (by kernel_rfl) (by kernel_rfl) (by kernel_rfl) (fun _ _ _ h => h) (by rfl) (fun w => ⟨by rfl, by go_simp⟩) (fun _ => HSSb.out _ HBb.out) ?_
          simp only [List.setIfInBounds_toArray, List.set_cons_zero, List.set_cons_succ]
          refine heldD_takeF (i := 11) (v := .int .i64 wb) rfl rfl rfl (by kernel_rfl) (by kernel_rfl) (by kernel_rfl) (by kernel_rfl) (fun _ _ _ h => h) (by rfl) (fun w => ⟨by rfl, by go_simp⟩) (fun _ => HSSb.out _ HBb.out) ?_
          simp only [List.setIfInBounds_toArray, List.set_cons_zero, List.set_cons_succ]
          refine heldD_takeF (i := 12) (v := .bool true) rfl rfl rfl (by kernel_rfl) (by kernel_rfl) (by kernel_rfl) (by kernel_rfl) (fun _ _ _ h => h) (by rfl) (fun w => ⟨by rfl, by go_simp⟩) (fun _ => HSSb.out _ HBb.out) ?_
          simp only [List.setIfInBounds_toArray, List.set_cons_zero, List.set_cons_succ]
          refine heldD_takeF (i := 13) (v := .int .i64 wb) rfl rfl rfl (by kernel_rfl) (by kernel_rfl) (by kernel_rfl) (by kernel_rfl) (fun _ _ _ h => h) (by rfl) (fun w => ⟨by rfl, by go_simp⟩) (fun _ => HSSb.out _ HBb.out) ?_
          simp only [List.setIfInBounds_toArray, List.set_cons_zero, List.set_cons_succ]
          have q := gb_9 _ HBb (Lib.hid hf)
          rw [HH.out, HT.out] at q
          simp only [List.setIfInBounds_toArray, List.set_cons_zero, List.set_cons_succ] at q ⊢
          exact q
        exact gb_ wkb HBb
      clear HBb
      intro ub HBb HEb
      rw [HH.out, HT.out]
      simp only [List.setIfInBounds_toArray, List.set_cons_zero, List.set_cons_succ]
      clear HH HT
      refine heldD_one (i := 14) (by kernel_rfl) ?_
      refine wpOpIn_value (v := .bool true) (w' := ub) rfl rfl rfl (by rfl) (by rfl) (by go_simp) ?_
      refine ⟨fun h => (by cases h), ?_⟩
      simp only [List.setIfInBounds_toArray, List.set_cons_zero, List.set_cons_succ]
      refine heldD_done (by kernel_rfl) ?_ _
      go_upto_region 16 with fail
      refine wp_region_heldD (fun w' => w'.cell? ⟨bl, ol + k, none⟩ = some (.int .i64 lk)) 13 rfl ?_
      change heldD _ _ _ _ _ _ _ 14 _ _ ub.drew
      obtain ⟨wkc, hu0c⟩ : ∃ uc, uc = ub.drew := ⟨_, rfl⟩
      have HBc := Lib.hid (show Below u1.heap.size u1 wkc by rw [hu0c]; exact (HBb.out).drew)
      rw [← hu0c]
      clear hu0c
      refine heldD_takeF (i := 0) (v := .pointer (some ⟨q, 0, none⟩)) rfl rfl rfl (by kernel_rfl) (by kernel_rfl) (by kernel_rfl) (by kernel_rfl) (fun _ _ _ h => h) (by rfl) (fun w => ⟨by rfl, by go_simp⟩) (fun _ => HSSc.out _ HBc.out) ?_
      simp only [List.setIfInBounds_toArray, List.set_cons_zero, List.set_cons_succ]
      refine heldD_takeF (i := 1) (v := .slice (some ⟨bl, ol, none⟩) (l.length + 1) cp1) rfl rfl rfl (by kernel_rfl) (by kernel_rfl) (by kernel_rfl) (by kernel_rfl) (fun _ _ _ h => h) (by rfl) (fun w => ⟨by rfl, by go_simp⟩) (fun _ => HSSc.out _ HBc.out) ?_
      simp only [List.setIfInBounds_toArray, List.set_cons_zero, List.set_cons_succ]
      refine heldD_takeF (i := 2) (v := .int .i64 (k : Nat)) rfl rfl rfl (by kernel_rfl) (by kernel_rfl) (by kernel_rfl) (by kernel_rfl) (fun _ _ _ h => h) (by rfl) (fun w => ⟨by rfl, by go_simp⟩) (fun _ => HSSc.out _ HBc.out) ?_
      simp only [List.setIfInBounds_toArray, List.set_cons_zero, List.set_cons_succ]
      refine heldD_takeF (i := 3) (v := .pointer (some ⟨bl, ol + k, none⟩)) rfl rfl rfl (by kernel_rfl) (by kernel_rfl) (by kernel_rfl) (by kernel_rfl) (fun _ _ _ h => h) (by rfl) (fun w => ⟨by rfl, by go_simp⟩) (fun _ => HSSc.out _ HBc.out) ?_
      simp only [List.setIfInBounds_toArray, List.set_cons_zero, List.set_cons_succ]
      refine heldD_take (i := 4) (v := .int .i64 lk) rfl rfl rfl (by kernel_rfl) (by kernel_rfl) (by kernel_rfl) (by kernel_rfl) (by kernel_rfl) (by kernel_rfl) (fun _ _ _ h => h) (by rfl) (fun w hS => ⟨by rfl, by obtain hS1 := hS; go_simp⟩) (HSSc.out _ HBc.out) ?_
      simp only [List.setIfInBounds_toArray, List.set_cons_zero, List.set_cons_succ]
      refine heldD_takeF (i := 5) (v := .slice ra M.length rc) rfl rfl rfl (by kernel_rfl) (by kernel_rfl) (by kernel_rfl) (by kernel_rfl) (fun _ _ _ h => h) (by rfl) (fun w => ⟨by rfl, by go_simp⟩) (fun _ => HSSc.out _ HBc.out) ?_
      simp only [List.setIfInBounds_toArray, List.set_cons_zero, List.set_cons_succ]
      refine heldD_takeF (i := 6) (v := .int .i64 (k : Nat)) rfl rfl rfl (by kernel_rfl) (by kernel_rfl) (by kernel_rfl) (by kernel_rfl) (fun _ _ _ h => h) (by rfl) (fun w => ⟨by rfl, by go_simp⟩) (fun _ => HSSc.out _ HBc.out) ?_
      simp only [List.setIfInBounds_toArray, List.set_cons_zero, List.set_cons_succ]
      refine heldD_takeF (i := 7) (v := .slice a2 (M.length - k) c2) rfl rfl rfl (by kernel_rfl) (by kernel_rfl) (by kernel_rfl) (by kernel_rfl) (fun _ _ _ h => h) (by rfl) (fun w => ⟨by rfl, by go_simp⟩) (fun _ => HSSc.out _ HBc.out) ?_
      simp only [List.setIfInBounds_toArray, List.set_cons_zero, List.set_cons_succ]
      refine heldD_HT ?_
      intro H hH T hT
      have HH := Lib.hid hH; have HT := Lib.hid hT
      clear hH hT
      suffices gc_8 : ∀ (uc : World) (am : Option Addr) (nm : Nat) (cm : Nat), Hid (Below u1.heap.size u1 uc) → Hid (SlX uc (.slice am nm cm) (lk :: l.drop k)) → H 1 #[true, true, true, true, true, true, true, true, true, true, true, true, true, false] { tmps := (((((T.setIfInBounds 108 (.tuple #[.slice am nm cm, .bool true])).setIfInBounds 99 (.tuple #[.slice am nm cm, .bool true])).setIfInBounds 109 (.slice am nm cm)).setIfInBounds 110 (.bool true)).setIfInBounds 17 (.slice am nm cm)), defers := [] } uc from by
        have gc_ : ∀ (uc : World), Hid (Below u1.heap.size u1 uc) → H 6 #[true, true, true, true, true, true, true, true, false, false, false, false, false, false] { tmps := T, defers := [] } uc := by
          clear HBc
          intro uc HBc
          rw [HH.out, HT.out]
          refine heldD_one (i := 8) (by kernel_rfl) ?_
          refine wpOpIn_calls' (f := 23) (args := #[.pointer (some ⟨q, 0, none⟩), .int .i64 lk, .slice a2 (M.length - k) c2]) rfl rfl (by rfl) (by go_simp) (HCc.out uc HBc.out) ?_
          rintro e u2 ⟨am, nm, cm, rfl, hsm, hb⟩
          refine ⟨_, rfl, ?_⟩
          have hf : (SlX u2 (.slice am nm cm) (lk :: l.drop k)) := hsm
          have HB0c := HBc
          have HBc : Hid (Below u1.heap.size u1 u2) := Lib.hid (HB0c.out.trans (hb.mono HB0c.out.size))
          refine ⟨fun _ => HSSc.out _ HBc.out, ?_⟩
          simp only [List.setIfInBounds_toArray, List.set_cons_zero, List.set_cons_succ]
          refine heldD_takeF (i := 9) (v := .tuple #[.slice am nm cm, .bool true]) rfl rfl rfl (by kernel_rfl) (by kernel_rfl) (by kernel_rfl) (by kernel_rfl) (fun _ _ _ h => h) (by rfl) (fun w => ⟨by rfl, by go_simp⟩) (fun _ => HSSc.out _ HBc.out) ?_
          simp only [List.setIfInBounds_toArray, List.set_cons_zero, List.set_cons_succ]
          refine heldD_takeF (i := 10) (v := .slice am nm cm) rfl rfl rfl (by kernel_rfl) (by kernel_rfl) (by kernel_rfl) (by kernel_rfl) (fun _ _ _ h => h) (by rfl) (fun w => ⟨by rfl, by go_simp⟩) (fun _ => HSSc.out _ HBc.out) ?_
          simp only [List.setIfInBounds_toArray, List.set_cons_zero, List.set_cons_succ]
          refine heldD_takeF (i := 11) (v := .bool true) rfl rfl rfl (by kernel_rfl) (by kernel_rfl) (by kernel_rfl) (by kernel_rfl) (fun _ _ _ h => h) (by rfl) (fun w => ⟨by rfl, by go_simp⟩) (fun _ => HSSc.out _ HBc.out) ?_
          simp only [List.setIfInBounds_toArray, List.set_cons_zero, List.set_cons_succ]
          refine heldD_takeF (i := 12) (v := .slice am nm cm) rfl rfl rfl (by kernel_rfl) (by kernel_rfl) (by kernel_rfl) (by kernel_rfl) (fun _ _ _ h => h) (by rfl) (fun w => ⟨by rfl, by go_simp⟩) (fun _ => HSSc.out _ HBc.out) ?_
          simp only [List.setIfInBounds_toArray, List.set_cons_zero, List.set_cons_succ]
          have q := gc_8 _ am nm cm HBc (Lib.hid hf)
          rw [HH.out, HT.out] at q
          simp only [List.setIfInBounds_toArray, List.set_cons_zero, List.set_cons_succ] at q ⊢
          exact q
        exact gc_ wkc HBc
      clear HBc
      intro uc am nm cm HBc HEc
      rw [HH.out, HT.out]
      simp only [List.setIfInBounds_toArray, List.set_cons_zero, List.set_cons_succ]
      clear HH HT
      refine heldD_one (i := 13) (by kernel_rfl) ?_
      refine wpOpIn_value (v := .bool true) (w' := uc) rfl rfl rfl (by rfl) (by rfl) (by go_simp) ?_
      refine ⟨fun h => (by cases h), ?_⟩
      simp only [List.setIfInBounds_toArray, List.set_cons_zero, List.set_cons_succ]
      refine heldD_done (by kernel_rfl) ?_ _
      clear hcut
      have hcut := HCu3.out
      have HI2 := Lib.hid (ints_any (.slice am nm cm) (.slice a3 (l.length + 1 - k) c3) (lk :: l.drop k) ((s :: l).drop k) uc HEc.out (HCt3.out uc (HS1.out.keep (KpC.of_below HBc.out))))
      rw [show decide ((lk :: l.drop k) = (s :: l).drop k) = true from by rw [HLk.out]; exact decide_eq_true (drop_cons s l k (by have := HLM.out; omega)).symm] at HI2
      have hab : wrap64 (wa + wb) = wm := by
        have := HAB.out
        rw [this.1]
        unfold wrap64
        omega
      clear HSSa HSSb HSSc HCa HCb HCc HLk HEc HEa HEb HCt HCt3 HCu HCu3 HAB
      go_wp2_with fail
      refine HI2.out.mono ?_
      rintro e u4 ⟨rfl, hb⟩
      have HNew := Lib.hid (show k + 1 ≤ M.length + 1 ∧ Below u1.heap.size u1 u4 from ⟨by omega, HBc.out.next' hb⟩)
      clear hb
      go_wp2_with fail
      go_roundw
      case rel => exact ⟨k + 1, by go_num, HNew⟩
      case measure => simp [intOf]; omega
    · have hkI : ¬ (k : Int) ≤ (M.length : Int) := by omega
      go_wp2_with fail
      go_ret
      exact ⟨rfl, HBu1.out.next' HI.out.2⟩
end Go.Proofs.YtlddcnkiigamjaaDoor
/- WalkJoins: its argument read. -/
namespace Go.Proofs.YtlddcnkiigamjaaDoor
open Go.RowKit
theorem walkJoins_rd (cs : Array Value) (W : World) (R0 : Rd Tryd.prog W 44 cs.toList) (hg : HG W) : Calls Tryd.prog 7 #[.agg cs] W fun e w' => e = .returned (.bool true) ∧ Below W.heap.size W w' := by
  obtain ⟨vb, vw, lb, lw, x0, x1, rfl, hb, hw, h0, h1, hlw⟩ := Rd.drawn09 R0
  exact walkJoins_any vb vw lb lw x0 x1 W hb hw h0 hlw hg
end Go.Proofs.YtlddcnkiigamjaaDoor
