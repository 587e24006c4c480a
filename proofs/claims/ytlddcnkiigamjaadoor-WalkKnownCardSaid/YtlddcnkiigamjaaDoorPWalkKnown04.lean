/- Texts of the law WalkKnown, merged: WalkKnown. -/
import Derived.Test.YtlddcnkiigamjaaDoorPWalkKnown03
/- WalkKnown, its walk. -/
namespace Go.Proofs.YtlddcnkiigamjaaDoor
open Go.RowKit Go.Shelf
attribute [local go_sem] Oper.semAt_some
def rKnown : Raw := ⟨2, [0, 0], [0, 0], [(0, 0, 2147483647), (0, 1, 2147483647)]⟩
theorem rKnown_ok : rKnown.Ok := by
  refine ⟨⟨by decide, by decide⟩, rfl, rfl, fun x hx => ?_, fun x hx => ?_, by decide, fun a ha => ?_⟩
  · simp [rKnown] at hx; subst hx; unfold coordOk; omega
  · simp [rKnown] at hx; subst hx; unfold coordOk; omega
  · simp [rKnown] at ha; rcases ha with rfl | rfl <;> (unfold arcOk; decide)
set_option maxRecDepth 100000 in
set_option maxHeartbeats 8000000 in
theorem walkKnown_any (w : World) (hg : HG w) : Calls Tryd.prog 8 #[] w fun e w' => e = .returned (.bool true) ∧ Below w.heap.size w w' := by
  have HG0 := Lib.hid hg
  clear hg
  go_enter Tryd.func8, Tryd.ntmps8
  go_wp2_with fail
  have hmk : ∀ u : World, (Instr.makeSlice 22 (.int .i64 2) (.int .i64 2)).run Tryd.prog u = .ok (.slice (some ⟨u.heap.size, 0, none⟩) 2 2) (u.alloc (.cells #[.int .i64 0, .int .i64 0] 2)) := fun u => by kernel_rfl
  have HSS := Lib.hid (show ∀ u, Below w.heap.size w u → True from fun _ _ => trivial)
  refine wp_region_heldD (fun w' => True) 11 rfl ?_
  change heldD _ _ _ _ _ _ _ 12 _ _ w.drew
  obtain ⟨wk0, hu0⟩ : ∃ u, u = w.drew := ⟨_, rfl⟩
  have HBu := Lib.hid (show Below w.heap.size w wk0 by rw [hu0]; exact (Below.refl _ _).drew)
  rw [← hu0]
  clear hu0
  refine heldD_takeF (i := 2) (v := .agg #[.int .i64 0, .int .i64 0, .int .i64 2147483647]) rfl rfl rfl (by kernel_rfl) (by kernel_rfl) (by kernel_rfl) (by kernel_rfl) (fun _ _ _ h => h) (by rfl) (fun w => ⟨by rfl, by go_simp⟩) (fun _ => HSS.out _ HBu.out) ?_
  simp only [List.setIfInBounds_toArray, List.set_cons_zero, List.set_cons_succ]
  refine heldD_takeF (i := 3) (v := .agg #[.int .i64 0, .int .i64 1, .int .i64 2147483647]) rfl rfl rfl (by kernel_rfl) (by kernel_rfl) (by kernel_rfl) (by kernel_rfl) (fun _ _ _ h => h) (by rfl) (fun w => ⟨by rfl, by go_simp⟩) (fun _ => HSS.out _ HBu.out) ?_
  simp only [List.setIfInBounds_toArray, List.set_cons_zero, List.set_cons_succ]
  refine heldD_HT ?_
  intro H hH T hT
  have HH := Lib.hid hH; have HT := Lib.hid hT
  clear hH hT
  suffices nw_0_1_4_6 : ∀ (u : World) (bx : Nat) (by_ : Nat) (bz : Nat) (p : Nat), Hid (Below w.heap.size w u) → Hid (Blk u bx #[.int .i64 0, .int .i64 0] 2 (0, 0)) → Hid (Blk u by_ #[.int .i64 0, .int .i64 0] 2 (0, 0)) → Hid (Blk u bz #[.int .i64 0, .int .i64 0, .int .i64 2147483647, .int .i64 0, .int .i64 1, .int .i64 2147483647] 58 (0, 0)) → Hid (NetAt u p rKnown) → H 1 #[true, true, true, true, true, true, true, true, true, true, true, false] { tmps := (((((((((T.setIfInBounds 20 (.slice (some ⟨bx, 0, none⟩) 2 2)).setIfInBounds 21 (.slice (some ⟨by_, 0, none⟩) 2 2)).setIfInBounds 24 (.slice (some ⟨bz, 0, none⟩) 2 2)).setIfInBounds 25 (.agg #[.int .i64 2, .slice (some ⟨bx, 0, none⟩) 2 2, .slice (some ⟨by_, 0, none⟩) 2 2, .slice (some ⟨bz, 0, none⟩) 2 2])).setIfInBounds 26 (.tuple #[.pointer (some ⟨p, 0, none⟩), .nilIface])).setIfInBounds 19 (.tuple #[.pointer (some ⟨p, 0, none⟩), .nilIface])).setIfInBounds 27 (.pointer (some ⟨p, 0, none⟩))).setIfInBounds 28 (.nilIface)).setIfInBounds 1 (.pointer (some ⟨p, 0, none⟩))), defers := [] } u from by
    have nw_0_1_4 : ∀ (u : World) (bx : Nat) (by_ : Nat) (bz : Nat), Hid (Below w.heap.size w u) → Hid (Blk u bx #[.int .i64 0, .int .i64 0] 2 (0, 0)) → Hid (Blk u by_ #[.int .i64 0, .int .i64 0] 2 (0, 0)) → Hid (Blk u bz #[.int .i64 0, .int .i64 0, .int .i64 2147483647, .int .i64 0, .int .i64 1, .int .i64 2147483647] 58 (0, 0)) → H 6 #[true, true, true, true, true, true, false, false, false, false, false, false] { tmps := ((((T.setIfInBounds 20 (.slice (some ⟨bx, 0, none⟩) 2 2)).setIfInBounds 21 (.slice (some ⟨by_, 0, none⟩) 2 2)).setIfInBounds 24 (.slice (some ⟨bz, 0, none⟩) 2 2)).setIfInBounds 25 (.agg #[.int .i64 2, .slice (some ⟨bx, 0, none⟩) 2 2, .slice (some ⟨by_, 0, none⟩) 2 2, .slice (some ⟨bz, 0, none⟩) 2 2])), defers := [] } u := by
      clear HBu
      intro u bx by_ bz HBu HF0 HF1 HF4
      rw [HH.out, HT.out]
      simp only [List.setIfInBounds_toArray, List.set_cons_zero, List.set_cons_succ]
      refine heldD_one (i := 6) (by kernel_rfl) ?_
      refine wpOpIn_calls' (f := 12) (args := #[.agg #[.int .i64 2, .slice (some ⟨bx, 0, none⟩) 2 2, .slice (some ⟨by_, 0, none⟩) 2 2, .slice (some ⟨bz, 0, none⟩) 2 2]]) rfl rfl (by rfl) (by go_simp) (new_ok _ rKnown u (HG0.out.later HBu.out) ⟨_, _, _, rfl, slX_new HF0.out rfl rfl (by decide), slX_new HF1.out rfl rfl (by decide), slA_new HF4.out rfl rfl (by decide)⟩ rKnown_ok (by unfold Raw.few; decide)) ?_
      rintro e u2 ⟨p, rfl, hn, hb⟩
      refine ⟨_, rfl, ?_⟩
      have hf : (NetAt u2 p rKnown) := hn
      have HBu0 := HBu
      have HBu : Hid (Below w.heap.size w u2) := Lib.hid (HBu0.out.trans (hb.mono HBu0.out.size))
      refine ⟨fun _ => HSS.out _ HBu.out, ?_⟩
      simp only [List.setIfInBounds_toArray, List.set_cons_zero, List.set_cons_succ]
      refine heldD_takeF (i := 7) (v := .tuple #[.pointer (some ⟨p, 0, none⟩), .nilIface]) rfl rfl rfl (by kernel_rfl) (by kernel_rfl) (by kernel_rfl) (by kernel_rfl) (fun _ _ _ h => h) (by rfl) (fun w => ⟨by rfl, by go_simp⟩) (fun _ => HSS.out _ HBu.out) ?_
      simp only [List.setIfInBounds_toArray, List.set_cons_zero, List.set_cons_succ]
      refine heldD_takeF (i := 8) (v := .pointer (some ⟨p, 0, none⟩)) rfl rfl rfl (by kernel_rfl) (by kernel_rfl) (by kernel_rfl) (by kernel_rfl) (fun _ _ _ h => h) (by rfl) (fun w => ⟨by rfl, by go_simp⟩) (fun _ => HSS.out _ HBu.out) ?_
      simp only [List.setIfInBounds_toArray, List.set_cons_zero, List.set_cons_succ]
      refine heldD_takeF (i := 9) (v := .nilIface) rfl rfl rfl (by kernel_rfl) (by kernel_rfl) (by kernel_rfl) (by kernel_rfl) (fun _ _ _ h => h) (by rfl) (fun w => ⟨by rfl, by go_simp⟩) (fun _ => HSS.out _ HBu.out) ?_
      simp only [List.setIfInBounds_toArray, List.set_cons_zero, List.set_cons_succ]
      refine heldD_takeF (i := 10) (v := .pointer (some ⟨p, 0, none⟩)) rfl rfl rfl (by kernel_rfl) (by kernel_rfl) (by kernel_rfl) (by kernel_rfl) (fun _ _ _ h => h) (by rfl) (fun w => ⟨by rfl, by go_simp⟩) (fun _ => HSS.out _ HBu.out) ?_
      simp only [List.setIfInBounds_toArray, List.set_cons_zero, List.set_cons_succ]
      have q := nw_0_1_4_6 _ bx by_ bz p HBu (Lib.hid (HF0.out.below hb HF0.out.lt)) (Lib.hid (HF1.out.below hb HF1.out.lt)) (Lib.hid (HF4.out.below hb HF4.out.lt)) (Lib.hid hf)
      rw [HH.out, HT.out] at q
      simp only [List.setIfInBounds_toArray, List.set_cons_zero, List.set_cons_succ] at q ⊢
      exact q
    have nw_1_4 : ∀ (u : World) (by_ : Nat) (bz : Nat), Hid (Below w.heap.size w u) → Hid (Blk u by_ #[.int .i64 0, .int .i64 0] 2 (0, 0)) → Hid (Blk u bz #[.int .i64 0, .int .i64 0, .int .i64 2147483647, .int .i64 0, .int .i64 1, .int .i64 2147483647] 58 (0, 0)) → H 8 #[false, true, true, true, true, false, false, false, false, false, false, false] { tmps := ((T.setIfInBounds 21 (.slice (some ⟨by_, 0, none⟩) 2 2)).setIfInBounds 24 (.slice (some ⟨bz, 0, none⟩) 2 2)), defers := [] } u := by
      clear HBu
      intro u by_ bz HBu HF1 HF4
      rw [HH.out, HT.out]
      simp only [List.setIfInBounds_toArray, List.set_cons_zero, List.set_cons_succ]
      refine heldD_one (i := 0) (by kernel_rfl) ?_
      have hb : Below u.heap.size u (u.alloc (.cells #[.int .i64 0, .int .i64 0] 2)) := (Below.refl _ _).alloc (Nat.le_refl _) _
      have hf : Blk (u.alloc (.cells #[.int .i64 0, .int .i64 0] 2)) u.heap.size #[.int .i64 0, .int .i64 0] 2 (0, 0) := Blk.new _ _ _ _
      refine wpOpIn_value (v := .slice (some ⟨u.heap.size, 0, none⟩) 2 2) (w' := (u.alloc (.cells #[.int .i64 0, .int .i64 0] 2))) rfl rfl rfl (by rfl) (by rfl) (by go_simp) ?_
      have HBu0 := HBu
      have HBu : Hid (Below w.heap.size w (u.alloc (.cells #[.int .i64 0, .int .i64 0] 2))) := Lib.hid (HBu0.out.trans (hb.mono HBu0.out.size))
      refine ⟨fun _ => HSS.out _ HBu.out, ?_⟩
      simp only [List.setIfInBounds_toArray, List.set_cons_zero, List.set_cons_succ]
      refine heldD_takeF (i := 5) (v := .agg #[.int .i64 2, .slice (some ⟨u.heap.size, 0, none⟩) 2 2, .slice (some ⟨by_, 0, none⟩) 2 2, .slice (some ⟨bz, 0, none⟩) 2 2]) rfl rfl rfl (by kernel_rfl) (by kernel_rfl) (by kernel_rfl) (by kernel_rfl) (fun _ _ _ h => h) (by rfl) (fun w => ⟨by rfl, by go_simp⟩) (fun _ => HSS.out _ HBu.out) ?_
      simp only [List.setIfInBounds_toArray, List.set_cons_zero, List.set_cons_succ]
      have q := nw_0_1_4 _ u.heap.size by_ bz HBu (Lib.hid hf) (Lib.hid (HF1.out.below hb HF1.out.lt)) (Lib.hid (HF4.out.below hb HF4.out.lt))
      rw [HH.out, HT.out] at q
      simp only [List.setIfInBounds_toArray, List.set_cons_zero, List.set_cons_succ] at q ⊢
      exact q
    have nw_0_4 : ∀ (u : World) (bx : Nat) (bz : Nat), Hid (Below w.heap.size w u) → Hid (Blk u bx #[.int .i64 0, .int .i64 0] 2 (0, 0)) → Hid (Blk u bz #[.int .i64 0, .int .i64 0, .int .i64 2147483647, .int .i64 0, .int .i64 1, .int .i64 2147483647] 58 (0, 0)) → H 8 #[true, false, true, true, true, false, false, false, false, false, false, false] { tmps := ((T.setIfInBounds 20 (.slice (some ⟨bx, 0, none⟩) 2 2)).setIfInBounds 24 (.slice (some ⟨bz, 0, none⟩) 2 2)), defers := [] } u := by
      clear HBu
      intro u bx bz HBu HF0 HF4
      rw [HH.out, HT.out]
      simp only [List.setIfInBounds_toArray, List.set_cons_zero, List.set_cons_succ]
      refine heldD_one (i := 1) (by kernel_rfl) ?_
      have hb : Below u.heap.size u (u.alloc (.cells #[.int .i64 0, .int .i64 0] 2)) := (Below.refl _ _).alloc (Nat.le_refl _) _
      have hf : Blk (u.alloc (.cells #[.int .i64 0, .int .i64 0] 2)) u.heap.size #[.int .i64 0, .int .i64 0] 2 (0, 0) := Blk.new _ _ _ _
      refine wpOpIn_value (v := .slice (some ⟨u.heap.size, 0, none⟩) 2 2) (w' := (u.alloc (.cells #[.int .i64 0, .int .i64 0] 2))) rfl rfl rfl (by rfl) (by rfl) (by go_simp) ?_
      have HBu0 := HBu
      have HBu : Hid (Below w.heap.size w (u.alloc (.cells #[.int .i64 0, .int .i64 0] 2))) := Lib.hid (HBu0.out.trans (hb.mono HBu0.out.size))
      refine ⟨fun _ => HSS.out _ HBu.out, ?_⟩
      simp only [List.setIfInBounds_toArray, List.set_cons_zero, List.set_cons_succ]
      refine heldD_takeF (i := 5) (v := .agg #[.int .i64 2, .slice (some ⟨bx, 0, none⟩) 2 2, .slice (some ⟨u.heap.size, 0, none⟩) 2 2, .slice (some ⟨bz, 0, none⟩) 2 2]) rfl rfl rfl (by kernel_rfl) (by kernel_rfl) (by kernel_rfl) (by kernel_rfl) (fun _ _ _ h => h) (by rfl) (fun w => ⟨by rfl, by go_simp⟩) (fun _ => HSS.out _ HBu.out) ?_
      simp only [List.setIfInBounds_toArray, List.set_cons_zero, List.set_cons_succ]
      have q := nw_0_1_4 _ bx u.heap.size bz HBu (Lib.hid (HF0.out.below hb HF0.out.lt)) (Lib.hid hf) (Lib.hid (HF4.out.below hb HF4.out.lt))
      rw [HH.out, HT.out] at q
      simp only [List.setIfInBounds_toArray, List.set_cons_zero, List.set_cons_succ] at q ⊢
      exact q
    have nw_0_1 : ∀ (u : World) (bx : Nat) (by_ : Nat), Hid (Below w.heap.size w u) → Hid (Blk u bx #[.int .i64 0, .int .i64 0] 2 (0, 0)) → Hid (Blk u by_ #[.int .i64 0, .int .i64 0] 2 (0, 0)) → H 8 #[true, true, true, true, false, false, false, false, false, false, false, false] { tmps := ((T.setIfInBounds 20 (.slice (some ⟨bx, 0, none⟩) 2 2)).setIfInBounds 21 (.slice (some ⟨by_, 0, none⟩) 2 2)), defers := [] } u := by
      clear HBu
      intro u bx by_ HBu HF0 HF1
      rw [HH.out, HT.out]
      simp only [List.setIfInBounds_toArray, List.set_cons_zero, List.set_cons_succ]
      refine heldD_one (i := 4) (by kernel_rfl) ?_
      have hb : Below u.heap.size u (u.alloc (.cells #[.int .i64 0, .int .i64 0, .int .i64 2147483647, .int .i64 0, .int .i64 1, .int .i64 2147483647] 58)) := (Below.refl _ _).alloc (Nat.le_refl _) _
      have hf : Blk (u.alloc (.cells #[.int .i64 0, .int .i64 0, .int .i64 2147483647, .int .i64 0, .int .i64 1, .int .i64 2147483647] 58)) u.heap.size #[.int .i64 0, .int .i64 0, .int .i64 2147483647, .int .i64 0, .int .i64 1, .int .i64 2147483647] 58 (0, 0) := Blk.new _ _ _ _
      refine wpOpIn_value (v := .slice (some ⟨u.heap.size, 0, none⟩) 2 2) (w' := (u.alloc (.cells #[.int .i64 0, .int .i64 0, .int .i64 2147483647, .int .i64 0, .int .i64 1, .int .i64 2147483647] 58))) rfl rfl rfl (by rfl) (by rfl) (by go_simp) ?_
      have HBu0 := HBu
      have HBu : Hid (Below w.heap.size w (u.alloc (.cells #[.int .i64 0, .int .i64 0, .int .i64 2147483647, .int .i64 0, .int .i64 1, .int .i64 2147483647] 58))) := Lib.hid (HBu0.out.trans (hb.mono HBu0.out.size))
      refine ⟨fun _ => HSS.out _ HBu.out, ?_⟩
      simp only [List.setIfInBounds_toArray, List.set_cons_zero, List.set_cons_succ]
      refine heldD_takeF (i := 5) (v := .agg #[.int .i64 2, .slice (some ⟨bx, 0, none⟩) 2 2, .slice (some ⟨by_, 0, none⟩) 2 2, .slice (some ⟨u.heap.size, 0, none⟩) 2 2]) rfl rfl rfl (by kernel_rfl) (by kernel_rfl) (by kernel_rfl) (by kernel_rfl) (fun _ _ _ h => h) (by rfl) (fun w => ⟨by rfl, by go_simp⟩) (fun _ => HSS.out _ HBu.out) ?_
      simp only [List.setIfInBounds_toArray, List.set_cons_zero, List.set_cons_succ]
      have q := nw_0_1_4 _ bx by_ u.heap.size HBu (Lib.hid (HF0.out.below hb HF0.out.lt)) (Lib.hid (HF1.out.below hb HF1.out.lt)) (Lib.hid hf)
      rw [HH.out, HT.out] at q
      simp only [List.setIfInBounds_toArray, List.set_cons_zero, List.set_cons_succ] at q ⊢
      exact q
    have nw_4 : ∀ (u : World) (bz : Nat), Hid (Below w.heap.size w u) → Hid (Blk u bz #[.int .i64 0, .int .i64 0, .int .i64 2147483647, .int .i64 0, .int .i64 1, .int .i64 2147483647] 58 (0, 0)) → H 9 #[false, false, true, true, true, false, false, false, false, false, false, false] { tmps := (T.setIfInBounds 24 (.slice (some ⟨bz, 0, none⟩) 2 2)), defers := [] } u := by
      clear HBu
      intro u bz HBu HF4
      rw [HH.out, HT.out]
      simp only [List.setIfInBounds_toArray, List.set_cons_zero, List.set_cons_succ]
      refine heldD_two (i := 0) (k := 1) (by kernel_rfl) ?_ ?_
      · have hb : Below u.heap.size u (u.alloc (.cells #[.int .i64 0, .int .i64 0] 2)) := (Below.refl _ _).alloc (Nat.le_refl _) _
        have hf : Blk (u.alloc (.cells #[.int .i64 0, .int .i64 0] 2)) u.heap.size #[.int .i64 0, .int .i64 0] 2 (0, 0) := Blk.new _ _ _ _
        refine wpOpIn_value (v := .slice (some ⟨u.heap.size, 0, none⟩) 2 2) (w' := (u.alloc (.cells #[.int .i64 0, .int .i64 0] 2))) rfl rfl rfl (by rfl) (by rfl) (by go_simp) ?_
        have HBu0 := HBu
        have HBu : Hid (Below w.heap.size w (u.alloc (.cells #[.int .i64 0, .int .i64 0] 2))) := Lib.hid (HBu0.out.trans (hb.mono HBu0.out.size))
        refine ⟨fun _ => HSS.out _ HBu.out, ?_⟩
        simp only [List.setIfInBounds_toArray, List.set_cons_zero, List.set_cons_succ]
        have q := nw_0_4 _ u.heap.size bz HBu (Lib.hid hf) (Lib.hid (HF4.out.below hb HF4.out.lt))
        rw [HH.out, HT.out] at q
        simp only [List.setIfInBounds_toArray, List.set_cons_zero, List.set_cons_succ] at q ⊢
        exact q
      · have hb : Below u.heap.size u (u.alloc (.cells #[.int .i64 0, .int .i64 0] 2)) := (Below.refl _ _).alloc (Nat.le_refl _) _
        have hf : Blk (u.alloc (.cells #[.int .i64 0, .int .i64 0] 2)) u.heap.size #[.int .i64 0, .int .i64 0] 2 (0, 0) := Blk.new _ _ _ _
        refine wpOpIn_value (v := .slice (some ⟨u.heap.size, 0, none⟩) 2 2) (w' := (u.alloc (.cells #[.int .i64 0, .int .i64 0] 2))) rfl rfl rfl (by rfl) (by rfl) (by go_simp) ?_
        have HBu0 := HBu
        have HBu : Hid (Below w.heap.size w (u.alloc (.cells #[.int .i64 0, .int .i64 0] 2))) := Lib.hid (HBu0.out.trans (hb.mono HBu0.out.size))
        refine ⟨fun _ => HSS.out _ HBu.out, ?_⟩
        simp only [List.setIfInBounds_toArray, List.set_cons_zero, List.set_cons_succ]
        have q := nw_1_4 _ u.heap.size bz HBu (Lib.hid hf) (Lib.hid (HF4.out.below hb HF4.out.lt))
        rw [HH.out, HT.out] at q
        simp only [List.setIfInBounds_toArray, List.set_cons_zero, List.set_cons_succ] at q ⊢
        exact q
    have nw_1 : ∀ (u : World) (by_ : Nat), Hid (Below w.heap.size w u) → Hid (Blk u by_ #[.int .i64 0, .int .i64 0] 2 (0, 0)) → H 9 #[false, true, true, true, false, false, false, false, false, false, false, false] { tmps := (T.setIfInBounds 21 (.slice (some ⟨by_, 0, none⟩) 2 2)), defers := [] } u := by
      clear HBu
      intro u by_ HBu HF1
      rw [HH.out, HT.out]
      simp only [List.setIfInBounds_toArray, List.set_cons_zero, List.set_cons_succ]
      refine heldD_two (i := 0) (k := 4) (by kernel_rfl) ?_ ?_
      · have hb : Below u.heap.size u (u.alloc (.cells #[.int .i64 0, .int .i64 0] 2)) := (Below.refl _ _).alloc (Nat.le_refl _) _
        have hf : Blk (u.alloc (.cells #[.int .i64 0, .int .i64 0] 2)) u.heap.size #[.int .i64 0, .int .i64 0] 2 (0, 0) := Blk.new _ _ _ _
        refine wpOpIn_value (v := .slice (some ⟨u.heap.size, 0, none⟩) 2 2) (w' := (u.alloc (.cells #[.int .i64 0, .int .i64 0] 2))) rfl rfl rfl (by rfl) (by rfl) (by go_simp) ?_
        have HBu0 := HBu
        have HBu : Hid (Below w.heap.size w (u.alloc (.cells #[.int .i64 0, .int .i64 0] 2))) := Lib.hid (HBu0.out.trans (hb.mono HBu0.out.size))
        refine ⟨fun _ => HSS.out _ HBu.out, ?_⟩
        simp only [List.setIfInBounds_toArray, List.set_cons_zero, List.set_cons_succ]
        have q := nw_0_1 _ u.heap.size by_ HBu (Lib.hid hf) (Lib.hid (HF1.out.below hb HF1.out.lt))
        rw [HH.out, HT.out] at q
        simp only [List.setIfInBounds_toArray, List.set_cons_zero, List.set_cons_succ] at q ⊢
        exact q
      · have hb : Below u.heap.size u (u.alloc (.cells #[.int .i64 0, .int .i64 0, .int .i64 2147483647, .int .i64 0, .int .i64 1, .int .i64 2147483647] 58)) := (Below.refl _ _).alloc (Nat.le_refl _) _
        have hf : Blk (u.alloc (.cells #[.int .i64 0, .int .i64 0, .int .i64 2147483647, .int .i64 0, .int .i64 1, .int .i64 2147483647] 58)) u.heap.size #[.int .i64 0, .int .i64 0, .int .i64 2147483647, .int .i64 0, .int .i64 1, .int .i64 2147483647] 58 (0, 0) := Blk.new _ _ _ _
        refine wpOpIn_value (v := .slice (some ⟨u.heap.size, 0, none⟩) 2 2) (w' := (u.alloc (.cells #[.int .i64 0, .int .i64 0, .int .i64 2147483647, .int .i64 0, .int .i64 1, .int .i64 2147483647] 58))) rfl rfl rfl (by rfl) (by rfl) (by go_simp) ?_
        have HBu0 := HBu
        have HBu : Hid (Below w.heap.size w (u.alloc (.cells #[.int .i64 0, .int .i64 0, .int .i64 2147483647, .int .i64 0, .int .i64 1, .int .i64 2147483647] 58))) := Lib.hid (HBu0.out.trans (hb.mono HBu0.out.size))
        refine ⟨fun _ => HSS.out _ HBu.out, ?_⟩
        simp only [List.setIfInBounds_toArray, List.set_cons_zero, List.set_cons_succ]
        have q := nw_1_4 _ by_ u.heap.size HBu (Lib.hid (HF1.out.below hb HF1.out.lt)) (Lib.hid hf)
        rw [HH.out, HT.out] at q
        simp only [List.setIfInBounds_toArray, List.set_cons_zero, List.set_cons_succ] at q ⊢
        exact q
    have nw_0 : ∀ (u : World) (bx : Nat), Hid (Below w.heap.size w u) → Hid (Blk u bx #[.int .i64 0, .int .i64 0] 2 (0, 0)) → H 9 #[true, false, true, true, false, false, false, false, false, false, false, false] { tmps := (T.setIfInBounds 20 (.slice (some ⟨bx, 0, none⟩) 2 2)), defers := [] } u := by
      clear HBu
      intro u bx HBu HF0
      rw [HH.out, HT.out]
      simp only [List.setIfInBounds_toArray, List.set_cons_zero, List.set_cons_succ]
      refine heldD_two (i := 1) (k := 4) (by kernel_rfl) ?_ ?_
      · have hb : Below u.heap.size u (u.alloc (.cells #[.int .i64 0, .int .i64 0] 2)) := (Below.refl _ _).alloc (Nat.le_refl _) _
        have hf : Blk (u.alloc (.cells #[.int .i64 0, .int .i64 0] 2)) u.heap.size #[.int .i64 0, .int .i64 0] 2 (0, 0) := Blk.new _ _ _ _
        refine wpOpIn_value (v := .slice (some ⟨u.heap.size, 0, none⟩) 2 2) (w' := (u.alloc (.cells #[.int .i64 0, .int .i64 0] 2))) rfl rfl rfl (by rfl) (by rfl) (by go_simp) ?_
        have HBu0 := HBu
        have HBu : Hid (Below w.heap.size w (u.alloc (.cells #[.int .i64 0, .int .i64 0] 2))) := Lib.hid (HBu0.out.trans (hb.mono HBu0.out.size))
        refine ⟨fun _ => HSS.out _ HBu.out, ?_⟩
        simp only [List.setIfInBounds_toArray, List.set_cons_zero, List.set_cons_succ]
        have q := nw_0_1 _ bx u.heap.size HBu (Lib.hid (HF0.out.below hb HF0.out.lt)) (Lib.hid hf)
        rw [HH.out, HT.out] at q
        simp only [List.setIfInBounds_toArray, List.set_cons_zero, List.set_cons_succ] at q ⊢
        exact q
      · have hb : Below u.heap.size u (u.alloc (.cells #[.int .i64 0, .int .i64 0, .int .i64 2147483647, .int .i64 0, .int .i64 1, .int .i64 2147483647] 58)) := (Below.refl _ _).alloc (Nat.le_refl _) _
        have hf : Blk (u.alloc (.cells #[.int .i64 0, .int .i64 0, .int .i64 2147483647, .int .i64 0, .int .i64 1, .int .i64 2147483647] 58)) u.heap.size #[.int .i64 0, .int .i64 0, .int .i64 2147483647, .int .i64 0, .int .i64 1, .int .i64 2147483647] 58 (0, 0) := Blk.new _ _ _ _
        refine wpOpIn_value (v := .slice (some ⟨u.heap.size, 0, none⟩) 2 2) (w' := (u.alloc (.cells #[.int .i64 0, .int .i64 0, .int .i64 2147483647, .int .i64 0, .int .i64 1, .int .i64 2147483647] 58))) rfl rfl rfl (by rfl) (by rfl) (by go_simp) ?_
        have HBu0 := HBu
        have HBu : Hid (Below w.heap.size w (u.alloc (.cells #[.int .i64 0, .int .i64 0, .int .i64 2147483647, .int .i64 0, .int .i64 1, .int .i64 2147483647] 58))) := Lib.hid (HBu0.out.trans (hb.mono HBu0.out.size))
        refine ⟨fun _ => HSS.out _ HBu.out, ?_⟩
        simp only [List.setIfInBounds_toArray, List.set_cons_zero, List.set_cons_succ]
        have q := nw_0_4 _ bx u.heap.size HBu (Lib.hid (HF0.out.below hb HF0.out.lt)) (Lib.hid hf)
        rw [HH.out, HT.out] at q
        simp only [List.setIfInBounds_toArray, List.set_cons_zero, List.set_cons_succ] at q ⊢
        exact q
    have nw_ : ∀ (u : World), Hid (Below w.heap.size w u) → H 10 #[false, false, true, true, false, false, false, false, false, false, false, false] { tmps := T, defers := [] } u := by
      clear HBu
      intro u HBu
      rw [HH.out, HT.out]
      refine heldD_three (i := 0) (k := 1) (m := 4) (by kernel_rfl) ?_ ?_ ?_
      · have hb : Below u.heap.size u (u.alloc (.cells #[.int .i64 0, .int .i64 0] 2)) := (Below.refl _ _).alloc (Nat.le_refl _) _
        have hf : Blk (u.alloc (.cells #[.int .i64 0, .int .i64 0] 2)) u.heap.size #[.int .i64 0, .int .i64 0] 2 (0, 0) := Blk.new _ _ _ _
        refine wpOpIn_value (v := .slice (some ⟨u.heap.size, 0, none⟩) 2 2) (w' := (u.alloc (.cells #[.int .i64 0, .int .i64 0] 2))) rfl rfl rfl (by rfl) (by rfl) (by go_simp) ?_
        have HBu0 := HBu
        have HBu : Hid (Below w.heap.size w (u.alloc (.cells #[.int .i64 0, .int .i64 0] 2))) := Lib.hid (HBu0.out.trans (hb.mono HBu0.out.size))
        refine ⟨fun _ => HSS.out _ HBu.out, ?_⟩
        simp only [List.setIfInBounds_toArray, List.set_cons_zero, List.set_cons_succ]
        have q := nw_0 _ u.heap.size HBu (Lib.hid hf)
        rw [HH.out, HT.out] at q
        simp only [List.setIfInBounds_toArray, List.set_cons_zero, List.set_cons_succ] at q ⊢
        exact q
      · have hb : Below u.heap.size u (u.alloc (.cells #[.int .i64 0, .int .i64 0] 2)) := (Below.refl _ _).alloc (Nat.le_refl _) _
        have hf : Blk (u.alloc (.cells #[.int .i64 0, .int .i64 0] 2)) u.heap.size #[.int .i64 0, .int .i64 0] 2 (0, 0) := Blk.new _ _ _ _
        refine wpOpIn_value (v := .slice (some ⟨u.heap.size, 0, none⟩) 2 2) (w' := (u.alloc (.cells #[.int .i64 0, .int .i64 0] 2))) rfl rfl rfl (by rfl) (by rfl) (by go_simp) ?_
        have HBu0 := HBu
        have HBu : Hid (Below w.heap.size w (u.alloc (.cells #[.int .i64 0, .int .i64 0] 2))) := Lib.hid (HBu0.out.trans (hb.mono HBu0.out.size))
        refine ⟨fun _ => HSS.out _ HBu.out, ?_⟩
        simp only [List.setIfInBounds_toArray, List.set_cons_zero, List.set_cons_succ]
        have q := nw_1 _ u.heap.size HBu (Lib.hid hf)
        rw [HH.out, HT.out] at q
        simp only [List.setIfInBounds_toArray, List.set_cons_zero, List.set_cons_succ] at q ⊢
        exact q
      · have hb : Below u.heap.size u (u.alloc (.cells #[.int .i64 0, .int .i64 0, .int .i64 2147483647, .int .i64 0, .int .i64 1, .int .i64 2147483647] 58)) := (Below.refl _ _).alloc (Nat.le_refl _) _
        have hf : Blk (u.alloc (.cells #[.int .i64 0, .int .i64 0, .int .i64 2147483647, .int .i64 0, .int .i64 1, .int .i64 2147483647] 58)) u.heap.size #[.int .i64 0, .int .i64 0, .int .i64 2147483647, .int .i64 0, .int .i64 1, .int .i64 2147483647] 58 (0, 0) := Blk.new _ _ _ _
        refine wpOpIn_value (v := .slice (some ⟨u.heap.size, 0, none⟩) 2 2) (w' := (u.alloc (.cells #[.int .i64 0, .int .i64 0, .int .i64 2147483647, .int .i64 0, .int .i64 1, .int .i64 2147483647] 58))) rfl rfl rfl (by rfl) (by rfl) (by go_simp) ?_
        have HBu0 := HBu
        have HBu : Hid (Below w.heap.size w (u.alloc (.cells #[.int .i64 0, .int .i64 0, .int .i64 2147483647, .int .i64 0, .int .i64 1, .int .i64 2147483647] 58))) := Lib.hid (HBu0.out.trans (hb.mono HBu0.out.size))
        refine ⟨fun _ => HSS.out _ HBu.out, ?_⟩
        simp only [List.setIfInBounds_toArray, List.set_cons_zero, List.set_cons_succ]
        have q := nw_4 _ u.heap.size HBu (Lib.hid hf)
        rw [HH.out, HT.out] at q
        simp only [List.setIfInBounds_toArray, List.set_cons_zero, List.set_cons_succ] at q ⊢
        exact q
    exact nw_ wk0 HBu
  clear HBu
  intro u bx by_ bz p HBu HF0 HF1 HF4 HF6
  rw [HH.out, HT.out]
  simp only [List.setIfInBounds_toArray, List.set_cons_zero, List.set_cons_succ]
  clear HH HT
  refine heldD_one (i := 11) (by kernel_rfl) ?_
  refine wpOpIn_value (v := .nilIface) (w' := u) rfl rfl rfl (by rfl) (by rfl) (by go_simp) ?_
  refine ⟨fun h => (by cases h), ?_⟩
  simp only [List.setIfInBounds_toArray, List.set_cons_zero, List.set_cons_succ]
  refine heldD_done (by kernel_rfl) ?_ _
  have HNp := HF6
  have HB0 := HBu
  clear HBu HF0 HF1 HF4 HF6 HSS
  have HBu := HB0; clear HB0
  obtain ⟨u1l, hu1l⟩ : ∃ x, x = u.alloc (.cells #[.int .i64 0, .int .i64 0, .int .i64 0, .int .i64 1] 3) := ⟨_, rfl⟩
  have hbl : Below u.heap.size u u1l := by rw [hu1l]; exact (Below.refl _ _).alloc (Nat.le_refl _) _
  have kl : SlX u1l (.slice (some ⟨u.heap.size, 0, none⟩) 4 4) [0, 0, 0, 1] := by rw [hu1l]; exact slX_new (Blk.new _ _ _ _) rfl rfl (by decide)
  have hnp := HNp.out.keep (KpC.of_below hbl); clear HNp; have HNp := Lib.hid hnp; clear hnp
  have HC := Lib.hid (check_is (g := rKnown) (s := 0) (t := 1) (L := [0, 0, 0, 1]) (some 8589934588) 8589934588 true (by decide +kernel) (by decide +kernel) rfl (by decide) p _ u1l HNp.out kl)
  have HW := Lib.hid hu1l; have HBu1l := Lib.hid (HBu.out.next' hbl)
  clear hu1l hbl kl HBu
  go_wp2_with fail
  rw [← HW.out]
  refine HC.out.mono ?_
  rintro e u1 ⟨rfl, hb⟩
  have HBu1 := Lib.hid (HBu1l.out.next' hb); clear HBu1l HC HW
  have hnp := HNp.out.keep (KpC.of_below hb); clear HNp; have HNp := Lib.hid hnp; clear hnp
  clear hb
  obtain ⟨u2l, hu2l⟩ : ∃ x, x = u1.alloc (.cells #[.int .i64 0, .int .i64 0, .int .i64 0, .int .i64 1] 3) := ⟨_, rfl⟩
  have hbl : Below u1.heap.size u1 u2l := by rw [hu2l]; exact (Below.refl _ _).alloc (Nat.le_refl _) _
  have kl : SlX u2l (.slice (some ⟨u1.heap.size, 0, none⟩) 4 4) [0, 0, 0, 1] := by rw [hu2l]; exact slX_new (Blk.new _ _ _ _) rfl rfl (by decide)
  have hnp := HNp.out.keep (KpC.of_below hbl); clear HNp; have HNp := Lib.hid hnp; clear hnp
  have HC := Lib.hid (bare_is (g := rKnown) (s := 0) (L := [0, 0, 0, 1]) (some [1]) (by decide +kernel) (by decide) (by decide) (by decide) p _ u2l HNp.out kl)
  have HW := Lib.hid hu2l; have HBu2l := Lib.hid (HBu1.out.next' hbl)
  clear hu2l hbl kl HBu1
  go_wp2_with fail
  rw [← HW.out]
  refine HC.out.mono ?_
  rintro e u2 ⟨a1, c1, rfl, hs1, hb⟩
  have HBu2 := Lib.hid (HBu2l.out.next' hb); clear HBu2l HC HW
  have hnp := HNp.out.keep (KpC.of_below hb); clear HNp; have HNp := Lib.hid hnp; clear hnp
  clear hb
  have HSb := Lib.hid hs1; clear hs1
  obtain ⟨u3l, hu3l⟩ : ∃ x, x = u2.alloc (.cells #[.int .i64 0] 3) := ⟨_, rfl⟩
  have hbl : Below u2.heap.size u2 u3l := by rw [hu3l]; exact (Below.refl _ _).alloc (Nat.le_refl _) _
  have kl : SlX u3l (.slice (some ⟨u2.heap.size, 0, none⟩) 1 1) [0] := by rw [hu3l]; exact slX_new (Blk.new _ _ _ _) rfl rfl (by decide)
  have hb := HSb.out.keep (KpC.of_below hbl); clear HSb; have HSb := Lib.hid hb; clear hb
  have hnp := HNp.out.keep (KpC.of_below hbl); clear HNp; have HNp := Lib.hid hnp; clear hnp
  have HC := Lib.hid (bare_is (g := rKnown) (s := 0) (L := [0]) (some []) (by decide +kernel) (by decide) (by decide) (by decide) p _ u3l HNp.out kl)
  have HW := Lib.hid hu3l; have HBu3l := Lib.hid (HBu2.out.next' hbl)
  clear hu3l hbl kl HBu2
  go_wp2_with fail
  rw [← HW.out]
  refine HC.out.mono ?_
  rintro e u3 ⟨a2, c2, rfl, hs2, hb⟩
  have HBu3 := Lib.hid (HBu3l.out.next' hb); clear HBu3l HC HW
  have hb := HSb.out.keep (KpC.of_below hb); clear HSb; have HSb := Lib.hid hb; clear hb
  have hnp := HNp.out.keep (KpC.of_below hb); clear HNp; have HNp := Lib.hid hnp; clear hnp
  clear hb
  clear hs2
  obtain ⟨u4l, hu4l⟩ : ∃ x, x = u3.alloc (.cells #[.int .i64 2] 3) := ⟨_, rfl⟩
  have hbl : Below u3.heap.size u3 u4l := by rw [hu4l]; exact (Below.refl _ _).alloc (Nat.le_refl _) _
  have kl : SlX u4l (.slice (some ⟨u3.heap.size, 0, none⟩) 1 1) [2] := by rw [hu4l]; exact slX_new (Blk.new _ _ _ _) rfl rfl (by decide)
  have hb := HSb.out.keep (KpC.of_below hbl); clear HSb; have HSb := Lib.hid hb; clear hb
  have hnp := HNp.out.keep (KpC.of_below hbl); clear HNp; have HNp := Lib.hid hnp; clear hnp
  have HC := Lib.hid (check_is (g := rKnown) (s := 0) (t := 1) (L := [2]) none 0 false (by decide +kernel) (by decide +kernel) rfl (by decide) p _ u4l HNp.out kl)
  have HW := Lib.hid hu4l; have HBu4l := Lib.hid (HBu3.out.next' hbl)
  clear hu4l hbl kl HBu3
  go_wp2_with fail
  rw [← HW.out]
  refine HC.out.mono ?_
  rintro e u4 ⟨rfl, hb⟩
  have HBu4 := Lib.hid (HBu4l.out.next' hb); clear HBu4l HC HW
  have hb := HSb.out.keep (KpC.of_below hb); clear HSb; have HSb := Lib.hid hb; clear hb
  have hnp := HNp.out.keep (KpC.of_below hb); clear HNp; have HNp := Lib.hid hnp; clear hnp
  clear hb
  go_wp2_with fail
  refine (check_is (g := rKnown) (s := -1) (t := -1) (L := []) none 0 false (by decide +kernel) (by decide +kernel) rfl (by decide) p _ u4 HNp.out (slX_nil _)).mono ?_
  rintro e u5 ⟨rfl, hb⟩
  have HBu5 := Lib.hid (HBu4.out.next' hb); clear HBu4
  have hb := HSb.out.keep (KpC.of_below hb); clear HSb; have HSb := Lib.hid hb; clear hb
  have hnp := HNp.out.keep (KpC.of_below hb); clear HNp; have HNp := Lib.hid hnp; clear hnp
  clear hb
  go_wp2_with fail
  refine (nodes_is (g := rKnown) (s := 2) (L := []) none (by decide +kernel) (by decide) p _ u5 HNp.out (slX_nil _)).mono ?_
  rintro e u6 ⟨a3, c3, rfl, hs3, hb⟩
  have HBu6 := Lib.hid (HBu5.out.next' hb); clear HBu5
  have hb := HSb.out.keep (KpC.of_below hb); clear HSb; have HSb := Lib.hid hb; clear hb
  have hnp := HNp.out.keep (KpC.of_below hb); clear HNp; have HNp := Lib.hid hnp; clear hnp
  clear hb
  clear hs3
  go_wp2_with fail
  refine (callsIn_wide.1 (check_nilW 4 0 0 _ u6)).mono ?_
  rintro e u7 ⟨rfl, hb⟩
  have HBu7 := Lib.hid (HBu6.out.next' hb); clear HBu6
  have hb := HSb.out.keep (KpC.of_below hb); clear HSb; have HSb := Lib.hid hb; clear hb
  have hnp := HNp.out.keep (KpC.of_below hb); clear HNp; have HNp := Lib.hid hnp; clear hnp
  clear hb
  go_wp2_with fail
  refine (bare_nilW 0 _ u7).mono ?_
  rintro e u8 ⟨rfl, hb⟩
  have HBu8 := Lib.hid (HBu7.out.next' hb); clear HBu7
  have hb := HSb.out.keep (KpC.of_below hb); clear HSb; have HSb := Lib.hid hb; clear hb
  have hnp := HNp.out.keep (KpC.of_below hb); clear HNp; have HNp := Lib.hid hnp; clear hnp
  clear hb
  go_wp2_with fail
  refine (works09_any u8 (HG0.out.later HBu8.out)).mono ?_
  rintro e u9 ⟨rfl, hb⟩
  have HBu9 := Lib.hid (HBu8.out.next' hb); clear HBu8
  have hb := HSb.out.keep (KpC.of_below hb); clear HSb; have HSb := Lib.hid hb; clear hb
  have hnp := HNp.out.keep (KpC.of_below hb); clear HNp; have HNp := Lib.hid hnp; clear hnp
  clear hb
  obtain ⟨u10l, hu10l⟩ : ∃ x, x = u9.alloc (.cells #[.int .i64 1] 3) := ⟨_, rfl⟩
  have hbl : Below u9.heap.size u9 u10l := by rw [hu10l]; exact (Below.refl _ _).alloc (Nat.le_refl _) _
  have kl : SlX u10l (.slice (some ⟨u9.heap.size, 0, none⟩) 1 1) [1] := by rw [hu10l]; exact slX_new (Blk.new _ _ _ _) rfl rfl (by decide)
  have hb := HSb.out.keep (KpC.of_below hbl); clear HSb; have HSb := Lib.hid hb; clear hb
  have hnp := HNp.out.keep (KpC.of_below hbl); clear HNp; have HNp := Lib.hid hnp; clear hnp
  have HC := Lib.hid (ints_any _ _ [1] [1] u10l (HSb.out) kl)
  have HW := Lib.hid hu10l; have HBu10l := Lib.hid (HBu9.out.next' hbl)
  clear hu10l hbl kl HBu9
  go_wp2_with fail
  rw [← HW.out]
  refine HC.out.mono ?_
  rintro e u10 ⟨rfl, hb⟩
  have HBu10 := Lib.hid (HBu10l.out.next' hb); clear HBu10l HC HW
  have hb := HSb.out.keep (KpC.of_below hb); clear HSb; have HSb := Lib.hid hb; clear hb
  have hnp := HNp.out.keep (KpC.of_below hb); clear HNp; have HNp := Lib.hid hnp; clear hnp
  clear hb
  go_wp2_with fail
  go_ret
  exact ⟨by simp, HBu10.out⟩
end Go.Proofs.YtlddcnkiigamjaaDoor
