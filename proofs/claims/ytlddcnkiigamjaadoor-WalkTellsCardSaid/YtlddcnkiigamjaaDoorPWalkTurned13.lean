/- Texts of the law WalkTurned, merged: GridPlaced. -/
import Derived.Test.YtlddcnkiigamjaaDoorPWalkTurned09
import Derived.Test.YtlddcnkiigamjaaDoorPWalkTurned02
import Derived.Test.YtlddcnkiigamjaaDoorPWalkTurned11
import Derived.Test.YtlddcnkiigamjaaDoorPWalkTurned12
/- the grid laws' placed: a graph without arcs, its nodes at these places. -/
namespace Go.Proofs.YtlddcnkiigamjaaDoor
open Go.RowKit
def placedN (X Y : List Int) : Nat := max 1 (min (min X.length Y.length) 20)
def placedE (X Y L : List Int) (i : Nat) : Int := if i < X.length ∧ i < Y.length then w32 (L[i]?.getD 0) else 0
def placedV (X Y : List Int) : Raw := ⟨(placedN X Y : Nat), (List.range (placedN X Y)).map (placedE X Y X), (List.range (placedN X Y)).map (placedE X Y Y), []⟩
theorem placedN_le (X Y : List Int) : 1 ≤ placedN X Y ∧ placedN X Y ≤ 20 := by unfold placedN; omega
theorem placedE_le (X Y L : List Int) (i : Nat) : -2147483648 ≤ placedE X Y L i ∧ placedE X Y L i ≤ 2147483647 := by
  unfold placedE
  split
  · unfold w32; rw [IntKind.wrap_i32]; omega
  · omega
def IsRow (u : World) (g : Nat) : Prop := ∃ cur, Blk u g cur 2 (0, 0)
theorem IsRow.lt {u : World} {g : Nat} (h : IsRow u g) : g < u.heap.size := h.choose_spec.lt
theorem IsRow.below {u u' : World} {g : Nat} (h : IsRow u g) (hb : Below u.heap.size u u') : IsRow u' g := ⟨_, h.choose_spec.below hb h.lt⟩
theorem push_nil (base : Nat) (u : World) (B : Nat) (hB : Blk u B #[.int .i64 0] 2 (0, 0)) (hbase : base ≤ u.heap.size) : ∃ c w', (Builtin.append_ #[22, 22] 22 #[.slice none 0 0, .slice (some ⟨B, 0, none⟩) 1 1]).run Tryd.prog u = .ok (.slice (some ⟨u.heap.size, 0, none⟩) 1 c) w' ∧
    Below u.heap.size u w' ∧ (IsRow w' u.heap.size ∧ w'.ownsRow base 2 1 (.slice (some ⟨u.heap.size, 0, none⟩) 1 c) 1 [.int .i64 0]) := by
  obtain ⟨i0, hi, hz0, hz1, hz2⟩ := info_parts infoI
  have hs : SlF 1 u (.slice (some ⟨B, 0, none⟩) 1 1) 1 (inC 0) := ⟨inC_len 0, fun u hu => by simp only [inC, List.mem_cons, List.not_mem_nil, or_false] at hu; rw [hu]; rfl, _, 1, rfl, Nat.le_refl _, by unfold maxLen; omega, fun j q hq => ⟨B, 0, rfl, by rw [Nat.zero_add, hB.cell, List.getElem?_toArray]; exact hq⟩⟩
  obtain ⟨v', w', hr, ho, hg, hat, _⟩ := run_append_row (P := Tryd.prog) base 22 22 2 i0 _ 1 8 Tryd.underlying22 hi hz0 hz1 hz2 rfl (by omega) (.slice none 0 0) 0 [] (World.ownsRow_nil _ _ _ _) _ 1 _ hs (by unfold maxLen; omega) (by omega) hbase
  obtain ⟨a, c, rfl, hn⟩ := ownForm ho
  obtain ⟨g, rfl⟩ := hn (by omega)
  obtain rfl : g = u.heap.size := by
    rcases hat with h | h
    · cases h
    · exact Option.some.inj h
  obtain ⟨_, cur, hb⟩ := ownsRow_blk' ho (g := u.heap.size) rfl
  exact ⟨c, w', hr, ⟨hg.os, hg.tape, hg.output, hg.size, fun k hk => hg.block k hk (by simp [Value.ownBlock])⟩, ⟨cur, hb⟩, ho⟩
set_option maxRecDepth 100000 in
set_option maxHeartbeats 8000000 in
theorem placed_any (va vb : Value) (X Y : List Int) (w : World) (hx : SlX w va X) (hy : SlX w vb Y) : Calls Tryd.prog 11 #[va, vb] w fun e w' => ∃ v', e = .returned v' ∧ RawO w.heap.size w' v' (placedV X Y) ∧ Below w.heap.size w w' := by
  obtain ⟨ax, cx0, rfl, hcx, hmx, _⟩ := id hx
  obtain ⟨ay, cy0, rfl, hcy, hmy, _⟩ := id hy
  unfold maxLen at hmx hmy
  have hnb := placedN_le X Y
  have hnd : placedN X Y = max 1 (min (min X.length Y.length) 20) := rfl
  obtain ⟨N, hN⟩ : ∃ N, N = placedN X Y := ⟨_, rfl⟩
  have hV : placedV X Y = ⟨(N : Nat), (List.range N).map (placedE X Y X), (List.range N).map (placedE X Y Y), []⟩ := by unfold placedV; rw [← hN]
  rw [← hN] at hnb hnd
  obtain ⟨M1, hM1⟩ : ∃ m, m = min X.length Y.length := ⟨_, rfl⟩
  obtain ⟨M2, hM2⟩ : ∃ m, m = min M1 20 := ⟨_, rfl⟩
  have f1 : (if Y.length < X.length then (Y.length : Int) else (X.length : Int)) = (M1 : Int) := by split <;> omega
  have f2 : (if (20 : Int) < (M1 : Int) then (20 : Int) else (M1 : Int)) = (M2 : Int) := by split <;> omega
  have f3 : (if (1 : Int) < (M2 : Int) then (M2 : Int) else (1 : Int)) = (N : Int) := by split <;> omega
  clear hM1 hM2
  obtain ⟨Bs, hBs⟩ : ∃ b, b = w.heap.size := ⟨_, rfl⟩
  obtain ⟨Bo, hBo⟩ : ∃ b, b = w.heap.size + 1 := ⟨_, rfl⟩
  obtain ⟨w1, hw1⟩ : ∃ w1, w1 = (w.alloc (.cells #[.int .i64 0, .slice none 0 0, .slice none 0 0, .slice none 0 0] 26)).alloc (.cells #[.int .i64 (N : Nat), .slice none 0 0, .slice none 0 0, .slice none 0 0] 26) := ⟨_, rfl⟩
  have hb1 : Below w.heap.size w w1 := by rw [hw1]; exact ((Below.refl _ _).alloc (Nat.le_refl _) _).alloc (by simp) _
  have K2 : Blk w1 Bs #[.int .i64 0, .slice none 0 0, .slice none 0 0, .slice none 0 0] 26 (0, 0) := by rw [hw1, hBs]; exact (Blk.new _ _ _ _).alloc _
  have K3 : Blk w1 Bo #[.int .i64 (N : Nat), .slice none 0 0, .slice none 0 0, .slice none 0 0] 26 (0, 0) := by
    rw [hw1, hBo]
    have h := Blk.new (w.alloc (.cells #[.int .i64 0, .slice none 0 0, .slice none 0 0, .slice none 0 0] 26)) #[.int .i64 (N : Nat), .slice none 0 0, .slice none 0 0, .slice none 0 0] 26 (0, 0)
    rwa [World.size_alloc] at h
  have hI0 : OutI w1 Bo (.slice none 0 0) (.slice none 0 0) (.slice none 0 0) ⟨(N : Nat), [], [], []⟩ w1 := ⟨K3, ⟨World.ownsRow_nil _ _ _ _, World.ownsRow_nil _ _ _ _, World.ownsRow_nil _ _ _ _, fun b hb => by cases hb⟩, Kept.refl _ _⟩
  have HX := Lib.hid hx; have HY := Lib.hid hy; have HB1 := Lib.hid hb1; have HK2 := Lib.hid K2; have HI0 := Lib.hid hI0; have HW1 := Lib.hid hw1; have HV := Lib.hid hV
  have HLo := Lib.hid (show w.heap.size ≤ Bo ∧ w.heap.size ≤ Bs ∧ ¬ Bs = Bo ∧ w.heap.size < w1.heap.size from ⟨by omega, by omega, by omega, by have := K2.lt; omega⟩)
  have HNb := Lib.hid hnb; have HNd := Lib.hid hnd; have HEo := Lib.hid hBo; have HEs := Lib.hid hBs
  have HNe := Lib.hid hN
  clear hx hy hb1 K2 K3 hI0 hw1 hV hnb hnd hN
  go_enter Tryd.func11, Tryd.ntmps11
  go_wp2_with fail
  rw [← HW1.out, ← HEo.out, ← HEs.out]
  clear hBs hBo f1 f2 f3 HW1 HEo HEs
  go_loopw [6] (fun i wr => ∃ (k : Nat), k ≤ N ∧ i = .int .i64 k ∧ Hid (∃ vx vy, OutI w1 Bo vx vy (.slice none 0 0) ⟨(N : Nat), (List.range k).map (placedE X Y X), (List.range k).map (placedE X Y Y), []⟩ wr ∧ (k = 0 → vx = .slice none 0 0 ∧ vy = .slice none 0 0))) (fun i _ => N - (intOf i).toNat)
  case atStart => exact ⟨0, by omega, rfl, Lib.hid ⟨_, _, HI0.out, fun _ => ⟨rfl, rfl⟩⟩⟩
  case round =>
    obtain ⟨k, hk, rfl, hrel⟩ := hrel
    obtain ⟨vx, vy, hI, hnil⟩ := hrel.out
    have o0 := hI.blk.cell 0
    change wr.cell? ⟨Bo, 0, none⟩ = some (.int .i64 (N : Nat)) at o0
    have HI := Lib.hid hI; have HNil := Lib.hid hnil
    clear hI hnil hrel
    by_cases hlt : k < N
    · have hltI : (k : Int) < (N : Int) := by omega
      by_cases hin : k < X.length ∧ k < Y.length
      · obtain ⟨hiX, hiY⟩ := hin
        have hiXI : (k : Int) < (X.length : Int) := by omega
        have hiYI : (k : Int) < (Y.length : Int) := by omega
        have i1 : (0 : Int) ≤ (k : Int) := by omega
        have n1 : ¬ (X.length : Int) ≤ (k : Int) := by omega
        have n2 : ¬ (Y.length : Int) ≤ (k : Int) := by omega
        have n1b : decide ((X.length : Int) ≤ (k : Int)) = false := decide_eq_false n1
        have n2b : decide ((Y.length : Int) ≤ (k : Int)) = false := decide_eq_false n2
        have n1c : decide (X.length ≤ k) = false := decide_eq_false (by omega)
        have n2c : decide (Y.length ≤ k) = false := decide_eq_false (by omega)
        have hkp := kpc_of HB1.out HI.out.kept HLo.out.1
        obtain ⟨bX, oX, rfl, c0⟩ := (HX.out.keep hkp).at k hiX
        obtain ⟨bY, oY, rfl, d0⟩ := (HY.out.keep hkp).at k hiY
        obtain ⟨x0, hx0⟩ : ∃ x, x = X[k] := ⟨_, rfl⟩
        obtain ⟨y0, hy0⟩ : ∃ x, x = Y[k] := ⟨_, rfl⟩
        rw [← hx0] at c0; rw [← hy0] at d0
        obtain ⟨xv, hxv⟩ : ∃ x, x = w32 x0 := ⟨_, rfl⟩
        obtain ⟨yv, hyv⟩ : ∃ x, x = w32 y0 := ⟨_, rfl⟩
        have g1 : IntKind.i32.wrap x0 = xv := by rw [hxv]; rfl
        have g2 : IntKind.i32.wrap y0 = yv := by rw [hyv]; rfl
        have g3 : IntKind.i64.wrap xv = xv := by rw [hxv]; exact w32_lt _
        have g4 : IntKind.i64.wrap yv = yv := by rw [hyv]; exact w32_lt _
        have eX : Hid (placedE X Y X k = xv) := Lib.hid (by unfold placedE; rw [if_pos ⟨hiX, hiY⟩, List.getElem?_eq_getElem hiX, hxv, hx0]; rfl)
        have eY : Hid (placedE X Y Y k = yv) := Lib.hid (by unfold placedE; rw [if_pos ⟨hiX, hiY⟩, List.getElem?_eq_getElem hiY, hyv, hy0]; rfl)
        obtain ⟨b', o', e, cw⟩ := HX.out.at k hiX
        obtain ⟨rfl, rfl⟩ : bX = b' ∧ oX = o' := by simpa using e
        obtain ⟨b', o', e2, dw⟩ := HY.out.at k hiY
        obtain ⟨rfl, rfl⟩ : bY = b' ∧ oY = o' := by simpa using e2
        have hbX : bX < w.heap.size := block_lt_of_cell cw
        have hbY : bY < w.heap.size := block_lt_of_cell dw
        have Hx0 := Lib.hid c0; have HbX := Lib.hid hbX; have HbY := Lib.hid hbY; have Hyv := Lib.hid hy0
        clear hx0 hy0 hxv hyv hkp c0 d0 hbX hbY cw dw e e2
        go_wp2_with fail
        clear o0 n1 n2 n1b n2b n1c n2c
        have HSS := Lib.hid (show ∀ u, Below wr.heap.size wr u → (u.cell? ⟨Bo, 1, none⟩ = some vx ∧ u.cell? ⟨bX, oX + k, none⟩ = some (.int .i64 x0)) from fun u hu => ⟨(HI.out.below hu).blk.cell 1, cell_later hu Hx0.out⟩)
        refine wp_region_heldD (fun w' => w'.cell? ⟨Bo, 1, none⟩ = some vx ∧ w'.cell? ⟨bX, oX + k, none⟩ = some (.int .i64 x0)) 11 rfl ?_
        change heldD _ _ _ _ _ _ _ 12 _ _ wr.drew
        obtain ⟨wk0, hu0⟩ : ∃ u, u = wr.drew := ⟨_, rfl⟩
        have HBu := Lib.hid (show Below wr.heap.size wr wk0 by rw [hu0]; exact (Below.refl _ _).drew)
        rw [← hu0]
        clear hu0
        refine heldD_takeF (i := 0) (v := .pointer (some ⟨Bo, 1, none⟩)) rfl rfl rfl (by kernel_rfl) (by kernel_rfl) (by kernel_rfl) (by kernel_rfl) (fun _ _ _ h => h) (by rfl) (fun w => ⟨by rfl, by go_simp⟩) (fun _ => HSS.out _ HBu.out) ?_
        simp only [List.setIfInBounds_toArray, List.set_cons_zero, List.set_cons_succ]
        refine heldD_take (i := 1) (v := vx) rfl rfl rfl (by kernel_rfl) (by kernel_rfl) (by kernel_rfl) (by kernel_rfl) (by kernel_rfl) (by kernel_rfl) (fun _ _ _ h => h) (by rfl) (fun w hS => ⟨by rfl, by obtain ⟨hS1, hS2⟩ := hS; go_simp⟩) (HSS.out _ HBu.out) ?_
        simp only [List.setIfInBounds_toArray, List.set_cons_zero, List.set_cons_succ]
        refine heldD_takeF (i := 2) (v := .slice (some ⟨bX, oX, none⟩) X.length cx0) rfl rfl rfl (by kernel_rfl) (by kernel_rfl) (by kernel_rfl) (by kernel_rfl) (fun _ _ _ h => h) (by rfl) (fun w => ⟨by rfl, by go_simp⟩) (fun _ => HSS.out _ HBu.out) ?_
        simp only [List.setIfInBounds_toArray, List.set_cons_zero, List.set_cons_succ]
        refine heldD_takeF (i := 3) (v := .int .i64 (k : Nat)) rfl rfl rfl (by kernel_rfl) (by kernel_rfl) (by kernel_rfl) (by kernel_rfl) (fun _ _ _ h => h) (by rfl) (fun w => ⟨by rfl, by go_simp⟩) (fun _ => HSS.out _ HBu.out) ?_
        simp only [List.setIfInBounds_toArray, List.set_cons_zero, List.set_cons_succ]
        refine heldD_takeF (i := 4) (v := .pointer (some ⟨bX, oX + k, none⟩)) rfl rfl rfl (by kernel_rfl) (by kernel_rfl) (by kernel_rfl) (by kernel_rfl) (fun _ _ _ h => h) (by rfl) (fun w => ⟨by rfl, by go_simp⟩) (fun _ => HSS.out _ HBu.out) ?_
        simp only [List.setIfInBounds_toArray, List.set_cons_zero, List.set_cons_succ]
        refine heldD_take (i := 5) (v := .int .i64 x0) rfl rfl rfl (by kernel_rfl) (by kernel_rfl) (by kernel_rfl) (by kernel_rfl) (by kernel_rfl) (by kernel_rfl) (fun _ _ _ h => h) (by rfl) (fun w hS => ⟨by rfl, by obtain ⟨hS1, hS2⟩ := hS; go_simp⟩) (HSS.out _ HBu.out) ?_
        simp only [List.setIfInBounds_toArray, List.set_cons_zero, List.set_cons_succ]
        refine heldD_takeF (i := 6) (v := .int .i32 xv) rfl rfl rfl (by kernel_rfl) (by kernel_rfl) (by kernel_rfl) (by kernel_rfl) (fun _ _ _ h => h) (by rfl) (fun w => ⟨by rfl, by go_simp⟩) (fun _ => HSS.out _ HBu.out) ?_
        simp only [List.setIfInBounds_toArray, List.set_cons_zero, List.set_cons_succ]
        refine heldD_takeF (i := 7) (v := .int .i64 xv) rfl rfl rfl (by kernel_rfl) (by kernel_rfl) (by kernel_rfl) (by kernel_rfl) (fun _ _ _ h => h) (by rfl) (fun w => ⟨by rfl, by go_simp⟩) (fun _ => HSS.out _ HBu.out) ?_
        simp only [List.setIfInBounds_toArray, List.set_cons_zero, List.set_cons_succ]
        refine heldD_HT ?_
        intro H hH T hT
        have HH := Lib.hid hH; have HT := Lib.hid hT
        clear hH hT
        suffices sA_8 : ∀ (u : World) (bs : Nat), Hid (Below wr.heap.size wr u) → Hid (Blk u bs #[(.int .i64 xv)] 2 (0, 0)) → H 3 #[true, true, true, true, true, true, true, true, true, false, false, false] { tmps := (T.setIfInBounds 48 (.slice (some ⟨bs, 0, none⟩) 1 1)), defers := [] } u from by
          have sA_ : ∀ (u : World), Hid (Below wr.heap.size wr u) → H 4 #[true, true, true, true, true, true, true, true, false, false, false, false] { tmps := T, defers := [] } u := by
            clear HBu
            intro u HBu
            rw [HH.out, HT.out]
            refine heldD_one (i := 8) (by kernel_rfl) ?_
            have hb : Below u.heap.size u (u.alloc (.cells #[(.int .i64 xv)] 2)) := (Below.refl _ _).alloc (Nat.le_refl _) _
            have hf : Blk (u.alloc (.cells #[(.int .i64 xv)] 2)) u.heap.size #[(.int .i64 xv)] 2 (0, 0) := Blk.new _ _ _ _
            refine wpOpIn_value (v := .slice (some ⟨u.heap.size, 0, none⟩) 1 1) (w' := (u.alloc (.cells #[(.int .i64 xv)] 2))) rfl rfl rfl (by rfl) (by rfl) (by go_simp) ?_
            have HBu0 := HBu
            have HBu : Hid (Below wr.heap.size wr (u.alloc (.cells #[(.int .i64 xv)] 2))) := Lib.hid (HBu0.out.trans (hb.mono HBu0.out.size))
            refine ⟨fun _ => HSS.out _ HBu.out, ?_⟩
            simp only [List.setIfInBounds_toArray, List.set_cons_zero, List.set_cons_succ]
            have q := sA_8 _ u.heap.size HBu (Lib.hid hf)
            rw [HH.out, HT.out] at q
            simp only [List.setIfInBounds_toArray, List.set_cons_zero, List.set_cons_succ] at q ⊢
            exact q
          exact sA_ wk0 HBu
        clear HBu
        intro u bs HBu HF8
        rw [HH.out, HT.out]
        simp only [List.setIfInBounds_toArray, List.set_cons_zero, List.set_cons_succ]
        clear HH HT
        have hIu := HI.out.below HBu.out
        obtain ⟨_, Wq, hr, ⟨a7, n7, c7, rfl⟩, hblk, hg, hIq⟩ := hIu.pushX (x := xv) HF8.out (by show (List.map _ (List.range k)).length ≤ _; rw [List.length_map, List.length_range]; have := HNb.out; omega)
        have m0 := hblk.cell 1; have f0 := hblk.free 1 (Or.inr (Nat.zero_le _))
        simp only [List.getElem?_toArray, List.getElem?_cons_succ, List.getElem?_cons_zero] at m0
        have hSq : Wq.cell? ⟨Bo, 1, none⟩ = some vx ∧ Wq.cell? ⟨bX, oX + k, none⟩ = some (.int .i64 x0) := ⟨m0, (hg.cell_far ⟨bX, oX + k, none⟩ (by have := HBu.out.size; have := HI.out.kept.size; have := HLo.out; have := HbX.out; dsimp only; omega) (fun e => by have := (ownsRow_blk' HI.out.own.1 e.symm).1; have := HbX.out; have := HLo.out; dsimp only at *; omega)).trans (cell_later HBu.out Hx0.out)⟩
        have HR := Lib.hid hr; have HIq := Lib.hid hIq; have HSq := Lib.hid hSq
        clear hr hIq hSq hIu hblk hg
        refine heldD_one (i := 9) (by kernel_rfl) ?_
        refine wpOpIn_append rfl rfl rfl (by rfl) _ _ _ _ rfl HR.out ?_
        refine ⟨fun _ => HSq.out, ?_⟩
        simp only [List.setIfInBounds_toArray, List.set_cons_zero, List.set_cons_succ]
        refine heldD_takeF (i := 10) (v := .pointer (some ⟨Bo, 1, none⟩)) rfl rfl rfl (by kernel_rfl) (by kernel_rfl) (by kernel_rfl) (by kernel_rfl) (fun _ _ _ h => h) (by rfl) (fun w => ⟨by rfl, by go_simp⟩) (fun _ => HSq.out) ?_
        simp only [List.setIfInBounds_toArray, List.set_cons_zero, List.set_cons_succ]
        refine heldD_one (i := 11) (by kernel_rfl) ?_
        refine wpOpIn_skip (w' := Wq.setCell ⟨Bo, 1, none⟩ (.slice a7 n7 c7)) rfl rfl rfl (by rfl) (by rfl) (by go_simp) ?_
        refine ⟨fun h => (by cases h), ?_⟩
        refine heldD_done (by kernel_rfl) ?_ _
        generalize Wq.setCell ⟨Bo, 1, none⟩ (.slice a7 n7 c7) = W7 at *
        clear m0 f0 HSS HSq HR HBu HF8
        have HI7 := HIq
        clear HIq
        have hkp := kpc_of HB1.out HI7.out.kept HLo.out.1
        obtain ⟨b', o', e, d0⟩ := (HY.out.keep hkp).at k hiY
        obtain ⟨rfl, rfl⟩ : bY = b' ∧ oY = o' := by simpa using e
        rw [← Hyv.out] at d0
        have Hy0 := Lib.hid d0
        clear hkp d0 e
        go_wp2_with fail
        have HSS := Lib.hid (show ∀ u, Below W7.heap.size W7 u → (u.cell? ⟨Bo, 2, none⟩ = some vy ∧ u.cell? ⟨bY, oY + k, none⟩ = some (.int .i64 y0)) from fun u hu => ⟨(HI7.out.below hu).blk.cell 2, cell_later hu Hy0.out⟩)
        refine wp_region_heldD (fun w' => w'.cell? ⟨Bo, 2, none⟩ = some vy ∧ w'.cell? ⟨bY, oY + k, none⟩ = some (.int .i64 y0)) 11 rfl ?_
        change heldD _ _ _ _ _ _ _ 12 _ _ W7.drew
        obtain ⟨wk0, hu0⟩ : ∃ u, u = W7.drew := ⟨_, rfl⟩
        have HBu := Lib.hid (show Below W7.heap.size W7 wk0 by rw [hu0]; exact (Below.refl _ _).drew)
        rw [← hu0]
        clear hu0
        refine heldD_takeF (i := 0) (v := .pointer (some ⟨Bo, 2, none⟩)) rfl rfl rfl (by kernel_rfl) (by kernel_rfl) (by kernel_rfl) (by kernel_rfl) (fun _ _ _ h => h) (by rfl) (fun w => ⟨by rfl, by go_simp⟩) (fun _ => HSS.out _ HBu.out) ?_
        simp only [List.setIfInBounds_toArray, List.set_cons_zero, List.set_cons_succ]
        refine heldD_take (i := 1) (v := vy) rfl rfl rfl (by kernel_rfl) (by kernel_rfl) (by kernel_rfl) (by kernel_rfl) (by kernel_rfl) (by kernel_rfl) (fun _ _ _ h => h) (by rfl) (fun w hS => ⟨by rfl, by obtain ⟨hS1, hS2⟩ := hS; go_simp⟩) (HSS.out _ HBu.out) ?_
        simp only [List.setIfInBounds_toArray, List.set_cons_zero, List.set_cons_succ]
        refine heldD_takeF (i := 2) (v := .slice (some ⟨bY, oY, none⟩) Y.length cy0) rfl rfl rfl (by kernel_rfl) (by kernel_rfl) (by kernel_rfl) (by kernel_rfl) (fun _ _ _ h => h) (by rfl) (fun w => ⟨by rfl, by go_simp⟩) (fun _ => HSS.out _ HBu.out) ?_
        simp only [List.setIfInBounds_toArray, List.set_cons_zero, List.set_cons_succ]
        refine heldD_takeF (i := 3) (v := .int .i64 (k : Nat)) rfl rfl rfl (by kernel_rfl) (by kernel_rfl) (by kernel_rfl) (by kernel_rfl) (fun _ _ _ h => h) (by rfl) (fun w => ⟨by rfl, by go_simp⟩) (fun _ => HSS.out _ HBu.out) ?_
        simp only [List.setIfInBounds_toArray, List.set_cons_zero, List.set_cons_succ]
        refine heldD_takeF (i := 4) (v := .pointer (some ⟨bY, oY + k, none⟩)) rfl rfl rfl (by kernel_rfl) (by kernel_rfl) (by kernel_rfl) (by kernel_rfl) (fun _ _ _ h => h) (by rfl) (fun w => ⟨by rfl, by go_simp⟩) (fun _ => HSS.out _ HBu.out) ?_
        simp only [List.setIfInBounds_toArray, List.set_cons_zero, List.set_cons_succ]
        refine heldD_take (i := 5) (v := .int .i64 y0) rfl rfl rfl (by kernel_rfl) (by kernel_rfl) (by kernel_rfl) (by kernel_rfl) (by kernel_rfl) (by kernel_rfl) (fun _ _ _ h => h) (by rfl) (fun w hS => ⟨by rfl, by obtain ⟨hS1, hS2⟩ := hS; go_simp⟩) (HSS.out _ HBu.out) ?_
        simp only [List.setIfInBounds_toArray, List.set_cons_zero, List.set_cons_succ]
        refine heldD_takeF (i := 6) (v := .int .i32 yv) rfl rfl rfl (by kernel_rfl) (by kernel_rfl) (by kernel_rfl) (by kernel_rfl) (fun _ _ _ h => h) (by rfl) (fun w => ⟨by rfl, by go_simp⟩) (fun _ => HSS.out _ HBu.out) ?_
        simp only [List.setIfInBounds_toArray, List.set_cons_zero, List.set_cons_succ]
        refine heldD_takeF (i := 7) (v := .int .i64 yv) rfl rfl rfl (by kernel_rfl) (by kernel_rfl) (by kernel_rfl) (by kernel_rfl) (fun _ _ _ h => h) (by rfl) (fun w => ⟨by rfl, by go_simp⟩) (fun _ => HSS.out _ HBu.out) ?_
        simp only [List.setIfInBounds_toArray, List.set_cons_zero, List.set_cons_succ]
        refine heldD_HT ?_
        intro H hH T hT
        have HH := Lib.hid hH; have HT := Lib.hid hT
        clear hH hT
        suffices sB_8 : ∀ (u : World) (bs : Nat), Hid (Below W7.heap.size W7 u) → Hid (Blk u bs #[(.int .i64 yv)] 2 (0, 0)) → H 3 #[true, true, true, true, true, true, true, true, true, false, false, false] { tmps := (T.setIfInBounds 59 (.slice (some ⟨bs, 0, none⟩) 1 1)), defers := [] } u from by
          have sB_ : ∀ (u : World), Hid (Below W7.heap.size W7 u) → H 4 #[true, true, true, true, true, true, true, true, false, false, false, false] { tmps := T, defers := [] } u := by
            clear HBu
            intro u HBu
            rw [HH.out, HT.out]
            refine heldD_one (i := 8) (by kernel_rfl) ?_
            have hb : Below u.heap.size u (u.alloc (.cells #[(.int .i64 yv)] 2)) := (Below.refl _ _).alloc (Nat.le_refl _) _
            have hf : Blk (u.alloc (.cells #[(.int .i64 yv)] 2)) u.heap.size #[(.int .i64 yv)] 2 (0, 0) := Blk.new _ _ _ _
            refine wpOpIn_value (v := .slice (some ⟨u.heap.size, 0, none⟩) 1 1) (w' := (u.alloc (.cells #[(.int .i64 yv)] 2))) rfl rfl rfl (by rfl) (by rfl) (by go_simp) ?_
            have HBu0 := HBu
            have HBu : Hid (Below W7.heap.size W7 (u.alloc (.cells #[(.int .i64 yv)] 2))) := Lib.hid (HBu0.out.trans (hb.mono HBu0.out.size))
            refine ⟨fun _ => HSS.out _ HBu.out, ?_⟩
            simp only [List.setIfInBounds_toArray, List.set_cons_zero, List.set_cons_succ]
            have q := sB_8 _ u.heap.size HBu (Lib.hid hf)
            rw [HH.out, HT.out] at q
            simp only [List.setIfInBounds_toArray, List.set_cons_zero, List.set_cons_succ] at q ⊢
            exact q
          exact sB_ wk0 HBu
        clear HBu
        intro u bs HBu HF8
        rw [HH.out, HT.out]
        simp only [List.setIfInBounds_toArray, List.set_cons_zero, List.set_cons_succ]
        clear HH HT
        have hIu := HI7.out.below HBu.out
        obtain ⟨_, Wq, hr, ⟨a8, n8, c8, rfl⟩, hblk, hg, hIq⟩ := hIu.pushY (x := yv) HF8.out (by show (List.map _ (List.range k)).length ≤ _; rw [List.length_map, List.length_range]; have := HNb.out; omega)
        have m0 := hblk.cell 2; have f0 := hblk.free 2 (Or.inr (Nat.zero_le _))
        simp only [List.getElem?_toArray, List.getElem?_cons_succ, List.getElem?_cons_zero] at m0
        have hSq : Wq.cell? ⟨Bo, 2, none⟩ = some vy ∧ Wq.cell? ⟨bY, oY + k, none⟩ = some (.int .i64 y0) := ⟨m0, (hg.cell_far ⟨bY, oY + k, none⟩ (by have := HBu.out.size; have := HI7.out.kept.size; have := HLo.out; have := HbY.out; dsimp only; omega) (fun e => by have := (ownsRow_blk' HI7.out.own.2.1 e.symm).1; have := HbY.out; have := HLo.out; dsimp only at *; omega)).trans (cell_later HBu.out Hy0.out)⟩
        have HR := Lib.hid hr; have HIq := Lib.hid hIq; have HSq := Lib.hid hSq
        clear hr hIq hSq hIu hblk hg
        refine heldD_one (i := 9) (by kernel_rfl) ?_
        refine wpOpIn_append rfl rfl rfl (by rfl) _ _ _ _ rfl HR.out ?_
        refine ⟨fun _ => HSq.out, ?_⟩
        simp only [List.setIfInBounds_toArray, List.set_cons_zero, List.set_cons_succ]
        refine heldD_takeF (i := 10) (v := .pointer (some ⟨Bo, 2, none⟩)) rfl rfl rfl (by kernel_rfl) (by kernel_rfl) (by kernel_rfl) (by kernel_rfl) (fun _ _ _ h => h) (by rfl) (fun w => ⟨by rfl, by go_simp⟩) (fun _ => HSq.out) ?_
        simp only [List.setIfInBounds_toArray, List.set_cons_zero, List.set_cons_succ]
        refine heldD_one (i := 11) (by kernel_rfl) ?_
        refine wpOpIn_skip (w' := Wq.setCell ⟨Bo, 2, none⟩ (.slice a8 n8 c8)) rfl rfl rfl (by rfl) (by rfl) (by go_simp) ?_
        refine ⟨fun h => (by cases h), ?_⟩
        refine heldD_done (by kernel_rfl) ?_ _
        generalize Wq.setCell ⟨Bo, 2, none⟩ (.slice a8 n8 c8) = W8 at *
        clear m0 f0 HSS HSq HR HBu HF8
        have HI8 := HIq
        clear HIq
        go_wp2_with fail
        go_roundw
        case rel =>
          refine ⟨k + 1, by omega, by go_num, Lib.hid ⟨.slice a7 n7 c7, .slice a8 n8 c8, ?_, fun h => by omega⟩⟩
          rw [range_push, range_push, eX.out, eY.out]
          exact HI8.out
        case measure => simp [intOf]; omega
      · obtain rfl : k = 0 := by have := HNd.out; omega
        obtain ⟨rfl, rfl⟩ := HNil.out rfl
        have hcase : (X.length ≤ 0 ∨ ¬ X.length ≤ 0 ∧ Y.length ≤ 0) := by omega
        have eX : Hid (placedE X Y X 0 = 0) := Lib.hid (by unfold placedE; rw [if_neg hin])
        have eY : Hid (placedE X Y Y 0 = 0) := Lib.hid (by unfold placedE; rw [if_neg hin])
        have HW1s := Lib.hid HI.out.kept.size
        have HSS := Lib.hid (show ∀ u, Below wr.heap.size wr u → (u.cell? ⟨Bo, 1, none⟩ = some (.slice none 0 0) ∧ u.cell? ⟨Bo, 2, none⟩ = some (.slice none 0 0)) from fun u hu => ⟨(HI.out.below hu).blk.cell 1, (HI.out.below hu).blk.cell 2⟩)
        by_cases hX0 : X = []
        · subst hX0
          clear hin hcase
          go_wp2_with fail
          refine wp_region_heldD (fun w' => w'.cell? ⟨Bo, 1, none⟩ = some (.slice none 0 0) ∧ w'.cell? ⟨Bo, 2, none⟩ = some (.slice none 0 0)) 9 rfl ?_
          change heldD _ _ _ _ _ _ _ 12 _ _ wr.drew
          obtain ⟨wk0, hu0⟩ : ∃ u, u = wr.drew := ⟨_, rfl⟩
          have HBu := Lib.hid (show Below wr.heap.size wr wk0 by rw [hu0]; exact (Below.refl _ _).drew)
          rw [← hu0]
          clear hu0
          refine heldD_takeF (i := 0) (v := .pointer (some ⟨Bo, 1, none⟩)) rfl rfl rfl (by kernel_rfl) (by kernel_rfl) (by kernel_rfl) (by kernel_rfl) (fun _ _ _ h => h) (by rfl) (fun w => ⟨by rfl, by go_simp⟩) (fun _ => HSS.out _ HBu.out) ?_
          simp only [List.setIfInBounds_toArray, List.set_cons_zero, List.set_cons_succ]
          refine heldD_take (i := 1) (v := .slice none 0 0) rfl rfl rfl (by kernel_rfl) (by kernel_rfl) (by kernel_rfl) (by kernel_rfl) (by kernel_rfl) (by kernel_rfl) (fun _ _ _ h => h) (by rfl) (fun w hS => ⟨by rfl, by obtain ⟨hS1, hS2⟩ := hS; go_simp⟩) (HSS.out _ HBu.out) ?_
          simp only [List.setIfInBounds_toArray, List.set_cons_zero, List.set_cons_succ]
          refine heldD_takeF (i := 4) (v := .pointer (some ⟨Bo, 2, none⟩)) rfl rfl rfl (by kernel_rfl) (by kernel_rfl) (by kernel_rfl) (by kernel_rfl) (fun _ _ _ h => h) (by rfl) (fun w => ⟨by rfl, by go_simp⟩) (fun _ => HSS.out _ HBu.out) ?_
          simp only [List.setIfInBounds_toArray, List.set_cons_zero, List.set_cons_succ]
          refine heldD_take (i := 5) (v := .slice none 0 0) rfl rfl rfl (by kernel_rfl) (by kernel_rfl) (by kernel_rfl) (by kernel_rfl) (by kernel_rfl) (by kernel_rfl) (fun _ _ _ h => h) (by rfl) (fun w hS => ⟨by rfl, by obtain ⟨hS1, hS2⟩ := hS; go_simp⟩) (HSS.out _ HBu.out) ?_
          simp only [List.setIfInBounds_toArray, List.set_cons_zero, List.set_cons_succ]
          refine heldD_HT ?_
          intro H hH T hT
          have HH := Lib.hid hH; have HT := Lib.hid hT
          clear hH hT
          suffices sz_2_3_6_7 : ∀ (u : World) (bx : Nat) (gx : Nat) (cx : Nat) (by_ : Nat) (gy : Nat) (cy : Nat), Hid (Below wr.heap.size wr u) → Hid (Blk u bx #[(.int .i64 0)] 2 (0, 0)) → Hid (IsRow u gx ∧ u.ownsRow w1.heap.size 2 1 (.slice (some ⟨gx, 0, none⟩) 1 cx) 1 [.int .i64 0]) → Hid (Blk u by_ #[(.int .i64 0)] 2 (0, 0)) → Hid (IsRow u gy ∧ u.ownsRow w1.heap.size 2 1 (.slice (some ⟨gy, 0, none⟩) 1 cy) 1 [.int .i64 0]) → Hid (gx ≠ gy) → H 3 #[true, true, true, true, true, true, true, true, true, false, false, false] { tmps := (((((T.setIfInBounds 32 (.slice (some ⟨bx, 0, none⟩) 1 1)).setIfInBounds 33 (.slice (some ⟨gx, 0, none⟩) 1 cx)).setIfInBounds 36 (.slice (some ⟨by_, 0, none⟩) 1 1)).setIfInBounds 37 (.slice (some ⟨gy, 0, none⟩) 1 cy)).setIfInBounds 38 (.pointer (some ⟨Bo, 1, none⟩))), defers := [] } u from by
            have sz_2_3_6 : ∀ (u : World) (bx : Nat) (gx : Nat) (cx : Nat) (by_ : Nat), Hid (Below wr.heap.size wr u) → Hid (Blk u bx #[(.int .i64 0)] 2 (0, 0)) → Hid (IsRow u gx ∧ u.ownsRow w1.heap.size 2 1 (.slice (some ⟨gx, 0, none⟩) 1 cx) 1 [.int .i64 0]) → Hid (Blk u by_ #[(.int .i64 0)] 2 (0, 0)) → H 4 #[true, true, true, true, true, true, true, false, true, false, false, false] { tmps := ((((T.setIfInBounds 32 (.slice (some ⟨bx, 0, none⟩) 1 1)).setIfInBounds 33 (.slice (some ⟨gx, 0, none⟩) 1 cx)).setIfInBounds 36 (.slice (some ⟨by_, 0, none⟩) 1 1)).setIfInBounds 38 (.pointer (some ⟨Bo, 1, none⟩))), defers := [] } u := by
              clear HBu
              intro u bx gx cx by_ HBu HF2 HF3 HF6
              rw [HH.out, HT.out]
              simp only [List.setIfInBounds_toArray, List.set_cons_zero, List.set_cons_succ]
              refine heldD_one (i := 7) (by kernel_rfl) ?_
              obtain ⟨cy, w2, hr, hb, hf⟩ := push_nil w1.heap.size u by_ HF6.out (Nat.le_trans HW1s.out HBu.out.size)
              refine wpOpIn_append rfl rfl rfl (by rfl) _ _ _ _ rfl hr ?_
              have HBu0 := HBu
              have HBu : Hid (Below wr.heap.size wr w2) := Lib.hid (HBu0.out.trans (hb.mono HBu0.out.size))
              refine ⟨fun _ => HSS.out _ HBu.out, ?_⟩
              simp only [List.setIfInBounds_toArray, List.set_cons_zero, List.set_cons_succ]
              have q := sz_2_3_6_7 _ bx gx cx by_ u.heap.size cy HBu (Lib.hid (HF2.out.below hb HF2.out.lt)) (Lib.hid (⟨HF3.out.1.below hb, ownsRow_below HF3.out.2 hb⟩)) (Lib.hid (HF6.out.below hb HF6.out.lt)) (Lib.hid hf) (Lib.hid (by have q := HF3.out.1.lt; omega))
              rw [HH.out, HT.out] at q
              simp only [List.setIfInBounds_toArray, List.set_cons_zero, List.set_cons_succ] at q ⊢
              exact q
            have sz_2_6 : ∀ (u : World) (bx : Nat) (by_ : Nat), Hid (Below wr.heap.size wr u) → Hid (Blk u bx #[(.int .i64 0)] 2 (0, 0)) → Hid (Blk u by_ #[(.int .i64 0)] 2 (0, 0)) → H 6 #[true, true, true, false, true, true, true, false, false, false, false, false] { tmps := ((T.setIfInBounds 32 (.slice (some ⟨bx, 0, none⟩) 1 1)).setIfInBounds 36 (.slice (some ⟨by_, 0, none⟩) 1 1)), defers := [] } u := by
              clear HBu
              intro u bx by_ HBu HF2 HF6
              rw [HH.out, HT.out]
              simp only [List.setIfInBounds_toArray, List.set_cons_zero, List.set_cons_succ]
              refine heldD_one (i := 3) (by kernel_rfl) ?_
              obtain ⟨cx, w2, hr, hb, hf⟩ := push_nil w1.heap.size u bx HF2.out (Nat.le_trans HW1s.out HBu.out.size)
              refine wpOpIn_append rfl rfl rfl (by rfl) _ _ _ _ rfl hr ?_
              have HBu0 := HBu
              have HBu : Hid (Below wr.heap.size wr w2) := Lib.hid (HBu0.out.trans (hb.mono HBu0.out.size))
              refine ⟨fun _ => HSS.out _ HBu.out, ?_⟩
              simp only [List.setIfInBounds_toArray, List.set_cons_zero, List.set_cons_succ]
              refine heldD_takeF (i := 8) (v := .pointer (some ⟨Bo, 1, none⟩)) rfl rfl rfl (by kernel_rfl) (by kernel_rfl) (by kernel_rfl) (by kernel_rfl) (fun _ _ _ h => h) (by rfl) (fun w => ⟨by rfl, by go_simp⟩) (fun _ => HSS.out _ HBu.out) ?_
              simp only [List.setIfInBounds_toArray, List.set_cons_zero, List.set_cons_succ]
              have q := sz_2_3_6 _ bx u.heap.size cx by_ HBu (Lib.hid (HF2.out.below hb HF2.out.lt)) (Lib.hid hf) (Lib.hid (HF6.out.below hb HF6.out.lt))
              rw [HH.out, HT.out] at q
              simp only [List.setIfInBounds_toArray, List.set_cons_zero, List.set_cons_succ] at q ⊢
              exact q
            have sz_2_3 : ∀ (u : World) (bx : Nat) (gx : Nat) (cx : Nat), Hid (Below wr.heap.size wr u) → Hid (Blk u bx #[(.int .i64 0)] 2 (0, 0)) → Hid (IsRow u gx ∧ u.ownsRow w1.heap.size 2 1 (.slice (some ⟨gx, 0, none⟩) 1 cx) 1 [.int .i64 0]) → H 5 #[true, true, true, true, true, true, false, false, true, false, false, false] { tmps := (((T.setIfInBounds 32 (.slice (some ⟨bx, 0, none⟩) 1 1)).setIfInBounds 33 (.slice (some ⟨gx, 0, none⟩) 1 cx)).setIfInBounds 38 (.pointer (some ⟨Bo, 1, none⟩))), defers := [] } u := by
              clear HBu
              intro u bx gx cx HBu HF2 HF3
              rw [HH.out, HT.out]
              simp only [List.setIfInBounds_toArray, List.set_cons_zero, List.set_cons_succ]
              refine heldD_one (i := 6) (by kernel_rfl) ?_
              have hb : Below u.heap.size u (u.alloc (.cells #[(.int .i64 0)] 2)) := (Below.refl _ _).alloc (Nat.le_refl _) _
              have hf : Blk (u.alloc (.cells #[(.int .i64 0)] 2)) u.heap.size #[(.int .i64 0)] 2 (0, 0) := Blk.new _ _ _ _
              refine wpOpIn_value (v := .slice (some ⟨u.heap.size, 0, none⟩) 1 1) (w' := (u.alloc (.cells #[(.int .i64 0)] 2))) rfl rfl rfl (by rfl) (by rfl) (by go_simp) ?_
              have HBu0 := HBu
              have HBu : Hid (Below wr.heap.size wr (u.alloc (.cells #[(.int .i64 0)] 2))) := Lib.hid (HBu0.out.trans (hb.mono HBu0.out.size))
              refine ⟨fun _ => HSS.out _ HBu.out, ?_⟩
              simp only [List.setIfInBounds_toArray, List.set_cons_zero, List.set_cons_succ]
              have q := sz_2_3_6 _ bx gx cx u.heap.size HBu (Lib.hid (HF2.out.below hb HF2.out.lt)) (Lib.hid (⟨HF3.out.1.below hb, ownsRow_below HF3.out.2 hb⟩)) (Lib.hid hf)
              rw [HH.out, HT.out] at q
              simp only [List.setIfInBounds_toArray, List.set_cons_zero, List.set_cons_succ] at q ⊢
              exact q
            have sz_6 : ∀ (u : World) (by_ : Nat), Hid (Below wr.heap.size wr u) → Hid (Blk u by_ #[(.int .i64 0)] 2 (0, 0)) → H 7 #[true, true, false, false, true, true, true, false, false, false, false, false] { tmps := (T.setIfInBounds 36 (.slice (some ⟨by_, 0, none⟩) 1 1)), defers := [] } u := by
              clear HBu
              intro u by_ HBu HF6
              rw [HH.out, HT.out]
              simp only [List.setIfInBounds_toArray, List.set_cons_zero, List.set_cons_succ]
              refine heldD_one (i := 2) (by kernel_rfl) ?_
              have hb : Below u.heap.size u (u.alloc (.cells #[(.int .i64 0)] 2)) := (Below.refl _ _).alloc (Nat.le_refl _) _
              have hf : Blk (u.alloc (.cells #[(.int .i64 0)] 2)) u.heap.size #[(.int .i64 0)] 2 (0, 0) := Blk.new _ _ _ _
              refine wpOpIn_value (v := .slice (some ⟨u.heap.size, 0, none⟩) 1 1) (w' := (u.alloc (.cells #[(.int .i64 0)] 2))) rfl rfl rfl (by rfl) (by rfl) (by go_simp) ?_
              have HBu0 := HBu
              have HBu : Hid (Below wr.heap.size wr (u.alloc (.cells #[(.int .i64 0)] 2))) := Lib.hid (HBu0.out.trans (hb.mono HBu0.out.size))
              refine ⟨fun _ => HSS.out _ HBu.out, ?_⟩
              simp only [List.setIfInBounds_toArray, List.set_cons_zero, List.set_cons_succ]
              have q := sz_2_6 _ u.heap.size by_ HBu (Lib.hid hf) (Lib.hid (HF6.out.below hb HF6.out.lt))
              rw [HH.out, HT.out] at q
              simp only [List.setIfInBounds_toArray, List.set_cons_zero, List.set_cons_succ] at q ⊢
              exact q
            have sz_2 : ∀ (u : World) (bx : Nat), Hid (Below wr.heap.size wr u) → Hid (Blk u bx #[(.int .i64 0)] 2 (0, 0)) → H 7 #[true, true, true, false, true, true, false, false, false, false, false, false] { tmps := (T.setIfInBounds 32 (.slice (some ⟨bx, 0, none⟩) 1 1)), defers := [] } u := by
              clear HBu
              intro u bx HBu HF2
              rw [HH.out, HT.out]
              simp only [List.setIfInBounds_toArray, List.set_cons_zero, List.set_cons_succ]
              refine heldD_two (i := 3) (k := 6) (by kernel_rfl) ?_ ?_
              · obtain ⟨cx, w2, hr, hb, hf⟩ := push_nil w1.heap.size u bx HF2.out (Nat.le_trans HW1s.out HBu.out.size)
                refine wpOpIn_append rfl rfl rfl (by rfl) _ _ _ _ rfl hr ?_
                have HBu0 := HBu
                have HBu : Hid (Below wr.heap.size wr w2) := Lib.hid (HBu0.out.trans (hb.mono HBu0.out.size))
                refine ⟨fun _ => HSS.out _ HBu.out, ?_⟩
                simp only [List.setIfInBounds_toArray, List.set_cons_zero, List.set_cons_succ]
                refine heldD_takeF (i := 8) (v := .pointer (some ⟨Bo, 1, none⟩)) rfl rfl rfl (by kernel_rfl) (by kernel_rfl) (by kernel_rfl) (by kernel_rfl) (fun _ _ _ h => h) (by rfl) (fun w => ⟨by rfl, by go_simp⟩) (fun _ => HSS.out _ HBu.out) ?_
                simp only [List.setIfInBounds_toArray, List.set_cons_zero, List.set_cons_succ]
                have q := sz_2_3 _ bx u.heap.size cx HBu (Lib.hid (HF2.out.below hb HF2.out.lt)) (Lib.hid hf)
                rw [HH.out, HT.out] at q
                simp only [List.setIfInBounds_toArray, List.set_cons_zero, List.set_cons_succ] at q ⊢
                exact q
              · have hb : Below u.heap.size u (u.alloc (.cells #[(.int .i64 0)] 2)) := (Below.refl _ _).alloc (Nat.le_refl _) _
                have hf : Blk (u.alloc (.cells #[(.int .i64 0)] 2)) u.heap.size #[(.int .i64 0)] 2 (0, 0) := Blk.new _ _ _ _
                refine wpOpIn_value (v := .slice (some ⟨u.heap.size, 0, none⟩) 1 1) (w' := (u.alloc (.cells #[(.int .i64 0)] 2))) rfl rfl rfl (by rfl) (by rfl) (by go_simp) ?_
                have HBu0 := HBu
                have HBu : Hid (Below wr.heap.size wr (u.alloc (.cells #[(.int .i64 0)] 2))) := Lib.hid (HBu0.out.trans (hb.mono HBu0.out.size))
                refine ⟨fun _ => HSS.out _ HBu.out, ?_⟩
                simp only [List.setIfInBounds_toArray, List.set_cons_zero, List.set_cons_succ]
                have q := sz_2_6 _ bx u.heap.size HBu (Lib.hid (HF2.out.below hb HF2.out.lt)) (Lib.hid hf)
                rw [HH.out, HT.out] at q
                simp only [List.setIfInBounds_toArray, List.set_cons_zero, List.set_cons_succ] at q ⊢
                exact q
            have sz_ : ∀ (u : World), Hid (Below wr.heap.size wr u) → H 8 #[true, true, false, false, true, true, false, false, false, false, false, false] { tmps := T, defers := [] } u := by
              clear HBu
              intro u HBu
              rw [HH.out, HT.out]
              refine heldD_two (i := 2) (k := 6) (by kernel_rfl) ?_ ?_
              · have hb : Below u.heap.size u (u.alloc (.cells #[(.int .i64 0)] 2)) := (Below.refl _ _).alloc (Nat.le_refl _) _
                have hf : Blk (u.alloc (.cells #[(.int .i64 0)] 2)) u.heap.size #[(.int .i64 0)] 2 (0, 0) := Blk.new _ _ _ _
                refine wpOpIn_value (v := .slice (some ⟨u.heap.size, 0, none⟩) 1 1) (w' := (u.alloc (.cells #[(.int .i64 0)] 2))) rfl rfl rfl (by rfl) (by rfl) (by go_simp) ?_
                have HBu0 := HBu
                have HBu : Hid (Below wr.heap.size wr (u.alloc (.cells #[(.int .i64 0)] 2))) := Lib.hid (HBu0.out.trans (hb.mono HBu0.out.size))
                refine ⟨fun _ => HSS.out _ HBu.out, ?_⟩
                simp only [List.setIfInBounds_toArray, List.set_cons_zero, List.set_cons_succ]
                have q := sz_2 _ u.heap.size HBu (Lib.hid hf)
                rw [HH.out, HT.out] at q
                simp only [List.setIfInBounds_toArray, List.set_cons_zero, List.set_cons_succ] at q ⊢
                exact q
              · have hb : Below u.heap.size u (u.alloc (.cells #[(.int .i64 0)] 2)) := (Below.refl _ _).alloc (Nat.le_refl _) _
                have hf : Blk (u.alloc (.cells #[(.int .i64 0)] 2)) u.heap.size #[(.int .i64 0)] 2 (0, 0) := Blk.new _ _ _ _
                refine wpOpIn_value (v := .slice (some ⟨u.heap.size, 0, none⟩) 1 1) (w' := (u.alloc (.cells #[(.int .i64 0)] 2))) rfl rfl rfl (by rfl) (by rfl) (by go_simp) ?_
                have HBu0 := HBu
                have HBu : Hid (Below wr.heap.size wr (u.alloc (.cells #[(.int .i64 0)] 2))) := Lib.hid (HBu0.out.trans (hb.mono HBu0.out.size))
                refine ⟨fun _ => HSS.out _ HBu.out, ?_⟩
                simp only [List.setIfInBounds_toArray, List.set_cons_zero, List.set_cons_succ]
                have q := sz_6 _ u.heap.size HBu (Lib.hid hf)
                rw [HH.out, HT.out] at q
                simp only [List.setIfInBounds_toArray, List.set_cons_zero, List.set_cons_succ] at q ⊢
                exact q
            exact sz_ wk0 HBu
          clear HBu
          intro u bx gx cx by_ gy cy HBu HF2 HF3 HF6 HF7 HN3_7
          rw [HH.out, HT.out]
          simp only [List.setIfInBounds_toArray, List.set_cons_zero, List.set_cons_succ]
          clear HH HT
          have hIu := HI.out.below HBu.out
          have hO : Own3 w1.heap.size u (.slice (some ⟨gx, 0, none⟩) 1 cx) (.slice (some ⟨gy, 0, none⟩) 1 cy) (.slice none 0 0) ⟨(N : Nat), [0], [0], []⟩ := ⟨HF3.out.2, HF7.out.2, World.ownsRow_nil _ _ _ _, fun b h1 h2 => HN3_7.out (by
            have e1 : gx = b := by simpa [Value.ownBlock] using h1
            have e2 : gy = b := by simpa [Value.ownBlock] using h2
            omega)⟩
          have m1 := hIu.blk.cell 1; have m2 := hIu.blk.cell 2
          simp only [List.getElem?_toArray, List.getElem?_cons_succ, List.getElem?_cons_zero] at m1 m2
          have f1 := hIu.blk.free 1 (Or.inr (Nat.zero_le _)); have f2 := hIu.blk.free 2 (Or.inr (Nat.zero_le _))
          have hz : OutI w1 Bo (.slice (some ⟨gx, 0, none⟩) 1 cx) (.slice (some ⟨gy, 0, none⟩) 1 cy) (.slice none 0 0) ⟨(N : Nat), [0], [0], []⟩ ((u.setCell ⟨Bo, 1, none⟩ (.slice (some ⟨gx, 0, none⟩) 1 cx)).setCell ⟨Bo, 2, none⟩ (.slice (some ⟨gy, 0, none⟩) 1 cy)) :=
            ⟨(hIu.blk.set 1 _).set 2 _, (hO.set (p := ⟨Bo, 1, none⟩) hIu.blk (by decide) (by decide) _).set (p := ⟨Bo, 2, none⟩) (hIu.blk.set 1 _) (by decide) (by decide) _, (hIu.kept.setCell (p := ⟨Bo, 1, none⟩) rfl _).setCell (p := ⟨Bo, 2, none⟩) rfl _⟩
          have HZ := Lib.hid hz
          clear hIu hO hz
          refine heldD_one (i := 9) (by kernel_rfl) ?_
          refine wpOpIn_skip (w' := u.setCell ⟨Bo, 1, none⟩ (.slice (some ⟨gx, 0, none⟩) 1 cx)) rfl rfl rfl (by rfl) (by rfl) (by go_simp) ?_
          refine ⟨fun h => (by cases h), ?_⟩
          refine heldD_takeF (i := 10) (v := .pointer (some ⟨Bo, 2, none⟩)) rfl rfl rfl (by kernel_rfl) (by kernel_rfl) (by kernel_rfl) (by kernel_rfl) (fun _ _ _ h => h) (by rfl) (fun w => ⟨by rfl, by go_simp⟩) (fun h => (by cases h)) ?_
          simp only [List.setIfInBounds_toArray, List.set_cons_zero, List.set_cons_succ]
          refine heldD_one (i := 11) (by kernel_rfl) ?_
          refine wpOpIn_skip (w' := (u.setCell ⟨Bo, 1, none⟩ (.slice (some ⟨gx, 0, none⟩) 1 cx)).setCell ⟨Bo, 2, none⟩ (.slice (some ⟨gy, 0, none⟩) 1 cy)) rfl rfl rfl (by rfl) (by rfl) (by go_simp) ?_
          refine ⟨fun h => (by cases h), ?_⟩
          refine heldD_done (by kernel_rfl) ?_ _
          generalize (u.setCell ⟨Bo, 1, none⟩ (.slice (some ⟨gx, 0, none⟩) 1 cx)).setCell ⟨Bo, 2, none⟩ (.slice (some ⟨gy, 0, none⟩) 1 cy) = W8 at *
          clear m1 m2 f1 f2 HSS HF2 HF3 HF6 HF7 HBu
          go_wp2_with fail
          go_roundw
          case rel =>
            have hR : ∃ k : Nat, k ≤ N ∧ Value.int .i64 1 = .int .i64 k ∧ Hid (∃ vx vy, OutI w1 Bo vx vy (.slice none 0 0) ⟨(N : Nat), (List.range k).map (placedE [] Y []), (List.range k).map (placedE [] Y Y), []⟩ W8 ∧ (k = 0 → vx = .slice none 0 0 ∧ vy = .slice none 0 0)) := by
              refine ⟨1, by omega, rfl, Lib.hid ⟨(.slice (some ⟨gx, 0, none⟩) 1 cx), (.slice (some ⟨gy, 0, none⟩) 1 cy), ?_, fun h => by cases h⟩⟩
              have q1 : (List.range 1).map (placedE [] Y []) = [0] := by rw [show List.range 1 = [0] from rfl, List.map_cons, eX.out]; rfl
              have q2 : (List.range 1).map (placedE [] Y Y) = [0] := by rw [show List.range 1 = [0] from rfl, List.map_cons, eY.out]; rfl
              rw [q1, q2]
              exact HZ.out
            (repeat apply Exists.intro)
            exact ⟨hR, rfl⟩
          case measure => simp [intOf]; omega
        · obtain rfl : Y = [] := List.eq_nil_of_length_eq_zero (by have : X.length ≠ 0 := fun h => hX0 (List.eq_nil_of_length_eq_zero h); omega)
          clear hin hcase
          go_wp2_with fail
          refine wp_region_heldD (fun w' => w'.cell? ⟨Bo, 1, none⟩ = some (.slice none 0 0) ∧ w'.cell? ⟨Bo, 2, none⟩ = some (.slice none 0 0)) 9 rfl ?_
          change heldD _ _ _ _ _ _ _ 12 _ _ wr.drew
          obtain ⟨wk0, hu0⟩ : ∃ u, u = wr.drew := ⟨_, rfl⟩
          have HBu := Lib.hid (show Below wr.heap.size wr wk0 by rw [hu0]; exact (Below.refl _ _).drew)
          rw [← hu0]
          clear hu0
          refine heldD_takeF (i := 0) (v := .pointer (some ⟨Bo, 1, none⟩)) rfl rfl rfl (by kernel_rfl) (by kernel_rfl) (by kernel_rfl) (by kernel_rfl) (fun _ _ _ h => h) (by rfl) (fun w => ⟨by rfl, by go_simp⟩) (fun _ => HSS.out _ HBu.out) ?_
          simp only [List.setIfInBounds_toArray, List.set_cons_zero, List.set_cons_succ]
          refine heldD_take (i := 1) (v := .slice none 0 0) rfl rfl rfl (by kernel_rfl) (by kernel_rfl) (by kernel_rfl) (by kernel_rfl) (by kernel_rfl) (by kernel_rfl) (fun _ _ _ h => h) (by rfl) (fun w hS => ⟨by rfl, by obtain ⟨hS1, hS2⟩ := hS; go_simp⟩) (HSS.out _ HBu.out) ?_
          simp only [List.setIfInBounds_toArray, List.set_cons_zero, List.set_cons_succ]
          refine heldD_takeF (i := 4) (v := .pointer (some ⟨Bo, 2, none⟩)) rfl rfl rfl (by kernel_rfl) (by kernel_rfl) (by kernel_rfl) (by kernel_rfl) (fun _ _ _ h => h) (by rfl) (fun w => ⟨by rfl, by go_simp⟩) (fun _ => HSS.out _ HBu.out) ?_
          simp only [List.setIfInBounds_toArray, List.set_cons_zero, List.set_cons_succ]
          refine heldD_take (i := 5) (v := .slice none 0 0) rfl rfl rfl (by kernel_rfl) (by kernel_rfl) (by kernel_rfl) (by kernel_rfl) (by kernel_rfl) (by kernel_rfl) (fun _ _ _ h => h) (by rfl) (fun w hS => ⟨by rfl, by obtain ⟨hS1, hS2⟩ := hS; go_simp⟩) (HSS.out _ HBu.out) ?_
          simp only [List.setIfInBounds_toArray, List.set_cons_zero, List.set_cons_succ]
          refine heldD_HT ?_
          intro H hH T hT
          have HH := Lib.hid hH; have HT := Lib.hid hT
          clear hH hT
          suffices sz_2_3_6_7 : ∀ (u : World) (bx : Nat) (gx : Nat) (cx : Nat) (by_ : Nat) (gy : Nat) (cy : Nat), Hid (Below wr.heap.size wr u) → Hid (Blk u bx #[(.int .i64 0)] 2 (0, 0)) → Hid (IsRow u gx ∧ u.ownsRow w1.heap.size 2 1 (.slice (some ⟨gx, 0, none⟩) 1 cx) 1 [.int .i64 0]) → Hid (Blk u by_ #[(.int .i64 0)] 2 (0, 0)) → Hid (IsRow u gy ∧ u.ownsRow w1.heap.size 2 1 (.slice (some ⟨gy, 0, none⟩) 1 cy) 1 [.int .i64 0]) → Hid (gx ≠ gy) → H 3 #[true, true, true, true, true, true, true, true, true, false, false, false] { tmps := (((((T.setIfInBounds 32 (.slice (some ⟨bx, 0, none⟩) 1 1)).setIfInBounds 33 (.slice (some ⟨gx, 0, none⟩) 1 cx)).setIfInBounds 36 (.slice (some ⟨by_, 0, none⟩) 1 1)).setIfInBounds 37 (.slice (some ⟨gy, 0, none⟩) 1 cy)).setIfInBounds 38 (.pointer (some ⟨Bo, 1, none⟩))), defers := [] } u from by
            have sz_2_3_6 : ∀ (u : World) (bx : Nat) (gx : Nat) (cx : Nat) (by_ : Nat), Hid (Below wr.heap.size wr u) → Hid (Blk u bx #[(.int .i64 0)] 2 (0, 0)) → Hid (IsRow u gx ∧ u.ownsRow w1.heap.size 2 1 (.slice (some ⟨gx, 0, none⟩) 1 cx) 1 [.int .i64 0]) → Hid (Blk u by_ #[(.int .i64 0)] 2 (0, 0)) → H 4 #[true, true, true, true, true, true, true, false, true, false, false, false] { tmps := ((((T.setIfInBounds 32 (.slice (some ⟨bx, 0, none⟩) 1 1)).setIfInBounds 33 (.slice (some ⟨gx, 0, none⟩) 1 cx)).setIfInBounds 36 (.slice (some ⟨by_, 0, none⟩) 1 1)).setIfInBounds 38 (.pointer (some ⟨Bo, 1, none⟩))), defers := [] } u := by
              clear HBu
              intro u bx gx cx by_ HBu HF2 HF3 HF6
              rw [HH.out, HT.out]
              simp only [List.setIfInBounds_toArray, List.set_cons_zero, List.set_cons_succ]
              refine heldD_one (i := 7) (by kernel_rfl) ?_
              obtain ⟨cy, w2, hr, hb, hf⟩ := push_nil w1.heap.size u by_ HF6.out (Nat.le_trans HW1s.out HBu.out.size)
              refine wpOpIn_append rfl rfl rfl (by rfl) _ _ _ _ rfl hr ?_
              have HBu0 := HBu
              have HBu : Hid (Below wr.heap.size wr w2) := Lib.hid (HBu0.out.trans (hb.mono HBu0.out.size))
              refine ⟨fun _ => HSS.out _ HBu.out, ?_⟩
              simp only [List.setIfInBounds_toArray, List.set_cons_zero, List.set_cons_succ]
              have q := sz_2_3_6_7 _ bx gx cx by_ u.heap.size cy HBu (Lib.hid (HF2.out.below hb HF2.out.lt)) (Lib.hid (⟨HF3.out.1.below hb, ownsRow_below HF3.out.2 hb⟩)) (Lib.hid (HF6.out.below hb HF6.out.lt)) (Lib.hid hf) (Lib.hid (by have q := HF3.out.1.lt; omega))
              rw [HH.out, HT.out] at q
              simp only [List.setIfInBounds_toArray, List.set_cons_zero, List.set_cons_succ] at q ⊢
              exact q
            have sz_2_6 : ∀ (u : World) (bx : Nat) (by_ : Nat), Hid (Below wr.heap.size wr u) → Hid (Blk u bx #[(.int .i64 0)] 2 (0, 0)) → Hid (Blk u by_ #[(.int .i64 0)] 2 (0, 0)) → H 6 #[true, true, true, false, true, true, true, false, false, false, false, false] { tmps := ((T.setIfInBounds 32 (.slice (some ⟨bx, 0, none⟩) 1 1)).setIfInBounds 36 (.slice (some ⟨by_, 0, none⟩) 1 1)), defers := [] } u := by
              clear HBu
              intro u bx by_ HBu HF2 HF6
              rw [HH.out, HT.out]
              simp only [List.setIfInBounds_toArray, List.set_cons_zero, List.set_cons_succ]
              refine heldD_one (i := 3) (by kernel_rfl) ?_
              obtain ⟨cx, w2, hr, hb, hf⟩ := push_nil w1.heap.size u bx HF2.out (Nat.le_trans HW1s.out HBu.out.size)
              refine wpOpIn_append rfl rfl rfl (by rfl) _ _ _ _ rfl hr ?_
              have HBu0 := HBu
              have HBu : Hid (Below wr.heap.size wr w2) := Lib.hid (HBu0.out.trans (hb.mono HBu0.out.size))
              refine ⟨fun _ => HSS.out _ HBu.out, ?_⟩
              simp only [List.setIfInBounds_toArray, List.set_cons_zero, List.set_cons_succ]
              refine heldD_takeF (i := 8) (v := .pointer (some ⟨Bo, 1, none⟩)) rfl rfl rfl (by kernel_rfl) (by kernel_rfl) (by kernel_rfl) (by kernel_rfl) (fun _ _ _ h => h) (by rfl) (fun w => ⟨by rfl, by go_simp⟩) (fun _ => HSS.out _ HBu.out) ?_
              simp only [List.setIfInBounds_toArray, List.set_cons_zero, List.set_cons_succ]
              have q := sz_2_3_6 _ bx u.heap.size cx by_ HBu (Lib.hid (HF2.out.below hb HF2.out.lt)) (Lib.hid hf) (Lib.hid (HF6.out.below hb HF6.out.lt))
              rw [HH.out, HT.out] at q
              simp only [List.setIfInBounds_toArray, List.set_cons_zero, List.set_cons_succ] at q ⊢
              exact q
            have sz_2_3 : ∀ (u : World) (bx : Nat) (gx : Nat) (cx : Nat), Hid (Below wr.heap.size wr u) → Hid (Blk u bx #[(.int .i64 0)] 2 (0, 0)) → Hid (IsRow u gx ∧ u.ownsRow w1.heap.size 2 1 (.slice (some ⟨gx, 0, none⟩) 1 cx) 1 [.int .i64 0]) → H 5 #[true, true, true, true, true, true, false, false, true, false, false, false] { tmps := (((T.setIfInBounds 32 (.slice (some ⟨bx, 0, none⟩) 1 1)).setIfInBounds 33 (.slice (some ⟨gx, 0, none⟩) 1 cx)).setIfInBounds 38 (.pointer (some ⟨Bo, 1, none⟩))), defers := [] } u := by
              clear HBu
              intro u bx gx cx HBu HF2 HF3
              rw [HH.out, HT.out]
              simp only [List.setIfInBounds_toArray, List.set_cons_zero, List.set_cons_succ]
              refine heldD_one (i := 6) (by kernel_rfl) ?_
              have hb : Below u.heap.size u (u.alloc (.cells #[(.int .i64 0)] 2)) := (Below.refl _ _).alloc (Nat.le_refl _) _
              have hf : Blk (u.alloc (.cells #[(.int .i64 0)] 2)) u.heap.size #[(.int .i64 0)] 2 (0, 0) := Blk.new _ _ _ _
              refine wpOpIn_value (v := .slice (some ⟨u.heap.size, 0, none⟩) 1 1) (w' := (u.alloc (.cells #[(.int .i64 0)] 2))) rfl rfl rfl (by rfl) (by rfl) (by go_simp) ?_
              have HBu0 := HBu
              have HBu : Hid (Below wr.heap.size wr (u.alloc (.cells #[(.int .i64 0)] 2))) := Lib.hid (HBu0.out.trans (hb.mono HBu0.out.size))
              refine ⟨fun _ => HSS.out _ HBu.out, ?_⟩
              simp only [List.setIfInBounds_toArray, List.set_cons_zero, List.set_cons_succ]
              have q := sz_2_3_6 _ bx gx cx u.heap.size HBu (Lib.hid (HF2.out.below hb HF2.out.lt)) (Lib.hid (⟨HF3.out.1.below hb, ownsRow_below HF3.out.2 hb⟩)) (Lib.hid hf)
              rw [HH.out, HT.out] at q
              simp only [List.setIfInBounds_toArray, List.set_cons_zero, List.set_cons_succ] at q ⊢
              exact q
            have sz_6 : ∀ (u : World) (by_ : Nat), Hid (Below wr.heap.size wr u) → Hid (Blk u by_ #[(.int .i64 0)] 2 (0, 0)) → H 7 #[true, true, false, false, true, true, true, false, false, false, false, false] { tmps := (T.setIfInBounds 36 (.slice (some ⟨by_, 0, none⟩) 1 1)), defers := [] } u := by
              clear HBu
              intro u by_ HBu HF6
              rw [HH.out, HT.out]
              simp only [List.setIfInBounds_toArray, List.set_cons_zero, List.set_cons_succ]
              refine heldD_one (i := 2) (by kernel_rfl) ?_
              have hb : Below u.heap.size u (u.alloc (.cells #[(.int .i64 0)] 2)) := (Below.refl _ _).alloc (Nat.le_refl _) _
              have hf : Blk (u.alloc (.cells #[(.int .i64 0)] 2)) u.heap.size #[(.int .i64 0)] 2 (0, 0) := Blk.new _ _ _ _
              refine wpOpIn_value (v := .slice (some ⟨u.heap.size, 0, none⟩) 1 1) (w' := (u.alloc (.cells #[(.int .i64 0)] 2))) rfl rfl rfl (by rfl) (by rfl) (by go_simp) ?_
              have HBu0 := HBu
              have HBu : Hid (Below wr.heap.size wr (u.alloc (.cells #[(.int .i64 0)] 2))) := Lib.hid (HBu0.out.trans (hb.mono HBu0.out.size))
              refine ⟨fun _ => HSS.out _ HBu.out, ?_⟩
              simp only [List.setIfInBounds_toArray, List.set_cons_zero, List.set_cons_succ]
              have q := sz_2_6 _ u.heap.size by_ HBu (Lib.hid hf) (Lib.hid (HF6.out.below hb HF6.out.lt))
              rw [HH.out, HT.out] at q
              simp only [List.setIfInBounds_toArray, List.set_cons_zero, List.set_cons_succ] at q ⊢
              exact q
            have sz_2 : ∀ (u : World) (bx : Nat), Hid (Below wr.heap.size wr u) → Hid (Blk u bx #[(.int .i64 0)] 2 (0, 0)) → H 7 #[true, true, true, false, true, true, false, false, false, false, false, false] { tmps := (T.setIfInBounds 32 (.slice (some ⟨bx, 0, none⟩) 1 1)), defers := [] } u := by
              clear HBu
              intro u bx HBu HF2
              rw [HH.out, HT.out]
              simp only [List.setIfInBounds_toArray, List.set_cons_zero, List.set_cons_succ]
              refine heldD_two (i := 3) (k := 6) (by kernel_rfl) ?_ ?_
              · obtain ⟨cx, w2, hr, hb, hf⟩ := push_nil w1.heap.size u bx HF2.out (Nat.le_trans HW1s.out HBu.out.size)
                refine wpOpIn_append rfl rfl rfl (by rfl) _ _ _ _ rfl hr ?_
                have HBu0 := HBu
                have HBu : Hid (Below wr.heap.size wr w2) := Lib.hid (HBu0.out.trans (hb.mono HBu0.out.size))
                refine ⟨fun _ => HSS.out _ HBu.out, ?_⟩
                simp only [List.setIfInBounds_toArray, List.set_cons_zero, List.set_cons_succ]
                refine heldD_takeF (i := 8) (v := .pointer (some ⟨Bo, 1, none⟩)) rfl rfl rfl (by kernel_rfl) (by kernel_rfl) (by kernel_rfl) (by kernel_rfl) (fun _ _ _ h => h) (by rfl) (fun w => ⟨by rfl, by go_simp⟩) (fun _ => HSS.out _ HBu.out) ?_
                simp only [List.setIfInBounds_toArray, List.set_cons_zero, List.set_cons_succ]
                have q := sz_2_3 _ bx u.heap.size cx HBu (Lib.hid (HF2.out.below hb HF2.out.lt)) (Lib.hid hf)
                rw [HH.out, HT.out] at q
                simp only [List.setIfInBounds_toArray, List.set_cons_zero, List.set_cons_succ] at q ⊢
                exact q
              · have hb : Below u.heap.size u (u.alloc (.cells #[(.int .i64 0)] 2)) := (Below.refl _ _).alloc (Nat.le_refl _) _
                have hf : Blk (u.alloc (.cells #[(.int .i64 0)] 2)) u.heap.size #[(.int .i64 0)] 2 (0, 0) := Blk.new _ _ _ _
                refine wpOpIn_value (v := .slice (some ⟨u.heap.size, 0, none⟩) 1 1) (w' := (u.alloc (.cells #[(.int .i64 0)] 2))) rfl rfl rfl (by rfl) (by rfl) (by go_simp) ?_
                have HBu0 := HBu
                have HBu : Hid (Below wr.heap.size wr (u.alloc (.cells #[(.int .i64 0)] 2))) := Lib.hid (HBu0.out.trans (hb.mono HBu0.out.size))
                refine ⟨fun _ => HSS.out _ HBu.out, ?_⟩
                simp only [List.setIfInBounds_toArray, List.set_cons_zero, List.set_cons_succ]
                have q := sz_2_6 _ bx u.heap.size HBu (Lib.hid (HF2.out.below hb HF2.out.lt)) (Lib.hid hf)
                rw [HH.out, HT.out] at q
                simp only [List.setIfInBounds_toArray, List.set_cons_zero, List.set_cons_succ] at q ⊢
                exact q
            have sz_ : ∀ (u : World), Hid (Below wr.heap.size wr u) → H 8 #[true, true, false, false, true, true, false, false, false, false, false, false] { tmps := T, defers := [] } u := by
              clear HBu
              intro u HBu
              rw [HH.out, HT.out]
              refine heldD_two (i := 2) (k := 6) (by kernel_rfl) ?_ ?_
              · have hb : Below u.heap.size u (u.alloc (.cells #[(.int .i64 0)] 2)) := (Below.refl _ _).alloc (Nat.le_refl _) _
                have hf : Blk (u.alloc (.cells #[(.int .i64 0)] 2)) u.heap.size #[(.int .i64 0)] 2 (0, 0) := Blk.new _ _ _ _
                refine wpOpIn_value (v := .slice (some ⟨u.heap.size, 0, none⟩) 1 1) (w' := (u.alloc (.cells #[(.int .i64 0)] 2))) rfl rfl rfl (by rfl) (by rfl) (by go_simp) ?_
                have HBu0 := HBu
                have HBu : Hid (Below wr.heap.size wr (u.alloc (.cells #[(.int .i64 0)] 2))) := Lib.hid (HBu0.out.trans (hb.mono HBu0.out.size))
                refine ⟨fun _ => HSS.out _ HBu.out, ?_⟩
                simp only [List.setIfInBounds_toArray, List.set_cons_zero, List.set_cons_succ]
                have q := sz_2 _ u.heap.size HBu (Lib.hid hf)
                rw [HH.out, HT.out] at q
                simp only [List.setIfInBounds_toArray, List.set_cons_zero, List.set_cons_succ] at q ⊢
                exact q
              · have hb : Below u.heap.size u (u.alloc (.cells #[(.int .i64 0)] 2)) := (Below.refl _ _).alloc (Nat.le_refl _) _
                have hf : Blk (u.alloc (.cells #[(.int .i64 0)] 2)) u.heap.size #[(.int .i64 0)] 2 (0, 0) := Blk.new _ _ _ _
                refine wpOpIn_value (v := .slice (some ⟨u.heap.size, 0, none⟩) 1 1) (w' := (u.alloc (.cells #[(.int .i64 0)] 2))) rfl rfl rfl (by rfl) (by rfl) (by go_simp) ?_
                have HBu0 := HBu
                have HBu : Hid (Below wr.heap.size wr (u.alloc (.cells #[(.int .i64 0)] 2))) := Lib.hid (HBu0.out.trans (hb.mono HBu0.out.size))
                refine ⟨fun _ => HSS.out _ HBu.out, ?_⟩
                simp only [List.setIfInBounds_toArray, List.set_cons_zero, List.set_cons_succ]
                have q := sz_6 _ u.heap.size HBu (Lib.hid hf)
                rw [HH.out, HT.out] at q
                simp only [List.setIfInBounds_toArray, List.set_cons_zero, List.set_cons_succ] at q ⊢
                exact q
            exact sz_ wk0 HBu
          clear HBu
          intro u bx gx cx by_ gy cy HBu HF2 HF3 HF6 HF7 HN3_7
          rw [HH.out, HT.out]
          simp only [List.setIfInBounds_toArray, List.set_cons_zero, List.set_cons_succ]
          clear HH HT
          have hIu := HI.out.below HBu.out
          have hO : Own3 w1.heap.size u (.slice (some ⟨gx, 0, none⟩) 1 cx) (.slice (some ⟨gy, 0, none⟩) 1 cy) (.slice none 0 0) ⟨(N : Nat), [0], [0], []⟩ := ⟨HF3.out.2, HF7.out.2, World.ownsRow_nil _ _ _ _, fun b h1 h2 => HN3_7.out (by
            have e1 : gx = b := by simpa [Value.ownBlock] using h1
            have e2 : gy = b := by simpa [Value.ownBlock] using h2
            omega)⟩
          have m1 := hIu.blk.cell 1; have m2 := hIu.blk.cell 2
          simp only [List.getElem?_toArray, List.getElem?_cons_succ, List.getElem?_cons_zero] at m1 m2
          have f1 := hIu.blk.free 1 (Or.inr (Nat.zero_le _)); have f2 := hIu.blk.free 2 (Or.inr (Nat.zero_le _))
          have hz : OutI w1 Bo (.slice (some ⟨gx, 0, none⟩) 1 cx) (.slice (some ⟨gy, 0, none⟩) 1 cy) (.slice none 0 0) ⟨(N : Nat), [0], [0], []⟩ ((u.setCell ⟨Bo, 1, none⟩ (.slice (some ⟨gx, 0, none⟩) 1 cx)).setCell ⟨Bo, 2, none⟩ (.slice (some ⟨gy, 0, none⟩) 1 cy)) :=
            ⟨(hIu.blk.set 1 _).set 2 _, (hO.set (p := ⟨Bo, 1, none⟩) hIu.blk (by decide) (by decide) _).set (p := ⟨Bo, 2, none⟩) (hIu.blk.set 1 _) (by decide) (by decide) _, (hIu.kept.setCell (p := ⟨Bo, 1, none⟩) rfl _).setCell (p := ⟨Bo, 2, none⟩) rfl _⟩
          have HZ := Lib.hid hz
          clear hIu hO hz
          refine heldD_one (i := 9) (by kernel_rfl) ?_
          refine wpOpIn_skip (w' := u.setCell ⟨Bo, 1, none⟩ (.slice (some ⟨gx, 0, none⟩) 1 cx)) rfl rfl rfl (by rfl) (by rfl) (by go_simp) ?_
          refine ⟨fun h => (by cases h), ?_⟩
          refine heldD_takeF (i := 10) (v := .pointer (some ⟨Bo, 2, none⟩)) rfl rfl rfl (by kernel_rfl) (by kernel_rfl) (by kernel_rfl) (by kernel_rfl) (fun _ _ _ h => h) (by rfl) (fun w => ⟨by rfl, by go_simp⟩) (fun h => (by cases h)) ?_
          simp only [List.setIfInBounds_toArray, List.set_cons_zero, List.set_cons_succ]
          refine heldD_one (i := 11) (by kernel_rfl) ?_
          refine wpOpIn_skip (w' := (u.setCell ⟨Bo, 1, none⟩ (.slice (some ⟨gx, 0, none⟩) 1 cx)).setCell ⟨Bo, 2, none⟩ (.slice (some ⟨gy, 0, none⟩) 1 cy)) rfl rfl rfl (by rfl) (by rfl) (by go_simp) ?_
          refine ⟨fun h => (by cases h), ?_⟩
          refine heldD_done (by kernel_rfl) ?_ _
          generalize (u.setCell ⟨Bo, 1, none⟩ (.slice (some ⟨gx, 0, none⟩) 1 cx)).setCell ⟨Bo, 2, none⟩ (.slice (some ⟨gy, 0, none⟩) 1 cy) = W8 at *
          clear m1 m2 f1 f2 HSS HF2 HF3 HF6 HF7 HBu
          go_wp2_with fail
          go_roundw
          case rel =>
            have hR : ∃ k : Nat, k ≤ N ∧ Value.int .i64 1 = .int .i64 k ∧ Hid (∃ vx vy, OutI w1 Bo vx vy (.slice none 0 0) ⟨(N : Nat), (List.range k).map (placedE X [] X), (List.range k).map (placedE X [] []), []⟩ W8 ∧ (k = 0 → vx = .slice none 0 0 ∧ vy = .slice none 0 0)) := by
              refine ⟨1, by omega, rfl, Lib.hid ⟨(.slice (some ⟨gx, 0, none⟩) 1 cx), (.slice (some ⟨gy, 0, none⟩) 1 cy), ?_, fun h => by cases h⟩⟩
              have q1 : (List.range 1).map (placedE X [] X) = [0] := by rw [show List.range 1 = [0] from rfl, List.map_cons, eX.out]; rfl
              have q2 : (List.range 1).map (placedE X [] []) = [0] := by rw [show List.range 1 = [0] from rfl, List.map_cons, eY.out]; rfl
              rw [q1, q2]
              exact HZ.out
            (repeat apply Exists.intro)
            exact ⟨hR, rfl⟩
          case measure => simp [intOf]; omega
    · obtain rfl : N = k := by omega
      have HI4 := HI
      have fx := HI4.out.own.1.one'; have fy := HI4.out.own.2.1.one'
      obtain ⟨xa, xn, xc, rfl⟩ := fx
      obtain ⟨ya, yn, yc, rfl⟩ := fy
      have bO := HI4.out.blk
      have c0 := bO.cell 0; have c1 := bO.cell 1; have c2 := bO.cell 2; have c3 := bO.cell 3
      simp only [List.getElem?_toArray, List.getElem?_cons_succ, List.getElem?_cons_zero] at c0 c1 c2 c3
      have bC3 := HI4.out.kept.blk HK2.out HLo.out.2.2.1
      have e0 := bC3.cell 0; have e1 := bC3.cell 1; have e2 := bC3.cell 2; have e3 := bC3.cell 3
      simp only [List.getElem?_toArray, List.getElem?_cons_succ, List.getElem?_cons_zero] at e0 e1 e2 e3
      have fr := fun i => bC3.free i (Or.inr (Nat.zero_le _))
      have f0 := fr 0; have f1 := fr 1; have f2 := fr 2; have f3 := fr 3
      have hle : w.heap.size ≤ Bs := HLo.out.2.1
      have bZ := (((bC3.set 0 (.int .i64 (N : Nat))).set 1 (.slice xa xn xc)).set 2 (.slice ya yn yc)).set 3 (.slice none 0 0)
      have R2 := (((HI4.out.own.set (p := ⟨Bs, 0, none⟩) bC3 (by decide) (by decide) (.int .i64 (N : Nat))).set (p := ⟨Bs, 1, none⟩) (bC3.set 0 (.int .i64 (N : Nat))) (by decide) (by decide) (.slice xa xn xc)).set (p := ⟨Bs, 2, none⟩) ((bC3.set 0 (.int .i64 (N : Nat))).set 1 (.slice xa xn xc)) (by decide) (by decide) (.slice ya yn yc)).set (p := ⟨Bs, 3, none⟩) (((bC3.set 0 (.int .i64 (N : Nat))).set 1 (.slice xa xn xc)).set 2 (.slice ya yn yc)) (by decide) (by decide) (.slice none 0 0)
      have B2 := ((((below_of HB1.out HI4.out.kept HLo.out.1).setCell (p := ⟨Bs, 0, none⟩) hle (.int .i64 (N : Nat))).setCell (p := ⟨Bs, 1, none⟩) hle (.slice xa xn xc)).setCell (p := ⟨Bs, 2, none⟩) hle (.slice ya yn yc)).setCell (p := ⟨Bs, 3, none⟩) hle (.slice none 0 0)
      have HZ := Lib.hid bZ; have HR2 := Lib.hid R2; have HB2 := Lib.hid B2
      clear bZ R2 B2 bC3 bO fr hle HI4 HI HNil
      go_wp2_with fail
      generalize (((wr.setCell ⟨Bs, 0, none⟩ (.int .i64 (N : Nat))).setCell ⟨Bs, 1, none⟩ (.slice xa xn xc)).setCell ⟨Bs, 2, none⟩ (.slice ya yn yc)).setCell ⟨Bs, 3, none⟩ (.slice none 0 0) = wz at *
      have z0 := HZ.out.cell 0; have z1 := HZ.out.cell 1; have z2 := HZ.out.cell 2; have z3 := HZ.out.cell 3
      change wz.cell? ⟨Bs, 0, none⟩ = some (.int .i64 (N : Nat)) at z0
      change wz.cell? ⟨Bs, 1, none⟩ = some (.slice xa xn xc) at z1
      change wz.cell? ⟨Bs, 2, none⟩ = some (.slice ya yn yc) at z2
      change wz.cell? ⟨Bs, 3, none⟩ = some (.slice none 0 0) at z3
      have hbs := HLo.out.2.2.2
      exact bodyPost_ret (v := .agg #[.int .i64 (N : Nat), .slice xa xn xc, .slice ya yn yc, .slice none 0 0]) (by simp [results, Tryd.results11, go_sem, z0, z1, z2, z3]) rfl ⟨_, rfl, by rw [HV.out]; exact ⟨_, _, _, rfl, ownsRow_le HR2.out.1 (Nat.le_of_lt hbs), ownsRow_le HR2.out.2.1 (Nat.le_of_lt hbs), ownsRow_le HR2.out.2.2.1 (Nat.le_of_lt hbs), HR2.out.2.2.2⟩, HB2.out⟩
end Go.Proofs.YtlddcnkiigamjaaDoor
