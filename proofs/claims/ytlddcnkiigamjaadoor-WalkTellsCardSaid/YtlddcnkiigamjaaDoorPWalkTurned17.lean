/- Texts of the law WalkTurned, merged: WalkRefNodes, WalkRefCheck, WalkRefWalk, NetTurned, WalkLaw. -/
import Derived.Test.YtlddcnkiigamjaaDoorPWalkTurned07
import Derived.Test.YtlddcnkiigamjaaDoorPWalkTurned02
import Derived.Test.YtlddcnkiigamjaaDoorPWalkTurned06
import Derived.Test.YtlddcnkiigamjaaDoorPWalkTurned14
import Derived.Test.YtlddcnkiigamjaaDoorPWalkTurned16
import Derived.Test.YtlddcnkiigamjaaDoorPWalkTurned00
/- walks as they are written first: Nodes. -/
namespace Go.Proofs.YtlddcnkiigamjaaDoor
open Go.RowKit Go.Shelf
attribute [local go_sem] Oper.semAt_some
theorem nodesV_none {g : Raw} {s : Int} {L : List Int} (k : Nat) (h : wk g s (L.take k) = none) : nodesV g s L = none := by
  unfold nodesV
  have := wk_none (M := L.drop k) h
  rw [List.take_append_drop] at this
  rw [this]
  split <;> rfl
theorem arcI_in {g : Raw} {n : Nat} (h : n < g.arcs.length) : arcI g (n : Nat) = some g.arcs[n] := by
  unfold arcI
  rw [if_pos ⟨by omega, by omega⟩, Int.toNat_natCast, List.getElem?_eq_getElem h]
theorem arcI_out {g : Raw} {i : Int} (h : i < 0 ∨ (g.arcs.length : Int) ≤ i) : arcI g i = none := by
  unfold arcI
  rw [if_neg (by omega)]
theorem rowL_last {w : World} {base : Nat} {s : Int} {l : List Int} {v : Value} (h : w.ownsRow base 3 1 v (s :: l).length ((s :: l).flatMap inC)) : ∃ gp c, v = .slice (some ⟨gp, 0, none⟩) (l.length + 1) c ∧ w.cell? ⟨gp, l.length, none⟩ = some (.int .i64 (lastN s l)) ∧ (l.length : Int) + 1 ≤ (c : Int) := by
  obtain ⟨gp, c, rfl⟩ := ownsRow_succ (show w.ownsRow base 3 1 v (l.length + 1) _ from h)
  refine ⟨gp, c, rfl, ?_, ?_⟩
  · obtain ⟨b', o', e, c'⟩ := (slX_own rfl h).at l.length (by simp)
    obtain ⟨rfl, rfl⟩ : gp = b' ∧ 0 = o' := by simpa using e
    rw [Nat.zero_add] at c'
    rw [c']
    have : (s :: l)[l.length] = lastN s l := by
      unfold lastN
      cases l with
      | nil => rfl
      | cons a l =>
        rw [List.getElem_cons_length (by rfl)]
        rw [List.getLastD_cons, List.getLast_cons (by simp)]
        rw [List.getLast_eq_getLastD]
    rw [this]
  · rcases h.2 with ⟨e, _⟩ | ⟨_, _, _, e, _, _, h, _⟩
    · cases e
    · simp at e; obtain ⟨_, rfl⟩ := e; simp at h; omega
set_option maxRecDepth 100000 in
set_option maxHeartbeats 8000000 in
theorem refNodes_any (va : Value) (g : Raw) (s : Int) (v : Value) (L : List Int) (hL : L.length ≤ 100000) (w : World) (h : RawV w va g) (hl : SlX w v L) :
    Calls Tryd.prog 24 #[va, .int .i64 s, v] w fun e w' => ∃ x, e = .returned (.tuple #[x, .bool (nodesV g s L).isSome]) ∧ w'.ownsRow w.heap.size 3 1 x ((nodesV g s L).getD []).length (((nodesV g s L).getD []).flatMap inC) ∧ Below w.heap.size w w' := by
  obtain ⟨vx, vy, vz, rfl, hx, hy, ha⟩ := h
  have fx := hx.form; have fy := hy.form
  obtain ⟨aa, ac, rfl, hac, hmc, _⟩ := id ha
  unfold maxLen at hmc
  obtain ⟨xa, xn, xc, rfl⟩ := fx
  obtain ⟨ya, yn, yc, rfl⟩ := fy
  obtain ⟨va, ca, rfl, hca, hmca, _⟩ := id hl
  unfold maxLen at hmca
  obtain ⟨w1, hw1⟩ : ∃ w1, w1 = w.alloc (.cells #[.int .i64 g.nodes, .slice xa xn xc, .slice ya yn yc, .slice aa g.arcs.length ac] 26) := ⟨_, rfl⟩
  obtain ⟨B, hB⟩ : ∃ b, b = w.heap.size := ⟨_, rfl⟩
  have hb1 : Below w.heap.size w w1 := by rw [hw1]; exact (Below.refl _ _).alloc (Nat.le_refl _) _
  have hlt : B < w1.heap.size := by rw [hw1, hB]; simp
  have hc3 : w1.cell? ⟨B, 3, none⟩ = some (.slice aa g.arcs.length ac) := by rw [hw1, hB]; exact (Blk.new _ _ _ _).cell 3
  have HA := Lib.hid (ha.keep (KpC.of_below hb1)); have HLs := Lib.hid (hl.keep (KpC.of_below hb1)); have HB1 := Lib.hid hb1; have HW1 := Lib.hid hw1; have HC3 := Lib.hid hc3; have HLt := Lib.hid hlt
  clear hx hy ha hb1 hw1 hc3 hlt hl
  have r1 : g.nodes ≤ s → ¬ s < g.nodes := fun h => by omega
  by_cases h0 : s < 0
  · have hno : nodesV g s L = none := by unfold nodesV; rw [if_neg (by omega)]
    rw [hno]
    have h0b : decide (s < 0) = true := decide_eq_true h0
    clear hno
    go_enter Tryd.func24, Tryd.ntmps24
    go_wp2_with fail
    go_ret2
    exact ⟨_, rfl, World.ownsRow_nil _ _ _ _, by rw [HW1.out] at HB1; exact HB1.out⟩
  by_cases h2 : g.nodes ≤ s
  · have hno : nodesV g s L = none := by unfold nodesV; rw [if_neg (by omega)]
    rw [hno]
    have h0b : decide (s < 0) = false := decide_eq_false h0
    have h2b : decide (g.nodes ≤ s) = true := decide_eq_true h2
    clear hno
    go_enter Tryd.func24, Tryd.ntmps24
    go_wp2_with fail
    go_ret2
    exact ⟨_, rfl, World.ownsRow_nil _ _ _ _, by rw [HW1.out] at HB1; exact HB1.out⟩
  have hs : 0 ≤ s ∧ s < g.nodes := ⟨by omega, by omega⟩
  have h0b : decide (s < 0) = false := decide_eq_false h0
  have h2b : decide (g.nodes ≤ s) = false := decide_eq_false h2
  clear r1
  go_enter Tryd.func24, Tryd.ntmps24
  go_wp2_with fail
  rw [← HW1.out, ← hB]
  have HBe := Lib.hid hB
  clear hB
  have hz1 : w1.heap.size = B + 1 := by rw [HW1.out, HBe.out]; simp
  have hI0 : (w1.alloc (.cells #[.int .i64 s] 3)).ownsRow (B + 1) 3 1 (.slice (some ⟨B + 1, 0, none⟩) 1 1) [s].length ([s].flatMap inC) :=
    ⟨rfl, .inr ⟨B + 1, 1, _, rfl, Nat.le_refl _, by rw [← hz1]; exact Blk.new _ _ _ _, Nat.le_refl _, by unfold maxLen; omega, rfl, rfl⟩⟩
  have HI0 := Lib.hid hI0
  clear hI0
  go_loopw [8, 9] (fun p i wr => ∃ (k : Nat) (lk : List Int) (vp : Value), vp = p ∧ k ≤ L.length ∧ i = .int .i64 k ∧ wk g s (L.take k) = some lk ∧ Hid (Below w1.heap.size w1 wr ∧ wr.ownsRow (B + 1) 3 1 vp (s :: lk).length ((s :: lk).flatMap inC))) (fun _ i _ => L.length - (intOf i).toNat)
  case atStart => exact ⟨0, [], _, rfl, Nat.zero_le _, rfl, rfl, Lib.hid ⟨(Below.refl _ _).alloc (Nat.le_refl _) _, HI0.out⟩⟩
  case round =>
    obtain ⟨k, lk, vp, rfl, hk, rfl, hwk, HWr⟩ := hrel
    have c3 := (World.cell?_of_block (HWr.out.1.block B HLt.out)).trans HC3.out
    have hlk := wk_len hwk
    rw [List.length_take, Nat.min_eq_left hk] at hlk
    by_cases hlt : k < L.length
    · have hltI : (k : Int) < (L.length : Int) := by omega
      have i1 : (0 : Int) ≤ (k : Int) := by omega
      obtain ⟨ba, oa, rfl, d0⟩ := (HLs.out.keep (KpC.of_below HWr.out.1)).at k hlt
      obtain ⟨i, hi⟩ : ∃ x, x = L[k] := ⟨_, rfl⟩
      rw [← hi] at d0
      have htk : L.take (k + 1) = L.take k ++ [i] := by rw [hi]; exact List.take_succ_eq_append_getElem hlt
      have hsn := wk_snoc (i := i) hwk
      rw [← htk] at hsn
      obtain ⟨gp, cp, evp, cl, hcp⟩ := rowL_last HWr.out.2
      rw [hlk] at evp
      subst evp
      obtain ⟨e, he⟩ : ∃ e, e = lastN s lk := ⟨_, rfl⟩
      rw [← he] at cl hsn
      rw [hlk] at cl hcp
      have HWk := Lib.hid hwk; have HLk := Lib.hid hlk
      clear hi htk hwk hlk
      by_cases hi0 : i < 0
      · have hi0b : decide (i < 0) = true := decide_eq_true hi0
        have hno := nodesV_none (L := L) (k + 1) (by rw [hsn, arcI_out (.inl hi0)])
        have HNo := Lib.hid hno
        clear hno hsn HA HLs
        go_upto_region 7 with fail
        go_quiet (fail)
        go_wp2_with fail
        go_ret2
        rw [HNo.out]
        exact ⟨_, rfl, World.ownsRow_nil _ _ _ _, HB1.out.trans ((below_drewN HWr.out.1 _).mono HB1.out.size)⟩
      by_cases hi1 : (g.arcs.length : Int) ≤ i
      · have hi0b : decide (i < 0) = false := decide_eq_false hi0
        have hi1b : decide ((g.arcs.length : Int) ≤ i) = true := decide_eq_true hi1
        have hno := nodesV_none (L := L) (k + 1) (by rw [hsn, arcI_out (.inr hi1)])
        have HNo := Lib.hid hno
        clear hno hsn HA HLs
        go_upto_region 7 with fail
        go_quiet (fail)
        go_wp2_with fail
        go_ret2
        rw [HNo.out]
        exact ⟨_, rfl, World.ownsRow_nil _ _ _ _, HB1.out.trans ((below_drewN HWr.out.1 _).mono HB1.out.size)⟩
      have hi0b : decide (i < 0) = false := decide_eq_false hi0
      have hi1b : decide ((g.arcs.length : Int) ≤ i) = false := decide_eq_false hi1
      obtain ⟨n, rfl⟩ : ∃ n : Nat, i = (n : Nat) := ⟨i.toNat, by omega⟩
      have hnl : n < g.arcs.length := by omega
      rw [arcI_in hnl] at hsn
      obtain ⟨bz, oz, rfl, z0, z1, z2⟩ := (HA.out.keep (KpC.of_below HWr.out.1)).at n hnl
      obtain ⟨⟨x, y, z⟩, hxyz⟩ : ∃ q, q = g.arcs[n] := ⟨_, rfl⟩
      rw [← hxyz] at z0 z1 z2 hsn
      dsimp only at z0 z1 z2 hsn
      clear hxyz
      have hnI : (n : Int) < (g.arcs.length : Int) := by omega
      by_cases hxe : x = e
      · subst hxe
        rw [if_pos rfl] at hsn
        have HSn := Lib.hid hsn
        clear hsn he
        go_upto_region 7 with fail
        go_quiet (fail)
        go_upto_region 9 with fail
        have HWq := Lib.hid (show Below w1.heap.size w1 (wr.drewN nq) ∧ (wr.drewN nq).ownsRow (B + 1) 3 1 (.slice (some ⟨gp, 0, none⟩) (k + 1) cp) (s :: lk).length ((s :: lk).flatMap inC) from ⟨below_drewN HWr.out.1 nq, HWr.out.2⟩)
        have HQ3 := Lib.hid (show (wr.drewN nq).cell? ⟨B, 3, none⟩ = some (.slice (some ⟨bz, oz, none⟩) g.arcs.length ac) from c3)
        have HQ0 := Lib.hid (show (wr.drewN nq).cell? ⟨ba, oa + k, none⟩ = some (.int .i64 (n : Nat)) from d0)
        have HQ1 := Lib.hid (show (wr.drewN nq).cell? ⟨bz, oz + n * 3 + 1, none⟩ = some (.int .i64 y) from z1)
        generalize wr.drewN nq = wq at *
        clear c3 d0 z0 z1 z2 cl
        have HSS := Lib.hid (show ∀ u, Below wq.heap.size wq u → u.cell? ⟨B, 3, none⟩ = some (.slice (some ⟨bz, oz, none⟩) g.arcs.length ac) ∧ u.cell? ⟨ba, oa + k, none⟩ = some (.int .i64 (n : Nat)) ∧ u.cell? ⟨bz, oz + n * 3 + 1, none⟩ = some (.int .i64 y) from fun u hu => ⟨cell_later hu HQ3.out, cell_later hu HQ0.out, cell_later hu HQ1.out⟩)
        refine wp_region_heldD (fun w' => w'.cell? ⟨B, 3, none⟩ = some (.slice (some ⟨bz, oz, none⟩) g.arcs.length ac) ∧ w'.cell? ⟨ba, oa + k, none⟩ = some (.int .i64 (n : Nat)) ∧ w'.cell? ⟨bz, oz + n * 3 + 1, none⟩ = some (.int .i64 y)) 11 rfl ?_
        change heldD _ _ _ _ _ _ _ 13 _ _ wq.drew
        obtain ⟨wk0, hu0⟩ : ∃ u, u = wq.drew := ⟨_, rfl⟩
        have HBu := Lib.hid (show Below wq.heap.size wq wk0 by rw [hu0]; exact (Below.refl _ _).drew)
        rw [← hu0]
        clear hu0
        refine heldD_takeF (i := 0) (v := .slice (some ⟨gp, 0, none⟩) (k + 1) cp) rfl rfl rfl (by kernel_rfl) (by kernel_rfl) (by kernel_rfl) (by kernel_rfl) (fun _ _ _ h => h) (by rfl) (fun w => ⟨by rfl, by go_simp⟩) (fun _ => HSS.out _ HBu.out) ?_
        simp only [List.setIfInBounds_toArray, List.set_cons_zero, List.set_cons_succ]
        refine heldD_takeF (i := 1) (v := .pointer (some ⟨B, 3, none⟩)) rfl rfl rfl (by kernel_rfl) (by kernel_rfl) (by kernel_rfl) (by kernel_rfl) (fun _ _ _ h => h) (by rfl) (fun w => ⟨by rfl, by go_simp⟩) (fun _ => HSS.out _ HBu.out) ?_
        simp only [List.setIfInBounds_toArray, List.set_cons_zero, List.set_cons_succ]
        refine heldD_takeC (i := 2) (v := .slice (some ⟨bz, oz, none⟩) g.arcs.length ac) [7, 8, 9, 10, 11] rfl rfl rfl (by kernel_rfl) (by kernel_rfl) (by kernel_rfl) (by kernel_rfl) (by kernel_rfl) (by kernel_rfl) (fun _ _ _ h => h) (by rfl) (fun w hS => ⟨by rfl, by obtain ⟨hS1, hS2, hS3⟩ := hS; go_simp⟩) (HSS.out _ HBu.out) ?_
        simp only [List.setIfInBounds_toArray, List.set_cons_zero, List.set_cons_succ]
        refine heldD_takeF (i := 3) (v := .slice (some ⟨ba, oa, none⟩) L.length ca) rfl rfl rfl (by kernel_rfl) (by kernel_rfl) (by kernel_rfl) (by kernel_rfl) (fun _ _ _ h => h) (by rfl) (fun w => ⟨by rfl, by go_simp⟩) (fun _ => HSS.out _ HBu.out) ?_
        simp only [List.setIfInBounds_toArray, List.set_cons_zero, List.set_cons_succ]
        refine heldD_takeF (i := 4) (v := .int .i64 (k : Nat)) rfl rfl rfl (by kernel_rfl) (by kernel_rfl) (by kernel_rfl) (by kernel_rfl) (fun _ _ _ h => h) (by rfl) (fun w => ⟨by rfl, by go_simp⟩) (fun _ => HSS.out _ HBu.out) ?_
        simp only [List.setIfInBounds_toArray, List.set_cons_zero, List.set_cons_succ]
        refine heldD_takeF (i := 5) (v := .pointer (some ⟨ba, oa + k, none⟩)) rfl rfl rfl (by kernel_rfl) (by kernel_rfl) (by kernel_rfl) (by kernel_rfl) (fun _ _ _ h => h) (by rfl) (fun w => ⟨by rfl, by go_simp⟩) (fun _ => HSS.out _ HBu.out) ?_
        simp only [List.setIfInBounds_toArray, List.set_cons_zero, List.set_cons_succ]
        refine heldD_takeC (i := 6) (v := .int .i64 (n : Nat)) [7, 8, 9, 10, 11] rfl rfl rfl (by kernel_rfl) (by kernel_rfl) (by kernel_rfl) (by kernel_rfl) (by kernel_rfl) (by kernel_rfl) (fun _ _ _ h => h) (by rfl) (fun w hS => ⟨by rfl, by obtain ⟨hS1, hS2, hS3⟩ := hS; go_simp⟩) (HSS.out _ HBu.out) ?_
        simp only [List.setIfInBounds_toArray, List.set_cons_zero, List.set_cons_succ]
        refine heldD_takeF (i := 7) (v := .pointer (some ⟨bz, oz + n * 3, none⟩)) rfl rfl rfl (by kernel_rfl) (by kernel_rfl) (by kernel_rfl) (by kernel_rfl) (fun _ _ _ h => h) (by rfl) (fun w => ⟨by rfl, by go_simp⟩) (fun _ => HSS.out _ HBu.out) ?_
        simp only [List.setIfInBounds_toArray, List.set_cons_zero, List.set_cons_succ]
        refine heldD_takeF (i := 8) (v := .pointer (some ⟨bz, oz + n * 3 + 1, none⟩)) rfl rfl rfl (by kernel_rfl) (by kernel_rfl) (by kernel_rfl) (by kernel_rfl) (fun _ _ _ h => h) (by rfl) (fun w => ⟨by rfl, by go_simp⟩) (fun _ => HSS.out _ HBu.out) ?_
        simp only [List.setIfInBounds_toArray, List.set_cons_zero, List.set_cons_succ]
        refine heldD_takeC (i := 9) (v := .int .i64 y) [10, 11] rfl rfl rfl (by kernel_rfl) (by kernel_rfl) (by kernel_rfl) (by kernel_rfl) (by kernel_rfl) (by kernel_rfl) (fun _ _ _ h => h) (by rfl) (fun w hS => ⟨by rfl, by obtain ⟨hS1, hS2, hS3⟩ := hS; go_simp⟩) (HSS.out _ HBu.out) ?_
        simp only [List.setIfInBounds_toArray, List.set_cons_zero, List.set_cons_succ]
        refine heldD_HT ?_
        intro H hH T hT
        have HH := Lib.hid hH; have HT := Lib.hid hT
        clear hH hT
        suffices sr_10 : ∀ (u : World) (bs : Nat), Hid (Below wq.heap.size wq u) → Hid (Blk u bs #[.int .i64 y] 3 (0, 0)) → H 2 #[true, true, true, true, true, true, true, true, true, true, true, false, false] { tmps := (T.setIfInBounds 69 (.slice (some ⟨bs, 0, none⟩) 1 1)), defers := [] } u from by
          have sr_ : ∀ (u : World), Hid (Below wq.heap.size wq u) → H 3 #[true, true, true, true, true, true, true, true, true, true, false, false, false] { tmps := T, defers := [] } u := by
            clear HBu
            intro u HBu
            rw [HH.out, HT.out]
            refine heldD_one (i := 10) (by kernel_rfl) ?_
            have hb : Below u.heap.size u (u.alloc (.cells #[.int .i64 y] 3)) := (Below.refl _ _).alloc (Nat.le_refl _) _
            have hf : Blk (u.alloc (.cells #[.int .i64 y] 3)) u.heap.size #[.int .i64 y] 3 (0, 0) := Blk.new _ _ _ _
            refine wpOpIn_value (v := .slice (some ⟨u.heap.size, 0, none⟩) 1 1) (w' := (u.alloc (.cells #[.int .i64 y] 3))) rfl rfl rfl (by rfl) (by rfl) (by go_simp) ?_
            have HBu0 := HBu
            have HBu : Hid (Below wq.heap.size wq (u.alloc (.cells #[.int .i64 y] 3))) := Lib.hid (HBu0.out.trans (hb.mono HBu0.out.size))
            refine ⟨fun _ => HSS.out _ HBu.out, ?_⟩
            simp only [List.setIfInBounds_toArray, List.set_cons_zero, List.set_cons_succ]
            have q := sr_10 _ u.heap.size HBu (Lib.hid hf)
            rw [HH.out, HT.out] at q
            simp only [List.setIfInBounds_toArray, List.set_cons_zero, List.set_cons_succ] at q ⊢
            exact q
          exact sr_ wk0 HBu
        clear HBu
        intro u bs HBu HF10
        rw [HH.out, HT.out]
        simp only [List.setIfInBounds_toArray, List.set_cons_zero, List.set_cons_succ]
        clear HH HT
        obtain ⟨a2, n2, c2, w5, hr, ho, hg, hat⟩ := push_intG (B + 1) (.slice (some ⟨gp, 0, none⟩) (k + 1) cp) (s :: lk) y u bs (ownsRow_below HWq.out.2 HBu.out) HF10.out (by have := HLk.out; simp; omega) (by have := HBu.out.size; have := HWq.out.1.size; omega)
        have hb5 : Below w1.heap.size w1 w5 := (HWq.out.1.trans (HBu.out.mono HWq.out.1.size)).grown hg (by have := HWq.out.1.size; have := HBu.out.size; omega) (fun j ej => by have := (ownsRow_blk' HWq.out.2 ej).1; omega)
        have hIn : wk g s (L.take (k + 1)) = some (lk ++ [y]) ∧ Hid (Below w1.heap.size w1 w5 ∧ w5.ownsRow (B + 1) 3 1 (.slice a2 n2 c2) (s :: (lk ++ [y])).length ((s :: (lk ++ [y])).flatMap inC)) := ⟨HSn.out, Lib.hid ⟨hb5, ho⟩⟩
        have HR := Lib.hid hr; have HIn := Lib.hid hIn
        clear hr ho hg hat hb5 hIn
        refine heldD_one (i := 11) (by kernel_rfl) ?_
        refine wpOpIn_append rfl rfl rfl (by rfl) _ _ _ _ rfl HR.out ?_
        refine ⟨fun h => (by cases h), ?_⟩
        simp only [List.setIfInBounds_toArray, List.set_cons_zero, List.set_cons_succ]
        refine heldD_one (i := 12) (by kernel_rfl) ?_
        refine wpOpIn_value (v := .slice a2 n2 c2) (w' := w5) rfl rfl rfl (by rfl) (by rfl) (by go_simp) ?_
        refine ⟨fun h => (by cases h), ?_⟩
        simp only [List.setIfInBounds_toArray, List.set_cons_zero, List.set_cons_succ]
        refine heldD_done (by kernel_rfl) ?_ _
        clear HBu HF10
        go_wp2_with fail
        go_roundw
        case rel => exact ⟨k + 1, _, _, rfl, by omega, by go_num, HIn.out.1, HIn.out.2⟩
        case measure => simp [intOf]; omega
      · rw [if_neg hxe] at hsn
        have hxb : (x == e) = false := by simpa using hxe
        have hno := nodesV_none (L := L) (k + 1) hsn
        have HNo := Lib.hid hno
        clear hno hsn HA HLs
        go_upto_region 7 with fail
        go_quiet (fail)
        go_wp2_with fail
        go_ret2
        rw [HNo.out]
        exact ⟨_, rfl, World.ownsRow_nil _ _ _ _, HB1.out.trans ((below_drewN HWr.out.1 _).mono HB1.out.size)⟩
    · obtain rfl : k = L.length := by omega
      rw [List.take_length] at hwk
      have hyes : nodesV g s L = some (s :: lk) := by unfold nodesV; rw [if_pos hs, hwk]; rfl
      have HYes := Lib.hid hyes
      clear hyes
      go_wp2_with fail
      go_ret2
      rw [HYes.out]
      exact ⟨_, rfl, ownsRow_le HWr.out.2 (by have := HBe.out; omega), HB1.out.trans (HWr.out.1.mono HB1.out.size)⟩
end Go.Proofs.YtlddcnkiigamjaaDoor
/- walks as they are written first: Check. -/
namespace Go.Proofs.YtlddcnkiigamjaaDoor
open Go.RowKit Go.Shelf
attribute [local go_sem] Oper.semAt_some
theorem wk_arcs {g : Raw} : ∀ {L l : List Int} {s : Int}, wk g s L = some l → ∀ i ∈ L, ∃ n : Nat, i = (n : Nat) ∧ n < g.arcs.length
  | [], _, _, _, i, hi => by cases hi
  | j :: L, l, s, h, i, hi => by
    obtain ⟨a, l', h1, h2, h3, rfl⟩ := wk_cons h
    rcases List.mem_cons.1 hi with rfl | hi
    · unfold arcI at h1
      split at h1
      · rename_i hh; exact ⟨i.toNat, by omega, by omega⟩
      · cases h1
    · exact wk_arcs h3 i hi
theorem wt_snoc {g : Raw} (L : List Int) {n : Nat} (h : n < g.arcs.length) : wt g (L ++ [(n : Int)]) = wt g L + g.arcs[n].2.2 := by
  rw [wt_append]
  unfold wt
  rw [List.map_cons, List.map_nil, List.sum_cons, arcI_in h]
  simp
theorem checkV_form (g : Raw) (s t : Int) (L : List Int) : (nodesV g s L = none ∧ checkV g s t L = none) ∨ ∃ l, wk g s L = some l ∧ nodesV g s L = some (s :: l) ∧ checkV g s t L = if lastN s l = t then some (wt g L) else none := by
  unfold nodesV checkV
  split
  · cases hw : wk g s L with
    | none => exact .inl ⟨rfl, rfl⟩
    | some l => exact .inr ⟨l, rfl, rfl, rfl⟩
  · exact .inl ⟨rfl, rfl⟩
set_option maxRecDepth 100000 in
set_option maxHeartbeats 8000000 in
theorem refCheck_any (va : Value) (g : Raw) (s t : Int) (v : Value) (L : List Int) (hL : L.length ≤ 100000) (w : World) (h : RawV w va g) (hl : SlX w v L) :
    Calls Tryd.prog 22 #[va, .int .i64 s, .int .i64 t, v] w fun e w' => e = .returned (.tuple #[.int .i64 (wrap64 ((checkV g s t L).getD 0)), .bool (checkV g s t L).isSome]) ∧ Below w.heap.size w w' := by
  have hRaw := h
  obtain ⟨vx, vy, vz, rfl, hx, hy, ha⟩ := h
  have fx := hx.form; have fy := hy.form
  obtain ⟨aa, ac, rfl, hac, hmc, _⟩ := id ha
  unfold maxLen at hmc
  obtain ⟨xa, xn, xc, rfl⟩ := fx
  obtain ⟨ya, yn, yc, rfl⟩ := fy
  obtain ⟨va, ca, rfl, hca, hmca, _⟩ := id hl
  unfold maxLen at hmca
  obtain ⟨w1, hw1⟩ : ∃ w1, w1 = w.alloc (.cells #[.int .i64 g.nodes, .slice xa xn xc, .slice ya yn yc, .slice aa g.arcs.length ac] 26) := ⟨_, rfl⟩
  obtain ⟨B, hB⟩ : ∃ b, b = w.heap.size := ⟨_, rfl⟩
  have hb1 : Below w.heap.size w w1 := by rw [hw1]; exact (Below.refl _ _).alloc (Nat.le_refl _) _
  have hlt : B < w1.heap.size := by rw [hw1, hB]; simp
  have hk3 : Blk w1 B #[.int .i64 g.nodes, .slice xa xn xc, .slice ya yn yc, .slice aa g.arcs.length ac] 26 (0, 0) := by rw [hw1, hB]; exact Blk.new _ _ _ _
  have hkp := KpC.of_below hb1
  have HNo := Lib.hid (refNodes_any _ g s _ L hL w1 (⟨_, _, _, rfl, hx.keep hkp, hy.keep hkp, ha.keep hkp⟩) (hl.keep hkp))
  have HA := Lib.hid (ha.keep hkp); have HLs := Lib.hid (hl.keep hkp); have HB1 := Lib.hid hb1; have HW1 := Lib.hid hw1; have HK3 := Lib.hid hk3; have HLt := Lib.hid hlt
  have c30 : (w.alloc (.cells #[.int .i64 g.nodes, .slice xa xn xc, .slice ya yn yc, .slice aa g.arcs.length ac] 26)).cell? ⟨w.heap.size, 0, none⟩ = some (.int .i64 g.nodes) := (Blk.new _ _ _ _).cell 0
  clear hx hy ha hb1 hw1 hk3 hlt hl hkp hRaw c30
  rw [HW1.out] at HNo
  rcases checkV_form g s t L with ⟨e1, e2⟩ | ⟨l, hw, e1, e2⟩
  · rw [e2, wrap_none]
    rw [e1] at HNo
    clear e1 e2
    go_enter Tryd.func22, Tryd.ntmps22
    go_wp2_with fail
    refine HNo.out.mono ?_
    rintro _ w2 ⟨x, rfl, hrow, hb⟩
    go_wp2_with fail
    go_ret2
    rw [HW1.out] at HB1
    exact ⟨rfl, HB1.out.next' hb⟩
  · rw [e1] at HNo
    have hwl := wk_len hw
    have HWk := Lib.hid hw
    obtain ⟨e, he⟩ : ∃ e, e = lastN s l := ⟨_, rfl⟩
    by_cases het : e = t
    · rw [e2, if_pos (he.symm.trans het)]
      subst het
      clear e1 e2 hw
      go_enter Tryd.func22, Tryd.ntmps22
      go_wp2_with fail
      refine HNo.out.mono ?_
      rintro _ w2 ⟨x, rfl, hrow, hb⟩
      dsimp only [Option.getD_some] at hrow
      rw [← HW1.out] at hb
      rw [← hB]
      have k4 := HK3.out.below hb HK3.out.lt
      have HB := Lib.hid hB; have HWb := Lib.hid hb; have HK4 := Lib.hid k4
      clear hB hb k4 HNo
      obtain ⟨gp, cp, rfl, cl, hcp⟩ := rowL_last hrow
      clear hrow
      rw [← he] at cl
      have f1 : ((l.length : Int) + 1) ≤ (cp : Int) := hcp
      have hlb : l.length ≤ 100000 := by omega
      clear hwl
      have wv : (0 : Int) ≤ (l.length : Int) := by omega
      clear he
      go_wp2_with fail
      go_loopw [12, 13] (fun z i wr => ∃ (k : Nat), k ≤ L.length ∧ i = .int .i64 k ∧ z = .int .i64 (wrap64 (wt g (L.take k))) ∧ Hid (Below w2.heap.size w2 wr)) (fun _ i _ => L.length - (intOf i).toNat)
      case atStart => exact ⟨0, Nat.zero_le _, rfl, by rw [show wt g (L.take 0) = 0 from rfl, wrap_nil], Lib.hid (Below.refl _ _)⟩
      case round =>
        obtain ⟨k, hk, rfl, rfl, HBr⟩ := hrel
        by_cases hlt : k < L.length
        · have hltI : (k : Int) < (L.length : Int) := by omega
          have i1 : (0 : Int) ≤ (k : Int) := by omega
          have hbr1 : Below w1.heap.size w1 _ := HWb.out.next' HBr.out
          obtain ⟨ba, oa, rfl, d0⟩ := (HLs.out.keep (KpC.of_below hbr1)).at k hlt
          obtain ⟨i, hi⟩ : ∃ x, x = L[k] := ⟨_, rfl⟩
          rw [← hi] at d0
          have htk : L.take (k + 1) = L.take k ++ [i] := by rw [hi]; exact List.take_succ_eq_append_getElem hlt
          obtain ⟨n, rfl, hn⟩ := wk_arcs HWk.out i (by rw [hi]; exact List.getElem_mem _)
          obtain ⟨bz, oz, rfl, z0, z1, z2⟩ := (HA.out.keep (KpC.of_below hbr1)).at n hn
          have hws := wt_snoc (g := g) (L.take k) hn
          rw [← htk] at hws
          obtain ⟨y, hy⟩ : ∃ y, y = g.arcs[n].2.2 := ⟨_, rfl⟩
          rw [← hy] at z2 hws
          have c3 := (HK4.out.below HBr.out HK4.out.lt).cell 3
          simp only [List.getElem?_toArray, List.getElem?_cons_succ, List.getElem?_cons_zero] at c3
          have hnI : (n : Int) < (g.arcs.length : Int) := by omega
          obtain ⟨S, hS⟩ : ∃ S, S = wt g (L.take k) := ⟨_, rfl⟩
          rw [← hS] at hws ⊢
          have HWs := Lib.hid (show wrap64 (wt g (L.take (k + 1))) = wrap64 (wrap64 S + y) by rw [hws, wrap_left])
          clear hws hy hi htk z0 z1 hS hbr1
          go_upto_region 8 with fail
          go_quiet (fail)
          go_wp2_with fail
          go_roundw
          case rel => exact ⟨k + 1, by omega, by go_num, by rw [HWs.out], Lib.hid (below_drewN HBr.out _)⟩
          case measure => simp [intOf]; omega
        · obtain rfl : k = L.length := by omega
          go_wp2_with fail
          go_ret2
          rw [List.take_length]
          exact ⟨rfl, HB1.out.next' (HWb.out.next' HBr.out)⟩
    · rw [e2, if_neg (fun h => het (he.trans h)), wrap_none]
      clear e1 e2 hw
      go_enter Tryd.func22, Tryd.ntmps22
      go_wp2_with fail
      refine HNo.out.mono ?_
      rintro _ w2 ⟨x, rfl, hrow, hb⟩
      dsimp only [Option.getD_some] at hrow
      rw [← HW1.out] at hb
      rw [← hB]
      have k4 := HK3.out.below hb HK3.out.lt
      have HB := Lib.hid hB; have HWb := Lib.hid hb; have HK4 := Lib.hid k4
      clear hB hb k4 HNo
      obtain ⟨gp, cp, rfl, cl, hcp⟩ := rowL_last hrow
      clear hrow
      rw [← he] at cl
      have f1 : ((l.length : Int) + 1) ≤ (cp : Int) := hcp
      have hlb : l.length ≤ 100000 := by omega
      clear hwl
      have hxb : (e == t) = false := by simpa using het
      clear he
      go_wp2_with fail
      go_ret2
      exact ⟨rfl, HB1.out.next' HWb.out⟩
end Go.Proofs.YtlddcnkiigamjaaDoor
/- walks as they are written first: Walk: some walk. -/
namespace Go.Proofs.YtlddcnkiigamjaaDoor
open Go.RowKit Go.Shelf
attribute [local go_sem] Oper.semAt_some
/-- arcs that leave a node -/
def Leave (g : Raw) (cur : Int) (C : List Int) : Prop := ∀ c ∈ C, ∃ n : Nat, c = (n : Nat) ∧ ∃ h : n < g.arcs.length, g.arcs[n].1 = cur
theorem Leave.nil (g : Raw) (cur : Int) : Leave g cur [] := fun c hc => by cases hc
theorem Leave.snoc {g : Raw} {cur : Int} {C : List Int} (h : Leave g cur C) (n : Nat) (hn : n < g.arcs.length) (he : g.arcs[n].1 = cur) : Leave g cur (C ++ [(n : Int)]) := fun c hc => by
  rcases List.mem_append.1 hc with hc | hc
  · exact h c hc
  · obtain rfl := List.mem_singleton.1 hc
    exact ⟨n, rfl, hn, he⟩
/-- a walk so far, and where it stands -/
def WkAt (g : Raw) (s cur : Int) (M : List Int) : Prop := ∃ l, wk g s M = some l ∧ lastN s l = cur
theorem WkAt.nil (g : Raw) (s : Int) : WkAt g s s [] := ⟨[], rfl, rfl⟩
theorem WkAt.snoc {g : Raw} {s cur : Int} {M : List Int} (h : WkAt g s cur M) (n : Nat) (hn : n < g.arcs.length) (he : g.arcs[n].1 = cur) : WkAt g s g.arcs[n].2.1 (M ++ [(n : Int)]) := by
  obtain ⟨l, h1, h2⟩ := h
  refine ⟨l ++ [g.arcs[n].2.1], ?_, lastN_snoc _ _ _⟩
  rw [wk_snoc h1, arcI_in hn]
  dsimp only
  rw [if_pos (he.trans h2.symm)]
set_option maxRecDepth 100000 in
set_option maxHeartbeats 8000000 in
theorem refWalk_any (va : Value) (g : Raw) (hgl : g.arcs.length ≤ 100000) (s : Int) (v : Value) (ds : List Int) (hL : ds.length ≤ 100000) (hds : ∀ b ∈ ds, 0 ≤ b ∧ b < 256) (w : World) (h : RawV w va g) (hl : SlI w v .u8 ds) :
    Calls Tryd.prog 20 #[va, .int .i64 s, v] w fun e w' => ∃ x M cur, e = .returned x ∧ WkAt g s cur M ∧ M.length ≤ ds.length ∧ w'.ownsRow w.heap.size 3 1 x M.length (M.flatMap inC) ∧ Below w.heap.size w w' := by
  obtain ⟨vx, vy, vz, rfl, hx, hy, ha⟩ := h
  have fx := hx.form; have fy := hy.form
  obtain ⟨aa, ac, rfl, hac, hmc, _⟩ := id ha
  unfold maxLen at hmc
  obtain ⟨xa, xn, xc, rfl⟩ := fx
  obtain ⟨ya, yn, yc, rfl⟩ := fy
  obtain ⟨va, ca, rfl, hca, hmca, hda⟩ := id hl
  unfold maxLen at hmca
  obtain ⟨w1, hw1⟩ : ∃ w1, w1 = w.alloc (.cells #[.int .i64 g.nodes, .slice xa xn xc, .slice ya yn yc, .slice aa g.arcs.length ac] 26) := ⟨_, rfl⟩
  obtain ⟨B, hB⟩ : ∃ b, b = w.heap.size := ⟨_, rfl⟩
  have hb1 : Below w.heap.size w w1 := by rw [hw1]; exact (Below.refl _ _).alloc (Nat.le_refl _) _
  have hlt : B < w1.heap.size := by rw [hw1, hB]; simp
  have hk3 : Blk w1 B #[.int .i64 g.nodes, .slice xa xn xc, .slice ya yn yc, .slice aa g.arcs.length ac] 26 (0, 0) := by rw [hw1, hB]; exact Blk.new _ _ _ _
  have HA := Lib.hid (ha.keep (KpC.of_below hb1)); have HB1 := Lib.hid hb1; have HW1 := Lib.hid hw1; have HK3 := Lib.hid hk3; have HDa := Lib.hid hda
  clear hx hy ha hb1 hw1 hk3 hlt hl hda
  go_enter Tryd.func20, Tryd.ntmps20
  go_wp2_with fail
  rw [← HW1.out, ← hB]
  have HBe := Lib.hid hB
  clear hB
  go_loopw [1, 7, 8] (fun c o i wr => ∃ (k : Nat) (cur : Int) (M : List Int) (vo : Value), vo = o ∧ k ≤ ds.length ∧ c = .int .i64 cur ∧ i = .int .i64 k ∧ Hid (Below w1.heap.size w1 wr ∧ wr.ownsRow w1.heap.size 3 1 vo M.length (M.flatMap inC) ∧ WkAt g s cur M ∧ M.length ≤ k)) (fun _ _ i _ => ds.length - (intOf i).toNat)
  case atStart => exact ⟨0, s, [], _, rfl, Nat.zero_le _, rfl, rfl, Lib.hid ⟨Below.refl _ _, World.ownsRow_nil _ _ _ _, WkAt.nil g s, Nat.le_refl _⟩⟩
  case round =>
    obtain ⟨k, cur, M, vo, rfl, hk, rfl, rfl, HI⟩ := hrel
    obtain ⟨wo, hwo⟩ : ∃ u, u = wr := ⟨_, rfl⟩
    subst hwo
    by_cases hlt : k < ds.length
    · have hltI : (k : Int) < (ds.length : Int) := by omega
      have i1 : (0 : Int) ≤ (k : Int) := by omega
      go_wp2_with fail
      go_loopw [9, 10] (fun r j wr2 => ∃ (q : Nat) (C : List Int) (vr : Value), vr = r ∧ q ≤ g.arcs.length ∧ j = .int .i64 q ∧ Hid (Below wo.heap.size wo wr2 ∧ wr2.ownsRow wo.heap.size 3 1 vr C.length (C.flatMap inC) ∧ Leave g cur C ∧ C.length ≤ q)) (fun _ j _ => g.arcs.length - (intOf j).toNat)
      case atStart => exact ⟨0, [], _, rfl, Nat.zero_le _, rfl, Lib.hid ⟨Below.refl _ _, World.ownsRow_nil _ _ _ _, Leave.nil g cur, Nat.le_refl _⟩⟩
      case round =>
        obtain ⟨q, C, vr, rfl, hq, rfl, HJ⟩ := hrel
        have hbw : Below w1.heap.size w1 _ := HI.out.1.next' HJ.out.1
        obtain ⟨ra, rc, hrf, hra⟩ := ownForm HJ.out.2.1
        subst hrf
        have c3 := (HK3.out.below hbw HK3.out.lt).cell 3
        simp only [List.getElem?_toArray, List.getElem?_cons_succ, List.getElem?_cons_zero] at c3
        by_cases hql : q < g.arcs.length
        · have hqI : (q : Int) < (g.arcs.length : Int) := by omega
          have q1 : (0 : Int) ≤ (q : Int) := by omega
          obtain ⟨bz, oz, rfl, z0, z1, z2⟩ := (HA.out.keep (KpC.of_below hbw)).at q hql
          obtain ⟨x, hx⟩ : ∃ x, x = g.arcs[q].1 := ⟨_, rfl⟩
          rw [← hx] at z0
          clear z1 z2
          by_cases hxc : x = cur
          · subst hxc
            obtain ⟨wc, hwc⟩ : ∃ wc, wc = wr.alloc (.cells #[.int .i64 (q : Nat)] 3) := ⟨_, rfl⟩
            have hbc : Below wr.heap.size wr wc := by rw [hwc]; exact (Below.refl _ _).alloc (Nat.le_refl _) _
            obtain ⟨a2, n2, c2, w', hr, ho, hg, hat⟩ := push_intG wo.heap.size _ C (q : Nat) wc wr.heap.size (ownsRow_below HJ.out.2.1 hbc) (by rw [hwc]; exact Blk.new _ _ _ _) (by have := HJ.out.2.2.2; omega) (Nat.le_trans HJ.out.1.size hbc.size)
            have hb' : Below wo.heap.size wo w' := (HJ.out.1.next' hbc).grown hg (Nat.le_trans HJ.out.1.size hbc.size) (fun j ej => (ownsRow_blk' HJ.out.2.1 ej).1)
            rw [hwc] at hr
            have HR := Lib.hid hr
            have HNew := Lib.hid (show Below wo.heap.size wo w' ∧ w'.ownsRow wo.heap.size 3 1 (.slice a2 n2 c2) (C ++ [(q : Int)]).length ((C ++ [(q : Int)]).flatMap inC) ∧ Leave g x (C ++ [(q : Int)]) ∧ (C ++ [(q : Int)]).length ≤ q + 1 from ⟨hb', ho, HJ.out.2.2.1.snoc q hql hx.symm, by have := HJ.out.2.2.2; simp; omega⟩)
            clear hx hwc hbc hr ho hg hat hb' hra
            go_wp2_with (at_builtin; refine wpList_append_run rfl _ _ _ _ rfl HR.out ?_)
            go_roundw
            case rel => exact ⟨q + 1, _, _, rfl, by omega, by go_num, HNew⟩
            case measure => simp [intOf]; omega
          · have hxb : (x == cur) = false := by simpa using hxc
            clear hx
            go_wp2_with fail
            go_roundw
            case rel => exact ⟨q + 1, C, _, rfl, by omega, by go_num, Lib.hid ⟨HJ.out.1, HJ.out.2.1, HJ.out.2.2.1, by have := HJ.out.2.2.2; omega⟩⟩
            case measure => simp [intOf]; omega
        · obtain rfl : q = g.arcs.length := by omega
          by_cases hC : C = []
          · subst hC
            simp only [List.length_nil]
            go_wp2_with fail
            go_ret
            exact ⟨_, M, cur, rfl, HI.out.2.2.1, by have := HI.out.2.2.2; omega, ownsRow_le (ownsRow_below HI.out.2.1 HJ.out.1) HB1.out.size, HB1.out.next' hbw⟩
          · have hCp : 0 < C.length := List.length_pos_iff.2 hC
            obtain ⟨bd, od, eva, hdc⟩ := HDa.out k hlt
            subst eva
            have hbyte := hds ds[k] (List.getElem_mem _)
            obtain ⟨b, hb⟩ : ∃ b, b = ds[k] := ⟨_, rfl⟩
            rw [← hb] at hdc hbyte
            obtain ⟨j, rfl⟩ : ∃ j : Nat, b = (j : Nat) := ⟨b.toNat, by omega⟩
            have d0 := cell_later (HB1.out.next' hbw) hdc
            obtain ⟨r, hr⟩ : ∃ r, r = j % C.length := ⟨_, rfl⟩
            have hrl : r < C.length := by rw [hr]; exact Nat.mod_lt _ hCp
            have hmod : (j : Int).tmod (C.length : Int) = (r : Int) := by rw [hr]; rfl
            have hnz : ((C.length : Int) == 0) = false := by simpa using hC
            obtain ⟨n, hcn, hn, hcur⟩ := HJ.out.2.2.1 C[r] (List.getElem_mem hrl)
            obtain ⟨br, orr, era, cr⟩ := (slX_own rfl HJ.out.2.1).at r hrl
            subst era
            rw [hcn] at cr
            obtain ⟨bz, oz, rfl, z0, z1, z2⟩ := (HA.out.keep (KpC.of_below hbw)).at n hn
            clear z0 z2
            have hnI : (n : Int) < (g.arcs.length : Int) := by omega
            have hrI : (r : Int) < (C.length : Int) := by omega
            have hr0 : (0 : Int) ≤ (r : Int) := by omega
            have hj0 : (0 : Int) ≤ (j : Int) ∧ (j : Int) < 256 := hbyte
            obtain ⟨y, hy⟩ : ∃ y, y = g.arcs[n].2.1 := ⟨_, rfl⟩
            rw [← hy] at z1
            obtain ⟨wc, hwc⟩ : ∃ wc, wc = wr.alloc (.cells #[.int .i64 (n : Nat)] 3) := ⟨_, rfl⟩
            have hbc : Below wr.heap.size wr wc := by rw [hwc]; exact (Below.refl _ _).alloc (Nat.le_refl _) _
            have hboc : Below wo.heap.size wo wc := HJ.out.1.next' hbc
            obtain ⟨a2, n2, c2, w', hrun, ho, hg, hat⟩ := push_intG w1.heap.size vo M (n : Nat) wc wr.heap.size (ownsRow_below HI.out.2.1 hboc) (by rw [hwc]; exact Blk.new _ _ _ _) (by have := HI.out.2.2.2; omega) (Nat.le_trans HI.out.1.size hboc.size)
            have hb' : Below w1.heap.size w1 w' := (HI.out.1.next' hboc).grown hg (Nat.le_trans HI.out.1.size hboc.size) (fun j ej => (ownsRow_blk' HI.out.2.1 ej).1)
            have c3' := (HK3.out.below hb' HK3.out.lt).cell 3
            simp only [List.getElem?_toArray, List.getElem?_cons_succ, List.getElem?_cons_zero] at c3'
            obtain ⟨bz2, oz2, e2, _, z1', _⟩ := (HA.out.keep (KpC.of_below hb')).at n hn
            obtain ⟨rfl, rfl⟩ : bz = bz2 ∧ oz = oz2 := by simpa using e2
            rw [← hy] at z1'
            rw [hwc] at hrun
            have HR := Lib.hid hrun
            have HNew := Lib.hid (show Below w1.heap.size w1 w' ∧ w'.ownsRow w1.heap.size 3 1 (.slice a2 n2 c2) (M ++ [(n : Int)]).length ((M ++ [(n : Int)]).flatMap inC) ∧ WkAt g s y (M ++ [(n : Int)]) ∧ (M ++ [(n : Int)]).length ≤ k + 1 from ⟨hb', ho, by rw [hy]; exact HI.out.2.2.1.snoc n hn hcur, by have := HI.out.2.2.2; simp; omega⟩)
            have hvo : ∃ a n c, vo = .slice a n c := HI.out.2.1.one'
            obtain ⟨oa, on, oc, rfl⟩ := hvo
            clear hdc hbyte hb hr hcn hcur hy hwc hbc hboc hrun ho hg hat hb' hra hC
            go_wp2_with (at_builtin; refine wpList_append_run rfl _ _ _ _ rfl HR.out ?_)
            go_wp2_with fail
            go_roundw
            case rel => exact ⟨k + 1, y, _, _, rfl, by omega, rfl, by go_num, HNew⟩
            case measure => simp [intOf]; omega
    · obtain rfl : k = ds.length := by omega
      go_wp2_with fail
      go_ret
      exact ⟨_, _, _, rfl, HI.out.2.2.1, HI.out.2.2.2, ownsRow_le HI.out.2.1 HB1.out.size, HB1.out.next' HI.out.1⟩
end Go.Proofs.YtlddcnkiigamjaaDoor
/- net: Raw and Turned. -/
namespace Go.Proofs.YtlddcnkiigamjaaDoor
open Go.RowKit
set_option maxRecDepth 100000 in
set_option maxHeartbeats 4000000 in
theorem raw_any (p : Nat) (g : Raw) (w : World) (h : NetAt w p g) (hl : g.few) : Calls Tryd.prog 38 #[.pointer (some ⟨p, 0, none⟩)] w fun e w' => ∃ v', e = .returned v' ∧ RawO w.heap.size w' v' g ∧ Below w.heap.size w w' := by
  obtain ⟨xa, xc, ya, yc, aa, ac, oa, oc, ia, ic, on, inn, c0, c1, c2, c3, c4, c5, hx, hy, ha, ho, hi⟩ := h.cells
  obtain ⟨w1, hw1⟩ : ∃ w1, w1 = w.alloc (.cells #[.int .i64 0, .slice none 0 0, .slice none 0 0, .slice none 0 0] 26) := ⟨_, rfl⟩
  have hb0 := (Below.refl w.heap.size w).alloc (Nat.le_refl _) (.cells #[.int .i64 0, .slice none 0 0, .slice none 0 0, .slice none 0 0] 26)
  have hb1 : Below w.heap.size w w1 := by rw [hw1]; exact hb0
  obtain ⟨B, hB⟩ : ∃ b, b = w.heap.size := ⟨_, rfl⟩
  have hbk : Blk w1 B #[.int .i64 0, .slice none 0 0, .slice none 0 0, .slice none 0 0] 26 (0, 0) := by rw [hw1, hB]; exact Blk.new _ _ _ _
  have hV : RawV w1 (.agg #[.int .i64 g.nodes, .slice xa g.X.length xc, .slice ya g.Y.length yc, .slice aa g.arcs.length ac]) g := ⟨_, _, _, rfl, hx.keep (KpC.of_below hb1), hy.keep (KpC.of_below hb1), ha.keep (KpC.of_below hb1)⟩
  have C := Lib.hid (own_any _ g w1 hV hl)
  have e0 := cell_later hb0 c0; have e1 := cell_later hb0 c1; have e2 := cell_later hb0 c2; have e3 := cell_later hb0 c3
  have H1 := Lib.hid hb1; have HK := Lib.hid hbk; have HW1 := Lib.hid hw1; have HBe := Lib.hid hB
  clear h hx hy ha ho hi hb1 hbk hw1 c4 c5 hb0 hV
  go_enter Tryd.func38, Tryd.ntmps38
  go_wp2_with fail
  rw [← HW1.out, ← hB]
  clear hB
  refine C.out.mono ?_
  rintro e w2 ⟨v2, rfl, ⟨vx, vy, va, rfl, o1, o2, o3, o4⟩, hb2⟩
  have bT := HK.out.below hb2 HK.out.lt
  have b0 := bT.cell 0; have b1 := bT.cell 1; have b2 := bT.cell 2; have b3 := bT.cell 3
  simp only [List.getElem?_toArray, List.getElem?_cons_succ, List.getElem?_cons_zero] at b0 b1 b2 b3
  have fr := fun i => bT.free i (Or.inr (Nat.zero_le _))
  have f0 := fr 0; have f1 := fr 1; have f2 := fr 2; have f3 := fr 3
  have hO : Own3 w1.heap.size w2 vx vy va g := ⟨o1, o2, o3, o4⟩
  have fx := o1.one'; have fy := o2.one'; have fa := o3.one'
  obtain ⟨xa, xn, xc, rfl⟩ := fx
  obtain ⟨ya, yn, yc, rfl⟩ := fy
  obtain ⟨za, zn, zc, rfl⟩ := fa
  have bZ := (((bT.set 0 (.int .i64 g.nodes)).set 1 (.slice xa xn xc)).set 2 (.slice ya yn yc)).set 3 (.slice za zn zc)
  have R2 := (((hO.set (p := ⟨B, 0, none⟩) bT (by decide) (by decide) (.int .i64 g.nodes)).set (p := ⟨B, 1, none⟩) (bT.set 0 (.int .i64 g.nodes)) (by decide) (by decide) (.slice xa xn xc)).set (p := ⟨B, 2, none⟩) ((bT.set 0 (.int .i64 g.nodes)).set 1 (.slice xa xn xc)) (by decide) (by decide) (.slice ya yn yc)).set (p := ⟨B, 3, none⟩) (((bT.set 0 (.int .i64 g.nodes)).set 1 (.slice xa xn xc)).set 2 (.slice ya yn yc)) (by decide) (by decide) (.slice za zn zc)
  have hle : w.heap.size ≤ B := by have := HBe.out; omega
  have B2 := ((((H1.out.next' hb2).setCell (p := ⟨B, 0, none⟩) hle (.int .i64 g.nodes)).setCell (p := ⟨B, 1, none⟩) hle (.slice xa xn xc)).setCell (p := ⟨B, 2, none⟩) hle (.slice ya yn yc)).setCell (p := ⟨B, 3, none⟩) hle (.slice za zn zc)
  have hsz1 := H1.out.size
  have HZ := Lib.hid bZ; have HR2 := Lib.hid R2; have HB2 := Lib.hid B2
  clear bZ R2 B2 bT hO o1 o2 o3 o4 hb2 fr C hle
  go_wp2_with fail
  generalize (((w2.setCell ⟨B, 0, none⟩ (.int .i64 g.nodes)).setCell ⟨B, 1, none⟩ (.slice xa xn xc)).setCell ⟨B, 2, none⟩ (.slice ya yn yc)).setCell ⟨B, 3, none⟩ (.slice za zn zc) = wz at *
  have z0 := HZ.out.cell 0; have z1 := HZ.out.cell 1; have z2 := HZ.out.cell 2; have z3 := HZ.out.cell 3
  change wz.cell? ⟨B, 0, none⟩ = some (.int .i64 g.nodes) at z0
  change wz.cell? ⟨B, 1, none⟩ = some (.slice xa xn xc) at z1
  change wz.cell? ⟨B, 2, none⟩ = some (.slice ya yn yc) at z2
  change wz.cell? ⟨B, 3, none⟩ = some (.slice za zn zc) at z3
  exact bodyPost_ret (v := .agg #[.int .i64 g.nodes, .slice xa xn xc, .slice ya yn yc, .slice za zn zc]) (by simp [results, Tryd.results38, go_sem, z0, z1, z2, z3]) rfl ⟨_, rfl, ⟨_, _, _, rfl, ownsRow_le HR2.out.1 hsz1, ownsRow_le HR2.out.2.1 hsz1, ownsRow_le HR2.out.2.2.1 hsz1, HR2.out.2.2.2⟩, HB2.out⟩
theorem raw_nil (w : World) : Calls Tryd.prog 38 #[.pointer none] w fun e w' => e = .returned (.agg #[.int .i64 0, .slice none 0 0, .slice none 0 0, .slice none 0 0]) ∧ Below w.heap.size w w' := by
  go_enter Tryd.func38, Tryd.ntmps38
  go_wp2_with fail
  exact bodyPost_ret (v := .agg #[.int .i64 0, .slice none 0 0, .slice none 0 0, .slice none 0 0]) (by simp [results, Tryd.results38, go_sem]) rfl ⟨rfl, (Below.refl _ _).alloc (Nat.le_refl _) _⟩
theorem turnedN_nil (w : World) : Calls Tryd.prog 27 #[.pointer none] w fun e w' => e = .returned (.pointer none) ∧ w' = w := by
  go_enter Tryd.func27, Tryd.ntmps27
  go_wp2_with fail
  go_ret
  exact ⟨rfl, rfl⟩
theorem Raw.turned_ok {g : Raw} (h : g.Ok) : g.turned.Ok := by
  refine ⟨h.nodes, h.lenX, h.lenY, h.x, h.y, by show (g.arcs.map turnA).length ≤ _; rw [List.length_map]; exact h.arcs, fun a ha => ?_⟩
  obtain ⟨b, hb, rfl⟩ := List.mem_map.1 (show a ∈ g.arcs.map turnA from ha)
  have k := h.arc b hb
  unfold arcOk at k ⊢
  unfold turnA
  simp only [] at k ⊢
  exact ⟨k.2.1, k.1, k.2.2⟩
theorem turn_step3 (L : List Ar) (k : Nat) (hk : k < L.length) : ((((L.take k).map turnA ++ L.drop k).set k (setArc 0 L[k].2.1 L[k])).set k (setArc 1 L[k].1 (setArc 0 L[k].2.1 L[k]))).set k (setArc 2 L[k].2.2 (setArc 1 L[k].1 (setArc 0 L[k].2.1 L[k]))) = (L.take (k + 1)).map turnA ++ L.drop (k + 1) := by
  rw [List.set_set, ← turn_step L k hk, List.set_set, List.set_set]
  rfl
set_option maxRecDepth 100000 in
set_option maxHeartbeats 8000000 in
theorem turnedN_any (p : Nat) (r : Raw) (w : World) (h : NetAt w p r) (hl : r.few) (hok : r.Ok) : Calls Tryd.prog 27 #[.pointer (some ⟨p, 0, none⟩)] w fun e w' => ∃ q, e = .returned (.pointer (some ⟨q, 0, none⟩)) ∧ NetB w.heap.size w' q r.turned ∧ Below w.heap.size w w' := by
  have C := Lib.hid (raw_any p r w h hl)
  have HOk := Lib.hid hok; have HL := Lib.hid hl
  clear h hok hl
  go_enter Tryd.func27, Tryd.ntmps27
  go_wp2_with fail
  refine C.out.mono ?_
  rintro e w2 ⟨v2, rfl, ⟨vx, vy, va, rfl, o1, o2, o3, o4⟩, hb2⟩
  have fx := o1.one'; have fy := o2.one'
  have fa : ∃ a c, va = .slice a r.arcs.length c ∧ (0 < r.arcs.length → ∃ g, a = some ⟨g, 0, none⟩) := by
    rcases o3.2 with ⟨h, h0⟩ | ⟨g, cap, cur, h, _⟩
    · exact ⟨_, _, by rw [h0]; exact h, fun h => by omega⟩
    · exact ⟨_, _, h, fun _ => ⟨g, rfl⟩⟩
  have hO : Own3 w.heap.size w2 vx vy va r := ⟨o1, o2, o3, o4⟩
  obtain ⟨xa, xn, xc, rfl⟩ := fx
  obtain ⟨ya, yn, yc, rfl⟩ := fy
  obtain ⟨za, zc, rfl, hza⟩ := fa
  obtain ⟨Bt, hBt⟩ : ∃ b, b = w2.heap.size := ⟨_, rfl⟩
  obtain ⟨w3, hw3⟩ : ∃ w3, w3 = w2.alloc (.cells #[.int .i64 r.nodes, .slice xa xn xc, .slice ya yn yc, .slice za r.arcs.length zc] 26) := ⟨_, rfl⟩
  have hb3 : Below w2.heap.size w2 w3 := by rw [hw3]; exact (Below.refl _ _).alloc (Nat.le_refl _) _
  have hB23 := hb2.next' hb3
  have hI : OutI w Bt (.slice xa xn xc) (.slice ya yn yc) (.slice za r.arcs.length zc) r w3 := ⟨by rw [hw3, hBt]; exact Blk.new _ _ _ _, hO.below hb3, ⟨hB23.os, hB23.tape, hB23.output, hB23.size, fun k hk _ => hB23.block k hk⟩⟩
  have HI := Lib.hid hI; have HW3 := Lib.hid hw3; have HBt := Lib.hid hBt
  have HLe : Hid (w.heap.size ≤ Bt) := Lib.hid (by rw [hBt]; exact hb2.size)
  clear hI hO o1 o2 o3 o4 hb2 hb3 hB23 hw3 C
  have hll : (r.arcs.length : Int) ≤ 1000000000000 := by have := HL.out.2.2; omega
  go_wp2_with fail
  rw [← HW3.out, ← hBt]
  clear hBt
  go_loopw [13] (fun i wr => ∃ (k : Nat), k ≤ r.arcs.length ∧ i = .int .i64 k ∧ Hid (OutI w Bt (.slice xa xn xc) (.slice ya yn yc) (.slice za r.arcs.length zc) { r with arcs := (r.arcs.take k).map turnA ++ r.arcs.drop k } wr)) (fun i _ => r.arcs.length - (intOf i).toNat)
  case atStart => exact ⟨0, by omega, rfl, Lib.hid (by simpa using HI.out)⟩
  case round =>
    clear HI
    obtain ⟨k, hk, rfl, hrel⟩ := hrel
    by_cases hlt : k < r.arcs.length
    · obtain ⟨g, rfl⟩ := hza (by omega)
      have hI := hrel.out
      have hlen : ((r.arcs.take k).map turnA ++ r.arcs.drop k).length = r.arcs.length := by rw [List.length_append, List.length_map, List.length_take, List.length_drop]; omega
      have hget : ((r.arcs.take k).map turnA ++ r.arcs.drop k)[k]'(by omega) = r.arcs[k] := by
        have hl : ((r.arcs.take k).map turnA).length = k := by rw [List.length_map, List.length_take]; omega
        rw [List.getElem_append_right (by omega)]
        simp only [hl, Nat.sub_self, List.getElem_drop, Nat.add_zero]
      have sA : SlA wr (.slice (some ⟨g, 0, none⟩) r.arcs.length zc) ((r.arcs.take k).map turnA ++ r.arcs.drop k) := slA_own rfl (by have h := hI.own.2.2.1; exact h)
      obtain ⟨bg, og, eg, d0, d1, d2⟩ := sA.at k (by omega)
      obtain ⟨rfl, rfl⟩ : g = bg ∧ 0 = og := by simpa using eg
      rw [hget] at d0 d1 d2
      rw [Nat.zero_add] at d0 d1 d2
      obtain ⟨hgb, cur, hgB⟩ := ownsRow_blk' hI.own.2.2.1 (g := g) rfl
      obtain ⟨x, hx⟩ : ∃ x, x = r.arcs[k] := ⟨_, rfl⟩
      have hst := turn_step3 r.arcs k hlt
      rw [← hx] at d0 d1 d2 hst
      obtain ⟨x0, x1, x2⟩ := x
      simp only at d0 d1 d2 hst
      have hltI : (k : Int) < (r.arcs.length : Int) := by omega
      have i1 : (0 : Int) ≤ (k : Int) := by omega
      obtain ⟨Ba, hBa⟩ : ∃ b, b = wr.heap.size := ⟨_, rfl⟩
      have hba := (Below.refl wr.heap.size wr).alloc (Nat.le_refl _) (.cells #[.int .i64 x0, .int .i64 x1, .int .i64 x2] 58)
      obtain ⟨wc, hwc⟩ : ∃ wc, wc = wr.alloc (.cells #[.int .i64 x0, .int .i64 x1, .int .i64 x2] 58) := ⟨_, rfl⟩
      have hbc : Below wr.heap.size wr wc := by rw [hwc]; exact hba
      have hIc := hI.below hbc
      have hkl : k < ((r.arcs.take k).map turnA ++ r.arcs.drop k).length := by omega
      have hI1 := hIc.setA (u := x1) hlen k 0 hkl (by omega) (o := k * 3) rfl
      have hkl2 : k < (((r.arcs.take k).map turnA ++ r.arcs.drop k).set k (setArc 0 x1 (((r.arcs.take k).map turnA ++ r.arcs.drop k)[k]'hkl))).length := by rw [List.length_set]; exact hkl
      have hI2 := hI1.setA (u := x0) ((List.length_set ..).trans hlen) k 1 hkl2 (by omega) (o := k * 3 + 1) rfl
      have hkl3 : k < ((((r.arcs.take k).map turnA ++ r.arcs.drop k).set k (setArc 0 x1 (((r.arcs.take k).map turnA ++ r.arcs.drop k)[k]'hkl))).set k (setArc 1 x0 ((((r.arcs.take k).map turnA ++ r.arcs.drop k).set k (setArc 0 x1 (((r.arcs.take k).map turnA ++ r.arcs.drop k)[k]'hkl)))[k]'hkl2))).length := by rw [List.length_set]; exact hkl2
      have hI3 := hI2.setA (u := x2) ((List.length_set ..).trans ((List.length_set ..).trans hlen)) k 2 hkl3 (by omega) (o := k * 3 + 2) rfl
      simp only [List.getElem_set_self, hget, ← hx] at hI3
      rw [hst] at hI3
      have g0 := (hgB.below hba hgB.lt).free (k * 3) (Or.inr (Nat.zero_le _)); have g1 := (hgB.below hba hgB.lt).free (k * 3 + 1) (Or.inr (Nat.zero_le _)); have g2 := (hgB.below hba hgB.lt).free (k * 3 + 2) (Or.inr (Nat.zero_le _))
      have e0 := cell_later hba d0; have e1 := cell_later hba d1; have e2 := cell_later hba d2
      have c3 : wr.cell? ⟨Bt, 3, none⟩ = some (.slice (some ⟨g, 0, none⟩) r.arcs.length zc) := hI.blk.cell 3
      have o3 := cell_later hba c3
      have HI3 := Lib.hid hI3; have HWc := Lib.hid hwc
      clear hrel hI hlen hget sA eg hgB hst hx hbc hIc hI1 hI2 hI3 hkl hkl2 hkl3 hwc hgb hba hBa
      go_wp2_with fail
      rw [← HWc.out]
      go_roundw
      case rel => exact ⟨k + 1, by omega, by go_num, Lib.hid HI3.out⟩
      case measure => simp [intOf]; omega
    · obtain rfl : k = r.arcs.length := by omega
      have hI := hrel.out
      have he : (r.arcs.take r.arcs.length).map turnA ++ r.arcs.drop r.arcs.length = r.arcs.map turnA := by simp
      rw [he] at hI
      have bO := hI.blk
      have c0 := bO.cell 0; have c1 := bO.cell 1; have c2 := bO.cell 2; have c3 := bO.cell 3
      change wr.cell? ⟨Bt, 0, none⟩ = some (.int .i64 r.nodes) at c0
      change wr.cell? ⟨Bt, 1, none⟩ = some (.slice xa xn xc) at c1
      change wr.cell? ⟨Bt, 2, none⟩ = some (.slice ya yn yc) at c2
      change wr.cell? ⟨Bt, 3, none⟩ = some (.slice za r.arcs.length zc) at c3
      have hraw : RawO w.heap.size wr (.agg #[.int .i64 r.nodes, .slice xa xn xc, .slice ya yn yc, .slice za r.arcs.length zc]) r.turned := hI.raw
      have hbw : Below w.heap.size w wr := below_of (Below.refl _ _) hI.kept HLe.out
      have C2 := Lib.hid (of_any _ _ w.heap.size wr hraw (Raw.turned_ok HOk.out) hbw.size)
      have HBw := Lib.hid hbw
      clear hI hrel he bO hraw hbw
      go_wp2_with fail
      refine C2.out.mono ?_
      rintro e w4 ⟨q, rfl, hn, hb4⟩
      have HN := Lib.hid hn; have HB4 := Lib.hid (HBw.out.next' hb4)
      clear hn hb4
      go_wp2_with fail
      go_ret
      exact ⟨_, rfl, HN.out, HB4.out⟩
end Go.Proofs.YtlddcnkiigamjaaDoor
/- what the walk laws share: Check of a walk, of a turned one. -/
namespace Go.Proofs.YtlddcnkiigamjaaDoor
open Go.RowKit Go.Shelf
theorem SlI.cut {w : World} {a : Option Addr} {n cap : Nat} {k : IntKind} {l : List Int} (h : SlI w (.slice a n cap) k l) (m : Nat) (hm : m ≤ l.length) : SlI w (.slice a m cap) k (l.take m) := by
  obtain ⟨a', cap', e, h1, h2, h3⟩ := h
  simp at e
  obtain ⟨rfl, rfl, rfl⟩ := e
  have hl : (l.take m).length = m := by rw [List.length_take]; omega
  refine ⟨a, cap, by rw [hl], by omega, h2, fun i hi => ?_⟩
  obtain ⟨b, off, rfl, hc⟩ := h3 i (by omega)
  exact ⟨b, off, rfl, by rw [List.getElem_take]; exact hc⟩
theorem SlI.later {w w' : World} {v : Value} {k : IntKind} {l : List Int} (hb : Below w.heap.size w w') (h : SlI w v k l) : SlI w' v k l := by
  obtain ⟨a, cap, rfl, h1, h2, h3⟩ := h
  refine ⟨a, cap, rfl, h1, h2, fun i hi => ?_⟩
  obtain ⟨b, off, rfl, hc⟩ := h3 i hi
  exact ⟨b, off, rfl, cell_later hb hc⟩
theorem turned_flip (g : Raw) : g.turned = g.flip := rfl
theorem last_get : ∀ (s : Int) (l : List Int), (s :: l)[l.length]'(by simp) = lastN s l
  | s, [] => rfl
  | s, a :: l => by rw [lastN_cons]; exact last_get a l
theorem last_get? (s : Int) (l : List Int) {n : Nat} (hn : n = l.length) (h : n < (s :: l).length) : (s :: l)[n] = lastN s l := by
  subst hn; exact last_get s l
theorem checkV_walk {g : Raw} {s t : Int} {M l : List Int} (hs : 0 ≤ s ∧ s < g.nodes) (hw : wk g s M = some l) (ht : lastN s l = t) : checkV g s t M = some (wt g M) := by
  unfold checkV
  rw [if_pos hs, hw]
  show (if lastN s l = t then some (wt g M) else none) = _
  rw [if_pos ht]
theorem Raw.Ok.ends {g : Raw} (h : g.Ok) : ∀ a ∈ g.arcs, 0 ≤ a.2.1 ∧ a.2.1 < g.nodes := fun a ha => (h.arc a ha).2.1
theorem Raw.Ok.wts {g : Raw} (h : g.Ok) : ∀ a ∈ g.arcs, 0 ≤ a.2.2 ∧ a.2.2 < 2147483648 := fun a ha => (h.arc a ha).2.2
theorem lastN_node {g : Raw} (h : g.Ok) {s : Int} {M l : List Int} (hs : 0 ≤ s ∧ s < g.nodes) (hw : wk g s M = some l) : 0 ≤ lastN s l ∧ lastN s l < g.nodes := by
  have hl := last_get s l
  have hm : lastN s l ∈ s :: l := by rw [← hl]; exact List.getElem_mem _
  rcases List.mem_cons.1 hm with e | e
  · rw [e]; exact hs
  · exact wk_nodes h.ends hw _ e
theorem wt_small {g : Raw} (h : g.Ok) {M : List Int} (hM : M.length ≤ 100000) : 0 ≤ wt g M ∧ wt g M ≤ 214748364800000 := by
  have := wt_bound h.wts M
  omega
theorem chk_walk {g : Raw} {s t : Int} {M l : List Int} (hok : g.Ok) (hs : 0 ≤ s ∧ s < g.nodes) (hw : wk g s M = some l) (ht : lastN s l = t) (hM : M.length ≤ 100000) (p : Nat) (va : Value) (w : World) (h : NetAt w p g) (ha : SlX w va M) :
    Calls Tryd.prog 21 #[.pointer (some ⟨p, 0, none⟩), .int .i64 s, .int .i64 t, va] w fun e w' => e = .returned (.tuple #[.int .i64 (wt g M), .bool true]) ∧ Below w.heap.size w w' :=
  check_is (some (wt g M)) (wt g M) true (checkV_walk hs hw ht) (by
    have := wt_small hok hM
    show wrap64 (wt g M) = _
    unfold wrap64; omega) rfl hok.ends p va w h ha
/-- the turned net, and a walk's turned one -/
theorem chk_turned {g : Raw} {s t : Int} {M l : List Int} (hok : g.Ok) (hs : 0 ≤ s ∧ s < g.nodes) (hw : wk g s M = some l) (ht : lastN s l = t) (hM : M.length ≤ 100000) (p : Nat) (va : Value) (w : World) (h : NetAt w p g.turned) (ha : SlX w va M.reverse) :
    Calls Tryd.prog 21 #[.pointer (some ⟨p, 0, none⟩), .int .i64 t, .int .i64 s, va] w fun e w' => e = .returned (.tuple #[.int .i64 (wt g M), .bool true]) ∧ Below w.heap.size w w' := by
  obtain ⟨l', h1, h2⟩ := wk_flip hw
  rw [ht] at h1 h2
  have hn : 0 ≤ t ∧ t < g.nodes := by rw [← ht]; exact lastN_node hok hs hw
  have := chk_walk (g := g.turned) (s := t) (t := s) (M := M.reverse) (l := l') (Raw.turned_ok hok) hn h1 h2 (by rw [List.length_reverse]; exact hM) p va w h ha
  rw [turned_flip, wt_flip] at this
  exact this
theorem rev_drop {α : Type} (M : List α) (k : Nat) (hk : k < M.length) : (M.drop (k + 1)).reverse ++ [M[k]] = (M.drop k).reverse := by
  rw [List.drop_eq_getElem_cons hk, List.reverse_cons]
end Go.Proofs.YtlddcnkiigamjaaDoor
