/- Texts of the law NetTells, merged: NetKnown, NetRefOut, HeldAny. -/
import Derived.Test.YtnkcmlngoeofgaaDoorPNetOnce08
import Derived.Test.YtnkcmlngoeofgaaDoorPNetOnce05
import Derived.OrdersHeld
import Derived.Deep.RegionHeld
/- NetKnown: the chapter's examples; one node; no arcs; none. -/
namespace Go.Proofs.YtnkcmlngoeofgaaDoor
open Go.RowKit
def one7 : Raw := ⟨1, [-2147483648], [2147483647], []⟩
theorem arc_none (i : Int) (w : World) : Calls Tryd.prog 36 #[.pointer none, .int .i64 i] w fun e w' => e = .returned (.tuple #[.agg #[.int .i64 0, .int .i64 0, .int .i64 0], .bool false]) ∧ Below w.heap.size w w' := arc_nil i w
theorem place_one (p : Nat) (w : World) (h : NetAt w p one7) : Calls Tryd.prog 44 #[.pointer (some ⟨p, 0, none⟩), .int .i64 0] w fun e w' => e = .returned (.tuple #[.int .i64 (-2147483648), .int .i64 2147483647, .bool true]) ∧ w' = w := place_any p one7 0 w h
theorem arcs_one (p : Nat) (w : World) (h : NetAt w p one7) : Calls Tryd.prog 32 #[.pointer (some ⟨p, 0, none⟩)] w fun e w' => e = .returned (.int .i64 0) ∧ w' = w := arcs_any p one7 w h
theorem nodes_one (p : Nat) (w : World) (h : NetAt w p one7.turned) : Calls Tryd.prog 33 #[.pointer (some ⟨p, 0, none⟩)] w fun e w' => e = .returned (.int .i64 1) ∧ w' = w := nodes_any p one7.turned w h
set_option maxRecDepth 100000 in
set_option maxHeartbeats 16000000 in
theorem netKnown_all (w : World) (hg : HG w) : Calls Tryd.prog 11 #[] w fun e w' => e = .returned (.bool true) ∧ Below w.heap.size w w' := by
  have hfd : ∀ w : World, (Instr.field 25 (.agg #[.int .i64 0, .slice none 0 0, .slice none 0 0, .slice none 0 0]) 0).run Tryd.prog w = .ok (.int .i64 0) w := fun _ => by kernel_rfl
  obtain ⟨wa, hwa⟩ : ∃ wa, wa = (w.alloc (.cells #[.int .i64 (-2147483648)] 2)).alloc (.cells #[.int .i64 2147483647] 2) := ⟨_, rfl⟩
  have B1 : Blk wa w.heap.size #[.int .i64 (-2147483648)] 2 (0, 0) := by rw [hwa]; exact (Blk.new _ _ _ _).alloc _
  have B2 : Blk wa (w.heap.size + 1) #[.int .i64 2147483647] 2 (0, 0) := by
    rw [hwa]
    have h := Blk.new (w.alloc (.cells #[.int .i64 (-2147483648)] 2)) #[.int .i64 2147483647] 2 (0, 0)
    rw [World.size_alloc] at h
    exact h
  have hba : Below w.heap.size w wa := by rw [hwa]; exact ((Below.refl _ _).alloc (Nat.le_refl _) _).alloc (by simp) _
  have HC := Lib.hid (new_any (.agg #[.int .i64 1, .slice (some ⟨w.heap.size, 0, none⟩) 1 1, .slice (some ⟨w.heap.size + 1, 0, none⟩) 1 1, .slice none 0 0]) one7 wa (hg.later hba) ⟨_, _, _, rfl, slX_new (L := [-2147483648]) B1 rfl rfl (by decide), slX_new (L := [2147483647]) B2 rfl rfl (by decide), slA_nil _⟩ (by unfold Raw.few; decide))
  have HW := Lib.hid hwa; have HG0 := Lib.hid hg; have H0 := Lib.hid hba
  clear hwa B1 B2 hba hg
  go_enter Tryd.func11, Tryd.ntmps11
  go_wp2_with fail
  rw [← HW.out]
  refine HC.out.mono ?_
  rintro e w1 ⟨h | h, hb1⟩
  · exact absurd (show one7.ok by unfold Raw.ok; decide) h.1
  obtain ⟨_, p, rfl, hn⟩ := h
  have H1 := Lib.hid (H0.out.next' hb1); have HN := Lib.hid hn.all
  clear hn hb1 HC HW
  go_wp2_with fail
  refine (place_one p w1 (HN.out _ (Below.refl _ _))).mono ?_
  rintro e w2 ⟨rfl, rfl⟩
  go_wp2_with fail
  refine (place_nil 0 w2).mono ?_
  rintro e w3 ⟨rfl, rfl⟩
  go_wp2_with fail
  refine (arc_none 0 w3).mono ?_
  rintro e w4 ⟨rfl, hb4⟩
  obtain ⟨w5, hw5⟩ : ∃ w5, w5 = w4.alloc (.cells #[.int .i64 0, .int .i64 0, .int .i64 0] 54) := ⟨_, rfl⟩
  have hb5 : Below w4.heap.size w4 w5 := by rw [hw5]; exact (Below.refl _ _).alloc (Nat.le_refl _) _
  have H5 := Lib.hid (H1.out.next' (hb4.next' hb5)); have Hn5 := Lib.hid (hb4.next' hb5); have HW5 := Lib.hid hw5
  clear hb4 hb5 hw5
  go_wp2_with fail
  rw [← HW5.out]
  refine (works7_any w5 (HG0.out.later H5.out)).mono ?_
  rintro e w6 ⟨rfl, hb6⟩
  have H6 := Lib.hid (H5.out.next' hb6); have Hn6 := Lib.hid (Hn5.out.next' hb6)
  clear hb6 Hn5 HW5
  go_wp2_with fail
  refine (arcs_one p w6 (HN.out _ Hn6.out)).mono ?_
  rintro e w7 ⟨rfl, rfl⟩
  go_wp2_with fail
  refine (row_out p one7 0 [] w7 (HN.out _ Hn6.out) (by decide) (by decide)).mono ?_
  rintro e w8 ⟨a8, c8, rfl, _, hb8⟩
  have H8 := Lib.hid (H6.out.next' hb8); have Hn8 := Lib.hid (Hn6.out.next' hb8)
  clear hb8 Hn6
  go_wp2_with fail
  refine (row_in p one7 (-1) [] w8 (HN.out _ Hn8.out) (by decide) (by decide)).mono ?_
  rintro e w9 ⟨a9, c9, rfl, _, hb9⟩
  have H9 := Lib.hid (H8.out.next' hb9); have Hn9 := Lib.hid (Hn8.out.next' hb9)
  clear hb9 Hn8
  go_wp2_with fail
  refine (turnedN_any p one7 w9 (HN.out _ Hn9.out) (by unfold Raw.few; decide) ((Raw.ok_iff one7).1 (by unfold Raw.ok; decide))).mono ?_
  rintro e w10 ⟨q, rfl, hq, hb10⟩
  have H10 := Lib.hid (H9.out.next' hb10)
  have HQ := Lib.hid hq.at
  clear hb10 Hn9 hq
  go_wp2_with fail
  refine (nodes_one q w10 HQ.out).mono ?_
  rintro e w11 ⟨rfl, rfl⟩
  go_wp2_with fail
  refine (nodes_nil w11).mono ?_
  rintro e w12 ⟨rfl, rfl⟩
  go_wp2_with fail
  refine (arcs_nil w12).mono ?_
  rintro e w13 ⟨rfl, rfl⟩
  go_wp2_with fail
  refine (out_nil 0 w13).mono ?_
  rintro e w14 ⟨rfl, rfl⟩
  go_wp2_with fail
  refine (inn_nil 0 w14).mono ?_
  rintro e w15 ⟨rfl, rfl⟩
  go_wp2_with fail
  refine (raw_nil w15).mono ?_
  rintro e w16 ⟨rfl, hb16⟩
  have H16 := Lib.hid (H10.out.next' hb16)
  clear hb16
  go_wp2_with fail
  refine (turnedN_nil w16).mono ?_
  rintro e w17 ⟨rfl, rfl⟩
  go_wp2_with fail
  go_ret
  exact ⟨rfl, H16.out⟩
end Go.Proofs.YtnkcmlngoeofgaaDoor
/- the reference's Out and In. -/
namespace Go.Proofs.YtnkcmlngoeofgaaDoor
open Go.RowKit
/-- the first k arcs whose end is i -/
def rowI (E : Ar → Int) (L : List Ar) (i : Int) : Nat → List Int
  | 0 => []
  | k + 1 => if E (L[k]?.getD (0, 0, 0)) = i then rowI E L i k ++ [(k : Int)] else rowI E L i k
theorem rowI_hit {E : Ar → Int} {L : List Ar} {i : Int} {k : Nat} (h : E (L[k]?.getD (0, 0, 0)) = i) : rowI E L i (k + 1) = rowI E L i k ++ [(k : Int)] := by
  show (if _ then _ else _) = _; rw [if_pos h]
theorem rowI_miss {E : Ar → Int} {L : List Ar} {i : Int} {k : Nat} (h : ¬ E (L[k]?.getD (0, 0, 0)) = i) : rowI E L i (k + 1) = rowI E L i k := by
  show (if _ then _ else _) = _; rw [if_neg h]
theorem rowI_le (E : Ar → Int) (L : List Ar) (i : Int) (k : Nat) : (rowI E L i k).length ≤ k := by
  induction k with
  | zero => exact Nat.le_refl _
  | succ k ih =>
    by_cases h : E (L[k]?.getD (0, 0, 0)) = i
    · rw [rowI_hit h, List.length_append, List.length_singleton]; omega
    · rw [rowI_miss h]; omega
theorem rowI_nat (E : Ar → Int) (L : List Ar) (v : Nat) : ∀ k, rowI E L (v : Int) k = rowK E L v k
  | 0 => rfl
  | k + 1 => by show (if _ then _ else _) = (if _ then _ else _); rw [rowI_nat E L v k]
/-- one number more on a row of ours -/
theorem push_int (base : Nat) (v : Value) (L : List Int) (x : Int) (u : World) (B : Nat) (hown : u.ownsRow base 3 1 v L.length (L.flatMap inC)) (hB : Blk u B #[.int .i64 x] 3 (0, 0)) (hl : L.length ≤ 1000000) (hbase : base ≤ u.heap.size) :
    ∃ v' w', (Builtin.append_ #[62, 62] 62 #[v, .slice (some ⟨B, 0, none⟩) 1 1]).run Tryd.prog u = .ok v' w' ∧ w'.ownsRow base 3 1 v' (L ++ [x]).length ((L ++ [x]).flatMap inC) ∧ Below base u w' := by
  obtain ⟨i0, hi, hz0, hz1, hz2⟩ := info_parts infoInt
  have hs := (slX_new (L := [x]) (n := 1) hB rfl rfl (by simp)).row
  obtain ⟨v', w', hr, ho, hg, _⟩ := run_append_row (P := Tryd.prog) base 62 62 3 i0 _ 1 8 Tryd.underlying62 hi hz0 hz1 hz2 rfl (by omega) v L.length _ hown _ 1 _ hs (by unfold maxLen; omega) (by omega) hbase
  refine ⟨v', w', hr, by rw [List.length_append, List.flatMap_append]; exact ho, ⟨hg.os, hg.tape, hg.output, hg.size, fun k hk => hg.block k (by omega) (fun e => ?_)⟩⟩
  have := (ownsRow_blk' hown e.symm).1
  omega
set_option maxHeartbeats 4000000 in
theorem refOut_any (v : Value) (r : Raw) (i : Int) (w : World) (h : RawV w v r) (hl : r.arcs.length ≤ 1000000) : Calls Tryd.prog 59 #[v, .int .i64 i] w fun e w' => ∃ v', e = .returned v' ∧ SlX w' v' (rowI endF r.arcs i r.arcs.length) ∧ Below w.heap.size w w' := by
  obtain ⟨vx, vy, va, rfl, hx, hy, ha⟩ := h
  have fx := hx.form; have fy := hy.form
  obtain ⟨aa, ac, rfl, hac, hmc, _⟩ := id ha
  unfold maxLen at hmc
  obtain ⟨xa, xn, xc, rfl⟩ := fx
  obtain ⟨ya, yn, yc, rfl⟩ := fy
  obtain ⟨w1, hw1⟩ : ∃ w1, w1 = w.alloc (.cells #[.int .i64 r.nodes, .slice xa xn xc, .slice ya yn yc, .slice aa r.arcs.length ac] 25) := ⟨_, rfl⟩
  obtain ⟨B, hB⟩ : ∃ b, b = w.heap.size := ⟨_, rfl⟩
  have hb1 : Below w.heap.size w w1 := by rw [hw1]; exact (Below.refl _ _).alloc (Nat.le_refl _) _
  have hlt : B < w1.heap.size := by rw [hw1, hB]; simp
  have hc3 : w1.cell? ⟨B, 3, none⟩ = some (.slice aa r.arcs.length ac) := by rw [hw1, hB]; exact (Blk.new _ _ _ _).cell 3
  have HA := Lib.hid (ha.keep (KpC.of_below hb1)); have HB1 := Lib.hid hb1; have HW1 := Lib.hid hw1; have HB := Lib.hid hB; have HC3 := Lib.hid hc3; have HLt := Lib.hid hlt
  clear hx hy ha hb1 hw1 hc3 hlt
  go_enter Tryd.func59, Tryd.ntmps59
  go_wp2_with fail
  rw [← HW1.out, ← hB]
  clear hB HW1
  go_loopw [5, 6] (fun vv c wr => ∃ (k : Nat), k ≤ r.arcs.length ∧ c = .int .i64 k ∧ Hid (wr.ownsRow w1.heap.size 3 1 vv (rowI endF r.arcs i k).length ((rowI endF r.arcs i k).flatMap inC)) ∧ Hid (Below w1.heap.size w1 wr)) (fun _ c _ => r.arcs.length - (intOf c).toNat)
  case atStart => exact ⟨0, Nat.zero_le _, rfl, Lib.hid (World.ownsRow_nil _ _ _ _), Lib.hid (Below.refl _ _)⟩
  case round =>
    obtain ⟨k, hk, rfl, hown, hbel⟩ := hrel
    have c3 := (World.cell?_of_block (hbel.out.block B HLt.out)).trans HC3.out
    obtain ⟨va, vn, vc, hvf⟩ := hown.out.one'
    subst hvf
    by_cases hlt : k < r.arcs.length
    · have hkl := rowI_le endF r.arcs i k
      obtain ⟨b, o, rfl, d0, _, _⟩ := (HA.out.keep (KpC.of_below hbel.out)).at k hlt
      have hltI : (k : Int) < (r.arcs.length : Int) := by omega
      have i1 : (0 : Int) ≤ (k : Int) := by omega
      have hg : r.arcs[k]?.getD (0, 0, 0) = r.arcs[k] := by rw [List.getElem?_eq_getElem hlt]; rfl
      by_cases he : r.arcs[k].1 = i
      · have hit := Lib.hid (rowI_hit (E := endF) (L := r.arcs) (i := i) (k := k) (by rw [hg]; exact he))
        obtain ⟨wc, hwc⟩ : ∃ wc, wc = wr.alloc (.cells #[.int .i64 (k : Nat)] 3) := ⟨_, rfl⟩
        have hbc : Below wr.heap.size wr wc := by rw [hwc]; exact (Below.refl _ _).alloc (Nat.le_refl _) _
        obtain ⟨v', w', hr, ho, hb⟩ := push_int w1.heap.size _ (rowI endF r.arcs i k) (k : Nat) wc wr.heap.size (ownsRow_below hown.out hbc) (by rw [hwc]; exact Blk.new _ _ _ _) (by omega) (Nat.le_trans hbel.out.size hbc.size)
        rw [hwc] at hr
        have HR := Lib.hid hr; have HO := Lib.hid ho; have HBn := Lib.hid ((hbel.out.next' hbc).trans hb)
        obtain ⟨x, hx⟩ : ∃ x, x = r.arcs[k].1 := ⟨_, rfl⟩
        rw [← hx] at d0 he
        subst he
        clear hg hx hkl hwc hbc hr ho hb hown hbel
        go_wp2_with (at_builtin; refine wpList_append_run rfl _ _ _ _ rfl HR.out ?_)
        go_roundw
        case rel => exact ⟨k + 1, by omega, by go_num, Lib.hid (by rw [hit.out]; exact HO.out), HBn⟩
        case measure => simp [intOf]; omega
      · have miss := Lib.hid (rowI_miss (E := endF) (L := r.arcs) (i := i) (k := k) (by rw [hg]; exact he))
        obtain ⟨x, hx⟩ : ∃ x, x = r.arcs[k].1 := ⟨_, rfl⟩
        rw [← hx] at d0 he
        clear hg hx hkl
        go_wp2_with fail
        go_roundw
        case rel => exact ⟨k + 1, by omega, by go_num, Lib.hid (by rw [miss.out]; exact hown.out), hbel⟩
        case measure => simp [intOf]; omega
    · obtain rfl : k = r.arcs.length := by omega
      go_wp2_with fail
      go_ret
      exact ⟨_, rfl, slX_own rfl hown.out, HB1.out.next' hbel.out⟩
set_option maxHeartbeats 4000000 in
theorem refIn_any (v : Value) (r : Raw) (i : Int) (w : World) (h : RawV w v r) (hl : r.arcs.length ≤ 1000000) : Calls Tryd.prog 60 #[v, .int .i64 i] w fun e w' => ∃ v', e = .returned v' ∧ SlX w' v' (rowI endT r.arcs i r.arcs.length) ∧ Below w.heap.size w w' := by
  obtain ⟨vx, vy, va, rfl, hx, hy, ha⟩ := h
  have fx := hx.form; have fy := hy.form
  obtain ⟨aa, ac, rfl, hac, hmc, _⟩ := id ha
  unfold maxLen at hmc
  obtain ⟨xa, xn, xc, rfl⟩ := fx
  obtain ⟨ya, yn, yc, rfl⟩ := fy
  obtain ⟨w1, hw1⟩ : ∃ w1, w1 = w.alloc (.cells #[.int .i64 r.nodes, .slice xa xn xc, .slice ya yn yc, .slice aa r.arcs.length ac] 25) := ⟨_, rfl⟩
  obtain ⟨B, hB⟩ : ∃ b, b = w.heap.size := ⟨_, rfl⟩
  have hb1 : Below w.heap.size w w1 := by rw [hw1]; exact (Below.refl _ _).alloc (Nat.le_refl _) _
  have hlt : B < w1.heap.size := by rw [hw1, hB]; simp
  have hc3 : w1.cell? ⟨B, 3, none⟩ = some (.slice aa r.arcs.length ac) := by rw [hw1, hB]; exact (Blk.new _ _ _ _).cell 3
  have HA := Lib.hid (ha.keep (KpC.of_below hb1)); have HB1 := Lib.hid hb1; have HW1 := Lib.hid hw1; have HB := Lib.hid hB; have HC3 := Lib.hid hc3; have HLt := Lib.hid hlt
  clear hx hy ha hb1 hw1 hc3 hlt
  go_enter Tryd.func60, Tryd.ntmps60
  go_wp2_with fail
  rw [← HW1.out, ← hB]
  clear hB HW1
  go_loopw [5, 6] (fun vv c wr => ∃ (k : Nat), k ≤ r.arcs.length ∧ c = .int .i64 k ∧ Hid (wr.ownsRow w1.heap.size 3 1 vv (rowI endT r.arcs i k).length ((rowI endT r.arcs i k).flatMap inC)) ∧ Hid (Below w1.heap.size w1 wr)) (fun _ c _ => r.arcs.length - (intOf c).toNat)
  case atStart => exact ⟨0, Nat.zero_le _, rfl, Lib.hid (World.ownsRow_nil _ _ _ _), Lib.hid (Below.refl _ _)⟩
  case round =>
    obtain ⟨k, hk, rfl, hown, hbel⟩ := hrel
    have c3 := (World.cell?_of_block (hbel.out.block B HLt.out)).trans HC3.out
    obtain ⟨va, vn, vc, hvf⟩ := hown.out.one'
    subst hvf
    by_cases hlt : k < r.arcs.length
    · have hkl := rowI_le endT r.arcs i k
      obtain ⟨b, o, rfl, _, d0, _⟩ := (HA.out.keep (KpC.of_below hbel.out)).at k hlt
      have hltI : (k : Int) < (r.arcs.length : Int) := by omega
      have i1 : (0 : Int) ≤ (k : Int) := by omega
      have hg : r.arcs[k]?.getD (0, 0, 0) = r.arcs[k] := by rw [List.getElem?_eq_getElem hlt]; rfl
      by_cases he : r.arcs[k].2.1 = i
      · have hit := Lib.hid (rowI_hit (E := endT) (L := r.arcs) (i := i) (k := k) (by rw [hg]; exact he))
        obtain ⟨wc, hwc⟩ : ∃ wc, wc = wr.alloc (.cells #[.int .i64 (k : Nat)] 3) := ⟨_, rfl⟩
        have hbc : Below wr.heap.size wr wc := by rw [hwc]; exact (Below.refl _ _).alloc (Nat.le_refl _) _
        obtain ⟨v', w', hr, ho, hb⟩ := push_int w1.heap.size _ (rowI endT r.arcs i k) (k : Nat) wc wr.heap.size (ownsRow_below hown.out hbc) (by rw [hwc]; exact Blk.new _ _ _ _) (by omega) (Nat.le_trans hbel.out.size hbc.size)
        rw [hwc] at hr
        have HR := Lib.hid hr; have HO := Lib.hid ho; have HBn := Lib.hid ((hbel.out.next' hbc).trans hb)
        obtain ⟨x, hx⟩ : ∃ x, x = r.arcs[k].2.1 := ⟨_, rfl⟩
        rw [← hx] at d0 he
        subst he
        clear hg hx hkl hwc hbc hr ho hb hown hbel
        go_wp2_with (at_builtin; refine wpList_append_run rfl _ _ _ _ rfl HR.out ?_)
        go_roundw
        case rel => exact ⟨k + 1, by omega, by go_num, Lib.hid (by rw [hit.out]; exact HO.out), HBn⟩
        case measure => simp [intOf]; omega
      · have miss := Lib.hid (rowI_miss (E := endT) (L := r.arcs) (i := i) (k := k) (by rw [hg]; exact he))
        obtain ⟨x, hx⟩ : ∃ x, x = r.arcs[k].2.1 := ⟨_, rfl⟩
        rw [← hx] at d0 he
        clear hg hx hkl
        go_wp2_with fail
        go_roundw
        case rel => exact ⟨k + 1, by omega, by go_num, Lib.hid (by rw [miss.out]; exact hown.out), hbel⟩
        case measure => simp [intOf]; omega
    · obtain rfl : k = r.arcs.length := by omega
      go_wp2_with fail
      go_ret
      exact ⟨_, rfl, slX_own rfl hown.out, HB1.out.next' hbel.out⟩
end Go.Proofs.YtnkcmlngoeofgaaDoor
/-
  A region that draws its order, by hand: its reads taken first where a condition on the world holds (S), which may GROW on the way; calls one by one. Over the kit's OrdersHeld.
-/
namespace Go.Proofs.YtnkcmlngoeofgaaDoor
section
variable {P : Program} {ops : Array Oper} {Q : Exit → Act → World → Prop} {S S1 : World → Prop}
theorem heldA_grow (h : ∀ w, S1 w → S w) : ∀ (fuel : Nat) (listed : Array Bool) (a : Act) (w : World), wpAnyH P .any ops Q S1 fuel listed a w → wpAnyH P .any ops Q S fuel listed a w
  | 0, _, _, _, hh => hh
  | fuel + 1, _, _, _, hh => ⟨hh.1, fun i hi => wpOp_mono (fun a' w' h' => ⟨h w' h'.1, heldA_grow h fuel _ a' w' h'.2⟩) (hh.2 i hi)⟩
theorem heldA_take {i d : Nat} {oi : Oper} {v : Value} {fuel : Nat} {listed : Array Bool} {tmps : Array Value} {ds : List Deferred} {w : World} (hi : ops[i]? = some oi) (hd : oi.dst = some d) (hs : Region.noSelect ops = true) (hf : Region.free .any ops listed i = true)
    (hr : (Region.ready .any ops listed).contains i = true) (hQ : ∀ c a w, Q (.panic c) (a.put oi.dst v) w → Q (.panic c) a w) (hw : Region.wanted oi (yielded ops tmps) = true) (hy : ∀ w, S w → (execOp (Act.eval { tmps := tmps, defers := ds }) oi).run P w = .ok (.value v) w) (hS : S w)
    (h : wpAnyH P .any ops Q S fuel (listed.setIfInBounds i true) { tmps := tmps.setIfInBounds d v, defers := ds } w) : wpAnyH P .any ops Q S (fuel + 1) listed { tmps := tmps, defers := ds } w :=
  wpAnyH_take hi hs hf hr hQ (Or.inl ⟨hw, hy⟩) hS (by rw [hd]; exact h)
theorem heldA_one {i : Nat} {fuel : Nat} {listed : Array Bool} {a : Act} {w : World} (hr : Region.ready .any ops listed = [i])
    (h : wpOp P ops Q i (fun a' w' => S w' ∧ wpAnyH P .any ops Q S fuel (listed.setIfInBounds i true) a' w') a w) : wpAnyH P .any ops Q S (fuel + 1) listed a w :=
  ⟨fun h0 => (by rw [hr] at h0; cases h0), fun j hj => by rw [hr] at hj; obtain rfl : j = i := by simpa using hj
                                                          exact h⟩
theorem heldA_two {i k : Nat} {fuel : Nat} {listed : Array Bool} {a : Act} {w : World} (hr : Region.ready .any ops listed = [i, k])
    (h1 : wpOp P ops Q i (fun a' w' => S w' ∧ wpAnyH P .any ops Q S fuel (listed.setIfInBounds i true) a' w') a w) (h2 : wpOp P ops Q k (fun a' w' => S w' ∧ wpAnyH P .any ops Q S fuel (listed.setIfInBounds k true) a' w') a w) : wpAnyH P .any ops Q S (fuel + 1) listed a w :=
  ⟨fun h0 => (by rw [hr] at h0; cases h0), fun j hj => by
    rw [hr] at hj
    rcases List.mem_cons.1 hj with rfl | hj
    · exact h1
    · obtain rfl : j = k := by simpa using hj
      exact h2⟩
/-- a call of a Go function that comes back -/
theorem wpOp_calls {i : Nat} {o : Oper} {d : Nat} {tmps : Array Value} {ds : List Deferred} {w w' : World} {f : FuncId} {args : Array Value} {K : Act → World → Prop} {R : Ending → World → Prop} (hi : ops[i]? = some o) (hd : o.dst = some d) (hw : Region.wanted o (yielded ops tmps) = true)
    (he : (execOp (Act.eval { tmps := tmps, defers := ds }) o).run P w = .ok (.enter f args) w') (hc : Calls P f args w' R) (hk : ∀ v w'', R (.returned v) w'' → K { tmps := tmps.setIfInBounds d v, defers := ds } w'') (hp : ∀ ch w'', R (.panicked ch) w'' → False) (ho : ∀ w'', R .outgrown w'' → False) :
    wpOp P ops Q i K { tmps := tmps, defers := ds } w := by
  unfold wpOp
  rw [hi]
  simp only [hw, if_true]
  refine .inl ?_
  unfold Oper.wp
  rw [he]
  simp only [Oper.upon]
  refine hc.mono fun e w'' hr => ?_
  cases e with
  | returned v => dsimp only; rw [hd]; exact hk v w'' hr
  | panicked ch => exact (hp ch w'' hr).elim
  | outgrown => exact (ho w'' hr).elim
end
end Go.Proofs.YtnkcmlngoeofgaaDoor
