/- Texts of the law NetWrong, merged: NetNewB, GrRead, NetWrI. -/
import Derived.Test.YtnkcmlngoeofgaaDoorPNetOnce07
import Derived.Test.YtnkcmlngoeofgaaDoorPNetOnce02
import Derived.Test.YtnkcmlngoeofgaaDoorPNetOnce00
import Derived.Test.YtnkcmlngoeofgaaDoorPNetShares00
/- net.New, of a graph whose lists are few where it may be. -/
namespace Go.Proofs.YtnkcmlngoeofgaaDoor
open Go.RowKit
set_option maxRecDepth 100000 in
set_option maxHeartbeats 4000000 in
theorem new_anyB (v : Value) (r : Raw) (w : World) (hg : HG w) (h : RawV w v r) (hl : r.ok → r.few) : Calls Tryd.prog 29 #[v] w fun e w' =>
    ((¬ r.ok ∧ ∃ u, e = .returned (.tuple #[.pointer none, u]) ∧ ErrIs w' u r.wrong.1 r.wrong.2.1 r.wrong.2.2.1 r.wrong.2.2.2) ∨ (r.ok ∧ ∃ p, e = .returned (.tuple #[.pointer (some ⟨p, 0, none⟩), .nilIface]) ∧ NetB w.heap.size w' p r)) ∧ Below w.heap.size w w' := by
  have hV := h
  obtain ⟨vx, vy, va, rfl, hx, hy, ha⟩ := h
  have fx := hx.form; have fy := hy.form; have fa := ha.form
  obtain ⟨w1, hw1⟩ : ∃ w1, w1 = w.alloc (.cells #[.int .i64 r.nodes, vx, vy, va] 25) := ⟨_, rfl⟩
  obtain ⟨B1, hB1⟩ : ∃ b, b = w.heap.size := ⟨_, rfl⟩
  have hb1 : Below w.heap.size w w1 := by rw [hw1]; exact (Below.refl _ _).alloc (Nat.le_refl _) _
  have K1 : Blk w1 B1 #[.int .i64 r.nodes, vx, vy, va] 25 (0, 0) := by rw [hw1, hB1]; exact Blk.new _ _ _ _
  have C := Lib.hid (check_raw _ _ _ (hV.below hb1))
  have CO := Lib.hid (fun u (hu : Below w1.heap.size w1 u) (hk : r.ok) => own_any _ r u ((hV.below hb1).below hu) (hl hk))
  have HG1 := Lib.hid (hg.later hb1)
  have HB := Lib.hid hb1; have HK1 := Lib.hid K1; have HW1 := Lib.hid hw1; have HB1 := Lib.hid hB1
  have hw := r.wrong_zero
  clear hV hx hy ha hb1 K1 hw1 hg hl
  obtain ⟨_, _, _, rfl⟩ := fx
  obtain ⟨_, _, _, rfl⟩ := fy
  obtain ⟨_, _, _, rfl⟩ := fa
  go_enter Tryd.func29, Tryd.ntmps29
  go_wp2_with fail
  rw [← HW1.out, ← hB1]
  clear hB1
  refine C.out.mono ?_
  rintro e w2 ⟨u, rfl, hi, hb2⟩
  have HB2 := Lib.hid (HB.out.next' hb2); have Hb2 := Lib.hid hb2
  rcases hi.form with ⟨rfl, hz⟩ | ⟨⟨ty, xv, rfl⟩, hz⟩
  · have hok := hw.1 hz
    have Hok := Lib.hid hok
    have k2 := HK1.out.below hb2 HK1.out.lt
    have c0 := k2.cell 0; have c1 := k2.cell 1; have c2 := k2.cell 2; have c3 := k2.cell 3
    simp only [List.getElem?_toArray, List.getElem?_cons_succ, List.getElem?_cons_zero] at c0 c1 c2 c3
    have C3 := Lib.hid (CO.out w2 hb2 hok)
    clear hi hb2 hok hz k2 hw
    go_wp2_with fail
    refine C3.out.mono ?_
    rintro e w3 ⟨v3, rfl, ho, hb3⟩
    have HB3 := Lib.hid (HB2.out.next' hb3)
    have C4 := Lib.hid (of_any v3 r w2.heap.size w3 ho (r.ok_iff.1 Hok.out) hb3.size)
    have hv3 : ∃ a b c d, v3 = .agg #[a, b, c, d] := by obtain ⟨a, b, c, e, _⟩ := ho; exact ⟨_, _, _, _, e⟩
    obtain ⟨_, _, _, _, rfl⟩ := hv3
    clear ho hb3 c0 c1 c2 c3
    go_wp2_with fail
    refine C4.out.mono ?_
    rintro e w4 ⟨p, rfl, hn, hb4⟩
    have HN : Hid (NetB w.heap.size w4 p r) := Lib.hid (fun w'' hs hk => hn w'' hs fun k h1 h2 => hk k (Nat.le_trans HB2.out.size h1) h2)
    have HB4 := Lib.hid (HB3.out.next' hb4)
    clear hn hb4
    go_wp2_with fail
    go_ret2
    exact ⟨.inr ⟨Hok.out, _, rfl, HN.out⟩, HB4.out⟩
  · have hnok : ¬ r.ok := fun h => hz (hw.2 h)
    have Hnok := Lib.hid hnok
    have C3 := Lib.hid (told_is w2 _ _ _ _ _ (HG1.out.later hb2) hi)
    have Hz := Lib.hid hz
    clear hi hb2 hnok hz hw
    obtain ⟨c, hc⟩ : ∃ c, c = r.wrong := ⟨_, rfl⟩
    rw [← hc] at C3 Hz
    obtain ⟨c0, c1, c2, c3⟩ := c
    have Hc := Lib.hid hc
    clear hc
    go_wp2_with fail
    refine C3.out.mono ?_
    rintro e w3 ⟨rfl, hb3⟩
    have HB3 := Lib.hid (HB2.out.next' hb3)
    have hal := (Below.refl w3.heap.size w3).alloc (Nat.le_refl _) (.cells #[.int .i64 c0, .int .i64 c1, .int .i64 c2, .int .i64 c3] 47)
    have HB4 := Lib.hid (HB3.out.next' hal)
    have HBl := Lib.hid (Blk.new w3 #[.int .i64 c0, .int .i64 c1, .int .i64 c2, .int .i64 c3] 47 (0, 0))
    clear hb3 hal
    go_wp2_with fail
    go_ret2
    exact ⟨.inl ⟨Hnok.out, _, rfl, by rw [← Hc.out]; exact .inr ⟨Hz.out, _, asTo_netTrouble _ _, HBl.out⟩⟩, HB4.out⟩
end Go.Proofs.YtnkcmlngoeofgaaDoor
/- an argument that is a raw graph; one of three numbers. -/
namespace Go.Proofs.YtnkcmlngoeofgaaDoor
open Go.RowKit Go.Deep
theorem blk_of_cell {w : World} {b i : Nat} {v : Value} (h : w.cell? ⟨b, i, none⟩ = some v) : ∃ cs t fr, Blk w b cs t fr ∧ cs[i]? = some v := by
  unfold World.cell? at h
  split at h
  · rename_i cs t fr hb
    exact ⟨cs, t, fr, hb, h⟩
  · cases h
theorem blk_cell_same {w : World} {b i : Nat} {cs : Array Value} {t : TypeId} {fr : Nat × Nat} {v : Value} (hb : Blk w b cs t fr) (h : w.cell? ⟨b, i, none⟩ = some v) : cs[i]? = some v := by
  rw [hb.cell] at h; exact h
theorem SlX.of_I {w : World} {v : Value} {L : List Int} (h : SlI w v .i64 L) : SlX w v L := by
  obtain ⟨a, cap, rfl, h1, h2, h3⟩ := h
  refine ⟨a, cap, rfl, h1, h2, fun i hi => ?_⟩
  obtain ⟨b, off, ha, hc⟩ := h3 i hi
  obtain ⟨cs, t, fr, hb, hx⟩ := blk_of_cell hc
  exact ⟨b, off, cs, t, fr, ha, hb, hx⟩
theorem three_of {α : Type} : ∀ {l : List α}, l.length = 3 → ∃ a b c, l = [a, b, c]
  | [a, b, c], _ => ⟨a, b, c, rfl⟩
theorem four_of {α : Type} : ∀ {l : List α}, l.length = 4 → ∃ a b c d, l = [a, b, c, d]
  | [a, b, c, d], _ => ⟨a, b, c, d, rfl⟩
theorem Rd.arc {w : World} {es : List Value} (h : Rd Tryd.prog w 54 es) : ∃ a : Ar, es = arC a := by
  obtain ⟨hl, _⟩ := Rd.struct Tryd.underlying54 h
  obtain ⟨e0, e1, e2, rfl⟩ := three_of (hl.trans (show Tryd.prog.cellsOf 54 = 3 by kernel_rfl))
  clear hl
  · skip
    obtain ⟨n0, h0, _⟩ := Rd.int (k := .i64) Tryd.underlying3 (Rd.field (e := 3) (c := e0) Tryd.underlying54 h 0 (by kernel_rfl) (by kernel_rfl) rfl)
    obtain ⟨n1, h1, _⟩ := Rd.int (k := .i64) Tryd.underlying3 (Rd.field (e := 3) (c := e1) Tryd.underlying54 h 1 (by kernel_rfl) (by kernel_rfl) rfl)
    obtain ⟨n2, h2, _⟩ := Rd.int (k := .i64) Tryd.underlying2 (Rd.field (e := 2) (c := e2) Tryd.underlying54 h 2 (by kernel_rfl) (by kernel_rfl) rfl)
    cases h0; cases h1; cases h2
    exact ⟨(n0, n1, n2), rfl⟩
theorem Rd.arcs {w : World} {v : Value} (h : Rd Tryd.prog w 23 [v]) : ∃ L : List Ar, SlA w v L := by
  obtain ⟨a, len, cap, h1, hl, hm, hel⟩ := Rd.slice Tryd.underlying23 (by rw [show Tryd.prog.cellsOf 54 = 3 by kernel_rfl]; omega) h
  have hc : Tryd.prog.cellsOf 54 = 3 := by kernel_rfl
  have hex : ∀ i, i < len → ∃ x : Ar, ∃ b off cs t fr, a = some ⟨b, off, none⟩ ∧ Blk w b cs t fr ∧ cs[off + i * 3]? = some (.int .i64 x.1) ∧ cs[off + i * 3 + 1]? = some (.int .i64 x.2.1) ∧ cs[off + i * 3 + 2]? = some (.int .i64 x.2.2) := fun i hi => by
    obtain ⟨b, off, ha, es, hes, hcell, hrd⟩ := hel i hi
    obtain ⟨x, rfl⟩ := Rd.arc hrd
    rw [hc] at hcell
    have c0 := hcell 0 (by omega); have c1 := hcell 1 (by omega); have c2 := hcell 2 (by omega)
    obtain ⟨cs, t, fr, hb, hx⟩ := blk_of_cell (c0.trans (show (arC x)[0]? = some (.int .i64 x.1) from rfl))
    exact ⟨x, b, off, cs, t, fr, ha, hb, hx, blk_cell_same hb (c1.trans rfl), blk_cell_same hb (c2.trans rfl)⟩
  obtain ⟨f, hf⟩ := choose_lt hex
  have hv : v = .slice a len cap := by simpa using h1
  refine ⟨(List.range len).map f, a, cap, by rw [hv]; simp, by simpa using hl, hm, fun i hi => ?_⟩
  have hi' : i < len := by simpa using hi
  obtain ⟨b, off, cs, t, fr, ha, hb, h0, h1, h2⟩ := hf i hi'
  exact ⟨b, off, cs, t, fr, ha, hb, by simpa using h0, by simpa using h1, by simpa using h2⟩
/-- a raw graph as an argument -/
theorem Rd.raw {w : World} {cs : Array Value} (h : Rd Tryd.prog w 25 cs.toList) : ∃ r : Raw, RawV w (.agg cs) r := by
  obtain ⟨es⟩ := cs
  obtain ⟨hl, _⟩ := Rd.struct Tryd.underlying25 h
  obtain ⟨e0, e1, e2, e3, rfl⟩ := four_of (hl.trans (show Tryd.prog.cellsOf 25 = 4 by kernel_rfl))
  clear hl
  · skip
    obtain ⟨n, h0, _⟩ := Rd.int (k := .i64) Tryd.underlying3 (Rd.field (e := 3) (c := e0) Tryd.underlying25 h 0 (by kernel_rfl) (by kernel_rfl) rfl)
    obtain ⟨X, hX, _⟩ := Rd.ints (k := .i64) Tryd.underlying22 Tryd.underlying2 (by kernel_rfl) (Rd.field (e := 22) (c := e1) Tryd.underlying25 h 1 (by kernel_rfl) (by kernel_rfl) rfl)
    obtain ⟨Y, hY, _⟩ := Rd.ints (k := .i64) Tryd.underlying22 Tryd.underlying2 (by kernel_rfl) (Rd.field (e := 22) (c := e2) Tryd.underlying25 h 2 (by kernel_rfl) (by kernel_rfl) rfl)
    obtain ⟨L, hL⟩ := Rd.arcs (Rd.field (e := 23) (c := e3) Tryd.underlying25 h 3 (by kernel_rfl) (by kernel_rfl) rfl)
    cases h0
    exact ⟨⟨n, X, Y, L⟩, e1, e2, e3, rfl, SlX.of_I hX, SlX.of_I hY, hL⟩
end Go.Proofs.YtnkcmlngoeofgaaDoor
/- NetWrong: a graph of ours with another number of nodes, with fewer Y; rows of arguments cut; operations that are passed over. -/
namespace Go.Proofs.YtnkcmlngoeofgaaDoor
open Go.RowKit
section
variable {P : Program} {ops : Array Oper} {Q : Exit → Act → World → Prop} {S : World → Prop}
theorem heldA_skip {i d : Nat} {oi : Oper} {fuel : Nat} {listed : Array Bool} {tmps : Array Value} {ds : List Deferred} {w : World} (hi : ops[i]? = some oi) (hd : oi.dst = some d) (hs : Region.noSelect ops = true) (hf : Region.free .any ops listed i = true)
    (hr : (Region.ready .any ops listed).contains i = true) (hQ : ∀ c a w, Q (.panic c) (a.put oi.dst undef) w → Q (.panic c) a w) (hw : Region.wanted oi (yielded ops tmps) = false) (hS : S w)
    (h : wpAnyH P .any ops Q S fuel (listed.setIfInBounds i true) { tmps := tmps.setIfInBounds d undef, defers := ds } w) : wpAnyH P .any ops Q S (fuel + 1) listed { tmps := tmps, defers := ds } w :=
  wpAnyH_take hi hs hf hr hQ (Or.inr ⟨hw, rfl⟩) hS (by rw [hd]; exact h)
end
theorem inC_map (L : List Int) : L.flatMap inC = L.map (Value.int .i64) := by
  induction L with
  | nil => rfl
  | cons x L ih => rw [List.flatMap_cons, ih]; rfl
theorem OutI.takeY {w1 W : World} {Bo : Nat} {vx va : Value} {g n cap : Nat} {r : Raw} (h : OutI w1 Bo vx (.slice (some ⟨g, 0, none⟩) n cap) va r W) (hn : r.Y.length = n) (m : Nat) (hm : m ≤ n) :
    OutI w1 Bo vx (.slice (some ⟨g, 0, none⟩) m cap) va { r with Y := r.Y.take m } (W.setCell ⟨Bo, 2, none⟩ (.slice (some ⟨g, 0, none⟩) m cap)) := by
  have hown := h.own.2.1
  obtain ⟨hl, h2⟩ := hown
  have hY : W.ownsRow w1.heap.size 2 1 (.slice (some ⟨g, 0, none⟩) m cap) (r.Y.take m).length ((r.Y.take m).flatMap inC) := by
    have hlm : (r.Y.take m).length = m := by rw [List.length_take]; omega
    rw [hlm]
    refine ⟨by rw [inC_map, List.length_map, hlm, Nat.mul_one], ?_⟩
    rcases h2 with ⟨e, _⟩ | ⟨g', cap', cur, ev, hb, hg, hnc, hcm, hcs, ht⟩
    · cases e
    · obtain ⟨rfl, _, rfl⟩ : g = g' ∧ n = r.Y.length ∧ cap = cap' := by simpa using ev
      refine .inr ⟨g, cap, cur, rfl, hb, hg, by omega, hcm, hcs, ?_⟩
      have : (cur.toList.take (r.Y.length * 1)).take (m * 1) = (r.Y.flatMap inC).take (m * 1) := by rw [ht]
      rw [List.take_take, Nat.min_eq_left (by omega)] at this
      rw [this, inC_map, inC_map, List.map_take, Nat.mul_one]
  have hO : Own3 w1.heap.size W vx (.slice (some ⟨g, 0, none⟩) m cap) va { r with Y := r.Y.take m } := ⟨h.own.1, hY, h.own.2.2.1, fun b h1 h3 => h.own.2.2.2 b h1 (by simpa [Value.ownBlock] using h3)⟩
  exact ⟨h.blk.set 2 _, hO.set (p := ⟨Bo, 2, none⟩) h.blk (by decide) (by decide) _, h.kept.setCell (p := ⟨Bo, 2, none⟩) rfl _⟩
theorem OutI.setN {w1 W : World} {Bo : Nat} {vx vy va : Value} {r : Raw} (h : OutI w1 Bo vx vy va r W) (n : Int) : OutI w1 Bo vx vy va { r with nodes := n } (W.setCell ⟨Bo, 0, none⟩ (.int .i64 n)) :=
  ⟨h.blk.set 0 _, Own3.set (r := { r with nodes := n }) (p := ⟨Bo, 0, none⟩) h.own h.blk (by decide) (by decide) _, h.kept.setCell (p := ⟨Bo, 0, none⟩) rfl _⟩
theorem ownCellB {w : World} {lo : Nat} {e : TypeId} {gl c : Nat} {R : List Int} (h : w.ownsRow lo e 1 (.slice (some ⟨gl, 0, none⟩) R.length c) R.length (R.flatMap inC)) {i : Nat} (hi : i < R.length) : ∃ x, w.cell? ⟨gl, i, none⟩ = some x := by
  obtain ⟨b, off, e2, hc⟩ := (slX_own rfl h).at i hi
  obtain ⟨rfl, rfl⟩ : gl = b ∧ 0 = off := by simpa using e2
  rw [Nat.zero_add] at hc
  exact ⟨_, hc⟩
theorem OutI.cellX {w1 W : World} {Bo : Nat} {vy va : Value} {g n cap : Nat} {r : Raw} (h : OutI w1 Bo (.slice (some ⟨g, 0, none⟩) n cap) vy va r W) (hn : r.X.length = n) (k : Nat) (hk : k < n) : (∃ v, W.cell? ⟨g, k, none⟩ = some v) ∧ W.frozen? ⟨g, k, none⟩ = false := by
  subst hn
  obtain ⟨_, _, hg⟩ := ownsRow_blk' h.own.1 (g := g) rfl
  exact ⟨ownCellB h.own.1 hk, hg.free _ (Or.inr (Nat.zero_le _))⟩
theorem OutI.cellY {w1 W : World} {Bo : Nat} {vx va : Value} {g n cap : Nat} {r : Raw} (h : OutI w1 Bo vx (.slice (some ⟨g, 0, none⟩) n cap) va r W) (hn : r.Y.length = n) (k : Nat) (hk : k < n) : (∃ v, W.cell? ⟨g, k, none⟩ = some v) ∧ W.frozen? ⟨g, k, none⟩ = false := by
  subst hn
  obtain ⟨_, _, hg⟩ := ownsRow_blk' h.own.2.1 (g := g) rfl
  exact ⟨ownCellB h.own.2.1 hk, hg.free _ (Or.inr (Nat.zero_le _))⟩
theorem SlA.cut {w : World} {a : Option Addr} {n cap : Nat} {L : List Ar} (h : SlA w (.slice a n cap) L) (m : Nat) (hm : m ≤ L.length) : SlA w (.slice a m cap) (L.take m) := by
  obtain ⟨a', cap', e, h1, h2, h3⟩ := h
  obtain ⟨rfl, rfl, rfl⟩ : a = a' ∧ n = L.length ∧ cap = cap' := by simpa using e
  have hl : (L.take m).length = m := by rw [List.length_take]; omega
  refine ⟨a, cap, by rw [hl], by omega, h2, fun i hi => ?_⟩
  have hi' : i < L.length := by omega
  rw [List.getElem_take]
  exact h3 i hi'
end Go.Proofs.YtnkcmlngoeofgaaDoor
