/- Texts of the law GraphTells, merged: GrRows, GrFewW. -/
import Derived.Test.YtnkcmlngoeofgaaDoorPGraphTells08
import Derived.Test.YtnkcmlngoeofgaaDoorPGraphTells09
import Derived.Test.YtnkcmlngoeofgaaDoorPGraphTells11
import Derived.Test.YtnkcmlngoeofgaaDoorPGraphTells05
/- GraphTells: rows of graphs. -/
namespace Go.Proofs.YtnkcmlngoeofgaaDoor
open Go.RowKit
/-- a graph in a row: its three lists' values, and what it is -/
abbrev El := Value × Value × Value × Raw
def elC (e : El) : List Value := [.int .i64 e.2.2.2.nodes, e.1, e.2.1, e.2.2.1]
theorem elC_len (e : El) : (elC e).length = 4 := rfl
def elV (e : El) : Value := .agg #[.int .i64 e.2.2.2.nodes, e.1, e.2.1, e.2.2.1]
/-- it reads in each world that is w but for the block g -/
structure ElOk (w : World) (g : Nat) (e : El) : Prop where
  raw : ∀ u : World, w.heap.size ≤ u.heap.size → (∀ k, k ≠ g → k < w.heap.size → u.heap[k]? = w.heap[k]?) → RawV u (elV e) e.2.2.2
  lens : e.2.2.2.X.length ≤ 100 ∧ e.2.2.2.Y.length ≤ 100 ∧ e.2.2.2.arcs.length ≤ 100
theorem ElOk.mono {w w' : World} {g g' : Nat} {e : El} (h : ElOk w g e) (hs : w.heap.size ≤ w'.heap.size) (hb : ∀ k, k ≠ g → k < w.heap.size → w'.heap[k]? = w.heap[k]?) (hg : g' = g ∨ w.heap.size ≤ g') : ElOk w' g' e :=
  ⟨fun u h1 h2 => h.raw u (by omega) fun k hk hl => (h2 k (by omega) (by omega)).trans (hb k hk hl), h.lens⟩
theorem ElOk.below {w w' : World} {g : Nat} {e : El} (h : ElOk w g e) (hb : Below w.heap.size w w') : ElOk w' g e := h.mono hb.size (fun k _ hk => hb.block k hk) (.inl rfl)
theorem ElOk.at {w u : World} {g : Nat} {e : El} (h : ElOk w g e) (hb : Below w.heap.size w u) : RawV u (elV e) e.2.2.2 := h.raw u hb.size fun k _ hk => hb.block k hk
/-- what lay there ahead of the row -/
theorem ElOk.old {w0 w : World} {g : Nat} {e : El} (h : RawV w0 (elV e) e.2.2.2) (hb : Below w0.heap.size w0 w) (hg : w0.heap.size ≤ g) (hl : e.2.2.2.X.length ≤ 100 ∧ e.2.2.2.Y.length ≤ 100 ∧ e.2.2.2.arcs.length ≤ 100) : ElOk w g e :=
  ⟨fun u h1 h2 => by
    have k : KpC w0 u := ⟨Nat.le_trans hb.size h1, fun i cs t fr hi => by
      have hlt := (Array.getElem?_eq_some_iff.1 hi).1
      have h3 := hb.size
      exact (h2 i (by omega) (by omega)).trans (hb.block i hlt)⟩
    obtain ⟨vx, vy, va, e1, k1, k2, k3⟩ := h
    exact ⟨vx, vy, va, e1, k1.keep k, k2.keep k, k3.keep k⟩, hl⟩
/-- what was made ahead of the row -/
theorem ElOk.made {base : Nat} {w0 w : World} {g : Nat} {e : El} (h : RawO base w0 (elV e) e.2.2.2) (hb : Below w0.heap.size w0 w) (hg : w0.heap.size ≤ g) (hl : e.2.2.2.X.length ≤ 100 ∧ e.2.2.2.Y.length ≤ 100 ∧ e.2.2.2.arcs.length ≤ 100) : ElOk w g e :=
  ElOk.old h.raw hb hg hl
/-- what was made behind the row, of blocks from lo on -/
theorem ElOk.behind {lo : Nat} {w0 w : World} {g : Nat} {e : El} (h : ∀ u, (∀ k, lo ≤ k → k < w0.heap.size → u.heap[k]? = w0.heap[k]?) → RawV u (elV e) e.2.2.2) (hs : w0.heap.size ≤ w.heap.size) (hb : ∀ k, lo ≤ k → k < w0.heap.size → w.heap[k]? = w0.heap[k]?) (hg : g < lo ∨ w0.heap.size ≤ g) (hl : e.2.2.2.X.length ≤ 100 ∧ e.2.2.2.Y.length ≤ 100 ∧ e.2.2.2.arcs.length ≤ 100) : ElOk w g e :=
  ⟨fun u h1 h2 => h u fun k hk hk2 => (h2 k (by omega) (by omega)).trans (hb k hk hk2), hl⟩
/-- a row of graphs of ours -/
structure LsR (lo : Nat) (w : World) (g c : Nat) (L : List El) : Prop where
  own : w.ownsRow lo 25 4 (.slice (some ⟨g, 0, none⟩) L.length c) L.length (L.flatMap elC)
  ok : ∀ e ∈ L, ElOk w g e
theorem LsR.below {lo : Nat} {w w' : World} {g c : Nat} {L : List El} (h : LsR lo w g c L) (hb : Below w.heap.size w w') : LsR lo w' g c L := ⟨ownsRow_below h.own hb, fun e he => (h.ok e he).below hb⟩
theorem LsR.lt {lo : Nat} {w : World} {g c : Nat} {L : List El} (h : LsR lo w g c L) : lo ≤ g ∧ g < w.heap.size := ⟨(ownsRow_blk' h.own rfl).1, (ownsRow_blk' h.own rfl).2.choose_spec.lt⟩
theorem LsR.cells {lo : Nat} {w : World} {g c : Nat} {L : List El} (h : LsR lo w g c L) (i : Nat) (e : El) (he : L[i]? = some e) : w.cell? ⟨g, i * 4, none⟩ = some (.int .i64 e.2.2.2.nodes) ∧ w.cell? ⟨g, i * 4 + 1, none⟩ = some e.1 ∧ w.cell? ⟨g, i * 4 + 2, none⟩ = some e.2.1 ∧ w.cell? ⟨g, i * 4 + 3, none⟩ = some e.2.2.1 := by
  have hi := (List.getElem?_eq_some_iff.1 he).1
  have g4 : ∀ d, d < 4 → w.cell? ⟨g, i * 4 + d, none⟩ = (elC e)[d]? := fun d hd => by
    rw [h.own.cellAt _ (by omega), flatN_get 4 elC elC_len L i d hd, he]; rfl
  exact ⟨g4 0 (by omega), g4 1 (by omega), g4 2 (by omega), g4 3 (by omega)⟩
theorem infoR : (Tryd.prog.info? 25).map (fun i => (i.zero, i.size, i.bytes)) = some (some (.agg #[.int .i64 0, .slice none 0 0, .slice none 0 0, .slice none 0 0]), 4, 80) := by kernel_rfl
theorem RawV.forms {w : World} {e : El} (h : RawV w (elV e) e.2.2.2) : ∃ a1 n1 c1 a2 n2 c2 a3 n3 c3, e.1 = .slice a1 n1 c1 ∧ e.2.1 = .slice a2 n2 c2 ∧ e.2.2.1 = .slice a3 n3 c3 := by
  obtain ⟨vx, vy, va, e1, k1, k2, k3⟩ := h
  unfold elV at e1
  simp only [Value.agg.injEq, Array.mk.injEq, List.cons.injEq, true_and, and_true] at e1
  obtain ⟨rfl, rfl, rfl⟩ := e1
  obtain ⟨a1, n1, c1, q1⟩ := k1.form
  obtain ⟨a2, n2, c2, q2⟩ := k2.form
  obtain ⟨a3, n3, c3, q3⟩ := k3.form
  exact ⟨a1, n1, c1, a2, n2, c2, a3, n3, c3, q1, q2, q3⟩
/-- a graph more -/
theorem LsR.push {lo : Nat} {w : World} {g c : Nat} {L : List El} {e : El} {B : Nat} (h : LsR lo w g c L) (hB : Blk w B (elC e).toArray 25 (0, 0)) (he : ∀ g', (g' = g ∨ w.heap.size ≤ g') → ElOk w g' e) (hl : L.length ≤ 10) (h1 : ∃ a1 n1 c1 a2 n2 c2 a3 n3 c3, e.1 = .slice a1 n1 c1 ∧ e.2.1 = .slice a2 n2 c2 ∧ e.2.2.1 = .slice a3 n3 c3) :
    ∃ g' c' w', (Builtin.append_ #[44, 44] 44 #[.slice (some ⟨g, 0, none⟩) L.length c, .slice (some ⟨B, 0, none⟩) 1 1]).run Tryd.prog w = .ok (.slice (some ⟨g', 0, none⟩) (L ++ [e]).length c') w' ∧ LsR lo w' g' c' (L ++ [e]) ∧ Below lo w w' := by
  obtain ⟨i0, hi, hz0, hz1, hz2⟩ := info_parts infoR
  obtain ⟨a1, n1, c1, a2, n2, c2, a3, n3, c3, q1, q2, q3⟩ := h1
  have hs : SlF 4 w (.slice (some ⟨B, 0, none⟩) 1 1) 1 (elC e) := ⟨elC_len e, fun u hu => by
    simp only [elC, List.mem_cons, List.not_mem_nil, or_false] at hu
    rcases hu with rfl | rfl | rfl | rfl
    · rfl
    · rw [q1]; rfl
    · rw [q2]; rfl
    · rw [q3]; rfl, _, 1, rfl, Nat.le_refl _, by unfold maxLen; omega, fun j u hu => ⟨B, 0, rfl, by rw [Nat.zero_add, hB.cell, List.getElem?_toArray]; exact hu⟩⟩
  obtain ⟨lt1, lt2⟩ := h.lt
  obtain ⟨v', w', hr, hown, hgr, hat, _⟩ := run_append_row (P := Tryd.prog) lo 44 44 25 i0 _ 4 80 Tryd.underlying44 hi hz0 hz1 hz2 rfl (by omega) _ L.length _ h.own _ 1 _ hs (by unfold maxLen; omega) (by omega) (by omega)
  obtain ⟨a, c', rfl, hfm⟩ := ownForm hown
  obtain ⟨g', rfl⟩ := hfm (by omega)
  have hg' : g' = g ∨ w.heap.size ≤ g' := by
    rcases hat with e | e
    · exact .inl (by simpa [Value.ownBlock] using e)
    · have : g' = w.heap.size := by simpa [Value.ownBlock] using e
      exact .inr (by omega)
  have hbk : ∀ k, k ≠ g → k < w.heap.size → w'.heap[k]? = w.heap[k]? := fun k hk hlt => hgr.block k hlt (by simpa [Value.ownBlock] using hk)
  have hl1 : (L ++ [e]).length = L.length + 1 := by simp
  refine ⟨g', c', w', by rw [hl1]; exact hr, ⟨?_, ?_⟩, ⟨hgr.os, hgr.tape, hgr.output, hgr.size, fun k hk => hbk k (by omega) (by omega)⟩⟩
  · rw [hl1, List.flatMap_append]; simpa using hown
  · intro x hx
    rcases List.mem_append.1 hx with hx | hx
    · exact (h.ok x hx).mono hgr.size hbk hg'
    · rw [List.mem_singleton.1 hx]
      exact (he g (.inl rfl)).mono hgr.size hbk hg'
end Go.Proofs.YtnkcmlngoeofgaaDoor
/- the graph laws' few, once more: what it answers lies where its argument lay. -/
namespace Go.Proofs.YtnkcmlngoeofgaaDoor
open Go.RowKit
set_option maxRecDepth 100000 in
set_option maxHeartbeats 8000000 in
theorem few_anyW (v : Value) (r : Raw) (w : World) (h : RawV w v r) : Calls Tryd.prog 14 #[v] w fun e w' => ∃ v', e = .returned v' ∧ (∀ u, RawV u v r → RawV u v' (fewR r)) ∧ Below w.heap.size w w' := by
  obtain ⟨vx, vy, va, rfl, hx, hy, ha⟩ := h
  obtain ⟨xa, xc, rfl, hxc, hxm, _⟩ := id hx
  obtain ⟨ya, yc, rfl, hyc, hym, _⟩ := id hy
  obtain ⟨za, zc, rfl, hzc, hzm, _⟩ := id ha
  unfold maxLen at hxm hym hzm
  obtain ⟨B1, hB1⟩ : ∃ b, b = w.heap.size := ⟨_, rfl⟩
  obtain ⟨B2, hB2⟩ : ∃ b, b = w.heap.size + 1 := ⟨_, rfl⟩
  obtain ⟨w1, hw1⟩ : ∃ u, u = (w.alloc (.cells #[.int .i64 r.nodes, .slice xa r.X.length xc, .slice ya r.Y.length yc, .slice za r.arcs.length zc] 25)).alloc (.cells #[.int .i64 0, .slice none 0 0, .slice none 0 0, .slice none 0 0] 25) := ⟨_, rfl⟩
  have hb1 : Below w.heap.size w w1 := by rw [hw1]; exact ((Below.refl _ _).alloc (Nat.le_refl _) _).alloc (by simp) _
  have K1 : Blk w1 B1 #[.int .i64 r.nodes, .slice xa r.X.length xc, .slice ya r.Y.length yc, .slice za r.arcs.length zc] 25 (0, 0) := by rw [hw1, hB1]; exact (Blk.new _ _ _ _).alloc _
  have K2 : Blk w1 B2 #[.int .i64 0, .slice none 0 0, .slice none 0 0, .slice none 0 0] 25 (0, 0) := by
    rw [hw1, hB2]
    have h := Blk.new (w.alloc (.cells #[.int .i64 r.nodes, .slice xa r.X.length xc, .slice ya r.Y.length yc, .slice za r.arcs.length zc] 25)) #[.int .i64 0, .slice none 0 0, .slice none 0 0, .slice none 0 0] 25 (0, 0)
    rwa [World.size_alloc] at h
  have hne : B2 ≠ B1 := by omega
  have hle1 : w.heap.size ≤ B1 := by omega
  have hle2 : w.heap.size ≤ B2 := by omega
  have HC := Lib.hid (And.intro hne (And.intro hle1 hle2))
  have HB := Lib.hid hb1; have HK1 := Lib.hid K1; have HK2 := Lib.hid K2; have HW1 := Lib.hid hw1; have HE1 := Lib.hid hB1; have HE2 := Lib.hid hB2
  have g1 : (if (40 : Int) < (r.X.length : Int) then (40 : Int) else (r.X.length : Int)) = ((min r.X.length 40 : Nat) : Int) := by split <;> omega
  have g2 : (if (40 : Int) < (r.Y.length : Int) then (40 : Int) else (r.Y.length : Int)) = ((min r.Y.length 40 : Nat) : Int) := by split <;> omega
  have g3 : (if (60 : Int) < (r.arcs.length : Int) then (60 : Int) else (r.arcs.length : Int)) = ((min r.arcs.length 60 : Nat) : Int) := by split <;> omega
  have i1 : ((min r.X.length 40 : Nat) : Int) ≤ (xc : Int) := by omega
  have i2 : ((min r.Y.length 40 : Nat) : Int) ≤ (yc : Int) := by omega
  have i3 : ((min r.arcs.length 60 : Nat) : Int) ≤ (zc : Int) := by omega
  have j1 : min r.X.length 40 ≤ xc := by omega
  have j2 : min r.Y.length 40 ≤ yc := by omega
  have j3 : min r.arcs.length 60 ≤ zc := by omega
  clear hx hy ha hb1 K1 K2 hw1 hne hle1 hle2
  go_enter Tryd.func14, Tryd.ntmps14
  go_upto_region 1 with fail
  rw [← HW1.out, ← HE2.out, ← HE1.out]
  clear hB1 hB2 HW1 HE1 HE2
  have c := HK1.out.cell 1; have f := HK1.out.free 1 (Or.inr (Nat.zero_le _))
  change w1.cell? ⟨B1, 1, none⟩ = some (.slice xa r.X.length xc) at c
  go_upto_region 2 with fail
  have K1 := HK1.out.set 1 (.slice xa (min r.X.length 40) xc)
  have K2 := HK2.out.setOther ⟨B1, 1, none⟩ (.slice xa (min r.X.length 40) xc) HC.out.1
  have hb := HB.out.setCell (p := ⟨B1, 1, none⟩) HC.out.2.1 (.slice xa (min r.X.length 40) xc)
  have HK1' := Lib.hid K1; have HK2' := Lib.hid K2; have HB' := Lib.hid hb
  clear c f K1 K2 hb HK1 HK2 HB
  generalize w1.setCell ⟨B1, 1, none⟩ (.slice xa (min r.X.length 40) xc) = w2 at *
  have c := HK1'.out.cell 2; have f := HK1'.out.free 2 (Or.inr (Nat.zero_le _))
  change w2.cell? ⟨B1, 2, none⟩ = some (.slice ya r.Y.length yc) at c
  go_upto_region 3 with fail
  have K1 := HK1'.out.set 2 (.slice ya (min r.Y.length 40) yc)
  have K2 := HK2'.out.setOther ⟨B1, 2, none⟩ (.slice ya (min r.Y.length 40) yc) HC.out.1
  have hb := HB'.out.setCell (p := ⟨B1, 2, none⟩) HC.out.2.1 (.slice ya (min r.Y.length 40) yc)
  have HK1 := Lib.hid K1; have HK2 := Lib.hid K2; have HB := Lib.hid hb
  clear c f K1 K2 hb HK1' HK2' HB'
  generalize w2.setCell ⟨B1, 2, none⟩ (.slice ya (min r.Y.length 40) yc) = w3 at *
  have c := HK1.out.cell 3; have f := HK1.out.free 3 (Or.inr (Nat.zero_le _))
  change w3.cell? ⟨B1, 3, none⟩ = some (.slice za r.arcs.length zc) at c
  go_upto_region 4 with fail
  have K1 := HK1.out.set 3 (.slice za (min r.arcs.length 60) zc)
  have K2 := HK2.out.setOther ⟨B1, 3, none⟩ (.slice za (min r.arcs.length 60) zc) HC.out.1
  have hb := HB.out.setCell (p := ⟨B1, 3, none⟩) HC.out.2.1 (.slice za (min r.arcs.length 60) zc)
  have HK1' := Lib.hid K1; have HK2' := Lib.hid K2; have HB' := Lib.hid hb
  clear c f K1 K2 hb HK1 HK2 HB
  generalize w3.setCell ⟨B1, 3, none⟩ (.slice za (min r.arcs.length 60) zc) = w4 at *
  have c0 := HK1'.out.cell 0; have c1 := HK1'.out.cell 1; have c2 := HK1'.out.cell 2; have c3 := HK1'.out.cell 3
  change w4.cell? ⟨B1, 0, none⟩ = some (.int .i64 r.nodes) at c0
  change w4.cell? ⟨B1, 1, none⟩ = some (.slice xa (min r.X.length 40) xc) at c1
  change w4.cell? ⟨B1, 2, none⟩ = some (.slice ya (min r.Y.length 40) yc) at c2
  change w4.cell? ⟨B1, 3, none⟩ = some (.slice za (min r.arcs.length 60) zc) at c3
  have e0 := HK2'.out.cell 0; have e1 := HK2'.out.cell 1; have e2 := HK2'.out.cell 2; have e3 := HK2'.out.cell 3
  change w4.cell? ⟨B2, 0, none⟩ = some (.int .i64 0) at e0
  change w4.cell? ⟨B2, 1, none⟩ = some (.slice none 0 0) at e1
  change w4.cell? ⟨B2, 2, none⟩ = some (.slice none 0 0) at e2
  change w4.cell? ⟨B2, 3, none⟩ = some (.slice none 0 0) at e3
  have fr := fun i => HK2'.out.free i (Or.inr (Nat.zero_le _))
  have f0 := fr 0; have f1 := fr 1; have f2 := fr 2; have f3 := fr 3
  have bZ := (((HK2'.out.set 0 (.int .i64 r.nodes)).set 1 (.slice xa (min r.X.length 40) xc)).set 2 (.slice ya (min r.Y.length 40) yc)).set 3 (.slice za (min r.arcs.length 60) zc)
  have hbz := (((HB'.out.setCell (p := ⟨B2, 0, none⟩) HC.out.2.2 (.int .i64 r.nodes)).setCell (p := ⟨B2, 1, none⟩) HC.out.2.2 (.slice xa (min r.X.length 40) xc)).setCell (p := ⟨B2, 2, none⟩) HC.out.2.2 (.slice ya (min r.Y.length 40) yc)).setCell (p := ⟨B2, 3, none⟩) HC.out.2.2 (.slice za (min r.arcs.length 60) zc)
  have HZ := Lib.hid bZ; have HBz := Lib.hid hbz
  clear bZ hbz fr HK1' HK2' HB'
  go_wp2_with fail
  generalize (((w4.setCell ⟨B2, 0, none⟩ (.int .i64 r.nodes)).setCell ⟨B2, 1, none⟩ (.slice xa (min r.X.length 40) xc)).setCell ⟨B2, 2, none⟩ (.slice ya (min r.Y.length 40) yc)).setCell ⟨B2, 3, none⟩ (.slice za (min r.arcs.length 60) zc) = wz at *
  have z0 := HZ.out.cell 0; have z1 := HZ.out.cell 1; have z2 := HZ.out.cell 2; have z3 := HZ.out.cell 3
  change wz.cell? ⟨B2, 0, none⟩ = some (.int .i64 r.nodes) at z0
  change wz.cell? ⟨B2, 1, none⟩ = some (.slice xa (min r.X.length 40) xc) at z1
  change wz.cell? ⟨B2, 2, none⟩ = some (.slice ya (min r.Y.length 40) yc) at z2
  change wz.cell? ⟨B2, 3, none⟩ = some (.slice za (min r.arcs.length 60) zc) at z3
  exact bodyPost_ret (v := .agg #[.int .i64 r.nodes, .slice xa (min r.X.length 40) xc, .slice ya (min r.Y.length 40) yc, .slice za (min r.arcs.length 60) zc]) (by simp [results, Tryd.results14, go_sem, z0, z1, z2, z3]) rfl ⟨_, rfl, fun u hu => (by obtain ⟨_, _, _, e, h1, h2, h3⟩ := hu; cases e; exact ⟨_, _, _, rfl, h1.cut _ (by omega), h2.cut _ (by omega), h3.cut _ (by omega)⟩), HBz.out⟩
end Go.Proofs.YtnkcmlngoeofgaaDoor
