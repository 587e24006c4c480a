/- Texts of the law GraphTells, merged: GrCopied, GrOut, GrEqual, CopyD, GrCp3, Append. -/
import Derived.Test.YtnkcmlngoeofgaaDoorPGraphTells01
import Derived.BigQuiet
import Derived.Deep.QuietTactic
import Derived.WalkSmall
import Derived.Deep.AppendSrc
import Derived.Maps.AppendAt
import Derived.RegionTactic
/- graph.copied: a graph with lists of its own. -/
namespace Go.Proofs.YtnkcmlngoeofgaaDoor
open Go.RowKit
theorem SlX.form {w : World} {v : Value} {L : List Int} (h : SlX w v L) : ∃ a n c, v = .slice a n c := by obtain ⟨a, c, e, _⟩ := h; exact ⟨_, _, _, e⟩
theorem SlA.form {w : World} {v : Value} {L : List Ar} (h : SlA w v L) : ∃ a n c, v = .slice a n c := by obtain ⟨a, c, e, _⟩ := h; exact ⟨_, _, _, e⟩
theorem _root_.Go.World.ownsRow.one' {w : World} {base : Nat} {e : TypeId} {size : Nat} {v : Value} {n : Nat} {xs : List Value} (h : w.ownsRow base e size v n xs) : ∃ a n c, v = .slice a n c := by
  rcases h.2 with ⟨h, _⟩ | ⟨g, cap, cur, h, _⟩
  · exact ⟨_, _, _, h⟩
  · exact ⟨_, _, _, h⟩
theorem ownsRow_le {w : World} {base base' : Nat} {e : TypeId} {size : Nat} {v : Value} {n : Nat} {xs : List Value} (h : w.ownsRow base' e size v n xs) (hb : base ≤ base') : w.ownsRow base e size v n xs :=
  ⟨h.1, h.2.imp id fun ⟨g, cap, cur, h1, h2, h3⟩ => ⟨g, cap, cur, h1, Nat.le_trans hb h2, h3⟩⟩
theorem ownsRow_blk' {w : World} {base : Nat} {e : TypeId} {size : Nat} {v : Value} {n : Nat} {xs : List Value} (h : w.ownsRow base e size v n xs) {g : Nat} (hg : v.ownBlock = some g) : base ≤ g ∧ ∃ cur, Blk w g cur e (0, 0) := by
  rcases h.2 with ⟨rfl, _⟩ | ⟨g', cap, cur, rfl, h1, h2, _⟩
  · cases hg
  · obtain rfl : g' = g := by simpa [Value.ownBlock] using hg
    exact ⟨h1, cur, h2⟩
theorem ownsRow_agree' {w w' : World} {base : Nat} {e : TypeId} {size : Nat} {v : Value} {n : Nat} {xs : List Value} (h : w.ownsRow base e size v n xs) (hb : ∀ k, v.ownBlock = some k → w'.heap[k]? = w.heap[k]?) : w'.ownsRow base e size v n xs := by
  refine ⟨h.1, ?_⟩
  rcases h.2 with h0 | ⟨g, cap, cur, rfl, h1, h2, h3⟩
  · exact .inl h0
  · exact .inr ⟨g, cap, cur, rfl, h1, (hb g (by simp [Value.ownBlock])).trans h2, h3⟩
theorem ownsRow_below {w w' : World} {base : Nat} {e : TypeId} {size : Nat} {v : Value} {n : Nat} {xs : List Value} (h : w.ownsRow base e size v n xs) (hb : Below w.heap.size w w') : w'.ownsRow base e size v n xs :=
  ownsRow_agree' h fun _ hk => hb.block _ (ownsRow_blk' h hk).2.choose_spec.lt
/-- v is a raw graph -/
def RawV (w : World) (v : Value) (r : Raw) : Prop := ∃ vx vy va, v = .agg #[.int .i64 r.nodes, vx, vy, va] ∧ SlX w vx r.X ∧ SlX w vy r.Y ∧ SlA w va r.arcs
/-- a raw graph whose lists are ours -/
def RawO (base : Nat) (w : World) (v : Value) (r : Raw) : Prop :=
  ∃ vx vy va, v = .agg #[.int .i64 r.nodes, vx, vy, va] ∧ w.ownsRow base 2 1 vx r.X.length (r.X.flatMap inC) ∧ w.ownsRow base 2 1 vy r.Y.length (r.Y.flatMap inC) ∧ w.ownsRow base 54 3 va r.arcs.length (r.arcs.flatMap arC) ∧ (∀ b, vx.ownBlock = some b → vy.ownBlock = some b → False)
theorem RawO.raw {base : Nat} {w : World} {v : Value} {r : Raw} (h : RawO base w v r) : RawV w v r := by
  obtain ⟨vx, vy, va, e, h1, h2, h3, _⟩ := h
  exact ⟨vx, vy, va, e, slX_own rfl h1, slX_own rfl h2, slA_own rfl h3⟩
theorem RawO.below {base : Nat} {w w' : World} {v : Value} {r : Raw} (h : RawO base w v r) (hb : Below w.heap.size w w') : RawO base w' v r := by
  obtain ⟨vx, vy, va, e, h1, h2, h3, h4⟩ := h
  exact ⟨vx, vy, va, e, ownsRow_below h1 hb, ownsRow_below h2 hb, ownsRow_below h3 hb, h4⟩
theorem RawV.below {w w' : World} {v : Value} {r : Raw} (h : RawV w v r) (hb : Below w.heap.size w w') : RawV w' v r := by
  obtain ⟨vx, vy, va, e, h1, h2, h3⟩ := h
  have hk := KpC.of_below hb
  exact ⟨vx, vy, va, e, h1.keep hk, h2.keep hk, h3.keep hk⟩
/-- not more than memory holds -/
def Raw.few (r : Raw) : Prop := r.X.length ≤ 1000000000000 ∧ r.Y.length ≤ 1000000000000 ∧ r.arcs.length ≤ 1000000000000
/-- three rows are a graph's -/
def Own3 (base : Nat) (w : World) (vx vy va : Value) (r : Raw) : Prop := w.ownsRow base 2 1 vx r.X.length (r.X.flatMap inC) ∧ w.ownsRow base 2 1 vy r.Y.length (r.Y.flatMap inC) ∧ w.ownsRow base 54 3 va r.arcs.length (r.arcs.flatMap arC) ∧ (∀ b, vx.ownBlock = some b → vy.ownBlock = some b → False)
theorem ownsRow_set {w : World} {base : Nat} {e : TypeId} {size : Nat} {v : Value} {n : Nat} {xs : List Value} (h : w.ownsRow base e size v n xs) {p : Addr} {cs : Array Value} {t : TypeId} {fr : Nat × Nat} (hb : Blk w p.block cs t fr) (ht : t ≠ e) (x : Value) : (w.setCell p x).ownsRow base e size v n xs :=
  ownsRow_agree' h fun k hk => heap_setCell_other _ _ _ _ (fun e => by
    subst e
    obtain ⟨_, cur, hc⟩ := ownsRow_blk' h hk
    have e2 := (show w.heap[p.block]? = some _ from hb).symm.trans (show w.heap[p.block]? = some _ from hc)
    cases e2; exact ht rfl)
theorem Own3.set {base : Nat} {w : World} {vx vy va : Value} {r : Raw} (h : Own3 base w vx vy va r) {p : Addr} {cs : Array Value} {t : TypeId} {fr : Nat × Nat} (hb : Blk w p.block cs t fr) (h1 : t ≠ 2) (h2 : t ≠ 54) (x : Value) : Own3 base (w.setCell p x) vx vy va r :=
  ⟨ownsRow_set h.1 hb h1 x, ownsRow_set h.2.1 hb h1 x, ownsRow_set h.2.2.1 hb h2 x, h.2.2.2⟩
theorem rawO_mk {base : Nat} {w : World} {vx vy va : Value} {r : Raw} (h1 : w.ownsRow base 2 1 vx r.X.length (r.X.flatMap inC)) (h2 : w.ownsRow base 2 1 vy r.Y.length (r.Y.flatMap inC)) (h3 : w.ownsRow base 54 3 va r.arcs.length (r.arcs.flatMap arC)) (h4 : ∀ b, vx.ownBlock = some b → vy.ownBlock = some b → False) : Own3 base w vx vy va r := ⟨h1, h2, h3, h4⟩
set_option maxRecDepth 100000 in
set_option maxHeartbeats 4000000 in
theorem copied_any (v : Value) (r : Raw) (w : World) (h : RawV w v r) (hl : r.few) :
    Calls Tryd.prog 50 #[v] w fun e w' => ∃ v', e = .returned v' ∧ RawO w.heap.size w' v' r ∧ Below w.heap.size w w' := by
  obtain ⟨vx, vy, va, rfl, hx, hy, ha⟩ := h
  have fx := hx.form; have fy := hy.form; have fa := ha.form
  obtain ⟨B, hB⟩ : ∃ b, b = w.heap.size := ⟨_, rfl⟩
  have b2 := (Blk.new w #[.int .i64 r.nodes, vx, vy, va] 25 (0, 0)).alloc (.cells #[.int .i64 0, .slice none 0 0, .slice none 0 0, .slice none 0 0] 25)
  have c2 : Blk ((w.alloc (.cells #[.int .i64 r.nodes, vx, vy, va] 25)).alloc (.cells #[.int .i64 0, .slice none 0 0, .slice none 0 0, .slice none 0 0] 25)) (w.heap.size + 1) #[.int .i64 0, .slice none 0 0, .slice none 0 0, .slice none 0 0] 25 (0, 0) := by
    have h := Blk.new (w.alloc (.cells #[.int .i64 r.nodes, vx, vy, va] 25)) #[.int .i64 0, .slice none 0 0, .slice none 0 0, .slice none 0 0] 25 (0, 0)
    rwa [World.size_alloc] at h
  have hb0 := ((Below.refl w.heap.size w).alloc (Nat.le_refl _) (.cells #[.int .i64 r.nodes, vx, vy, va] 25)).alloc (by simp) (.cells #[.int .i64 0, .slice none 0 0, .slice none 0 0, .slice none 0 0] 25)
  have hk0 := KpC.of_below hb0
  have HX := Lib.hid (hx.keep hk0); have HY := Lib.hid (hy.keep hk0); have HA := Lib.hid (ha.keep hk0); have HB0 := Lib.hid hb0; have HB2 := Lib.hid b2; have HC2 := Lib.hid c2; have HL := Lib.hid hl
  rw [← hB] at HB2 HC2
  have HBl : Hid (B = w.heap.size) := Lib.hid hB
  clear hx hy ha b2 c2 hb0 hl hk0
  obtain ⟨ax, nx, cx, rfl⟩ := fx
  obtain ⟨ay, ny, cy, rfl⟩ := fy
  obtain ⟨aa, na, ca, rfl⟩ := fa
  obtain ⟨Bs, hBs⟩ : ∃ b, b = B + 1 := ⟨_, rfl⟩
  rw [← hBs] at HC2
  have HBs : Hid (Bs = B + 1) := Lib.hid hBs
  go_enter Tryd.func50, Tryd.ntmps50
  go_wp2_with fail
  rw [show w.heap.size + 1 = Bs by rw [hBs, hB], ← hB]
  clear hB hBs
  generalize ((w.alloc (.cells #[.int .i64 r.nodes, .slice ax nx cx, .slice ay ny cy, .slice aa na ca] 25)).alloc (.cells #[.int .i64 0, .slice none 0 0, .slice none 0 0, .slice none 0 0] 25)) = w1 at *
  refine wp_region_heldD (fun w' => w'.cell? ⟨B, 1, none⟩ = some (.slice ax nx cx) ∧ w'.cell? ⟨B, 2, none⟩ = some (.slice ay ny cy) ∧ w'.cell? ⟨B, 3, none⟩ = some (.slice aa na ca)) 10 rfl ?_
  change heldD _ _ _ _ _ _ _ 15 _ _ w1.drew
  have hS0 : w1.drew.cell? ⟨B, 1, none⟩ = some (.slice ax nx cx) ∧ w1.drew.cell? ⟨B, 2, none⟩ = some (.slice ay ny cy) ∧ w1.drew.cell? ⟨B, 3, none⟩ = some (.slice aa na ca) := ⟨HB2.out.cell 1, HB2.out.cell 2, HB2.out.cell 3⟩
  refine heldD_take (i := 0) (v := .pointer (some ⟨B, 1, none⟩)) rfl rfl rfl (by kernel_rfl) (by kernel_rfl) (by kernel_rfl) (by kernel_rfl) (by kernel_rfl) (by kernel_rfl) (fun _ _ _ h => h) (by rfl) (fun w hS => ⟨by rfl, by obtain ⟨hS1, hS2, hS3⟩ := hS; go_simp⟩) hS0 ?_
  simp only [List.setIfInBounds_toArray, List.set_cons_zero, List.set_cons_succ]
  refine heldD_take (i := 1) (v := .slice ax nx cx) rfl rfl rfl (by kernel_rfl) (by kernel_rfl) (by kernel_rfl) (by kernel_rfl) (by kernel_rfl) (by kernel_rfl) (fun _ _ _ h => h) (by rfl) (fun w hS => ⟨by rfl, by obtain ⟨hS1, hS2, hS3⟩ := hS; go_simp⟩) hS0 ?_
  simp only [List.setIfInBounds_toArray, List.set_cons_zero, List.set_cons_succ]
  refine heldD_take (i := 3) (v := .pointer (some ⟨B, 2, none⟩)) rfl rfl rfl (by kernel_rfl) (by kernel_rfl) (by kernel_rfl) (by kernel_rfl) (by kernel_rfl) (by kernel_rfl) (fun _ _ _ h => h) (by rfl) (fun w hS => ⟨by rfl, by obtain ⟨hS1, hS2, hS3⟩ := hS; go_simp⟩) hS0 ?_
  simp only [List.setIfInBounds_toArray, List.set_cons_zero, List.set_cons_succ]
  refine heldD_take (i := 4) (v := .slice ay ny cy) rfl rfl rfl (by kernel_rfl) (by kernel_rfl) (by kernel_rfl) (by kernel_rfl) (by kernel_rfl) (by kernel_rfl) (fun _ _ _ h => h) (by rfl) (fun w hS => ⟨by rfl, by obtain ⟨hS1, hS2, hS3⟩ := hS; go_simp⟩) hS0 ?_
  simp only [List.setIfInBounds_toArray, List.set_cons_zero, List.set_cons_succ]
  refine heldD_take (i := 6) (v := .pointer (some ⟨B, 3, none⟩)) rfl rfl rfl (by kernel_rfl) (by kernel_rfl) (by kernel_rfl) (by kernel_rfl) (by kernel_rfl) (by kernel_rfl) (fun _ _ _ h => h) (by rfl) (fun w hS => ⟨by rfl, by obtain ⟨hS1, hS2, hS3⟩ := hS; go_simp⟩) hS0 ?_
  simp only [List.setIfInBounds_toArray, List.set_cons_zero, List.set_cons_succ]
  refine heldD_take (i := 7) (v := .slice aa na ca) rfl rfl rfl (by kernel_rfl) (by kernel_rfl) (by kernel_rfl) (by kernel_rfl) (by kernel_rfl) (by kernel_rfl) (fun _ _ _ h => h) (by rfl) (fun w hS => ⟨by rfl, by obtain ⟨hS1, hS2, hS3⟩ := hS; go_simp⟩) hS0 ?_
  simp only [List.setIfInBounds_toArray, List.set_cons_zero, List.set_cons_succ]
  clear hS0
  have hd := (Below.refl w1.heap.size w1).drew
  refine heldD_one (i := 2) (by kernel_rfl) ?_
  refine wpOpIn_calls' (f := 72) (args := #[.slice ax nx cx]) rfl rfl (by rfl) (by go_simp) (cloneX _ r.X w1.drew (HX.out.keep (KpC.of_below hd)) HL.out.1) ?_
  rintro e w2 ⟨v1, rfl, ho1, hb1⟩
  refine ⟨_, rfl, ?_⟩
  replace hb1 := hd.next' hb1
  have bA := HB2.out.below hb1 HB2.out.lt
  have hS1 : w2.cell? ⟨B, 1, none⟩ = some (.slice ax nx cx) ∧ w2.cell? ⟨B, 2, none⟩ = some (.slice ay ny cy) ∧ w2.cell? ⟨B, 3, none⟩ = some (.slice aa na ca) := ⟨bA.cell 1, bA.cell 2, bA.cell 3⟩
  refine ⟨fun _ => hS1, ?_⟩
  simp only [List.setIfInBounds_toArray, List.set_cons_zero, List.set_cons_succ]
  refine heldD_takeF (i := 9) (v := .pointer (some ⟨B, 1, none⟩)) rfl rfl rfl (by kernel_rfl) (by kernel_rfl) (by kernel_rfl) (by kernel_rfl) (fun _ _ _ h => h) (by rfl) (fun w => ⟨by rfl, by go_simp⟩) (fun _ => hS1) ?_
  simp only [List.setIfInBounds_toArray, List.set_cons_zero, List.set_cons_succ]
  clear hS1
  refine heldD_one (i := 5) (by kernel_rfl) ?_
  refine wpOpIn_calls' (f := 72) (args := #[.slice ay ny cy]) rfl rfl (by rfl) (by go_simp) (cloneX _ r.Y w2 (HY.out.keep (KpC.of_below hb1)) HL.out.2.1) ?_
  rintro e w3 ⟨v2, rfl, ho2, hb2⟩
  refine ⟨_, rfl, ?_⟩
  have hb3 := hb1.next' hb2
  have bA := HB2.out.below hb3 HB2.out.lt
  refine ⟨fun _ => ⟨bA.cell 1, bA.cell 2, bA.cell 3⟩, ?_⟩
  simp only [List.setIfInBounds_toArray, List.set_cons_zero, List.set_cons_succ]
  refine heldD_one (i := 8) (by kernel_rfl) ?_
  refine wpOpIn_calls' (f := 73) (args := #[.slice aa na ca]) rfl rfl (by rfl) (by go_simp) (cloneA _ r.arcs w3 (HA.out.keep (KpC.of_below hb3)) HL.out.2.2) ?_
  rintro e w4 ⟨v3, rfl, ho3, hb4⟩
  refine ⟨_, rfl, ?_⟩
  have hb5 := hb3.next' hb4
  have bA := HB2.out.below hb5 HB2.out.lt
  have bC := HC2.out.below hb5 HC2.out.lt
  have hS0 : w4.cell? ⟨B, 1, none⟩ = some (.slice ax nx cx) ∧ w4.cell? ⟨B, 2, none⟩ = some (.slice ay ny cy) ∧ w4.cell? ⟨B, 3, none⟩ = some (.slice aa na ca) := ⟨bA.cell 1, bA.cell 2, bA.cell 3⟩
  refine ⟨fun _ => hS0, ?_⟩
  simp only [List.setIfInBounds_toArray, List.set_cons_zero, List.set_cons_succ]
  have o1 := ownsRow_below ho1 (hb2.next' hb4)
  have o2 := ownsRow_below ho2 hb4
  have l1 : ∀ b, v1.ownBlock = some b → b < w2.heap.size := fun b hb => (ownsRow_blk' ho1 hb).2.choose_spec.lt
  have l2 : ∀ b, v2.ownBlock = some b → w2.heap.size ≤ b := fun b hb => (ownsRow_blk' ho2 hb).1
  have hs1 := hb1.size; have hs3 := hb3.size
  have R := rawO_mk (base := w.heap.size) (r := r) (ownsRow_le o1 HB0.out.size) (ownsRow_le o2 (Nat.le_trans HB0.out.size hs1)) (ownsRow_le ho3 (Nat.le_trans HB0.out.size hs3)) (fun b h1 h2 => by have := l1 b h1; have := l2 b h2; omega)
  have HR := Lib.hid R; have HbA := Lib.hid bA; have HbC := Lib.hid bC; have Hb5 := Lib.hid (HB0.out.next' hb5)
  have g1 := ho1.one' ; have g2 := ho2.one'; have g3 := ho3.one'
  obtain ⟨a1, n1, k1, rfl⟩ := g1
  obtain ⟨a2, n2, k2, rfl⟩ := g2
  obtain ⟨a3, n3, k3, rfl⟩ := g3
  clear R hb1 hb2 hb3 hb4 hb5 o1 o2 ho1 ho2 ho3 l1 l2 hs1 hs3 HX HY HA HB0 HB2 HC2 HL hd
  have c1 := HbA.out.cell 1; have f1 := HbA.out.free 1 (Or.inr (Nat.zero_le _))
  change w4.cell? ⟨B, 1, none⟩ = some (.slice ax nx cx) at c1
  refine heldD_one (i := 10) (by kernel_rfl) ?_
  refine wpOpIn_skip (w' := w4.setCell ⟨B, 1, none⟩ (.slice a1 n1 k1)) rfl rfl rfl (by rfl) (by rfl) (by go_simp) ?_
  refine ⟨fun h => (by cases h), ?_⟩
  have bA1 := HbA.out.set 1 (.slice a1 n1 k1)
  have c2 := bA1.cell 2; have f2 := bA1.free 2 (Or.inr (Nat.zero_le _))
  change (w4.setCell ⟨B, 1, none⟩ (.slice a1 n1 k1)).cell? ⟨B, 2, none⟩ = some (.slice ay ny cy) at c2
  refine heldD_takeF (i := 11) (v := .pointer (some ⟨B, 2, none⟩)) rfl rfl rfl (by kernel_rfl) (by kernel_rfl) (by kernel_rfl) (by kernel_rfl) (fun _ _ _ h => h) (by rfl) (fun w => ⟨by rfl, by go_simp⟩) (fun h => by cases h) ?_
  simp only [List.setIfInBounds_toArray, List.set_cons_zero, List.set_cons_succ]
  refine heldD_one (i := 12) (by kernel_rfl) ?_
  refine wpOpIn_skip (w' := (w4.setCell ⟨B, 1, none⟩ (.slice a1 n1 k1)).setCell ⟨B, 2, none⟩ (.slice a2 n2 k2)) rfl rfl rfl (by rfl) (by rfl) (by go_simp) ?_
  refine ⟨fun h => (by cases h), ?_⟩
  have bA2 := bA1.set 2 (.slice a2 n2 k2)
  have c3 := bA2.cell 3; have f3 := bA2.free 3 (Or.inr (Nat.zero_le _))
  change ((w4.setCell ⟨B, 1, none⟩ (.slice a1 n1 k1)).setCell ⟨B, 2, none⟩ (.slice a2 n2 k2)).cell? ⟨B, 3, none⟩ = some (.slice aa na ca) at c3
  refine heldD_takeF (i := 13) (v := .pointer (some ⟨B, 3, none⟩)) rfl rfl rfl (by kernel_rfl) (by kernel_rfl) (by kernel_rfl) (by kernel_rfl) (fun _ _ _ h => h) (by rfl) (fun w => ⟨by rfl, by go_simp⟩) (fun h => by cases h) ?_
  simp only [List.setIfInBounds_toArray, List.set_cons_zero, List.set_cons_succ]
  refine heldD_one (i := 14) (by kernel_rfl) ?_
  refine wpOpIn_skip (w' := ((w4.setCell ⟨B, 1, none⟩ (.slice a1 n1 k1)).setCell ⟨B, 2, none⟩ (.slice a2 n2 k2)).setCell ⟨B, 3, none⟩ (.slice a3 n3 k3)) rfl rfl rfl (by rfl) (by rfl) (by go_simp) ?_
  refine ⟨fun h => (by cases h), ?_⟩
  refine heldD_done (by kernel_rfl) ?_ _
  change Exit.then _ _ Exit.normal _ _
  have bA3 := bA2.set 3 (.slice a3 n3 k3)
  have R1 := ((HR.out.set (p := ⟨B, 1, none⟩) HbA.out (by decide) (by decide) (.slice a1 n1 k1)).set (p := ⟨B, 2, none⟩) bA1 (by decide) (by decide) (.slice a2 n2 k2)).set (p := ⟨B, 3, none⟩) bA2 (by decide) (by decide) (.slice a3 n3 k3)
  have hle : w.heap.size ≤ B := by rw [HBl.out]; exact Nat.le_refl _
  have B1 := ((Hb5.out.setCell (p := ⟨B, 1, none⟩) hle (.slice a1 n1 k1)).setCell (p := ⟨B, 2, none⟩) hle (.slice a2 n2 k2)).setCell (p := ⟨B, 3, none⟩) hle (.slice a3 n3 k3)
  have bC3 := ((HbC.out.setOther ⟨B, 1, none⟩ (.slice a1 n1 k1) (by simp [HBs.out])).setOther ⟨B, 2, none⟩ (.slice a2 n2 k2) (by simp [HBs.out])).setOther ⟨B, 3, none⟩ (.slice a3 n3 k3) (by simp [HBs.out])
  clear c1 c2 c3 f1 f2 f3 hS0 bA1 bA2 bA bC HR HbA HbC Hb5 hle
  generalize ((w4.setCell ⟨B, 1, none⟩ (.slice a1 n1 k1)).setCell ⟨B, 2, none⟩ (.slice a2 n2 k2)).setCell ⟨B, 3, none⟩ (.slice a3 n3 k3) = w5 at *
  replace bA3 : Blk w5 B #[.int .i64 r.nodes, .slice a1 n1 k1, .slice a2 n2 k2, .slice a3 n3 k3] 25 (0, 0) := bA3
  have c0 := bA3.cell 0; have c1 := bA3.cell 1; have c2 := bA3.cell 2; have c3 := bA3.cell 3
  change w5.cell? ⟨B, 0, none⟩ = some (.int .i64 r.nodes) at c0
  change w5.cell? ⟨B, 1, none⟩ = some (.slice a1 n1 k1) at c1
  change w5.cell? ⟨B, 2, none⟩ = some (.slice a2 n2 k2) at c2
  change w5.cell? ⟨B, 3, none⟩ = some (.slice a3 n3 k3) at c3
  have e0 := bC3.cell 0; have e1 := bC3.cell 1; have e2 := bC3.cell 2; have e3 := bC3.cell 3
  change w5.cell? ⟨Bs, 0, none⟩ = some (.int .i64 0) at e0
  change w5.cell? ⟨Bs, 1, none⟩ = some (.slice none 0 0) at e1
  change w5.cell? ⟨Bs, 2, none⟩ = some (.slice none 0 0) at e2
  change w5.cell? ⟨Bs, 3, none⟩ = some (.slice none 0 0) at e3
  have fr := fun i => bC3.free i (Or.inr (Nat.zero_le _))
  have f0 := fr 0; have f1 := fr 1; have f2 := fr 2; have f3 := fr 3
  have hle : w.heap.size ≤ Bs := by rw [HBs.out, HBl.out]; omega
  have bZ := (((bC3.set 0 (.int .i64 r.nodes)).set 1 (.slice a1 n1 k1)).set 2 (.slice a2 n2 k2)).set 3 (.slice a3 n3 k3)
  have R2 := (((R1.set (p := ⟨Bs, 0, none⟩) bC3 (by decide) (by decide) (.int .i64 r.nodes)).set (p := ⟨Bs, 1, none⟩) (bC3.set 0 (.int .i64 r.nodes)) (by decide) (by decide) (.slice a1 n1 k1)).set (p := ⟨Bs, 2, none⟩) ((bC3.set 0 (.int .i64 r.nodes)).set 1 (.slice a1 n1 k1)) (by decide) (by decide) (.slice a2 n2 k2)).set (p := ⟨Bs, 3, none⟩) (((bC3.set 0 (.int .i64 r.nodes)).set 1 (.slice a1 n1 k1)).set 2 (.slice a2 n2 k2)) (by decide) (by decide) (.slice a3 n3 k3)
  have B2 := (((B1.setCell (p := ⟨Bs, 0, none⟩) hle (.int .i64 r.nodes)).setCell (p := ⟨Bs, 1, none⟩) hle (.slice a1 n1 k1)).setCell (p := ⟨Bs, 2, none⟩) hle (.slice a2 n2 k2)).setCell (p := ⟨Bs, 3, none⟩) hle (.slice a3 n3 k3)
  have HZ := Lib.hid bZ; have HR2 := Lib.hid R2; have HB2 := Lib.hid B2
  clear bZ R2 B2 R1 B1 bC3 bA3 fr hle
  go_wp2_with fail
  generalize (((w5.setCell ⟨Bs, 0, none⟩ (.int .i64 r.nodes)).setCell ⟨Bs, 1, none⟩ (.slice a1 n1 k1)).setCell ⟨Bs, 2, none⟩ (.slice a2 n2 k2)).setCell ⟨Bs, 3, none⟩ (.slice a3 n3 k3) = wz at *
  have z0 := HZ.out.cell 0; have z1 := HZ.out.cell 1; have z2 := HZ.out.cell 2; have z3 := HZ.out.cell 3
  change wz.cell? ⟨Bs, 0, none⟩ = some (.int .i64 r.nodes) at z0
  change wz.cell? ⟨Bs, 1, none⟩ = some (.slice a1 n1 k1) at z1
  change wz.cell? ⟨Bs, 2, none⟩ = some (.slice a2 n2 k2) at z2
  change wz.cell? ⟨Bs, 3, none⟩ = some (.slice a3 n3 k3) at z3
  exact bodyPost_ret (v := .agg #[.int .i64 r.nodes, .slice a1 n1 k1, .slice a2 n2 k2, .slice a3 n3 k3]) (by simp [results, Tryd.results50, go_sem, z0, z1, z2, z3]) rfl ⟨_, rfl, ⟨_, _, _, rfl, HR2.out.1, HR2.out.2.1, HR2.out.2.2.1, HR2.out.2.2.2⟩, HB2.out⟩
end Go.Proofs.YtnkcmlngoeofgaaDoor
/- a raw graph in a variable of the call's own, its lists ours: what it is, one element more. -/
namespace Go.Proofs.YtnkcmlngoeofgaaDoor
open Go.RowKit
/-- the graph r lies in the variable Bo, its lists made behind w1 -/
structure OutI (w1 : World) (Bo : Nat) (vx vy va : Value) (r : Raw) (W : World) : Prop where
  blk : Blk W Bo #[.int .i64 r.nodes, vx, vy, va] 25 (0, 0)
  own : Own3 w1.heap.size W vx vy va r
  kept : Kept (· = Bo) w1 W
theorem Own3.below {base : Nat} {w w' : World} {vx vy va : Value} {r : Raw} (h : Own3 base w vx vy va r) (hb : Below w.heap.size w w') : Own3 base w' vx vy va r :=
  ⟨ownsRow_below h.1 hb, ownsRow_below h.2.1 hb, ownsRow_below h.2.2.1 hb, h.2.2.2⟩
theorem OutI.below {w1 : World} {Bo : Nat} {vx vy va : Value} {r : Raw} {W W' : World} (h : OutI w1 Bo vx vy va r W) (hb : Below W.heap.size W W') : OutI w1 Bo vx vy va r W' :=
  ⟨h.blk.below hb h.blk.lt, h.own.below hb, ⟨hb.os.trans h.kept.os, hb.tape.trans h.kept.tape, hb.output.trans h.kept.output, Nat.le_trans h.kept.size hb.size, fun k hk hs => (hb.block k (Nat.lt_of_lt_of_le hk h.kept.size)).trans (h.kept.block k hk hs)⟩⟩
theorem OutI.raw {w1 : World} {Bo : Nat} {vx vy va : Value} {r : Raw} {W : World} (h : OutI w1 Bo vx vy va r W) : RawO w1.heap.size W (.agg #[.int .i64 r.nodes, vx, vy, va]) r := ⟨vx, vy, va, rfl, h.own.1, h.own.2.1, h.own.2.2.1, h.own.2.2.2⟩

theorem OutI.pushX {w1 W : World} {Bo B : Nat} {vx vy va : Value} {r : Raw} {t : TypeId} {fr : Nat × Nat} {x : Int} (h : OutI w1 Bo vx vy va r W) (hB : Blk W B (inC x).toArray t fr) (hl : r.X.length ≤ 1000000) :
    ∃ v' W', (Builtin.append_ #[22, 22] 22 #[vx, .slice (some ⟨B, 0, none⟩) 1 1]).run Tryd.prog W = .ok v' W' ∧ (∃ a n c, v' = .slice a n c) ∧ Blk W' Bo #[.int .i64 r.nodes, vx, vy, va] 25 (0, 0) ∧ W.grownBy W' vx.ownBlock ∧ OutI w1 Bo v' vy va { r with X := r.X ++ [x] } (W'.setCell ⟨Bo, 1, none⟩ v') := by
  obtain ⟨i0, hi, hz0, hz1, hz2⟩ := info_parts infoI
  have hbase := h.kept.size
  have hs : SlF 1 W (.slice (some ⟨B, 0, none⟩) 1 1) 1 (inC x) := ⟨inC_len x, fun u hu => by simp only [inC, List.mem_cons, List.not_mem_nil, or_false] at hu; rw [hu]; rfl, _, 1, rfl, Nat.le_refl _, by unfold maxLen; omega, fun j u hu => ⟨B, 0, rfl, by rw [Nat.zero_add, hB.cell, List.getElem?_toArray]; exact hu⟩⟩
  obtain ⟨v', W', hr, hown, hg, hat, _⟩ := run_append_row (P := Tryd.prog) w1.heap.size 22 22 2 i0 _ 1 8 Tryd.underlying22 hi hz0 hz1 hz2 rfl (by omega) vx r.X.length _ h.own.1 _ 1 _ hs (by unfold maxLen; omega) (by omega) hbase
  have hBo : some Bo ≠ vx.ownBlock := fun e => by
    obtain ⟨_, c2, q2⟩ := ownsRow_blk' h.own.1 e.symm
    have e2 := (show W.heap[Bo]? = some _ from h.blk).symm.trans (show W.heap[Bo]? = some _ from q2)
    cases e2
  have hBlk : Blk W' Bo #[.int .i64 r.nodes, vx, vy, va] 25 (0, 0) := (hg.block Bo h.blk.lt hBo).trans h.blk
  have oth : ∀ {e : TypeId} {size : Nat} {v : Value} {n : Nat} {xs : List Value}, W.ownsRow w1.heap.size e size v n xs → (∀ b, v.ownBlock = some b → some b ≠ vx.ownBlock) → W'.ownsRow w1.heap.size e size v n xs := fun ho hd =>
    ownsRow_agree' ho fun k hk => hg.block k (ownsRow_blk' ho hk).2.choose_spec.lt (hd k hk)
  have oy := oth h.own.2.1 (fun b hb e => h.own.2.2.2 b e.symm hb)
  have oa := oth h.own.2.2.1 (fun b hb e => by
      obtain ⟨_, c1, q1⟩ := ownsRow_blk' h.own.2.2.1 hb
      obtain ⟨_, c2, q2⟩ := ownsRow_blk' h.own.1 e.symm
      have e2 := (show W.heap[b]? = some _ from q1).symm.trans (show W.heap[b]? = some _ from q2)
      cases e2)
  have hnew : W'.ownsRow w1.heap.size 2 1 v' (r.X ++ [x]).length ((r.X ++ [x]).flatMap inC) := by
    rw [List.length_append, List.flatMap_append]; simpa using hown
  have hK : Kept (· = Bo) w1 W' := ⟨hg.os.trans h.kept.os, hg.tape.trans h.kept.tape, hg.output.trans h.kept.output, Nat.le_trans h.kept.size hg.size, fun k hk hs => (hg.block k (by omega) (fun e => by have := (ownsRow_blk' h.own.1 e.symm).1; omega)).trans (h.kept.block k hk hs)⟩
  have hdx : ∀ b, v'.ownBlock = some b → ∀ {e : TypeId} {size : Nat} {v : Value} {n : Nat} {xs : List Value}, W.ownsRow w1.heap.size e size v n xs → (∀ b, v.ownBlock = some b → some b ≠ vx.ownBlock) → v.ownBlock = some b → False := fun b hb _ _ _ _ _ ho hd hv => by
    rcases hat with hat | hat
    · exact hd b hv (by rw [← hat, hb])
    · have e : b = W.heap.size := by rw [hat] at hb; exact (Option.some.inj hb).symm
      have := (ownsRow_blk' ho hv).2.choose_spec.lt
      omega
  obtain ⟨a', n', c', hv'⟩ := hown.one'
  refine ⟨v', W', hr, ⟨a', n', c', hv'⟩, hBlk, hg, ⟨?_, ?_, ?_⟩⟩
  · have h2 := hBlk.set 1 v'
    exact h2
  · exact Own3.set (r := { r with X := r.X ++ [x] }) (p := ⟨Bo, 1, none⟩) ⟨hnew, oy, oa, fun b h1 h2 => hdx b h1 h.own.2.1 (fun b hb e => h.own.2.2.2 b e.symm hb) h2⟩ hBlk (by decide) (by decide) v'
  · exact hK.setCell (p := ⟨Bo, 1, none⟩) rfl v'

theorem OutI.pushY {w1 W : World} {Bo B : Nat} {vx vy va : Value} {r : Raw} {t : TypeId} {fr : Nat × Nat} {x : Int} (h : OutI w1 Bo vx vy va r W) (hB : Blk W B (inC x).toArray t fr) (hl : r.Y.length ≤ 1000000) :
    ∃ v' W', (Builtin.append_ #[22, 22] 22 #[vy, .slice (some ⟨B, 0, none⟩) 1 1]).run Tryd.prog W = .ok v' W' ∧ (∃ a n c, v' = .slice a n c) ∧ Blk W' Bo #[.int .i64 r.nodes, vx, vy, va] 25 (0, 0) ∧ W.grownBy W' vy.ownBlock ∧ OutI w1 Bo vx v' va { r with Y := r.Y ++ [x] } (W'.setCell ⟨Bo, 2, none⟩ v') := by
  obtain ⟨i0, hi, hz0, hz1, hz2⟩ := info_parts infoI
  have hbase := h.kept.size
  have hs : SlF 1 W (.slice (some ⟨B, 0, none⟩) 1 1) 1 (inC x) := ⟨inC_len x, fun u hu => by simp only [inC, List.mem_cons, List.not_mem_nil, or_false] at hu; rw [hu]; rfl, _, 1, rfl, Nat.le_refl _, by unfold maxLen; omega, fun j u hu => ⟨B, 0, rfl, by rw [Nat.zero_add, hB.cell, List.getElem?_toArray]; exact hu⟩⟩
  obtain ⟨v', W', hr, hown, hg, hat, _⟩ := run_append_row (P := Tryd.prog) w1.heap.size 22 22 2 i0 _ 1 8 Tryd.underlying22 hi hz0 hz1 hz2 rfl (by omega) vy r.Y.length _ h.own.2.1 _ 1 _ hs (by unfold maxLen; omega) (by omega) hbase
  have hBo : some Bo ≠ vy.ownBlock := fun e => by
    obtain ⟨_, c2, q2⟩ := ownsRow_blk' h.own.2.1 e.symm
    have e2 := (show W.heap[Bo]? = some _ from h.blk).symm.trans (show W.heap[Bo]? = some _ from q2)
    cases e2
  have hBlk : Blk W' Bo #[.int .i64 r.nodes, vx, vy, va] 25 (0, 0) := (hg.block Bo h.blk.lt hBo).trans h.blk
  have oth : ∀ {e : TypeId} {size : Nat} {v : Value} {n : Nat} {xs : List Value}, W.ownsRow w1.heap.size e size v n xs → (∀ b, v.ownBlock = some b → some b ≠ vy.ownBlock) → W'.ownsRow w1.heap.size e size v n xs := fun ho hd =>
    ownsRow_agree' ho fun k hk => hg.block k (ownsRow_blk' ho hk).2.choose_spec.lt (hd k hk)
  have ox := oth h.own.1 (fun b hb e => h.own.2.2.2 b hb e.symm)
  have oa := oth h.own.2.2.1 (fun b hb e => by
      obtain ⟨_, c1, q1⟩ := ownsRow_blk' h.own.2.2.1 hb
      obtain ⟨_, c2, q2⟩ := ownsRow_blk' h.own.2.1 e.symm
      have e2 := (show W.heap[b]? = some _ from q1).symm.trans (show W.heap[b]? = some _ from q2)
      cases e2)
  have hnew : W'.ownsRow w1.heap.size 2 1 v' (r.Y ++ [x]).length ((r.Y ++ [x]).flatMap inC) := by
    rw [List.length_append, List.flatMap_append]; simpa using hown
  have hK : Kept (· = Bo) w1 W' := ⟨hg.os.trans h.kept.os, hg.tape.trans h.kept.tape, hg.output.trans h.kept.output, Nat.le_trans h.kept.size hg.size, fun k hk hs => (hg.block k (by omega) (fun e => by have := (ownsRow_blk' h.own.2.1 e.symm).1; omega)).trans (h.kept.block k hk hs)⟩
  have hdx : ∀ b, v'.ownBlock = some b → ∀ {e : TypeId} {size : Nat} {v : Value} {n : Nat} {xs : List Value}, W.ownsRow w1.heap.size e size v n xs → (∀ b, v.ownBlock = some b → some b ≠ vy.ownBlock) → v.ownBlock = some b → False := fun b hb _ _ _ _ _ ho hd hv => by
    rcases hat with hat | hat
    · exact hd b hv (by rw [← hat, hb])
    · have e : b = W.heap.size := by rw [hat] at hb; exact (Option.some.inj hb).symm
      have := (ownsRow_blk' ho hv).2.choose_spec.lt
      omega
  obtain ⟨a', n', c', hv'⟩ := hown.one'
  refine ⟨v', W', hr, ⟨a', n', c', hv'⟩, hBlk, hg, ⟨?_, ?_, ?_⟩⟩
  · have h2 := hBlk.set 2 v'
    exact h2
  · exact Own3.set (r := { r with Y := r.Y ++ [x] }) (p := ⟨Bo, 2, none⟩) ⟨ox, hnew, oa, fun b h1 h2 => hdx b h2 h.own.1 (fun b hb e => h.own.2.2.2 b hb e.symm) h1⟩ hBlk (by decide) (by decide) v'
  · exact hK.setCell (p := ⟨Bo, 2, none⟩) rfl v'

theorem OutI.pushA {w1 W : World} {Bo B : Nat} {vx vy va : Value} {r : Raw} {t : TypeId} {fr : Nat × Nat} {x : Ar} (h : OutI w1 Bo vx vy va r W) (hB : Blk W B (arC x).toArray t fr) (hl : r.arcs.length ≤ 1000000) :
    ∃ v' W', (Builtin.append_ #[23, 23] 23 #[va, .slice (some ⟨B, 0, none⟩) 1 1]).run Tryd.prog W = .ok v' W' ∧ (∃ a n c, v' = .slice a n c) ∧ Blk W' Bo #[.int .i64 r.nodes, vx, vy, va] 25 (0, 0) ∧ W.grownBy W' va.ownBlock ∧ OutI w1 Bo vx vy v' { r with arcs := r.arcs ++ [x] } (W'.setCell ⟨Bo, 3, none⟩ v') := by
  obtain ⟨i0, hi, hz0, hz1, hz2⟩ := info_parts infoA
  have hbase := h.kept.size
  have hs : SlF 3 W (.slice (some ⟨B, 0, none⟩) 1 1) 1 (arC x) := ⟨arC_len x, fun u hu => by simp only [arC, List.mem_cons, List.not_mem_nil, or_false] at hu; rcases hu with rfl | rfl | rfl <;> rfl, _, 1, rfl, Nat.le_refl _, by unfold maxLen; omega, fun j u hu => ⟨B, 0, rfl, by rw [Nat.zero_add, hB.cell, List.getElem?_toArray]; exact hu⟩⟩
  obtain ⟨v', W', hr, hown, hg, hat, _⟩ := run_append_row (P := Tryd.prog) w1.heap.size 23 23 54 i0 _ 3 24 Tryd.underlying23 hi hz0 hz1 hz2 rfl (by omega) va r.arcs.length _ h.own.2.2.1 _ 1 _ hs (by unfold maxLen; omega) (by omega) hbase
  have hBo : some Bo ≠ va.ownBlock := fun e => by
    obtain ⟨_, c2, q2⟩ := ownsRow_blk' h.own.2.2.1 e.symm
    have e2 := (show W.heap[Bo]? = some _ from h.blk).symm.trans (show W.heap[Bo]? = some _ from q2)
    cases e2
  have hBlk : Blk W' Bo #[.int .i64 r.nodes, vx, vy, va] 25 (0, 0) := (hg.block Bo h.blk.lt hBo).trans h.blk
  have oth : ∀ {e : TypeId} {size : Nat} {v : Value} {n : Nat} {xs : List Value}, W.ownsRow w1.heap.size e size v n xs → (∀ b, v.ownBlock = some b → some b ≠ va.ownBlock) → W'.ownsRow w1.heap.size e size v n xs := fun ho hd =>
    ownsRow_agree' ho fun k hk => hg.block k (ownsRow_blk' ho hk).2.choose_spec.lt (hd k hk)
  have ox := oth h.own.1 (fun b hb e => by
      obtain ⟨_, c1, q1⟩ := ownsRow_blk' h.own.1 hb
      obtain ⟨_, c2, q2⟩ := ownsRow_blk' h.own.2.2.1 e.symm
      have e2 := (show W.heap[b]? = some _ from q1).symm.trans (show W.heap[b]? = some _ from q2)
      cases e2)
  have oy := oth h.own.2.1 (fun b hb e => by
      obtain ⟨_, c1, q1⟩ := ownsRow_blk' h.own.2.1 hb
      obtain ⟨_, c2, q2⟩ := ownsRow_blk' h.own.2.2.1 e.symm
      have e2 := (show W.heap[b]? = some _ from q1).symm.trans (show W.heap[b]? = some _ from q2)
      cases e2)
  have hnew : W'.ownsRow w1.heap.size 54 3 v' (r.arcs ++ [x]).length ((r.arcs ++ [x]).flatMap arC) := by
    rw [List.length_append, List.flatMap_append]; simpa using hown
  have hK : Kept (· = Bo) w1 W' := ⟨hg.os.trans h.kept.os, hg.tape.trans h.kept.tape, hg.output.trans h.kept.output, Nat.le_trans h.kept.size hg.size, fun k hk hs => (hg.block k (by omega) (fun e => by have := (ownsRow_blk' h.own.2.2.1 e.symm).1; omega)).trans (h.kept.block k hk hs)⟩
  have hdx : ∀ b, v'.ownBlock = some b → ∀ {e : TypeId} {size : Nat} {v : Value} {n : Nat} {xs : List Value}, W.ownsRow w1.heap.size e size v n xs → (∀ b, v.ownBlock = some b → some b ≠ va.ownBlock) → v.ownBlock = some b → False := fun b hb _ _ _ _ _ ho hd hv => by
    rcases hat with hat | hat
    · exact hd b hv (by rw [← hat, hb])
    · have e : b = W.heap.size := by rw [hat] at hb; exact (Option.some.inj hb).symm
      have := (ownsRow_blk' ho hv).2.choose_spec.lt
      omega
  obtain ⟨a', n', c', hv'⟩ := hown.one'
  refine ⟨v', W', hr, ⟨a', n', c', hv'⟩, hBlk, hg, ⟨?_, ?_, ?_⟩⟩
  · have h2 := hBlk.set 3 v'
    exact h2
  · exact Own3.set (r := { r with arcs := r.arcs ++ [x] }) (p := ⟨Bo, 3, none⟩) ⟨ox, oy, hnew, h.own.2.2.2⟩ hBlk (by decide) (by decide) v'
  · exact hK.setCell (p := ⟨Bo, 3, none⟩) rfl v'
end Go.Proofs.YtnkcmlngoeofgaaDoor
/- slices.Equal at numbers, at arcs; the reference's numbers. -/
namespace Go.Proofs.YtnkcmlngoeofgaaDoor
open Go.RowKit
theorem SlA.at {w : World} {a : Option Addr} {n cap : Nat} {L : List Ar} (h : SlA w (.slice a n cap) L) (k : Nat) (hk : k < L.length) : ∃ b off, a = some ⟨b, off, none⟩ ∧ w.cell? ⟨b, off + k * 3, none⟩ = some (.int .i64 L[k].1) ∧ w.cell? ⟨b, off + k * 3 + 1, none⟩ = some (.int .i64 L[k].2.1) ∧ w.cell? ⟨b, off + k * 3 + 2, none⟩ = some (.int .i64 L[k].2.2) := by
  obtain ⟨a', cap', e, _, _, h3⟩ := h
  obtain ⟨b, off, cs, t, fr, ea, hb, c0, c1, c2⟩ := h3 k hk
  have e3 := (Value.slice.inj e).1
  exact ⟨b, off, by rw [e3, ea], by rw [hb.cell]; exact c0, by rw [hb.cell]; exact c1, by rw [hb.cell]; exact c2⟩

set_option maxHeartbeats 1000000 in
theorem equalX (va vb : Value) (A B : List Int) (w : World) (ha : SlX w va A) (hb : SlX w vb B) : Calls Tryd.prog 47 #[va, vb] w fun e w' => e = .returned (.bool (decide (A = B))) ∧ Below w.heap.size w w' := by
  have haw := ha; have hbw := hb
  obtain ⟨aa, ca, rfl, hca, hma, _⟩ := ha
  obtain ⟨ab, cb, rfl, hcb, hmb, _⟩ := hb
  unfold maxLen at hma hmb
  by_cases hlen : A.length = B.length
  · have hl2 : (B.length : Int) = A.length := by omega
    rw [show B.length = A.length from hlen.symm] at hbw
    rw [← hlen] at hcb
    have HAW := Lib.hid haw; have HBW := Lib.hid hbw
    have HLen := Lib.hid hlen
    have hBl : ∀ k, k < A.length → k < B.length := fun k h => by omega
    have HBl := Lib.hid hBl
    rw [show B.length = A.length from hlen.symm]
    clear haw hbw hlen hl2 hBl
    go_enter Tryd.func47, Tryd.ntmps47
    go_wp2_with fail
    go_loopw [13] (fun i wr => ∃ (k : Nat), k ≤ A.length ∧ i = .int .i64 k ∧ Hid (A.take k = B.take k) ∧ Hid (Below w.heap.size w wr)) (fun i _ => A.length - (intOf i).toNat)
    case atStart => exact ⟨0, Nat.zero_le _, rfl, Lib.hid rfl, Lib.hid (Below.refl _ _)⟩
    case round =>
      obtain ⟨k, hk, rfl, hpre, hbel⟩ := hrel
      by_cases hlt : k < A.length
      · have hkw := KpC.of_below hbel.out
        obtain ⟨ba, oa, rfl, da⟩ := (HAW.out.keep hkw).at k hlt
        obtain ⟨bb, ob, rfl, db⟩ := (HBW.out.keep hkw).at k (HBl.out k hlt)
        have hBd := Lib.hid (hbel.out.drew)
        have i1 : (0 : Int) ≤ (k : Int) := by omega
        have i2 : (k : Int) < (A.length : Int) := by omega
        have hA1 : Hid (A.take (k + 1) = A.take k ++ [A[k]]) := Lib.hid (List.take_succ_eq_append_getElem hlt)
        have hB1 : Hid (B.take (k + 1) = B.take k ++ [B[k]'(HBl.out k hlt)]) := Lib.hid (List.take_succ_eq_append_getElem (HBl.out k hlt))
        obtain ⟨x, hx⟩ : ∃ x, x = A[k] := ⟨_, rfl⟩
        obtain ⟨y, hy⟩ : ∃ y, y = B[k]'(HBl.out k hlt) := ⟨_, rfl⟩
        rw [← hx] at da; rw [← hy] at db
        have HX := Lib.hid hx.symm; have HY := Lib.hid hy.symm
        clear hx hy
        clear hkw
        go_wp2_with fail
        go_quiet (fail)
        generalize hwd : wr.drewN _ = wd at *
        by_cases hxy : x = y
        · subst hxy
          have hbq : (x == x) = true := by simp
          go_wp2_with fail
          go_roundw
          case rel =>
            refine ⟨k + 1, by omega, by go_num, Lib.hid ?_, Lib.hid ?_⟩
            · rw [hA1.out, hB1.out, hpre.out, HX.out, HY.out]
            · rw [← hwd]; exact below_drewN hbel.out _
          case measure => simp [intOf]; omega
        · have hne : Hid (A ≠ B) := Lib.hid (fun e => hxy (by rw [← HX.out, ← HY.out]; simp [e]))
          have hbq : (x == y) = false := by simpa using hxy
          go_wp2_with fail
          go_ret
          refine ⟨?_, by rw [← hwd]; exact below_drewN hbel.out _⟩
          rw [decide_eq_false hne.out]; rfl
      · obtain rfl : k = A.length := by omega
        go_wp2_with fail
        go_ret
        refine ⟨?_, hbel.out⟩
        have h := hpre.out
        rw [List.take_length, HLen.out, List.take_length] at h
        rw [decide_eq_true h]; rfl
  · have hne : A ≠ B := fun h => hlen (by rw [h])
    have hn : ¬ (A.length : Int) = (B.length : Int) := by omega
    have hn2 : ((A.length : Int) == (B.length : Int)) = false := by simpa using hn
    rw [decide_eq_false hne]
    clear haw hbw hne hn
    go_enter Tryd.func47, Tryd.ntmps47
    go_wp2_with fail
    go_ret
    exact ⟨rfl, Below.refl _ _⟩

set_option maxHeartbeats 1000000 in
theorem numbers_any (va vb : Value) (A B : List Int) (w : World) (ha : SlX w va A) (hb : SlX w vb B) : Calls Tryd.prog 49 #[va, vb] w fun e w' => e = .returned (.bool (decide (A = B))) ∧ Below w.heap.size w w' := by
  have haw := ha; have hbw := hb
  obtain ⟨aa, ca, rfl, hca, hma, _⟩ := ha
  obtain ⟨ab, cb, rfl, hcb, hmb, _⟩ := hb
  unfold maxLen at hma hmb
  by_cases hlen : A.length = B.length
  · have hl2 : (B.length : Int) = A.length := by omega
    rw [show B.length = A.length from hlen.symm] at hbw
    rw [← hlen] at hcb
    have HAW := Lib.hid haw; have HBW := Lib.hid hbw
    have HLen := Lib.hid hlen
    have hBl : ∀ k, k < A.length → k < B.length := fun k h => by omega
    have HBl := Lib.hid hBl
    rw [show B.length = A.length from hlen.symm]
    clear haw hbw hlen hl2 hBl
    go_enter Tryd.func49, Tryd.ntmps49
    go_wp2_with fail
    go_loopw [5] (fun i wr => ∃ (k : Nat), k ≤ A.length ∧ i = .int .i64 k ∧ Hid (A.take k = B.take k) ∧ Hid (Below w.heap.size w wr)) (fun i _ => A.length - (intOf i).toNat)
    case atStart => exact ⟨0, Nat.zero_le _, rfl, Lib.hid rfl, Lib.hid (Below.refl _ _)⟩
    case round =>
      obtain ⟨k, hk, rfl, hpre, hbel⟩ := hrel
      by_cases hlt : k < A.length
      · have hkw := KpC.of_below hbel.out
        obtain ⟨ba, oa, rfl, da⟩ := (HAW.out.keep hkw).at k hlt
        obtain ⟨bb, ob, rfl, db⟩ := (HBW.out.keep hkw).at k (HBl.out k hlt)
        have hBd := Lib.hid (hbel.out.drew)
        have i1 : (0 : Int) ≤ (k : Int) := by omega
        have i2 : (k : Int) < (A.length : Int) := by omega
        have hA1 : Hid (A.take (k + 1) = A.take k ++ [A[k]]) := Lib.hid (List.take_succ_eq_append_getElem hlt)
        have hB1 : Hid (B.take (k + 1) = B.take k ++ [B[k]'(HBl.out k hlt)]) := Lib.hid (List.take_succ_eq_append_getElem (HBl.out k hlt))
        obtain ⟨x, hx⟩ : ∃ x, x = A[k] := ⟨_, rfl⟩
        obtain ⟨y, hy⟩ : ∃ y, y = B[k]'(HBl.out k hlt) := ⟨_, rfl⟩
        rw [← hx] at da; rw [← hy] at db
        have HX := Lib.hid hx.symm; have HY := Lib.hid hy.symm
        clear hx hy
        clear hkw
        go_wp2_with fail
        go_quiet (fail)
        generalize hwd : wr.drewN _ = wd at *
        by_cases hxy : x = y
        · subst hxy
          have hbq : (x == x) = true := by simp
          go_wp2_with fail
          go_roundw
          case rel =>
            refine ⟨k + 1, by omega, by go_num, Lib.hid ?_, Lib.hid ?_⟩
            · rw [hA1.out, hB1.out, hpre.out, HX.out, HY.out]
            · rw [← hwd]; exact below_drewN hbel.out _
          case measure => simp [intOf]; omega
        · have hne : Hid (A ≠ B) := Lib.hid (fun e => hxy (by rw [← HX.out, ← HY.out]; simp [e]))
          have hbq : (x == y) = false := by simpa using hxy
          go_wp2_with fail
          go_ret
          refine ⟨?_, by rw [← hwd]; exact below_drewN hbel.out _⟩
          rw [decide_eq_false hne.out]; rfl
      · obtain rfl : k = A.length := by omega
        go_wp2_with fail
        go_ret
        refine ⟨?_, hbel.out⟩
        have h := hpre.out
        rw [List.take_length, HLen.out, List.take_length] at h
        rw [decide_eq_true h]; rfl
  · have hne : A ≠ B := fun h => hlen (by rw [h])
    have hn : ¬ (A.length : Int) = (B.length : Int) := by omega
    have hn2 : ((A.length : Int) == (B.length : Int)) = false := by simpa using hn
    rw [decide_eq_false hne]
    clear haw hbw hne hn
    go_enter Tryd.func49, Tryd.ntmps49
    go_wp2_with fail
    go_ret
    exact ⟨rfl, Below.refl _ _⟩
set_option maxRecDepth 100000 in
theorem arc_neq (x0 x1 x2 y0 y1 y2 : Int) (w : World) : (binOp .neq 54 (.agg #[.int .i64 x0, .int .i64 x1, .int .i64 x2]) (.agg #[.int .i64 y0, .int .i64 y1, .int .i64 y2])).run Tryd.prog w = .ok (.bool (!(x0 == y0 && (x1 == y1 && x2 == y2)))) w := by
  rw [run_neq_struct, show (10000 : Nat) = 9999 + 1 from rfl, run_equalIn_agg w 9999 54 _ _ (by kernel_rfl) (by kernel_rfl)]
  by_cases h0 : x0 = y0
  · by_cases h1 : x1 = y1
    · by_cases h2 : x2 = y2
      · simp [go_sem, h0, h1, h2, Result.andThen]
      · simp [go_sem, h0, h1, h2, Result.andThen]
    · simp [go_sem, h0, h1, Result.andThen]
  · simp [go_sem, h0, Result.andThen]
theorem arc_q {x0 x1 x2 y0 y1 y2 : Int} (h : true = !(x0 == y0 && (x1 == y1 && x2 == y2))) : ¬ ((x0, x1, x2) : Ar) = (y0, y1, y2) := by
  intro e
  simp only [Prod.mk.injEq] at e
  obtain ⟨rfl, rfl, rfl⟩ := e
  simp at h

set_option maxHeartbeats 1000000 in
theorem equalA (va vb : Value) (A B : List Ar) (w : World) (ha : SlA w va A) (hb : SlA w vb B) : Calls Tryd.prog 48 #[va, vb] w fun e w' => e = .returned (.bool (decide (A = B))) ∧ Below w.heap.size w w' := by
  have haw := ha; have hbw := hb
  obtain ⟨aa, ca, rfl, hca, hma, _⟩ := ha
  obtain ⟨ab, cb, rfl, hcb, hmb, _⟩ := hb
  unfold maxLen at hma hmb
  by_cases hlen : A.length = B.length
  · have hl2 : (B.length : Int) = A.length := by omega
    rw [show B.length = A.length from hlen.symm] at hbw
    rw [← hlen] at hcb
    have HAW := Lib.hid haw; have HBW := Lib.hid hbw
    have HLen := Lib.hid hlen
    have hBl : ∀ k, k < A.length → k < B.length := fun k h => by omega
    have HBl := Lib.hid hBl
    rw [show B.length = A.length from hlen.symm]
    clear haw hbw hlen hl2 hBl
    go_enter Tryd.func48, Tryd.ntmps48
    go_wp2_with fail
    go_loopw [13] (fun i wr => ∃ (k : Nat), k ≤ A.length ∧ i = .int .i64 k ∧ Hid (A.take k = B.take k) ∧ Hid (Below w.heap.size w wr)) (fun i _ => A.length - (intOf i).toNat)
    case atStart => exact ⟨0, Nat.zero_le _, rfl, Lib.hid rfl, Lib.hid (Below.refl _ _)⟩
    case round =>
      obtain ⟨k, hk, rfl, hpre, hbel⟩ := hrel
      by_cases hlt : k < A.length
      · have hkw := KpC.of_below hbel.out
        obtain ⟨ba, oa, rfl, da0, da1, da2⟩ := (HAW.out.keep hkw).at k hlt
        obtain ⟨bb, ob, rfl, db0, db1, db2⟩ := (HBW.out.keep hkw).at k (HBl.out k hlt)
        have hBd := Lib.hid (hbel.out.drew)
        have i1 : (0 : Int) ≤ (k : Int) := by omega
        have i2 : (k : Int) < (A.length : Int) := by omega
        have hA1 : Hid (A.take (k + 1) = A.take k ++ [A[k]]) := Lib.hid (List.take_succ_eq_append_getElem hlt)
        have hB1 : Hid (B.take (k + 1) = B.take k ++ [B[k]'(HBl.out k hlt)]) := Lib.hid (List.take_succ_eq_append_getElem (HBl.out k hlt))
        obtain ⟨x, hx⟩ : ∃ x, x = A[k] := ⟨_, rfl⟩
        obtain ⟨y, hy⟩ : ∃ y, y = B[k]'(HBl.out k hlt) := ⟨_, rfl⟩
        rw [← hx] at da0 da1 da2; rw [← hy] at db0 db1 db2
        have HX := Lib.hid hx.symm; have HY := Lib.hid hy.symm
        clear hx hy
        obtain ⟨x0, x1, x2⟩ := x
        obtain ⟨y0, y1, y2⟩ := y
        simp only at da0 da1 da2 db0 db1 db2
        obtain ⟨q, hq⟩ : ∃ q, q = !(x0 == y0 && (x1 == y1 && x2 == y2)) := ⟨_, rfl⟩
        have hq0 : ∀ w, (binOp .neq 54 (.agg #[.int .i64 x0, .int .i64 x1, .int .i64 x2]) (.agg #[.int .i64 y0, .int .i64 y1, .int .i64 y2])).run Tryd.prog w = .ok (.bool q) w := fun w => by rw [hq]; exact arc_neq x0 x1 x2 y0 y1 y2 w
        have HQ := Lib.hid hq
        clear hq
        clear hkw
        go_wp2_with fail
        go_quiet (fail)
        generalize hwd : wr.drewN _ = wd at *
        have hqq : q = false ∨ q = true := by cases q <;> simp
        clear hq0
        rcases hqq with rfl | rfl
        · have hxy : Hid (((x0, x1, x2) : Ar) = (y0, y1, y2)) := Lib.hid (by have h := HQ.out; simp at h; simp [h])

          go_wp2_with fail
          go_roundw
          case rel =>
            refine ⟨k + 1, by omega, by go_num, Lib.hid ?_, Lib.hid ?_⟩
            · rw [hA1.out, hB1.out, hpre.out, HX.out, HY.out, hxy.out]
            · rw [← hwd]; exact below_drewN hbel.out _
          case measure => simp [intOf]; omega
        · have hne : Hid (A ≠ B) := Lib.hid (fun e => arc_q HQ.out (by rw [← HX.out, ← HY.out]; simp [e]))

          go_wp2_with fail
          go_ret
          refine ⟨?_, by rw [← hwd]; exact below_drewN hbel.out _⟩
          rw [decide_eq_false hne.out]; rfl
      · obtain rfl : k = A.length := by omega
        go_wp2_with fail
        go_ret
        refine ⟨?_, hbel.out⟩
        have h := hpre.out
        rw [List.take_length, HLen.out, List.take_length] at h
        rw [decide_eq_true h]; rfl
  · have hne : A ≠ B := fun h => hlen (by rw [h])
    have hn : ¬ (A.length : Int) = (B.length : Int) := by omega
    have hn2 : ((A.length : Int) == (B.length : Int)) = false := by simpa using hn
    rw [decide_eq_false hne]
    clear haw hbw hne hn
    go_enter Tryd.func48, Tryd.ntmps48
    go_wp2_with fail
    go_ret
    exact ⟨rfl, Below.refl _ _⟩
end Go.Proofs.YtnkcmlngoeofgaaDoor
/- 'api.Raw{Nodes: g.Nodes, X: append([]int64{}, g.X...), ..}' in a region that draws: what its appends leave. -/
namespace Go.Proofs.YtnkcmlngoeofgaaDoor
open Go.RowKit
section
variable {F : Fence} {n : Nat} {P : Program} {ops : Array Oper} {Q : Exit → Act → World → Prop} {S : World → Prop} {D : Nat}
theorem heldD_three {i k m : Nat} {fuel : Nat} {listed : Array Bool} {a : Act} {w : World} (hr : Region.ready .any ops listed = [i, k, m])
    (h1 : wpOpIn F n P ops Q i (fun a' w' => ((listed.setIfInBounds i true).getD D true = false → S w') ∧ heldD F n P ops Q S D fuel (listed.setIfInBounds i true) a' w') a w)
    (h2 : wpOpIn F n P ops Q k (fun a' w' => ((listed.setIfInBounds k true).getD D true = false → S w') ∧ heldD F n P ops Q S D fuel (listed.setIfInBounds k true) a' w') a w)
    (h3 : wpOpIn F n P ops Q m (fun a' w' => ((listed.setIfInBounds m true).getD D true = false → S w') ∧ heldD F n P ops Q S D fuel (listed.setIfInBounds m true) a' w') a w) : heldD F n P ops Q S D (fuel + 1) listed a w :=
  ⟨fun h0 => (by rw [hr] at h0; cases h0), fun j hj => by
    rw [hr] at hj
    rcases List.mem_cons.1 hj with rfl | hj
    · exact h1
    · rcases List.mem_cons.1 hj with rfl | hj
      · exact h2
      · obtain rfl : j = m := by simpa using hj
        exact h3⟩
end
theorem ownsRow_grown {w w' : World} {g base : Nat} {e : TypeId} {size : Nat} {v : Value} {n : Nat} {xs : List Value} (h : w.ownsRow base e size v n xs) (hg : w.grownBy w' (some g)) (hne : ∀ b, v.ownBlock = some b → b ≠ g) : w'.ownsRow base e size v n xs :=
  ownsRow_agree' h fun b hb => hg.block b (ownsRow_blk' h hb).2.choose_spec.lt (fun e => hne b hb (Option.some.inj e))
/-- an append onto a literal without elements -/
theorem copyApp {α : Type} {W0 W : World} {g : Nat} {t e : TypeId} {size bytes : Nat} {z : Value} {f : α → List Value} {L : List α} {v : Value} (ht : Tryd.prog.underlying t = some (.slice e)) (hinfo : (Tryd.prog.info? e).map (fun i => (i.zero, i.size, i.bytes)) = some (some z, size, bytes)) (hzs : z.cells.size = size) (hsz : 0 < size) (hby : bytes ≤ 24)
    (hown : W.ownsRow W0.heap.size e size (.slice (some ⟨g, 0, none⟩) 0 0) 0 []) (hs : SlF size W v L.length (L.flatMap f)) (hL : L.length ≤ 1000000000000) (hb : Below W0.heap.size W0 W) (hg : W0.heap.size ≤ g) :
    ∃ a n c W', (Builtin.append_ #[t, t] t #[.slice (some ⟨g, 0, none⟩) 0 0, v]).run Tryd.prog W = .ok (.slice a n c) W' ∧ W'.ownsRow W0.heap.size e size (.slice a n c) L.length (L.flatMap f) ∧ Below W0.heap.size W0 W' ∧ W.grownBy W' (some g) ∧ (∀ b, (Value.slice a n c).ownBlock = some b → b < W'.heap.size ∧ (b = g ∨ b = W.heap.size)) ∧ W.heap.size ≤ W'.heap.size := by
  obtain ⟨i0, hi, hz0, hz1, hz2⟩ := info_parts hinfo
  obtain ⟨v', W', hr, ho, hgr, hat, _⟩ := run_append_row (P := Tryd.prog) W0.heap.size t t e i0 z size bytes ht hi hz0 hz1 hz2 hzs hsz _ 0 [] hown v L.length _ hs (by unfold maxLen; omega) (by
    rw [Nat.zero_add]
    exact Nat.le_trans (Nat.mul_le_mul hL hby) (by omega)) hb.size
  rw [Nat.zero_add, List.nil_append] at ho
  obtain ⟨a, n, c, rfl⟩ := ho.one'
  refine ⟨a, n, c, W', hr, ho, ⟨hgr.os.trans hb.os, hgr.tape.trans hb.tape, hgr.output.trans hb.output, Nat.le_trans hb.size hgr.size, fun k hk => (hgr.block k (Nat.lt_of_lt_of_le hk hb.size) (fun e => by have : k = g := Option.some.inj e; omega)).trans (hb.block k hk)⟩, hgr, fun b hb' => ⟨(ownsRow_blk' ho hb').2.choose_spec.lt, ?_⟩, hgr.size⟩
  rcases hat with h | h
  · rw [h] at hb'; exact .inl (Option.some.inj hb').symm
  · rw [h] at hb'; exact .inr (Option.some.inj hb').symm
/-- a graph's four values, stored in a variable of ours -/
theorem store4 {w0 W : World} {Bt base : Nat} {vx vy va y0 y1 y2 y3 : Value} {r : Raw} (hO : Own3 base W vx vy va r) (hB : Blk W Bt #[y0, y1, y2, y3] 25 (0, 0)) (hle : w0.heap.size ≤ Bt) (hb : Below w0.heap.size w0 W) :
    Blk ((((W.setCell ⟨Bt, 0, none⟩ (.int .i64 r.nodes)).setCell ⟨Bt, 1, none⟩ vx).setCell ⟨Bt, 2, none⟩ vy).setCell ⟨Bt, 3, none⟩ va) Bt #[.int .i64 r.nodes, vx, vy, va] 25 (0, 0) ∧
    Own3 base ((((W.setCell ⟨Bt, 0, none⟩ (.int .i64 r.nodes)).setCell ⟨Bt, 1, none⟩ vx).setCell ⟨Bt, 2, none⟩ vy).setCell ⟨Bt, 3, none⟩ va) vx vy va r ∧
    Below w0.heap.size w0 ((((W.setCell ⟨Bt, 0, none⟩ (.int .i64 r.nodes)).setCell ⟨Bt, 1, none⟩ vx).setCell ⟨Bt, 2, none⟩ vy).setCell ⟨Bt, 3, none⟩ va) := by
  refine ⟨(((hB.set 0 (.int .i64 r.nodes)).set 1 vx).set 2 vy).set 3 va, ?_, (((hb.setCell (p := ⟨Bt, 0, none⟩) hle _).setCell (p := ⟨Bt, 1, none⟩) hle _).setCell (p := ⟨Bt, 2, none⟩) hle _).setCell (p := ⟨Bt, 3, none⟩) hle _⟩
  exact (((hO.set (p := ⟨Bt, 0, none⟩) hB (by decide) (by decide) _).set (p := ⟨Bt, 1, none⟩) (hB.set 0 (.int .i64 r.nodes)) (by decide) (by decide) _).set (p := ⟨Bt, 2, none⟩) ((hB.set 0 (.int .i64 r.nodes)).set 1 vx) (by decide) (by decide) _).set (p := ⟨Bt, 3, none⟩) (((hB.set 0 (.int .i64 r.nodes)).set 1 vx).set 2 vy) (by decide) (by decide) _
end Go.Proofs.YtnkcmlngoeofgaaDoor
/- 'api.Raw{Nodes: g.Nodes, X: append([]int64{}, g.X...), ..}' in a region that draws, whatever the order: each of the three lists is not begun (0), begun (1), or copied (2). -/
namespace Go.Proofs.YtnkcmlngoeofgaaDoor
open Go.RowKit
section
variable {F : Fence} {n : Nat} {P : Program} {ops : Array Oper} {Q : Exit → Act → World → Prop} {S : World → Prop} {D : Nat}
/-- the rest of a region, by a name -/
theorem heldD_H {fuel : Nat} {listed : Array Bool} {a : Act} {w : World} (h : ∀ H : Nat → Array Bool → Act → World → Prop, H = heldD F n P ops Q S D → H fuel listed a w) : heldD F n P ops Q S D fuel listed a w := h _ rfl
theorem heldD_HT {fuel : Nat} {listed : Array Bool} {tmps : Array Value} {ds : List Deferred} {w : World} (h : ∀ H : Nat → Array Bool → Act → World → Prop, H = heldD F n P ops Q S D → ∀ T : Array Value, T = tmps → H fuel listed { tmps := T, defers := ds } w) : heldD F n P ops Q S D fuel listed { tmps := tmps, defers := ds } w := h _ rfl _ rfl
theorem heldD_four {i k m o : Nat} {fuel : Nat} {listed : Array Bool} {a : Act} {w : World} (hr : Region.ready .any ops listed = [i, k, m, o])
    (h1 : wpOpIn F n P ops Q i (fun a' w' => ((listed.setIfInBounds i true).getD D true = false → S w') ∧ heldD F n P ops Q S D fuel (listed.setIfInBounds i true) a' w') a w)
    (h2 : wpOpIn F n P ops Q k (fun a' w' => ((listed.setIfInBounds k true).getD D true = false → S w') ∧ heldD F n P ops Q S D fuel (listed.setIfInBounds k true) a' w') a w)
    (h3 : wpOpIn F n P ops Q m (fun a' w' => ((listed.setIfInBounds m true).getD D true = false → S w') ∧ heldD F n P ops Q S D fuel (listed.setIfInBounds m true) a' w') a w)
    (h4 : wpOpIn F n P ops Q o (fun a' w' => ((listed.setIfInBounds o true).getD D true = false → S w') ∧ heldD F n P ops Q S D fuel (listed.setIfInBounds o true) a' w') a w) : heldD F n P ops Q S D (fuel + 1) listed a w :=
  ⟨fun h0 => (by rw [hr] at h0; cases h0), fun j hj => by
    rw [hr] at hj
    rcases List.mem_cons.1 hj with rfl | hj
    · exact h1
    · rcases List.mem_cons.1 hj with rfl | hj
      · exact h2
      · rcases List.mem_cons.1 hj with rfl | hj
        · exact h3
        · obtain rfl : j = o := by simpa using hj
          exact h4⟩
end
/-- how far the copy of a list is -/
def StF (s lo : Nat) (w : World) (e : TypeId) (size : Nat) (v : Value) (n : Nat) (xs : List Value) : Prop :=
  match s with
  | 0 => True
  | 1 => ∃ g, v = .slice (some ⟨g, 0, none⟩) 0 0 ∧ lo ≤ g ∧ w.ownsRow lo e size v 0 []
  | _ => w.ownsRow lo e size v n xs
theorem StF.blk {s lo : Nat} {w : World} {e : TypeId} {size : Nat} {v : Value} {n : Nat} {xs : List Value} (h : StF s lo w e size v n xs) (hs : 0 < s) {g : Nat} (hg : v.ownBlock = some g) : lo ≤ g ∧ ∃ cur, Blk w g cur e (0, 0) := by
  match s, h with
  | 0, _ => omega
  | 1, ⟨_, _, _, ho⟩ => exact ownsRow_blk' ho hg
  | _ + 2, ho => exact ownsRow_blk' (show w.ownsRow lo e size v n xs from ho) hg
theorem StF.agree {s lo : Nat} {w w' : World} {e : TypeId} {size : Nat} {v : Value} {n : Nat} {xs : List Value} (h : StF s lo w e size v n xs) (hb : 0 < s → ∀ k, v.ownBlock = some k → w'.heap[k]? = w.heap[k]?) : StF s lo w' e size v n xs := by
  match s, h with
  | 0, _ => trivial
  | 1, ⟨g, h1, h2, ho⟩ => exact ⟨g, h1, h2, ownsRow_agree' ho (hb (by omega))⟩
  | _ + 2, ho => exact ownsRow_agree' (show w.ownsRow lo e size v n xs from ho) (hb (by omega))
structure Cp (W0 w : World) (r : Raw) (s0 s1 s2 : Nat) (v0 v1 v2 : Value) : Prop where
  below : Below W0.heap.size W0 w
  x : StF s0 W0.heap.size w 2 1 v0 r.X.length (r.X.flatMap inC)
  y : StF s1 W0.heap.size w 2 1 v1 r.Y.length (r.Y.flatMap inC)
  a : StF s2 W0.heap.size w 54 3 v2 r.arcs.length (r.arcs.flatMap arC)
  xy : 0 < s0 → 0 < s1 → ∀ b, v0.ownBlock = some b → v1.ownBlock = some b → False
theorem Cp.start {W0 w : World} {r : Raw} (hb : Below W0.heap.size W0 w) (v0 v1 v2 : Value) : Cp W0 w r 0 0 0 v0 v1 v2 := ⟨hb, trivial, trivial, trivial, fun h => absurd h (by omega)⟩
section
variable {W0 w : World} {r : Raw} {s0 s1 s2 : Nat} {v0 v1 v2 : Value}
theorem Cp.keep {w' : World} (h : Cp W0 w r s0 s1 s2 v0 v1 v2) (hb : Below w.heap.size w w') : Cp W0 w' r s0 s1 s2 v0 v1 v2 :=
  ⟨h.below.trans (hb.mono h.below.size), h.x.agree fun hs k hk => hb.block k (h.x.blk hs hk).2.choose_spec.lt, h.y.agree fun hs k hk => hb.block k (h.y.blk hs hk).2.choose_spec.lt, h.a.agree fun hs k hk => hb.block k (h.a.blk hs hk).2.choose_spec.lt, h.xy⟩
theorem Cp.own (h : Cp W0 w r 2 2 2 v0 v1 v2) : Own3 W0.heap.size w v0 v1 v2 r := ⟨h.x, h.y, h.a, h.xy (by omega) (by omega)⟩
theorem Cp.litX (h : Cp W0 w r 0 s1 s2 v0 v1 v2) : Cp W0 (w.alloc (.cells #[] 2)) r 1 s1 s2 (.slice (some ⟨w.heap.size, 0, none⟩) 0 0) v1 v2 := by
  have k := h.keep ((Below.refl w.heap.size w).alloc (Nat.le_refl _) (.cells #[] 2))
  refine ⟨k.below, ⟨_, rfl, h.below.size, ownsRow_zero _ _ _ _ h.below.size⟩, k.y, k.a, fun _ hs b h1 h2 => ?_⟩
  have := (h.y.blk hs h2).2.choose_spec.lt
  have e : w.heap.size = b := by simpa [Value.ownBlock] using h1
  omega
theorem Cp.litY (h : Cp W0 w r s0 0 s2 v0 v1 v2) : Cp W0 (w.alloc (.cells #[] 2)) r s0 1 s2 v0 (.slice (some ⟨w.heap.size, 0, none⟩) 0 0) v2 := by
  have k := h.keep ((Below.refl w.heap.size w).alloc (Nat.le_refl _) (.cells #[] 2))
  refine ⟨k.below, k.x, ⟨_, rfl, h.below.size, ownsRow_zero _ _ _ _ h.below.size⟩, k.a, fun hs _ b h1 h2 => ?_⟩
  have := (h.x.blk hs h1).2.choose_spec.lt
  have e : w.heap.size = b := by simpa [Value.ownBlock] using h2
  omega
theorem Cp.litA (h : Cp W0 w r s0 s1 0 v0 v1 v2) : Cp W0 (w.alloc (.cells #[] 54)) r s0 s1 1 v0 v1 (.slice (some ⟨w.heap.size, 0, none⟩) 0 0) := by
  have k := h.keep ((Below.refl w.heap.size w).alloc (Nat.le_refl _) (.cells #[] 54))
  exact ⟨k.below, k.x, k.y, ⟨_, rfl, h.below.size, ownsRow_zero _ _ _ _ h.below.size⟩, k.xy⟩
theorem blk_apart {w : World} {g k : Nat} {c1 c2 : Array Value} {t1 t2 : TypeId} {f1 f2 : Nat × Nat} (h1 : Blk w g c1 t1 f1) (h2 : Blk w k c2 t2 f2) (ht : t1 ≠ t2) : k ≠ g := fun e => by
  subst e
  have e2 := (show w.heap[k]? = some _ from h1).symm.trans (show w.heap[k]? = some _ from h2)
  cases e2
  exact ht rfl
theorem Cp.appX {v : Value} (h : Cp W0 w r 1 s1 s2 v0 v1 v2) (hs : ∀ u, Below W0.heap.size W0 u → SlX u v r.X) (hl : r.few) : ∃ a n c w', (Builtin.append_ #[22, 22] 22 #[v0, v]).run Tryd.prog w = .ok (.slice a n c) w' ∧ Cp W0 w' r 2 s1 s2 (.slice a n c) v1 v2 ∧ (∀ {k : Nat} {cs : Array Value} {t : TypeId} {fr : Nat × Nat}, Blk w k cs t fr → 2 ≠ t → Blk w' k cs t fr) := by
  obtain ⟨hb, ⟨g, rfl, hg, ho⟩, hy, ha, hxy⟩ := h
  obtain ⟨a, n, c, w', hr, ho', hb', hgr, hat, hsz⟩ := copyApp (t := 22) Tryd.underlying22 infoI rfl (by omega) (by omega) ho (hs w hb).row hl.1 hb hg
  obtain ⟨_, _, hgb⟩ := ownsRow_blk' ho (g := g) rfl
  have hyg : 0 < s1 → ∀ k, v1.ownBlock = some k → k ≠ g := fun hp k hk e => hxy (by omega) hp k (by rw [e]; rfl) hk
  refine ⟨a, n, c, w', hr, ⟨hb', ho', hy.agree fun hp k hk => hgr.block k (hy.blk hp hk).2.choose_spec.lt (fun e => hyg hp k hk (Option.some.inj e)), ha.agree fun hp k hk => hgr.block k (ha.blk hp hk).2.choose_spec.lt (fun e => blk_apart hgb (ha.blk hp hk).2.choose_spec (by decide) (Option.some.inj e)), fun _ hp b h1 h2 => ?_⟩, fun hk ht => (hgr.block _ hk.lt (fun e => blk_apart hgb hk ht (Option.some.inj e))).trans hk⟩
  rcases (hat b h1).2 with e | e
  · exact hyg hp b h2 e
  · have := (hy.blk hp h2).2.choose_spec.lt; omega
theorem Cp.appY {v : Value} (h : Cp W0 w r s0 1 s2 v0 v1 v2) (hs : ∀ u, Below W0.heap.size W0 u → SlX u v r.Y) (hl : r.few) : ∃ a n c w', (Builtin.append_ #[22, 22] 22 #[v1, v]).run Tryd.prog w = .ok (.slice a n c) w' ∧ Cp W0 w' r s0 2 s2 v0 (.slice a n c) v2 ∧ (∀ {k : Nat} {cs : Array Value} {t : TypeId} {fr : Nat × Nat}, Blk w k cs t fr → 2 ≠ t → Blk w' k cs t fr) := by
  obtain ⟨hb, hx, ⟨g, rfl, hg, ho⟩, ha, hxy⟩ := h
  obtain ⟨a, n, c, w', hr, ho', hb', hgr, hat, hsz⟩ := copyApp (t := 22) Tryd.underlying22 infoI rfl (by omega) (by omega) ho (hs w hb).row hl.2.1 hb hg
  obtain ⟨_, _, hgb⟩ := ownsRow_blk' ho (g := g) rfl
  have hyg : 0 < s0 → ∀ k, v0.ownBlock = some k → k ≠ g := fun hp k hk e => hxy hp (by omega) k hk (by rw [e]; rfl)
  refine ⟨a, n, c, w', hr, ⟨hb', hx.agree fun hp k hk => hgr.block k (hx.blk hp hk).2.choose_spec.lt (fun e => hyg hp k hk (Option.some.inj e)), ho', ha.agree fun hp k hk => hgr.block k (ha.blk hp hk).2.choose_spec.lt (fun e => blk_apart hgb (ha.blk hp hk).2.choose_spec (by decide) (Option.some.inj e)), fun hp _ b h1 h2 => ?_⟩, fun hk ht => (hgr.block _ hk.lt (fun e => blk_apart hgb hk ht (Option.some.inj e))).trans hk⟩
  rcases (hat b h2).2 with e | e
  · exact hyg hp b h1 e
  · have := (hx.blk hp h1).2.choose_spec.lt; omega
theorem Cp.appA {v : Value} (h : Cp W0 w r s0 s1 1 v0 v1 v2) (hs : ∀ u, Below W0.heap.size W0 u → SlA u v r.arcs) (hl : r.few) : ∃ a n c w', (Builtin.append_ #[23, 23] 23 #[v2, v]).run Tryd.prog w = .ok (.slice a n c) w' ∧ Cp W0 w' r s0 s1 2 v0 v1 (.slice a n c) ∧ (∀ {k : Nat} {cs : Array Value} {t : TypeId} {fr : Nat × Nat}, Blk w k cs t fr → 54 ≠ t → Blk w' k cs t fr) := by
  obtain ⟨hb, hx, hy, ⟨g, rfl, hg, ho⟩, hxy⟩ := h
  obtain ⟨a, n, c, w', hr, ho', hb', hgr, hat, hsz⟩ := copyApp (t := 23) Tryd.underlying23 infoA rfl (by omega) (by omega) ho (hs w hb).row hl.2.2 hb hg
  obtain ⟨_, _, hgb⟩ := ownsRow_blk' ho (g := g) rfl
  exact ⟨a, n, c, w', hr, ⟨hb', hx.agree fun hp k hk => hgr.block k (hx.blk hp hk).2.choose_spec.lt (fun e => blk_apart hgb (hx.blk hp hk).2.choose_spec (by decide) (Option.some.inj e)), hy.agree fun hp k hk => hgr.block k (hy.blk hp hk).2.choose_spec.lt (fun e => blk_apart hgb (hy.blk hp hk).2.choose_spec (by decide) (Option.some.inj e)), ho', hxy⟩, fun hk ht => (hgr.block _ hk.lt (fun e => blk_apart hgb hk ht (Option.some.inj e))).trans hk⟩
end
end Go.Proofs.YtnkcmlngoeofgaaDoor
/-
  append ONTO A SLICE THAT IS OURS, OF WHATEVER SOURCE (a slice, a string): one law; and as a step of a region, drawn or not.
-/
namespace Go.Proofs.YtnkcmlngoeofgaaDoor
open Go.RowKit
/-- the cells from o on written over -/
def putAt (cs : Array Value) (o : Nat) : List Value → Array Value
  | [] => cs
  | v :: vs => putAt (cs.setIfInBounds o v) (o + 1) vs
theorem putAt_size (vs : List Value) : ∀ (cs : Array Value) (o : Nat), (putAt cs o vs).size = cs.size := by
  induction vs with
  | nil => intro cs o; rfl
  | cons v vs ih => intro cs o; show (putAt _ _ vs).size = _; rw [ih]; simp
theorem putAt_get (vs : List Value) : ∀ (cs : Array Value) (o j : Nat), o + vs.length ≤ cs.size → (putAt cs o vs)[j]? = if o ≤ j ∧ j < o + vs.length then vs[j - o]? else cs[j]? := by
  induction vs with
  | nil => intro cs o j _; rw [if_neg (by simp <;> omega)]; first | done | rfl
  | cons v vs ih =>
    intro cs o j h
    simp only [List.length_cons] at h
    show (putAt _ _ vs)[j]? = _
    rw [ih _ _ _ (by simp; omega)]
    simp only [List.length_cons]
    by_cases h1 : o + 1 ≤ j ∧ j < o + 1 + vs.length
    · rw [if_pos h1, if_pos (by omega)]
      obtain ⟨d, rfl⟩ : ∃ d, j = o + 1 + d := ⟨j - (o + 1), by omega⟩
      rw [show o + 1 + d - (o + 1) = d by omega, show o + 1 + d - o = d + 1 by omega]; rfl
    · rw [if_neg h1]
      by_cases h2 : j = o
      · subst h2
        rw [if_pos (by omega), Nat.sub_self]
        simp [show j < cs.size by omega]
      · rw [if_neg (by omega), Array.getElem?_setIfInBounds_ne (Ne.symm h2)]
theorem setCells_blk (t : TypeId) (fr : Nat × Nat) (b : Nat) (vs : List Value) : ∀ (w : World) (o : Nat) (cs : Array Value), Blk w b cs t fr → Blk (w.setCells b o vs) b (putAt cs o vs) t fr := by
  induction vs with
  | nil => intro w o cs h; exact h
  | cons v vs ih => intro w o cs h; exact ih _ _ _ (h.set o v)
theorem setCells_grown (b : Nat) (vs : List Value) : ∀ (w : World) (o : Nat), w.grownBy (w.setCells b o vs) (some b) := by
  induction vs with
  | nil => intro w o; exact ⟨rfl, rfl, rfl, Nat.le_refl _, fun _ _ _ => rfl⟩
  | cons v vs ih =>
    intro w o
    have h := ih (w.setCell ⟨b, o, none⟩ v) (o + 1)
    have hs : (w.setCell ⟨b, o, none⟩ v).heap.size = w.heap.size := by simp [World.setCell]
    exact ⟨h.os, h.tape, h.output, by rw [← hs]; exact h.size, fun k hk hne => (h.block k (by rw [hs]; exact hk) hne).trans (heap_setCell_other _ _ _ _ (fun e => hne (by rw [e])))⟩
theorem firstCells_own {P : Program} {w : World} {base : Nat} {e : TypeId} {v : Value} {n : Nat} {xs : List Value} (h : w.ownsRow base e 1 v n xs) {a : Option Addr} {cap : Nat} (hv : v = .slice a n cap) :
    (Builtin.firstCells 1 n v).run P w.drew = .ok xs.toArray w.drew := by
  subst hv
  have hx : xs.length = n * 1 := h.1
  cases a with
  | none =>
    rcases h.2 with ⟨_, h0⟩ | ⟨g, c, cur, e2, _⟩
    · subst h0
      have : xs = [] := List.eq_nil_of_length_eq_zero (by simpa using hx)
      subst this
      exact run_firstCells_none w.drew 1 0 0 cap
    · cases e2
  | some a =>
    rcases h.2 with ⟨e2, _⟩ | ⟨g, c, cur, e2, _⟩
    · cases e2
    · obtain rfl : a = ⟨g, 0, none⟩ := by simpa using (Value.slice.inj e2).1
      exact run_firstCells_some w.drew 1 n _ n cap xs hx (by simpa using h.cells (g := g) rfl)
/-- THE LAW -/
theorem run_append_src {P : Program} {w : World} (base : Nat) (t tx ty e : TypeId) (i : TypeInfo) (z : Value) (bytes : Nat) (ht : P.underlying t = some (.slice e)) (hi : P.info? e = some i) (hz : i.zero = some z)
    (hsize : i.size = 1) (hby : i.bytes = bytes) (hzs : z.cells.size = 1) (v : Value) (n : Nat) (xs : List Value) (hown : w.ownsRow base e 1 v n xs)
    (x : Value) (m : Nat) (news : List Value) (hs : Src P 1 tx x m news w) (h63 : n + m ≤ maxLen) (hbytes : (n + m) * bytes ≤ 140737488355328) (hbase : base ≤ w.heap.size) :
    ∃ v' w', (Builtin.append_ #[t, tx] ty #[v, x]).run P w = .ok v' w' ∧ w'.ownsRow base e 1 v' (n + m) (xs ++ news) ∧ w.grownBy w' v.ownBlock ∧ (v'.ownBlock = v.ownBlock ∨ v'.ownBlock = some w.heap.size) := by
  subst hby
  have hsmall : n + m ≤ 9223372036854775807 := by simp only [maxLen] at h63; omega
  have hnl : news.length = m := by have := hs.newsLen; omega
  have hxl : xs.length = n := by have := hown.1; omega
  have hs' : Src P i.size tx x m news w := by rw [hsize]; exact hs
  have hlen : (xs ++ news).length = (n + m) * 1 := by rw [List.length_append, hxl, hnl, Nat.mul_one]
  have grown : ∀ (a : Option Addr) (old : Nat), v = .slice a n old → old < n + m →
      ∃ v' w', (Builtin.append_ #[t, tx] ty #[v, x]).run P w = .ok v' w' ∧ w'.ownsRow base e 1 v' (n + m) (xs ++ news) ∧ w.grownBy w' v.ownBlock ∧ (v'.ownBlock = v.ownBlock ∨ v'.ownBlock = some w.heap.size) := by
    intro a old hv ho
    have hge := grownCap_ge w (n + m) old e
    have hcm : grownCap w (n + m) old e ≤ maxLen := grownCap_le_maxLen w (n + m) old e h63
    have hold := firstCells_own (P := P) hown hv
    have hr := run_append_grow_src (P := P) w t tx ty e i z ht hi hz a n old xs (by rw [hsize, ← hv]; exact hold) x m news hs' ho (by omega) (growslice_fits (by omega) hbytes)
    rw [← hv] at hr
    refine ⟨_, _, hr, ⟨hlen, .inr ⟨w.heap.size, _, _, rfl, hbase, heap_alloc_new w.drew _, hge, hcm, ?_, ?_⟩⟩, ⟨rfl, rfl, rfl, by simp, fun k hk _ => Below.heap_alloc w.drew _ k hk⟩, .inr rfl⟩
    · simp only [Array.size_append, List.size_toArray, size_zeroCells, hzs, Nat.mul_one, List.length_append, hxl, hnl]; omega
    · simp only [Array.toList_append]
      rw [show (n + m) * 1 = (xs ++ news).length from hlen.symm]
      exact List.take_left
  have hown' := hown
  rcases hown'.2 with ⟨hv, hn⟩ | ⟨g, cap, cur, hv, hbg, hg, hnc, hcm, hcs, htake⟩
  · by_cases hm : m = 0
    · subst hn hm
      have hn0 : news = [] := List.eq_nil_of_length_eq_zero hnl
      have hx0 : xs = [] := List.eq_nil_of_length_eq_zero hxl
      subst hn0 hx0 hv
      refine ⟨.slice none 0 0, w, ?_, World.ownsRow_nil w base e 1, ⟨rfl, rfl, rfl, Nat.le_refl _, fun _ _ _ => rfl⟩, .inl rfl⟩
      rcases hs.kind with ⟨e', hk⟩ | hk <;> simp [Builtin.append_, run_underlying ht, run_underlying hk, sizeOf, typeInfo, hi, hsize, hs.len, hs.cells]
    · exact grown none 0 (by rw [hv, hn]) (by omega)
  · by_cases hroom : n + m ≤ cap
    · subst hv
      rw [Nat.mul_one] at hcs htake
      have hb : Blk w g cur e (0, 0) := hg
      have hr := run_append_room_src (P := P) w t tx ty e i ht hi g 0 n cap x m news hs' hroom
        (fun j hj => by rw [hsize, Nat.mul_one, Nat.zero_add, hb.cell]; rw [Array.getElem?_eq_getElem (by omega)]; rfl)
        (fun j _ => by exact hb.free _ (Or.inr (Nat.zero_le _)))
      rw [hsize, Nat.mul_one, Nat.zero_add] at hr
      have hb' := setCells_blk e (0, 0) g news w n cur hb
      refine ⟨_, _, hr, ⟨hlen, .inr ⟨g, cap, _, rfl, hbg, hb', hroom, hcm, by rw [putAt_size, hcs, Nat.mul_one], ?_⟩⟩, setCells_grown g news w n, .inl rfl⟩
      rw [Nat.mul_one]
      apply List.ext_getElem?
      intro j
      rw [List.getElem?_take]
      rw [show (putAt cur n news).toList[j]? = (putAt cur n news)[j]? by simp]
      rw [putAt_get news cur n j (by omega)]
      rw [hnl]
      by_cases hj : j < n + m
      · rw [if_pos hj]
        by_cases h1 : n ≤ j
        · rw [if_pos ⟨h1, hj⟩, List.getElem?_append_right (by omega), hxl]
        · rw [if_neg (by omega), List.getElem?_append_left (by omega), ← htake, List.getElem?_take, if_pos (by omega)]; simp
      · rw [if_neg hj]
        exact (List.getElem?_eq_none (by rw [List.length_append, hxl, hnl]; omega)).symm
    · exact grown _ cap hv (by omega)
/-- at a plain region's list -/
theorem wpList_append_src {P : Program} {w : World} {ops : Array Oper} {rest : List Oper} {o : Oper} {a : Act} {Q : Exit → Act → World → Prop} (hgd : o.guard = none) (s x : Operand) (t tx : TypeId)
    (ho : o.op = .call { callee := .builtin .append, args := #[s, x], argTypes := #[t, tx] }) {v' : Value} {w' : World} (hrun : (Builtin.append_ #[t, tx] o.type #[a.eval s, a.eval x]).run P w = .ok v' w')
    (h : wpList P ops Q rest (a.put o.dst v') w') : wpList P ops Q (o :: rest) a w := wpList_append_run hgd s x t tx ho hrun h
/-- at a step of a region that draws -/
theorem step_append_run {P : Program} {w : World} {ops : Array Oper} {o : Oper} {a : Act} {K : Act → World → Prop} {Q : Exit → Act → World → Prop} {E : Prop} (hgd : o.guard = none) (s x : Operand) (t tx : TypeId)
    (ho : o.op = .call { callee := .builtin .append, args := #[s, x], argTypes := #[t, tx] }) {v' : Value} {w' : World} (hrun : (Builtin.append_ #[t, tx] o.type #[a.eval s, a.eval x]).run P w = .ok v' w')
    (h : K (a.put o.dst v') w') : if Region.wanted o (yielded ops a.tmps) = true then Oper.wp P o a w K Q else E := by
  have hw : Region.wanted o (yielded ops a.tmps) = true := by simp [Region.wanted, hgd]
  rw [if_pos hw]
  unfold Oper.wp execOp
  simp only [ho, resolve, invoke, builtin, Sem.run_bind, Sem.run_pure, Result.andThen_ok, List.map_toArray, List.map_cons, List.map_nil, hrun]
  exact h
end Go.Proofs.YtnkcmlngoeofgaaDoor
