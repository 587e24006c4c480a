/- net.of: a net of a graph that is right. -/
import Derived.Test.YtnkcmlngoeofgaaDoorNetBy
import Derived.Test.YtnkcmlngoeofgaaDoorNetOwn
namespace Go.Proofs.YtnkcmlngoeofgaaDoor
open Go.RowKit
theorem endF_fn : EndFn 75 endF := by
  refine ⟨enters_of Tryd.func75 (by kernel_rfl) rfl, fun a u => ?_⟩
  obtain ⟨a0, a1, a2⟩ := a
  go_enter Tryd.func75, Tryd.ntmps75
  go_wp2_with fail
  go_ret
  exact ⟨rfl, (Below.refl _ _).alloc (Nat.le_refl _) _⟩
theorem endT_fn : EndFn 76 endT := by
  refine ⟨enters_of Tryd.func76 (by kernel_rfl) rfl, fun a u => ?_⟩
  obtain ⟨a0, a1, a2⟩ := a
  go_enter Tryd.func76, Tryd.ntmps76
  go_wp2_with fail
  go_ret
  exact ⟨rfl, (Below.refl _ _).alloc (Nat.le_refl _) _⟩
/-- the net of g lies at p -/
def NetAt (w : World) (p : Nat) (g : Raw) : Prop :=
  ∃ vx vy va vo vi, Blk w p #[.int .i64 g.nodes, vx, vy, va, vo, vi] 95 (0, 0) ∧ SlX w vx g.X ∧ SlX w vy g.Y ∧ SlA w va g.arcs ∧ SlR w vo (rowsOf endF g.arcs g.nodes.toNat) ∧ SlR w vi (rowsOf endT g.arcs g.nodes.toNat)
theorem NetAt.keep {w w' : World} {p : Nat} {g : Raw} (h : NetAt w p g) (hk : KpC w w') : NetAt w' p g := by
  obtain ⟨vx, vy, va, vo, vi, h1, h2, h3, h4, h5, h6⟩ := h
  exact ⟨vx, vy, va, vo, vi, hk.blk h1, h2.keep hk, h3.keep hk, h4.keep hk, h5.keep hk, h6.keep hk⟩
/-- and all of it lies from lo on -/
def NetB (lo : Nat) (w : World) (p : Nat) (g : Raw) : Prop := ∀ w'', w.heap.size ≤ w''.heap.size → (∀ k, lo ≤ k → k < w.heap.size → w''.heap[k]? = w.heap[k]?) → NetAt w'' p g
theorem NetB.at {lo : Nat} {w : World} {p : Nat} {g : Raw} (h : NetB lo w p g) : NetAt w p g := h w (Nat.le_refl _) fun _ _ _ => rfl
theorem NetB.below {lo : Nat} {w w' : World} {p : Nat} {g : Raw} (h : NetB lo w p g) (hb : Below w.heap.size w w') : NetB lo w' p g := fun w'' hs hk =>
  h w'' (Nat.le_trans hb.size hs) fun k h1 h2 => (hk k h1 (Nat.lt_of_lt_of_le h2 hb.size)).trans (hb.block k h2)
set_option maxRecDepth 100000 in
set_option maxHeartbeats 4000000 in
theorem of_any (v : Value) (r : Raw) (lo : Nat) (w : World) (h : RawO lo w v r) (hok : r.Ok) (hlo : lo ≤ w.heap.size) :
    Calls Tryd.prog 53 #[v] w fun e w' => ∃ p, e = .returned (.pointer (some ⟨p, 0, none⟩)) ∧ NetB lo w' p r ∧ Below w.heap.size w w' := by
  obtain ⟨vx, vy, va, rfl, o1, o2, o3, o4⟩ := h
  have ha : SlA w va r.arcs := slA_own rfl o3
  have fx := o1.one'; have fy := o2.one'; have fa := o3.one'
  obtain ⟨N, hN⟩ : ∃ N : Nat, (N : Int) = r.nodes := ⟨r.nodes.toNat, by have := hok.nodes; omega⟩
  have hNb : N ≤ 16777216 := by have := hok.nodes; omega
  have hends := ends_ok hok hN
  have hmf : ∀ (fn : Fn) (first cap : Array Value) (w : World), (Instr.makeFunc fn first cap).run Tryd.prog w = .ok (.func fn first cap) w := fun _ _ _ _ => rfl
  obtain ⟨B1, hB1⟩ : ∃ b, b = w.heap.size := ⟨_, rfl⟩
  obtain ⟨B2, hB2⟩ : ∃ b, b = w.heap.size + 1 := ⟨_, rfl⟩
  obtain ⟨w1, hw1⟩ : ∃ w1, w1 = (w.alloc (.cells #[.int .i64 r.nodes, vx, vy, va] 25)).alloc (.cells #[.int .i64 r.nodes, vx, vy, va, .slice none 0 0, .slice none 0 0] 95) := ⟨_, rfl⟩
  have hb1 : Below w.heap.size w w1 := by rw [hw1]; exact ((Below.refl _ _).alloc (Nat.le_refl _) _).alloc (by simp) _
  have K1 : Blk w1 B1 #[.int .i64 r.nodes, vx, vy, va] 25 (0, 0) := by rw [hw1, hB1]; exact (Blk.new _ _ _ _).alloc _
  have K2 : Blk w1 B2 #[.int .i64 r.nodes, vx, vy, va, .slice none 0 0, .slice none 0 0] 95 (0, 0) := by
    rw [hw1, hB2]
    have h := Blk.new (w.alloc (.cells #[.int .i64 r.nodes, vx, vy, va] 25)) #[.int .i64 r.nodes, vx, vy, va, .slice none 0 0, .slice none 0 0] 95 (0, 0)
    rwa [World.size_alloc] at h
  have CF := by_any _ endF endF_fn r.nodes vx vy va r.arcs N hN hNb hok.arcs hends.1 B1 w1 K1 (ha.keep (KpC.of_below hb1))
  have CT := fun u (hu : Below w1.heap.size w1 u) => by_any _ endT endT_fn r.nodes vx vy va r.arcs N hN hNb hok.arcs hends.2 B1 u (K1.below hu K1.lt) ((ha.keep (KpC.of_below hb1)).keep (KpC.of_below hu))
  have HCF := Lib.hid CF; have HCT := Lib.hid CT; have HK2 := Lib.hid K2; have HW1 := Lib.hid hw1; have Hb1 := Lib.hid hb1
  have HO := Lib.hid (And.intro o1 (And.intro o2 o3)); have HB2 := Lib.hid hB2
  have HN := Lib.hid hN
  clear CF CT K1 K2 hw1 hb1 o1 o2 o3 o4 ha hends hN
  obtain ⟨xa, xn, xc, rfl⟩ := fx
  obtain ⟨ya, yn, yc, rfl⟩ := fy
  obtain ⟨za, zn, zc, rfl⟩ := fa
  go_enter Tryd.func53, Tryd.ntmps53
  go_wp2_with fail
  rw [← HW1.out, ← HB2.out, ← hB1]
  clear hB1 hB2
  refine HCF.out.mono ?_
  rintro e w2 ⟨vo, rfl, hvo, hb2⟩
  have HVo := Lib.hid hvo; have Hb2 := Lib.hid hb2
  have C2 := Lib.hid (HCT.out w2 hb2)
  clear hvo hb2 HCF HCT
  have hvoF : ∃ a n c, vo = .slice a n c := by
    obtain ⟨a, c, e, _⟩ := HVo.out w2 (Nat.le_refl _) fun _ _ _ => rfl
    exact ⟨_, _, _, e⟩
  obtain ⟨oa, on, oc, rfl⟩ := hvoF
  go_wp2_with fail
  refine C2.out.mono ?_
  rintro e w3 ⟨vi, rfl, hvi, hb3⟩
  have hviF : ∃ a n c, vi = .slice a n c := by
    obtain ⟨a, c, e, _⟩ := hvi w3 (Nat.le_refl _) fun _ _ _ => rfl
    exact ⟨_, _, _, e⟩
  obtain ⟨ia, inn, ic, rfl⟩ := hviF
  have hb13 := Hb2.out.next' hb3
  have K3 := HK2.out.below hb13 HK2.out.lt
  have c4 := K3.cell 4; have c5 := K3.cell 5
  change w3.cell? ⟨B2, 4, none⟩ = some (.slice none 0 0) at c4
  change w3.cell? ⟨B2, 5, none⟩ = some (.slice none 0 0) at c5
  have fr := fun i => K3.free i (Or.inr (Nat.zero_le _))
  have f4 := fr 4; have f5 := fr 5
  have K4 := (K3.set 4 (.slice oa on oc)).set 5 (.slice ia inn ic)
  have hbw3 := Hb1.out.next' hb13
  have hle2 : w.heap.size ≤ B2 := by rw [HB2.out]; omega
  have hbz := (hbw3.setCell (p := ⟨B2, 4, none⟩) hle2 (.slice oa on oc)).setCell (p := ⟨B2, 5, none⟩) hle2 (.slice ia inn ic)
  have hB2l : B2 < w1.heap.size := HK2.out.lt
  have hs2 := Hb2.out.size; have hs3 := hb3.size; have hs1 := Hb1.out.size
  have hnet : NetB lo ((w3.setCell ⟨B2, 4, none⟩ (.slice oa on oc)).setCell ⟨B2, 5, none⟩ (.slice ia inn ic)) B2 r := fun w'' hs hk => by
    have hsz : ((w3.setCell ⟨B2, 4, none⟩ (.slice oa on oc)).setCell ⟨B2, 5, none⟩ (.slice ia inn ic)).heap.size = w3.heap.size := by simp
    rw [hsz] at hs hk
    have hkk : ∀ k, lo ≤ k → k < w3.heap.size → k ≠ B2 → w''.heap[k]? = w3.heap[k]? := fun k h1 h2 h3 => (hk k h1 h2).trans ((heap_setCell_other _ _ _ _ h3).trans (heap_setCell_other _ _ _ _ h3))
    have hold : ∀ k, lo ≤ k → k < w.heap.size → w''.heap[k]? = w.heap[k]? := fun k h1 h2 => (hkk k h1 (by omega) (by omega)).trans (hbw3.block k h2)
    have hX := slX_own rfl (ownsRow_agree' (w' := w'') HO.out.1 fun k hk => hold k (ownsRow_blk' HO.out.1 hk).1 (ownsRow_blk' HO.out.1 hk).2.choose_spec.lt)
    have hY := slX_own rfl (ownsRow_agree' (w' := w'') HO.out.2.1 fun k hk => hold k (ownsRow_blk' HO.out.2.1 hk).1 (ownsRow_blk' HO.out.2.1 hk).2.choose_spec.lt)
    have hA := slA_own rfl (ownsRow_agree' (w' := w'') HO.out.2.2 fun k hk => hold k (ownsRow_blk' HO.out.2.2 hk).1 (ownsRow_blk' HO.out.2.2 hk).2.choose_spec.lt)
    have hNt : r.nodes.toNat = N := by have := HN.out; omega
    refine ⟨_, _, _, _, _, (hk B2 (by omega) (by omega)).trans K4, hX, hY, hA, ?_, ?_⟩
    · rw [hNt]
      exact HVo.out w'' (by omega) fun k h1 h2 => (hkk k (by omega) (by omega) (by omega)).trans (hb3.block k h2)
    · rw [hNt]
      exact hvi w'' (by omega) fun k h1 h2 => hkk k (by omega) h2 (by omega)
  have HNet := Lib.hid hnet; have HBz := Lib.hid hbz
  clear hvi hb3 hb13 K3 fr K4 hbw3 hle2 hbz hB2l hs2 hs3 hs1 hnet HO
  go_wp2_with fail
  go_ret
  exact ⟨_, rfl, HNet.out, HBz.out⟩
end Go.Proofs.YtnkcmlngoeofgaaDoor
