/- api.Told: the fault that an error is. -/
import Derived.Test.YtnkcmlngoeofgaaDoorErrAs
import Derived.BigQuiet
import Derived.Deep.QuietTactic
namespace Go.Proofs.YtnkcmlngoeofgaaDoor
open Go.RowKit
/-- what the program's text lays: errors' own type of errors -/
def HG (w : World) : Prop := w.cell? ⟨0, 0, none⟩ = some (.iface 135 (.agg #[.pointer (some ⟨1, 31, none⟩)]))
theorem HG.later {w w' : World} (h : HG w) (hb : Below w.heap.size w w') : HG w' := by
  have hl : (0 : Nat) < w.heap.size := block_lt_of_cell h
  exact (World.cell?_of_block (hb.block 0 hl)).trans h
set_option maxHeartbeats 1000000 in
theorem told_nil (w : World) : Calls Tryd.prog 43 #[.nilIface] w fun e w' => e = .returned (.agg #[.int .i64 0, .int .i64 0, .int .i64 0, .int .i64 0]) ∧ Below w.heap.size w w' := by
  go_enter Tryd.func43, Tryd.ntmps43
  go_wp2_with (go_at_call 61; refine (as_nil _ _).mono ?_; rintro e w' ⟨rfl, rfl⟩)
  exact bodyPost_ret (v := .agg #[.int .i64 0, .int .i64 0, .int .i64 0, .int .i64 0]) (by simp [results, Tryd.results43, go_sem]) rfl ⟨rfl, (((Below.refl _ _).alloc (Nat.le_refl _) _).alloc (by simp) _).alloc (by simp; omega) _⟩
/-- an error that is, or wraps, the fault at b -/
def AsTo (err : Value) (b : Nat) (cs : Array Value) : Prop :=
  (∃ t v, err = .iface t v) ∧ ∀ (t : Nat) (u : World), HG u → Blk u t #[.pointer none] 80 (0, 0) → Blk u b cs 47 (0, 0) →
    Calls Tryd.prog 61 #[err, .iface 102 (.pointer (some ⟨t, 0, none⟩))] u fun e w' => e = .returned (.bool true) ∧ Kept (· = t) u w' ∧ Blk w' t #[.pointer (some ⟨b, 0, none⟩)] 80 (0, 0)
theorem asTo_fault (b : Nat) (cs : Array Value) : AsTo (.iface 80 (.pointer (some ⟨b, 0, none⟩))) b cs := by
  refine ⟨⟨_, _, rfl⟩, fun t u hg ht _ => ?_⟩
  have hc := ht.cell 0
  change u.cell? ⟨t, 0, none⟩ = some (.pointer none) at hc
  refine (as_hit ⟨b, 0, none⟩ ⟨t, 0, none⟩ _ u hg hc (ht.free 0 (Or.inr (Nat.zero_le _)))).mono ?_
  rintro e w' ⟨rfl, rfl⟩
  refine ⟨rfl, ((((Kept.refl (· = t) u).alloc _).alloc _).alloc _ |>.alloc _).setCell (p := ⟨t, 0, none⟩) rfl _, ?_⟩
  have h := ((((ht.alloc (.cells #[.pointer (some ⟨t, 0, none⟩)] 102)).alloc (.cells #[.pointer (some ⟨1, 102, none⟩), .pointer (some ⟨u.heap.size, 0, none⟩), .int .u64 150] 122)).alloc (.cells #[.pointer (some ⟨1, 102, none⟩), .pointer (some ⟨u.heap.size, 0, none⟩), .int .u64 150] 122)).alloc (.cells #[.pointer (some ⟨b, 0, none⟩)] 80)).set 0 (.pointer (some ⟨b, 0, none⟩))
  exact h
set_option maxHeartbeats 1000000 in
theorem told_fault (w : World) (err : Value) (b : Nat) (c ph ix fl : Int) (ha : AsTo err b #[.int .i64 c, .int .i64 ph, .int .i64 ix, .int .i64 fl]) (hg : HG w) (hb : Blk w b #[.int .i64 c, .int .i64 ph, .int .i64 ix, .int .i64 fl] 47 (0, 0)) :
    Calls Tryd.prog 43 #[err] w fun e w' => e = .returned (.agg #[.int .i64 c, .int .i64 ph, .int .i64 ix, .int .i64 fl]) ∧ Below w.heap.size w w' := by
  have hbl := hb.lt
  obtain ⟨⟨et, ev, rfl⟩, hC⟩ := ha
  have hb1 : Blk ((w.alloc (.cells #[.int .i64 0, .int .i64 0, .int .i64 0, .int .i64 0] 47)).alloc (.cells #[.pointer none] 80)) b #[.int .i64 c, .int .i64 ph, .int .i64 ix, .int .i64 fl] 47 (0, 0) := (hb.alloc _).alloc _
  have hbw : Below w.heap.size w ((w.alloc (.cells #[.int .i64 0, .int .i64 0, .int .i64 0, .int .i64 0] 47)).alloc (.cells #[.pointer none] 80)) := ((Below.refl _ _).alloc (Nat.le_refl _) _).alloc (by simp) _
  have hg1 : HG ((w.alloc (.cells #[.int .i64 0, .int .i64 0, .int .i64 0, .int .i64 0] 47)).alloc (.cells #[.pointer none] 80)) := hg.later hbw
  have ht : Blk ((w.alloc (.cells #[.int .i64 0, .int .i64 0, .int .i64 0, .int .i64 0] 47)).alloc (.cells #[.pointer none] 80)) (w.heap.size + 1) #[.pointer none] 80 (0, 0) := by
    have := Blk.new (w.alloc (.cells #[.int .i64 0, .int .i64 0, .int .i64 0, .int .i64 0] 47)) #[.pointer none] 80 (0, 0)
    rwa [World.size_alloc] at this
  have hr : Blk ((w.alloc (.cells #[.int .i64 0, .int .i64 0, .int .i64 0, .int .i64 0] 47)).alloc (.cells #[.pointer none] 80)) w.heap.size #[.int .i64 0, .int .i64 0, .int .i64 0, .int .i64 0] 47 (0, 0) := (Blk.new _ _ _ _).alloc _
  have C := Lib.hid (hC (w.heap.size + 1) _ hg1 ht hb1)
  have HB := Lib.hid hb1; have HBw := Lib.hid hbw; have HR := Lib.hid hr
  clear hb hg hb1 hg1 hbw ht hr hC
  go_enter Tryd.func43, Tryd.ntmps43
  go_wp2_with fail
  refine C.out.mono ?_
  rintro e w2 ⟨rfl, hk, ht2⟩
  have hB2 := hk.blk HB.out (show ¬ b = w.heap.size + 1 by omega)
  have hR2 := hk.blk HR.out (show ¬ w.heap.size = w.heap.size + 1 by omega)
  have hbe : Below w.heap.size w w2 := Kept.next HBw.out HBw.out.size (Nat.le_succ _) hk
  have t0 := ht2.cell 0
  have b0 := hB2.cell 0; have b1 := hB2.cell 1; have b2 := hB2.cell 2; have b3 := hB2.cell 3
  change w2.cell? ⟨w.heap.size + 1, 0, none⟩ = some (.pointer (some ⟨b, 0, none⟩)) at t0
  change w2.cell? ⟨b, 0, none⟩ = some (.int .i64 c) at b0
  change w2.cell? ⟨b, 1, none⟩ = some (.int .i64 ph) at b1
  change w2.cell? ⟨b, 2, none⟩ = some (.int .i64 ix) at b2
  change w2.cell? ⟨b, 3, none⟩ = some (.int .i64 fl) at b3
  have r0 := hR2.cell 0; have r1 := hR2.cell 1; have r2 := hR2.cell 2; have r3 := hR2.cell 3
  change w2.cell? ⟨w.heap.size, 0, none⟩ = some (.int .i64 0) at r0
  change w2.cell? ⟨w.heap.size, 1, none⟩ = some (.int .i64 0) at r1
  change w2.cell? ⟨w.heap.size, 2, none⟩ = some (.int .i64 0) at r2
  change w2.cell? ⟨w.heap.size, 3, none⟩ = some (.int .i64 0) at r3
  have fr := fun i => hR2.free i (Or.inr (Nat.zero_le _))
  have f0 := fr 0; have f1 := fr 1; have f2 := fr 2; have f3 := fr 3
  have hRz : Blk ((((w2.setCell ⟨w.heap.size, 0, none⟩ (.int .i64 c)).setCell ⟨w.heap.size, 1, none⟩ (.int .i64 ph)).setCell ⟨w.heap.size, 2, none⟩ (.int .i64 ix)).setCell ⟨w.heap.size, 3, none⟩ (.int .i64 fl)) w.heap.size #[.int .i64 c, .int .i64 ph, .int .i64 ix, .int .i64 fl] 47 (0, 0) :=
    (((hR2.set 0 (.int .i64 c)).set 1 (.int .i64 ph)).set 2 (.int .i64 ix)).set 3 (.int .i64 fl)
  have hbz : Below w.heap.size w ((((w2.setCell ⟨w.heap.size, 0, none⟩ (.int .i64 c)).setCell ⟨w.heap.size, 1, none⟩ (.int .i64 ph)).setCell ⟨w.heap.size, 2, none⟩ (.int .i64 ix)).setCell ⟨w.heap.size, 3, none⟩ (.int .i64 fl)) :=
    (((hbe.setCell (p := ⟨w.heap.size, 0, none⟩) (Nat.le_refl _) _).setCell (p := ⟨w.heap.size, 1, none⟩) (Nat.le_refl _) _).setCell (p := ⟨w.heap.size, 2, none⟩) (Nat.le_refl _) _).setCell (p := ⟨w.heap.size, 3, none⟩) (Nat.le_refl _) _
  have HRz := Lib.hid hRz; have HBz := Lib.hid hbz
  clear HB HBw HR C hk ht2 hB2 hR2 hbe fr hRz hbz
  go_wp2_with fail
  generalize (((w2.setCell ⟨w.heap.size, 0, none⟩ (.int .i64 c)).setCell ⟨w.heap.size, 1, none⟩ (.int .i64 ph)).setCell ⟨w.heap.size, 2, none⟩ (.int .i64 ix)).setCell ⟨w.heap.size, 3, none⟩ (.int .i64 fl) = wz at *
  have z0 := HRz.out.cell 0; have z1 := HRz.out.cell 1; have z2 := HRz.out.cell 2; have z3 := HRz.out.cell 3
  change wz.cell? ⟨w.heap.size, 0, none⟩ = some (.int .i64 c) at z0
  change wz.cell? ⟨w.heap.size, 1, none⟩ = some (.int .i64 ph) at z1
  change wz.cell? ⟨w.heap.size, 2, none⟩ = some (.int .i64 ix) at z2
  change wz.cell? ⟨w.heap.size, 3, none⟩ = some (.int .i64 fl) at z3

  exact bodyPost_ret (v := .agg #[.int .i64 c, .int .i64 ph, .int .i64 ix, .int .i64 fl]) (by simp [results, Tryd.results43, go_sem, z0, z1, z2, z3]) rfl ⟨rfl, HBz.out⟩
/-- an error that tells a fault, or none -/
def ErrIs (w : World) (v : Value) (c ph ix fl : Int) : Prop :=
  (v = .nilIface ∧ c = 0 ∧ ph = 0 ∧ ix = 0 ∧ fl = 0) ∨ (c ≠ 0 ∧ ∃ b, AsTo v b #[.int .i64 c, .int .i64 ph, .int .i64 ix, .int .i64 fl] ∧ Blk w b #[.int .i64 c, .int .i64 ph, .int .i64 ix, .int .i64 fl] 47 (0, 0))
theorem told_is (w : World) (v : Value) (c ph ix fl : Int) (hg : HG w) (h : ErrIs w v c ph ix fl) : Calls Tryd.prog 43 #[v] w fun e w' => e = .returned (.agg #[.int .i64 c, .int .i64 ph, .int .i64 ix, .int .i64 fl]) ∧ Below w.heap.size w w' := by
  rcases h with ⟨rfl, rfl, rfl, rfl, rfl⟩ | ⟨_, b, ha, hb⟩
  · exact told_nil w
  · exact told_fault w v b c ph ix fl ha hg hb
theorem ErrIs.later {w w' : World} {v : Value} {c ph ix fl : Int} (h : ErrIs w v c ph ix fl) (hb : Below w.heap.size w w') : ErrIs w' v c ph ix fl := by
  rcases h with h | ⟨hc, b, ha, h⟩
  · exact .inl h
  · exact .inr ⟨hc, b, ha, h.below hb h.lt⟩
end Go.Proofs.YtnkcmlngoeofgaaDoor
