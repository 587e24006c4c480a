/- Texts of the law CellNorms, merged: Told, ErrWrap, GrFailsP, GrOk, NetPlain. -/
import Derived.Test.YtjobijmmjebpaaaDoorPCellNorms03
import Derived.BigQuiet
import Derived.Deep.QuietTactic
import Derived.Test.YtjobijmmjebpaaaDoorPCellNorms02
/- api.Told: the fault that an error is. -/
namespace Go.Proofs.YtjobijmmjebpaaaDoor
open Go.RowKit
/-- what the program's text lays: errors' own type of errors -/
def HG (w : World) : Prop := w.cell? ⟨0, 0, none⟩ = some (.iface 129 (.agg #[.pointer (some ⟨1, 55, none⟩)]))
theorem HG.later {w w' : World} (h : HG w) (hb : Below w.heap.size w w') : HG w' := by
  have hl : (0 : Nat) < w.heap.size := block_lt_of_cell h
  exact (World.cell?_of_block (hb.block 0 hl)).trans h
set_option maxHeartbeats 1000000 in
theorem told_nil (w : World) : Calls Tryd.prog 46 #[.nilIface] w fun e w' => e = .returned (.agg #[.int .i64 0, .int .i64 0, .int .i64 0, .int .i64 0]) ∧ Below w.heap.size w w' := by
  go_enter Tryd.func46, Tryd.ntmps46
  go_wp2_with (go_at_call 57; refine (as_nil _ _).mono ?_; rintro e w' ⟨rfl, rfl⟩)
  exact bodyPost_ret (v := .agg #[.int .i64 0, .int .i64 0, .int .i64 0, .int .i64 0]) (by simp [results, Tryd.results46, go_sem]) rfl ⟨rfl, (((Below.refl _ _).alloc (Nat.le_refl _) _).alloc (by simp) _).alloc (by simp; omega) _⟩
/-- an error that is, or wraps, the fault at b -/
def AsTo (err : Value) (b : Nat) (cs : Array Value) : Prop :=
  (∃ t v, err = .iface t v) ∧ ∀ (t : Nat) (u : World), HG u → Blk u t #[.pointer none] 85 (0, 0) → Blk u b cs 83 (0, 0) →
    Calls Tryd.prog 57 #[err, .iface 99 (.pointer (some ⟨t, 0, none⟩))] u fun e w' => e = .returned (.bool true) ∧ Kept (· = t) u w' ∧ Blk w' t #[.pointer (some ⟨b, 0, none⟩)] 85 (0, 0)
theorem asTo_fault (b : Nat) (cs : Array Value) : AsTo (.iface 85 (.pointer (some ⟨b, 0, none⟩))) b cs := by
  refine ⟨⟨_, _, rfl⟩, fun t u hg ht _ => ?_⟩
  have hc := ht.cell 0
  change u.cell? ⟨t, 0, none⟩ = some (.pointer none) at hc
  refine (as_hit ⟨b, 0, none⟩ ⟨t, 0, none⟩ _ u hg hc (ht.free 0 (Or.inr (Nat.zero_le _)))).mono ?_
  rintro e w' ⟨rfl, rfl⟩
  refine ⟨rfl, ((((Kept.refl (· = t) u).alloc _).alloc _).alloc _ |>.alloc _).setCell (p := ⟨t, 0, none⟩) rfl _, ?_⟩
  have h := ((((ht.alloc (.cells #[.pointer (some ⟨t, 0, none⟩)] 99)).alloc (.cells #[.pointer (some ⟨1, 99, none⟩), .pointer (some ⟨u.heap.size, 0, none⟩), .int .u64 150] 116)).alloc (.cells #[.pointer (some ⟨1, 99, none⟩), .pointer (some ⟨u.heap.size, 0, none⟩), .int .u64 150] 116)).alloc (.cells #[.pointer (some ⟨b, 0, none⟩)] 85)).set 0 (.pointer (some ⟨b, 0, none⟩))
  exact h
set_option maxHeartbeats 1000000 in
theorem told_fault (w : World) (err : Value) (b : Nat) (c ph ix fl : Int) (ha : AsTo err b #[.int .i64 c, .int .i64 ph, .int .i64 ix, .int .i64 fl]) (hg : HG w) (hb : Blk w b #[.int .i64 c, .int .i64 ph, .int .i64 ix, .int .i64 fl] 83 (0, 0)) :
    Calls Tryd.prog 46 #[err] w fun e w' => e = .returned (.agg #[.int .i64 c, .int .i64 ph, .int .i64 ix, .int .i64 fl]) ∧ Below w.heap.size w w' := by
  have hbl := hb.lt
  obtain ⟨⟨et, ev, rfl⟩, hC⟩ := ha
  have hb1 : Blk ((w.alloc (.cells #[.int .i64 0, .int .i64 0, .int .i64 0, .int .i64 0] 83)).alloc (.cells #[.pointer none] 85)) b #[.int .i64 c, .int .i64 ph, .int .i64 ix, .int .i64 fl] 83 (0, 0) := (hb.alloc _).alloc _
  have hbw : Below w.heap.size w ((w.alloc (.cells #[.int .i64 0, .int .i64 0, .int .i64 0, .int .i64 0] 83)).alloc (.cells #[.pointer none] 85)) := ((Below.refl _ _).alloc (Nat.le_refl _) _).alloc (by simp) _
  have hg1 : HG ((w.alloc (.cells #[.int .i64 0, .int .i64 0, .int .i64 0, .int .i64 0] 83)).alloc (.cells #[.pointer none] 85)) := hg.later hbw
  have ht : Blk ((w.alloc (.cells #[.int .i64 0, .int .i64 0, .int .i64 0, .int .i64 0] 83)).alloc (.cells #[.pointer none] 85)) (w.heap.size + 1) #[.pointer none] 85 (0, 0) := by
    have := Blk.new (w.alloc (.cells #[.int .i64 0, .int .i64 0, .int .i64 0, .int .i64 0] 83)) #[.pointer none] 85 (0, 0)
    rwa [World.size_alloc] at this
  have hr : Blk ((w.alloc (.cells #[.int .i64 0, .int .i64 0, .int .i64 0, .int .i64 0] 83)).alloc (.cells #[.pointer none] 85)) w.heap.size #[.int .i64 0, .int .i64 0, .int .i64 0, .int .i64 0] 83 (0, 0) := (Blk.new _ _ _ _).alloc _
  have C := Lib.hid (hC (w.heap.size + 1) _ hg1 ht hb1)
  have HB := Lib.hid hb1; have HBw := Lib.hid hbw; have HR := Lib.hid hr
  clear hb hg hb1 hg1 hbw ht hr hC
  go_enter Tryd.func46, Tryd.ntmps46
  go_wp2_with fail
  refine C.out.mono ?_
  rintro e w2 ⟨rfl, hk, ht2⟩
  have hB2 := hk.blk HB.out (show ¬ b = w.heap.size + 1 by omega)
  have hR2 := hk.blk HR.out (show ¬ w.heap.size = w.heap.size + 1 by omega)
  have hbe : Below w.heap.size w w2 := Kept.next HBw.out HBw.out.size (Nat.le_succ _) hk
  have t0 := ht2.cell 0
  have b0 := hB2.cell 0; have b1 := hB2.cell 1; have b2 := hB2.cell 2; have b3 := hB2.cell 3
  change w2.cell? ⟨w.heap.size + 1, 0, none⟩ = some (.pointer (some ⟨b, 0, none⟩)) at t0
  change w2.cell? ⟨b, 0, none⟩ = some (.int .i64 c) at b0
  change w2.cell? ⟨b, 1, none⟩ = some (.int .i64 ph) at b1
  change w2.cell? ⟨b, 2, none⟩ = some (.int .i64 ix) at b2
  change w2.cell? ⟨b, 3, none⟩ = some (.int .i64 fl) at b3
  have r0 := hR2.cell 0; have r1 := hR2.cell 1; have r2 := hR2.cell 2; have r3 := hR2.cell 3
  change w2.cell? ⟨w.heap.size, 0, none⟩ = some (.int .i64 0) at r0
  change w2.cell? ⟨w.heap.size, 1, none⟩ = some (.int .i64 0) at r1
  change w2.cell? ⟨w.heap.size, 2, none⟩ = some (.int .i64 0) at r2
  change w2.cell? ⟨w.heap.size, 3, none⟩ = some (.int .i64 0) at r3
  have fr := fun i => hR2.free i (Or.inr (Nat.zero_le _))
  have f0 := fr 0; have f1 := fr 1; have f2 := fr 2; have f3 := fr 3
  have hRz : Blk ((((w2.setCell ⟨w.heap.size, 0, none⟩ (.int .i64 c)).setCell ⟨w.heap.size, 1, none⟩ (.int .i64 ph)).setCell ⟨w.heap.size, 2, none⟩ (.int .i64 ix)).setCell ⟨w.heap.size, 3, none⟩ (.int .i64 fl)) w.heap.size #[.int .i64 c, .int .i64 ph, .int .i64 ix, .int .i64 fl] 83 (0, 0) :=
    (((hR2.set 0 (.int .i64 c)).set 1 (.int .i64 ph)).set 2 (.int .i64 ix)).set 3 (.int .i64 fl)
  have hbz : Below w.heap.size w ((((w2.setCell ⟨w.heap.size, 0, none⟩ (.int .i64 c)).setCell ⟨w.heap.size, 1, none⟩ (.int .i64 ph)).setCell ⟨w.heap.size, 2, none⟩ (.int .i64 ix)).setCell ⟨w.heap.size, 3, none⟩ (.int .i64 fl)) :=
    (((hbe.setCell (p := ⟨w.heap.size, 0, none⟩) (Nat.le_refl _) _).setCell (p := ⟨w.heap.size, 1, none⟩) (Nat.le_refl _) _).setCell (p := ⟨w.heap.size, 2, none⟩) (Nat.le_refl _) _).setCell (p := ⟨w.heap.size, 3, none⟩) (Nat.le_refl _) _
  have HRz := Lib.hid hRz; have HBz := Lib.hid hbz
  clear HB HBw HR C hk ht2 hB2 hR2 hbe fr hRz hbz
  go_wp2_with fail
  generalize (((w2.setCell ⟨w.heap.size, 0, none⟩ (.int .i64 c)).setCell ⟨w.heap.size, 1, none⟩ (.int .i64 ph)).setCell ⟨w.heap.size, 2, none⟩ (.int .i64 ix)).setCell ⟨w.heap.size, 3, none⟩ (.int .i64 fl) = wz at *
  have z0 := HRz.out.cell 0; have z1 := HRz.out.cell 1; have z2 := HRz.out.cell 2; have z3 := HRz.out.cell 3
  change wz.cell? ⟨w.heap.size, 0, none⟩ = some (.int .i64 c) at z0
  change wz.cell? ⟨w.heap.size, 1, none⟩ = some (.int .i64 ph) at z1
  change wz.cell? ⟨w.heap.size, 2, none⟩ = some (.int .i64 ix) at z2
  change wz.cell? ⟨w.heap.size, 3, none⟩ = some (.int .i64 fl) at z3

  exact bodyPost_ret (v := .agg #[.int .i64 c, .int .i64 ph, .int .i64 ix, .int .i64 fl]) (by simp [results, Tryd.results46, go_sem, z0, z1, z2, z3]) rfl ⟨rfl, HBz.out⟩
/-- an error that tells a fault, or none -/
def ErrIs (w : World) (v : Value) (c ph ix fl : Int) : Prop :=
  (v = .nilIface ∧ c = 0 ∧ ph = 0 ∧ ix = 0 ∧ fl = 0) ∨ (c ≠ 0 ∧ ∃ b, AsTo v b #[.int .i64 c, .int .i64 ph, .int .i64 ix, .int .i64 fl] ∧ Blk w b #[.int .i64 c, .int .i64 ph, .int .i64 ix, .int .i64 fl] 83 (0, 0))
theorem told_is (w : World) (v : Value) (c ph ix fl : Int) (hg : HG w) (h : ErrIs w v c ph ix fl) : Calls Tryd.prog 46 #[v] w fun e w' => e = .returned (.agg #[.int .i64 c, .int .i64 ph, .int .i64 ix, .int .i64 fl]) ∧ Below w.heap.size w w' := by
  rcases h with ⟨rfl, rfl, rfl, rfl, rfl⟩ | ⟨_, b, ha, hb⟩
  · exact told_nil w
  · exact told_fault w v b c ph ix fl ha hg hb
theorem ErrIs.later {w w' : World} {v : Value} {c ph ix fl : Int} (h : ErrIs w v c ph ix fl) (hb : Below w.heap.size w w') : ErrIs w' v c ph ix fl := by
  rcases h with h | ⟨hc, b, ha, h⟩
  · exact .inl h
  · exact .inr ⟨hc, b, ha, h.below hb h.lt⟩
end Go.Proofs.YtjobijmmjebpaaaDoor
/- errors.As by its contracts: an error that wraps a fault (graph's trouble). -/
namespace Go.Proofs.YtjobijmmjebpaaaDoor
open Go.RowKit Go.Extern.Stop Go.Stop Go.Extern
theorem as_typeOfW (v : Value) (w : World) : (ReflectliteType.typeOf #[.iface 95 v]).run Tryd.prog w = .ok (.iface 129 (.agg #[.pointer (some ⟨1, 95, none⟩)])) w := by kernel_rfl
theorem as_assignableW (w : World) : (ReflectliteType.relation "AssignableTo" ReflectliteType.assignableTo #[.agg #[.pointer (some ⟨1, 95, none⟩)], .iface 129 (.agg #[.pointer (some ⟨1, 85, none⟩)])]).run Tryd.prog w = .ok (.bool false) w := by kernel_rfl
theorem as_notAs (v : Value) (w : World) : (Instr.typeAssert (.iface 95 v) 55 134 true).run Tryd.prog w = .ok (.tuple #[.nilIface, .bool false]) w :=
  run_typeAssert_lacksB Tryd.underlying134 (by kernel_rfl) (by kernel_rfl) v _ w
theorem as_isUnwrap (v : Value) (w : World) : (Instr.typeAssert (.iface 95 v) 55 137 true).run Tryd.prog w = .ok (.tuple #[.iface 95 v, .bool true]) w := by kernel_rfl
theorem as_methodUnwrap (n : Nat) (v : Value) (w : World) : (Go.method (n + 1) 95 v "Unwrap").run Tryd.prog w = .ok (105, v) w := by kernel_rfl
set_option maxHeartbeats 4000000 in
theorem as_wrap (e t : Addr) (old : Value) (w : World) (hg : w.cell? ⟨0, 0, none⟩ = some (.iface 129 (.agg #[.pointer (some ⟨1, 55, none⟩)]))) (ht0 : w.cell? t = some old) (hf0 : w.frozen? t = false) :
    Calls Tryd.prog 57 #[.iface 95 (.agg #[.pointer (some e)]), .iface 99 (.pointer (some t))] w fun ev w' => ev = .returned (.bool true) ∧ w' = (((((w.alloc (.cells #[.pointer (some t)] 99)).alloc (.cells #[.pointer (some ⟨1, 99, none⟩), .pointer (some ⟨w.heap.size, 0, none⟩), .int .u64 150] 116)).alloc (.cells #[.pointer (some ⟨1, 99, none⟩), .pointer (some ⟨w.heap.size, 0, none⟩), .int .u64 150] 116)).alloc (.cells #[.pointer (some e)] 95)).alloc (.cells #[.pointer (some e)] 85)).setCell t (.pointer (some e)) := by
  have h6 := @run_callFunc_extern Tryd.prog 72 _ (fun args => ReflectliteValue.unpack (args.getD 0 (.tuple #[]))) Tryd.func72 (by kernel_rfl) (by kernel_rfl) (by kernel_rfl) (by kernel_rfl)
  have h7 := @run_callFunc_extern Tryd.prog 73 _ (ReflectliteValue.methodAny (ReflectliteValue.valueError "reflectlite.Value.Type" 0) (fun t _ _ _ => ReflectliteType.toType t)) Tryd.func73 (by kernel_rfl) (by kernel_rfl) (by kernel_rfl) (by kernel_rfl)
  have h8 := @run_callFunc_extern Tryd.prog 74 _ (ReflectliteValue.method (ReflectliteValue.valueError "reflectlite.Value.IsNil" 0) ReflectliteValue.isNil) Tryd.func74 (by kernel_rfl) (by kernel_rfl) (by kernel_rfl) (by kernel_rfl)
  have h27 := @run_callFunc_extern Tryd.prog 97 _ (ReflectliteType.abiMethod fun t => do pure (.int .u8 (← Rtype.kind t))) Tryd.func97 (by kernel_rfl) (by kernel_rfl) (by kernel_rfl) (by kernel_rfl)
  have h37 := @run_callFunc_extern Tryd.prog 112 _ (ReflectliteType.method ReflectliteType.elem) Tryd.func112 (by kernel_rfl) (by kernel_rfl) (by kernel_rfl) (by kernel_rfl)
  have h38 := @run_callFunc_extern Tryd.prog 113 _ (ReflectliteType.relation "Implements" ReflectliteType.implements_) Tryd.func113 (by kernel_rfl) (by kernel_rfl) (by kernel_rfl) (by kernel_rfl)
  have h10 := @run_callFunc_extern Tryd.prog 79 _ ReflectliteType.typeOf Tryd.func79 (by kernel_rfl) (by kernel_rfl) (by kernel_rfl) (by kernel_rfl)
  have h35 := @run_callFunc_extern Tryd.prog 110 _ (ReflectliteType.relation "AssignableTo" ReflectliteType.assignableTo) Tryd.func110 (by kernel_rfl) (by kernel_rfl) (by kernel_rfl) (by kernel_rfl)
  have h11 := @run_callFunc_extern Tryd.prog 80 _ (ReflectliteValue.method (ReflectliteValue.valueError "reflectlite.Value.Elem" 0) ReflectliteValue.elem) Tryd.func80 (by kernel_rfl) (by kernel_rfl) (by kernel_rfl) (by kernel_rfl)
  have h12 := @run_callFunc_extern Tryd.prog 81 _ ReflectliteValue.set Tryd.func81 (by kernel_rfl) (by kernel_rfl) (by kernel_rfl) (by kernel_rfl)
  have tO := as_typeOf25
  have tOw := as_typeOfW
  have aW := as_assignableW
  have tA := as_notAs
  have tU := as_isUnwrap
  have mU := as_methodUnwrap
  have mA := as_methodAssignableTo
  have a25 := as_assignable25
  have v25 := as_valueOf25
  have f6 := as_valueOf27
  have f7 := as_type27
  have mK := as_methodKind
  have mE := as_methodElem
  have mI := as_methodImplements
  have k27 := as_kind27
  have k25 := as_kind25
  have e27 := as_elem27
  have i25 := as_implements25
  have n8 := as_isNil27 ⟨w.heap.size, 0, none⟩ t ((w.alloc (.cells #[.pointer (some t)] 99)).alloc (.cells #[.pointer (some ⟨1, 99, none⟩), .pointer (some ⟨w.heap.size, 0, none⟩), .int .u64 150] 116)) (by simp)
  have hlt : 0 < w.heap.size := by
    rcases Nat.eq_zero_or_pos w.heap.size with h0 | h
    · simp [World.cell?, h0] at hg
    · exact h
  have hg2 : ((w.alloc (.cells #[.pointer (some t)] 99)).alloc (.cells #[.pointer (some ⟨1, 99, none⟩), .pointer (some ⟨w.heap.size, 0, none⟩), .int .u64 150] 116)).cell? ⟨0, 0, none⟩ = some (.iface 129 (.agg #[.pointer (some ⟨1, 55, none⟩)])) := by
    rw [World.cell?_alloc_lt _ _ ⟨0, 0, none⟩ (by simp), World.cell?_alloc_lt _ _ ⟨0, 0, none⟩ hlt]; exact hg
  have htl : t.block < w.heap.size := by
    rcases Nat.lt_or_ge t.block w.heap.size with h | h
    · exact h
    · simp [World.cell?, Array.getElem?_eq_none h] at ht0
  have el := as_elemV27 ⟨w.heap.size, 0, none⟩ t ((((w.alloc (.cells #[.pointer (some t)] 99)).alloc (.cells #[.pointer (some ⟨1, 99, none⟩), .pointer (some ⟨w.heap.size, 0, none⟩), .int .u64 150] 116)).alloc (.cells #[.pointer (some ⟨1, 99, none⟩), .pointer (some ⟨w.heap.size, 0, none⟩), .int .u64 150] 116)).alloc (.cells #[.pointer (some e)] 95)) (by rw [World.cell?_alloc_lt _ _ ⟨w.heap.size, 0, none⟩ (by simp; omega), World.cell?_alloc_lt _ _ ⟨w.heap.size, 0, none⟩ (by simp; omega)]; simp)
  have st := as_set25 t ⟨w.heap.size + 1 + 1 + 1 + 1, 0, none⟩ e old (((((w.alloc (.cells #[.pointer (some t)] 99)).alloc (.cells #[.pointer (some ⟨1, 99, none⟩), .pointer (some ⟨w.heap.size, 0, none⟩), .int .u64 150] 116)).alloc (.cells #[.pointer (some ⟨1, 99, none⟩), .pointer (some ⟨w.heap.size, 0, none⟩), .int .u64 150] 116)).alloc (.cells #[.pointer (some e)] 95)).alloc (.cells #[.pointer (some e)] 85))
    (by rw [World.cell?_alloc_at _ _ _ _ (by simp)]; rfl)
    (by rw [World.cell?_alloc_lt _ _ t (by simp; omega), World.cell?_alloc_lt _ _ t (by simp; omega), World.cell?_alloc_lt _ _ t (by simp; omega), World.cell?_alloc_lt _ _ t (by simp; omega), World.cell?_alloc_lt _ _ t htl]; exact ht0)
    (by rw [World.frozen?_alloc_old _ _ t (by simp; omega), World.frozen?_alloc_old _ _ t (by simp; omega), World.frozen?_alloc_old _ _ t (by simp; omega), World.frozen?_alloc_old _ _ t (by simp; omega), World.frozen?_alloc_old _ _ t (Nat.ne_of_lt htl)]; exact hf0)
  go_enter Tryd.func57, Tryd.ntmps57
  go_wp2
  refine wp_loop_rounds 2 ?_
  rw [rounds_succ]
  go_wp2
  rw [rounds_succ]
  go_wp2
  go_ret
  exact ⟨rfl, rfl⟩
theorem asTo_trouble (b : Nat) (cs : Array Value) : AsTo (.iface 95 (.agg #[.pointer (some ⟨b, 0, none⟩)])) b cs := by
  refine ⟨⟨_, _, rfl⟩, fun t u hg ht _ => ?_⟩
  have hc := ht.cell 0
  change u.cell? ⟨t, 0, none⟩ = some (.pointer none) at hc
  refine (as_wrap ⟨b, 0, none⟩ ⟨t, 0, none⟩ _ u hg hc (ht.free 0 (Or.inr (Nat.zero_le _)))).mono ?_
  rintro e w' ⟨rfl, rfl⟩
  refine ⟨rfl, (((((Kept.refl (· = t) u).alloc _).alloc _).alloc _).alloc _ |>.alloc _).setCell (p := ⟨t, 0, none⟩) rfl _, ?_⟩
  exact (((((ht.alloc _).alloc _).alloc _).alloc _).alloc _).set 0 (.pointer (some ⟨b, 0, none⟩))
end Go.Proofs.YtjobijmmjebpaaaDoor
/- what Check tells, in plain words -/
namespace Go.Proofs.YtjobijmmjebpaaaDoor
open Go.RowKit
/-- a fault's fields: code, phase, index, field -/
abbrev Ft := Int × Int × Int × Int
def faultOf : Option (Nat × Pl) → Ft
  | none => (0, 0, 0, 0)
  | some (k, p) => (p.co, (k : Nat), p.ix, p.fl)
/-- what is wrong with a graph first -/
def Raw.wrong (r : Raw) : Ft := faultOf (lookV (phases r.nodes r.X r.Y r.arcs) 0)
theorem lookV_mem : ∀ {L : List (List Pl)} {j k : Nat} {p : Pl}, lookV L j = some (k, p) → ∃ ps ∈ L, p ∈ ps
  | [], _, _, _, h => by cases h
  | ps :: L, j, k, p, h => by
    rw [lookV] at h
    split at h
    · rename_i q hq
      obtain ⟨_, rfl⟩ := Prod.mk.inj (Option.some.inj h)
      exact ⟨ps, by simp, List.mem_of_find?_eq_some hq⟩
    · obtain ⟨qs, hqs, hp⟩ := lookV_mem h
      exact ⟨qs, by simp [hqs], hp⟩
theorem nodesP_co {X Y : List Int} : ∀ (k : Nat) (p : Pl), p ∈ nodesP X Y k → p.co = 7
  | 0, p, h => by cases h
  | k + 1, p, h => by
    rcases List.mem_append.1 h with h | h
    · exact nodesP_co k p h
    · simp only [nodeP, List.mem_cons, List.not_mem_nil, or_false] at h
      rcases h with rfl | rfl <;> rfl
theorem arcsP_co {n : Int} {L : List Ar} : ∀ (k : Nat) (p : Pl), p ∈ arcsP n L k → p.co = 9 ∨ p.co = 10
  | 0, p, h => by cases h
  | k + 1, p, h => by
    rcases List.mem_append.1 h with h | h
    · exact arcsP_co k p h
    · simp only [arcP, List.mem_cons, List.not_mem_nil, or_false] at h
      rcases h with rfl | rfl | rfl
      · exact .inl rfl
      · exact .inl rfl
      · exact .inr rfl
theorem lookV_co {nodes : Int} {X Y : List Int} {ars : List Ar} {k : Nat} {p : Pl} (h : lookV (phases nodes X Y ars) 0 = some (k, p)) : p.co ≠ 0 := by
  obtain ⟨ps, hps, hp⟩ := lookV_mem h
  simp only [phases, List.mem_cons, List.not_mem_nil, or_false] at hps
  rcases hps with rfl | rfl | rfl | rfl | rfl
  · simp only [List.mem_cons, List.not_mem_nil, or_false] at hp; subst hp; simp
  · simp only [List.mem_cons, List.not_mem_nil, or_false] at hp; rcases hp with rfl | rfl <;> simp
  · rw [nodesP_co _ _ hp]; decide
  · simp only [List.mem_cons, List.not_mem_nil, or_false] at hp; subst hp; simp
  · rcases arcsP_co _ _ hp with h | h <;> rw [h] <;> decide
theorem checked_is {w : World} {v : Value} {r : Raw} (h : Checked w v r.nodes r.X r.Y r.arcs) : ErrIs w v r.wrong.1 r.wrong.2.1 r.wrong.2.2.1 r.wrong.2.2.2 := by
  unfold Raw.wrong
  rcases h with ⟨rfl, h⟩ | ⟨b, k, p, rfl, h, hb⟩
  · rw [h]; exact .inl ⟨rfl, rfl, rfl, rfl, rfl⟩
  · rw [h]; exact .inr ⟨lookV_co h, b, asTo_trouble b _, hb⟩
/-- Check, as a contract over raw graphs -/
theorem check_raw (v : Value) (r : Raw) (w : World) (h : RawV w v r) : Calls Tryd.prog 45 #[v] w fun e w' => ∃ u, e = .returned u ∧ ErrIs w' u r.wrong.1 r.wrong.2.1 r.wrong.2.2.1 r.wrong.2.2.2 ∧ Below w.heap.size w w' := by
  obtain ⟨vx, vy, va, rfl, hx, hy, ha⟩ := h
  refine (check_any vx vy va r.nodes r.X r.Y r.arcs w hx hy ha).mono ?_
  rintro e w' ⟨u, rfl, hc, hb⟩
  exact ⟨u, rfl, checked_is hc, hb⟩
theorem ErrIs.form {w : World} {v : Value} {c ph ix fl : Int} (h : ErrIs w v c ph ix fl) : (v = .nilIface ∧ c = 0) ∨ ((∃ t x, v = .iface t x) ∧ c ≠ 0) := by
  rcases h with ⟨h1, h2, _⟩ | ⟨hc, b, ⟨h3, _⟩, _⟩
  · exact .inl ⟨h1, h2⟩
  · exact .inr ⟨h3, hc⟩
end Go.Proofs.YtjobijmmjebpaaaDoor
/- a graph that may be: what Check's nil says; a list's element another one. -/
namespace Go.Proofs.YtjobijmmjebpaaaDoor
open Go.RowKit
/-- a graph that may be -/
def Raw.ok (r : Raw) : Prop := lookV (phases r.nodes r.X r.Y r.arcs) 0 = none
theorem lookV_none : ∀ {L : List (List Pl)} {j : Nat}, lookV L j = none → ∀ ps ∈ L, ∀ p ∈ ps, p.bad = false
  | [], _, _, ps, h => by cases h
  | qs :: L, j, h, ps, hps => by
    rw [lookV] at h
    split at h
    · cases h
    · rename_i hq
      intro p hp
      rcases List.mem_cons.1 hps with rfl | hps
      · have := List.find?_eq_none.1 hq p hp
        simpa using this
      · exact lookV_none h ps hps p hp
theorem none_lookV : ∀ {L : List (List Pl)} {j : Nat}, (∀ ps ∈ L, ∀ p ∈ ps, p.bad = false) → lookV L j = none
  | [], _, _ => rfl
  | qs :: L, j, h => by rw [lookV_cons (find_none (h qs (by simp)))]; exact none_lookV fun ps hps => h ps (by simp [hps])
theorem nodesP_mem (X Y : List Int) : ∀ (k i : Nat), i < k → ∀ p ∈ nodeP i (X[i]?.getD 0, Y[i]?.getD 0), p ∈ nodesP X Y k
  | k + 1, i, hi, p, hp => by
    refine List.mem_append.2 ?_
    rcases Nat.lt_or_ge i k with h | h
    · exact .inl (nodesP_mem X Y k i h p hp)
    · obtain rfl : i = k := by omega
      exact .inr hp
theorem mem_nodesP (X Y : List Int) : ∀ (k : Nat), ∀ p ∈ nodesP X Y k, ∃ i, i < k ∧ p ∈ nodeP i (X[i]?.getD 0, Y[i]?.getD 0)
  | 0, p, hp => by cases hp
  | k + 1, p, hp => by
    rcases List.mem_append.1 hp with h | h
    · obtain ⟨i, hi, hp⟩ := mem_nodesP X Y k p h
      exact ⟨i, by omega, hp⟩
    · exact ⟨k, by omega, h⟩
theorem arcsP_mem (n : Int) (L : List Ar) : ∀ (k i : Nat), i < k → ∀ p ∈ arcP n i (L[i]?.getD (0, 0, 0)), p ∈ arcsP n L k
  | k + 1, i, hi, p, hp => by
    refine List.mem_append.2 ?_
    rcases Nat.lt_or_ge i k with h | h
    · exact .inl (arcsP_mem n L k i h p hp)
    · obtain rfl : i = k := by omega
      exact .inr hp
theorem mem_arcsP (n : Int) (L : List Ar) : ∀ (k : Nat), ∀ p ∈ arcsP n L k, ∃ i, i < k ∧ p ∈ arcP n i (L[i]?.getD (0, 0, 0))
  | 0, p, hp => by cases hp
  | k + 1, p, hp => by
    rcases List.mem_append.1 hp with h | h
    · obtain ⟨i, hi, hp⟩ := mem_arcsP n L k p h
      exact ⟨i, by omega, hp⟩
    · exact ⟨k, by omega, h⟩
/-- a coordinate, an end, a weight that may be -/
def coordOk (x : Int) : Prop := -2147483648 ≤ x ∧ x < 2147483648
def arcOk (n : Int) (a : Ar) : Prop := (0 ≤ a.1 ∧ a.1 < n) ∧ (0 ≤ a.2.1 ∧ a.2.1 < n) ∧ (0 ≤ a.2.2 ∧ a.2.2 < 2147483648)
/-- it in plain words -/
structure Raw.Ok (r : Raw) : Prop where
  nodes : 1 ≤ r.nodes ∧ r.nodes ≤ 16777216
  lenX : (r.X.length : Int) = r.nodes
  lenY : (r.Y.length : Int) = r.nodes
  x : ∀ x ∈ r.X, coordOk x
  y : ∀ y ∈ r.Y, coordOk y
  arcs : r.arcs.length ≤ 67108864
  arc : ∀ a ∈ r.arcs, arcOk r.nodes a
theorem good_of {p : Pl} (h : p.lo ≤ p.n ∧ p.n < p.hi) : p.bad = false := by
  unfold Pl.bad
  simp only [Bool.or_eq_false_iff, decide_eq_false_iff_not]
  omega
theorem Raw.ok_iff (r : Raw) : r.ok ↔ r.Ok := by
  constructor
  · intro h
    have h0 := lookV_none h
    simp only [phases, List.mem_cons, List.not_mem_nil, or_false] at h0
    have a1 := bad_out (h0 _ (.inl rfl) ⟨0, 0, 5, r.nodes, 1, 16777217⟩ (by simp))
    have a2 := bad_out (h0 _ (.inr (.inl rfl)) ⟨0, 0, 6, r.X.length, r.nodes, r.nodes + 1⟩ (by simp))
    have a3 := bad_out (h0 _ (.inr (.inl rfl)) ⟨0, 1, 6, r.Y.length, r.nodes, r.nodes + 1⟩ (by simp))
    have a4 := fun p hp => bad_out (h0 _ (.inr (.inr (.inl rfl))) p hp)
    have a5 := bad_out (h0 _ (.inr (.inr (.inr (.inl rfl)))) ⟨0, 0, 8, r.arcs.length, 0, 67108865⟩ (by simp))
    have a6 := fun p hp => bad_out (h0 _ (.inr (.inr (.inr (.inr rfl)))) p hp)
    dsimp only at a1 a2 a3 a5
    have hxy : r.X.length = r.Y.length := by omega
    refine ⟨by omega, by omega, by omega, fun x hx => ?_, fun y hy => ?_, by omega, fun a ha => ?_⟩
    · obtain ⟨i, hi, rfl⟩ := List.mem_iff_getElem.1 hx
      have := a4 _ (nodesP_mem r.X r.Y r.X.length i hi ⟨i, 0, 7, r.X[i]?.getD 0, -2147483648, 2147483648⟩ (by simp [nodeP]))
      rw [List.getElem?_eq_getElem hi] at this
      exact this
    · obtain ⟨i, hi, rfl⟩ := List.mem_iff_getElem.1 hy
      have := a4 _ (nodesP_mem r.X r.Y r.X.length i (by omega) ⟨i, 1, 7, r.Y[i]?.getD 0, -2147483648, 2147483648⟩ (by simp [nodeP]))
      rw [List.getElem?_eq_getElem hi] at this
      exact this
    · obtain ⟨i, hi, rfl⟩ := List.mem_iff_getElem.1 ha
      have b1 := a6 _ (arcsP_mem r.nodes r.arcs r.arcs.length i hi ⟨i, 0, 9, (r.arcs[i]?.getD (0, 0, 0)).1, 0, r.nodes⟩ (by simp [arcP]))
      have b2 := a6 _ (arcsP_mem r.nodes r.arcs r.arcs.length i hi ⟨i, 1, 9, (r.arcs[i]?.getD (0, 0, 0)).2.1, 0, r.nodes⟩ (by simp [arcP]))
      have b3 := a6 _ (arcsP_mem r.nodes r.arcs r.arcs.length i hi ⟨i, 2, 10, (r.arcs[i]?.getD (0, 0, 0)).2.2, 0, 2147483648⟩ (by simp [arcP]))
      rw [List.getElem?_eq_getElem hi] at b1 b2 b3
      exact ⟨b1, b2, b3⟩
  · intro h
    refine none_lookV fun ps hps p hp => ?_
    simp only [phases, List.mem_cons, List.not_mem_nil, or_false] at hps
    have h1 := h.nodes; have h2 := h.lenX; have h3 := h.lenY; have h4 := h.arcs
    rcases hps with rfl | rfl | rfl | rfl | rfl
    · simp only [List.mem_cons, List.not_mem_nil, or_false] at hp; subst hp; exact good_of (by dsimp only; omega)
    · simp only [List.mem_cons, List.not_mem_nil, or_false] at hp; rcases hp with rfl | rfl <;> exact good_of (by dsimp only; omega)
    · obtain ⟨i, hi, hp⟩ := mem_nodesP _ _ _ _ hp
      have hy : i < r.Y.length := by omega
      rw [List.getElem?_eq_getElem hi, List.getElem?_eq_getElem hy] at hp
      simp only [nodeP, Option.getD_some, List.mem_cons, List.not_mem_nil, or_false] at hp
      rcases hp with rfl | rfl
      · exact good_of (h.x _ (List.getElem_mem hi))
      · exact good_of (h.y _ (List.getElem_mem hy))
    · simp only [List.mem_cons, List.not_mem_nil, or_false] at hp; subst hp; exact good_of (by dsimp only; omega)
    · obtain ⟨i, hi, hp⟩ := mem_arcsP _ _ _ _ hp
      rw [List.getElem?_eq_getElem hi] at hp
      have ha := h.arc _ (List.getElem_mem hi)
      simp only [arcP, Option.getD_some, List.mem_cons, List.not_mem_nil, or_false] at hp
      rcases hp with rfl | rfl | rfl
      · exact good_of ha.1
      · exact good_of ha.2.1
      · exact good_of ha.2.2
theorem Raw.wrong_zero (r : Raw) : r.wrong.1 = 0 ↔ r.ok := by
  unfold Raw.wrong Raw.ok
  cases h : lookV (phases r.nodes r.X r.Y r.arcs) 0 with
  | none => simp [faultOf]
  | some kp =>
    obtain ⟨k, p⟩ := kp
    simp only [faultOf]
    exact ⟨fun e => (lookV_co h e).elim, fun e => by cases e⟩
theorem Raw.ok_wrong {r : Raw} (h : r.ok) : r.wrong = (0, 0, 0, 0) := by unfold Raw.wrong; rw [show lookV _ 0 = none from h]; rfl
theorem inC_set (L : List Int) (k : Nat) (u : Int) (hk : k < L.length) : (L.flatMap inC).set k (.int .i64 u) = (L.set k u).flatMap inC := by
  have h := flat_set 1 inC inC_len L k 0 u (.int .i64 u) hk (by omega) (fun x _ => rfl)
  rwa [Nat.mul_one, Nat.add_zero] at h
theorem OutI.setX {w1 W : World} {Bo : Nat} {vy va : Value} {g n cap : Nat} {r : Raw} (h : OutI w1 Bo (.slice (some ⟨g, 0, none⟩) n cap) vy va r W) (hn : r.X.length = n) (k : Nat) (hk : k < r.X.length) (u : Int) :
    OutI w1 Bo (.slice (some ⟨g, 0, none⟩) n cap) vy va { r with X := r.X.set k u } (W.setCell ⟨g, k, none⟩ (.int .i64 u)) := by
  have hown := h.own.1
  obtain ⟨hgb, cur, hc⟩ := ownsRow_blk' hown (g := g) rfl
  have hgBo : Bo ≠ g := fun e => by
    subst e
    have e2 := (show W.heap[Bo]? = some _ from h.blk).symm.trans (show W.heap[Bo]? = some _ from hc)
    cases e2
  have oy := ownsRow_agree' h.own.2.1 (w' := W.setCell ⟨g, k, none⟩ (.int .i64 u)) fun b hb => heap_setCell_other _ _ _ _ (fun e => h.own.2.2.2 g rfl (by rw [hb]; exact congrArg some e))
  have oa := ownsRow_set h.own.2.2.1 (p := ⟨g, k, none⟩) hc (by decide) (.int .i64 u)
  have ox := ownsRow_setAt (n := n) (by rw [← hn]; rw [← hn] at hown; exact hown) k (.int .i64 u)
  rw [inC_set _ _ _ hk] at ox
  refine ⟨h.blk.setOther ⟨g, k, none⟩ (.int .i64 u) hgBo, ⟨?_, oy, oa, h.own.2.2.2⟩, ?_⟩
  · show World.ownsRow _ _ _ _ _ (r.X.set k _).length _
    rw [List.length_set, hn]; exact ox
  · have hk := h.kept
    exact ⟨hk.os, hk.tape, hk.output, by simpa using hk.size, fun j hj hs => (heap_setCell_other _ _ _ _ (show j ≠ g by omega)).trans (hk.block j hj hs)⟩
theorem OutI.setY {w1 W : World} {Bo : Nat} {vx va : Value} {g n cap : Nat} {r : Raw} (h : OutI w1 Bo vx (.slice (some ⟨g, 0, none⟩) n cap) va r W) (hn : r.Y.length = n) (k : Nat) (hk : k < r.Y.length) (u : Int) :
    OutI w1 Bo vx (.slice (some ⟨g, 0, none⟩) n cap) va { r with Y := r.Y.set k u } (W.setCell ⟨g, k, none⟩ (.int .i64 u)) := by
  have hown := h.own.2.1
  obtain ⟨hgb, cur, hc⟩ := ownsRow_blk' hown (g := g) rfl
  have hgBo : Bo ≠ g := fun e => by
    subst e
    have e2 := (show W.heap[Bo]? = some _ from h.blk).symm.trans (show W.heap[Bo]? = some _ from hc)
    cases e2
  have ox := ownsRow_agree' h.own.1 (w' := W.setCell ⟨g, k, none⟩ (.int .i64 u)) fun b hb => heap_setCell_other _ _ _ _ (fun e => h.own.2.2.2 b hb (by rw [e]; rfl))
  have oa := ownsRow_set h.own.2.2.1 (p := ⟨g, k, none⟩) hc (by decide) (.int .i64 u)
  have oy := ownsRow_setAt (n := n) (by rw [← hn]; rw [← hn] at hown; exact hown) k (.int .i64 u)
  rw [inC_set _ _ _ hk] at oy
  refine ⟨h.blk.setOther ⟨g, k, none⟩ (.int .i64 u) hgBo, ⟨ox, ?_, oa, h.own.2.2.2⟩, ?_⟩
  · show World.ownsRow _ _ _ _ _ (r.Y.set k _).length _
    rw [List.length_set, hn]; exact oy
  · have hk := h.kept
    exact ⟨hk.os, hk.tape, hk.output, by simpa using hk.size, fun j hj hs => (heap_setCell_other _ _ _ _ (show j ≠ g by omega)).trans (hk.block j hj hs)⟩
/-- moved: what was at v is at the place of v's other number -/
structure MovedTo (by_ : Int) (r r' : Raw) : Prop where
  nodes : r'.nodes = r.nodes
  lenX : r'.X.length = r.X.length
  lenY : r'.Y.length = r.Y.length
  x : ∀ v : Nat, (v : Int) < r.nodes → r'.X[(mvI r.nodes by_ v).toNat]? = r.X[v]?
  y : ∀ v : Nat, (v : Int) < r.nodes → r'.Y[(mvI r.nodes by_ v).toNat]? = r.Y[v]?
  arcs : r'.arcs = r.arcs.map fun a => (mvI r.nodes by_ a.1, mvI r.nodes by_ a.2.1, a.2.2)
theorem mv_inj {n by_ u v : Int} (hu : 0 ≤ u ∧ u < n) (hv : 0 ≤ v ∧ v < n) (h : mvI n by_ u = mvI n by_ v) : u = v := by
  unfold mvI at h
  have h2 := Int.emod_emod_of_dvd
  have h1 := (Int.emod_eq_emod_iff_emod_sub_eq_zero).1 h
  rw [show u + by_ - (v + by_) = u - v by omega] at h1
  obtain ⟨c, hc⟩ := Int.dvd_of_emod_eq_zero h1
  have hc0 : c = 0 := by
    rcases Int.lt_trichotomy c 0 with h | h | h
    · have : n * c ≤ n * (-1) := Int.mul_le_mul_of_nonneg_left (by omega) (by omega)
      omega
    · exact h
    · have : n * 1 ≤ n * c := Int.mul_le_mul_of_nonneg_left (by omega) (by omega)
      omega
  rw [hc0] at hc; omega
end Go.Proofs.YtjobijmmjebpaaaDoor
/- net, in plain words: the rows of arcs by an end. -/
namespace Go.Proofs.YtjobijmmjebpaaaDoor
/-- the first k arcs whose end is v -/
def rowK (E : Ar → Int) (L : List Ar) (v : Nat) : Nat → List Int
  | 0 => []
  | k + 1 => if E (L[k]?.getD (0, 0, 0)) = (v : Int) then rowK E L v k ++ [(k : Int)] else rowK E L v k
theorem rowK_hit {E : Ar → Int} {L : List Ar} {v k : Nat} (h : E (L[k]?.getD (0, 0, 0)) = (v : Int)) : rowK E L v (k + 1) = rowK E L v k ++ [(k : Int)] := by
  show (if _ then _ else _) = _; rw [if_pos h]
theorem rowK_miss {E : Ar → Int} {L : List Ar} {v k : Nat} (h : ¬ E (L[k]?.getD (0, 0, 0)) = (v : Int)) : rowK E L v (k + 1) = rowK E L v k := by
  show (if _ then _ else _) = _; rw [if_neg h]
theorem rowK_mono (E : Ar → Int) (L : List Ar) (v : Nat) (k d : Nat) : (rowK E L v k).length ≤ (rowK E L v (k + d)).length := by
  induction d with
  | zero => exact Nat.le_refl _
  | succ d ih =>
    refine Nat.le_trans ih ?_
    show _ ≤ (rowK E L v (k + d + 1)).length
    by_cases h : E (L[k + d]?.getD (0, 0, 0)) = (v : Int)
    · rw [rowK_hit h, List.length_append]; omega
    · rw [rowK_miss h]; exact Nat.le_refl _
theorem rowK_le (E : Ar → Int) (L : List Ar) (v k : Nat) : (rowK E L v k).length ≤ k := by
  induction k with
  | zero => exact Nat.le_refl _
  | succ k ih =>
    by_cases h : E (L[k]?.getD (0, 0, 0)) = (v : Int)
    · rw [rowK_hit h, List.length_append, List.length_singleton]; omega
    · rw [rowK_miss h]; omega
/-- where v's row begins -/
def atK (E : Ar → Int) (L : List Ar) (k : Nat) : Nat → Nat
  | 0 => 0
  | v + 1 => atK E L k v + (rowK E L v k).length
theorem atK_succ (E : Ar → Int) (L : List Ar) (k v : Nat) : atK E L k (v + 1) = atK E L k v + (rowK E L v k).length := rfl
theorem atK_zero (E : Ar → Int) (L : List Ar) : ∀ v, atK E L 0 v = 0
  | 0 => rfl
  | v + 1 => by rw [atK_succ, atK_zero E L v]; rfl
theorem atK_step (E : Ar → Int) (L : List Ar) (k : Nat) (h : 0 ≤ E (L[k]?.getD (0, 0, 0))) : ∀ v : Nat, atK E L (k + 1) v = atK E L k v + (if E (L[k]?.getD (0, 0, 0)) < (v : Int) then 1 else 0)
  | 0 => by rw [if_neg (by omega)]; rfl
  | v + 1 => by
    rw [atK_succ, atK_succ, atK_step E L k h v]
    by_cases e : E (L[k]?.getD (0, 0, 0)) = (v : Int)
    · rw [rowK_hit e, List.length_append, List.length_singleton, if_neg (by omega), if_pos (by omega)]; omega
    · rw [rowK_miss e]
      by_cases l : E (L[k]?.getD (0, 0, 0)) < (v : Int)
      · rw [if_pos l, if_pos (by omega)]; omega
      · rw [if_neg l, if_neg (by omega)]; omega
/-- all arcs have their ends below N -/
def EndsOk (E : Ar → Int) (L : List Ar) (N : Nat) : Prop := ∀ k, k < L.length → 0 ≤ E (L[k]?.getD (0, 0, 0)) ∧ E (L[k]?.getD (0, 0, 0)) < (N : Int)
theorem atK_all {E : Ar → Int} {L : List Ar} {N : Nat} (h : EndsOk E L N) : ∀ k, k ≤ L.length → atK E L k N = k
  | 0, _ => atK_zero E L N
  | k + 1, hk => by
    have h1 := h k (by omega)
    rw [atK_step E L k h1.1 N, atK_all h k (by omega), if_pos h1.2]
theorem atK_le (E : Ar → Int) (L : List Ar) (k v d : Nat) : atK E L k v ≤ atK E L k (v + d) := by
  induction d with
  | zero => exact Nat.le_refl _
  | succ d ih =>
    refine Nat.le_trans ih ?_
    show _ ≤ atK E L k (v + d + 1)
    rw [atK_succ]; omega
/-- v's row ends where u's begins, or before it -/
theorem atK_apart (E : Ar → Int) (L : List Ar) (k : Nat) {u v : Nat} (h : v < u) : atK E L k v + (rowK E L v k).length ≤ atK E L k u := by
  rw [← atK_succ]
  obtain ⟨d, rfl⟩ : ∃ d, u = v + 1 + d := ⟨u - (v + 1), by omega⟩
  exact atK_le E L k (v + 1) d
theorem atK_in {E : Ar → Int} {L : List Ar} {N : Nat} (h : EndsOk E L N) {v : Nat} (hv : v < N) : atK E L L.length v + (rowK E L v L.length).length ≤ L.length := by
  have h1 := atK_apart E L L.length hv
  rw [atK_all h L.length (Nat.le_refl _)] at h1
  exact h1
/-- how many there are by now -/
def manyL (E : Ar → Int) (L : List Ar) (N k : Nat) : List Int := (List.range N).map fun v => ((rowK E L v k).length : Int)
theorem manyL_len (E : Ar → Int) (L : List Ar) (N k : Nat) : (manyL E L N k).length = N := by unfold manyL; rw [List.length_map, List.length_range]
theorem manyL_get (E : Ar → Int) (L : List Ar) (N k v : Nat) (hv : v < N) : (manyL E L N k)[v]? = some ((rowK E L v k).length : Int) := by
  unfold manyL; rw [List.getElem?_map, List.getElem?_range hv]; rfl
theorem manyL_zero (E : Ar → Int) (L : List Ar) (N : Nat) : manyL E L N 0 = List.replicate N 0 := by
  unfold manyL
  apply List.ext_getElem?
  intro i
  rw [List.getElem?_map]
  by_cases h : i < N
  · rw [List.getElem?_range h, List.getElem?_replicate, if_pos h]; rfl
  · rw [List.getElem?_eq_none (by simpa using h), List.getElem?_eq_none (by simpa using h)]; rfl
theorem manyL_step (E : Ar → Int) (L : List Ar) (N k : Nat) (v : Nat) (hv : v < N) (h : E (L[k]?.getD (0, 0, 0)) = (v : Int)) : manyL E L N (k + 1) = (manyL E L N k).set v (((rowK E L v k).length : Int) + 1) := by
  apply List.ext_getElem?
  intro i
  by_cases hi : i < N
  · rw [manyL_get E L N (k + 1) i hi]
    by_cases e : i = v
    · subst e
      rw [List.getElem?_set_self (by rw [manyL_len]; exact hi), rowK_hit h, List.length_append, List.length_singleton]
      rfl
    · rw [List.getElem?_set_ne (Ne.symm e), manyL_get E L N k i hi, rowK_miss (by omega)]
  · rw [List.getElem?_eq_none (by rw [manyL_len]; omega), List.getElem?_eq_none (by rw [List.length_set, manyL_len]; omega)]
/-- the rows of a graph -/
def rowsOf (E : Ar → Int) (L : List Ar) (N : Nat) : List (List Int) := (List.range N).map fun v => rowK E L v L.length
theorem rowsOf_len (E : Ar → Int) (L : List Ar) (N : Nat) : (rowsOf E L N).length = N := by unfold rowsOf; rw [List.length_map, List.length_range]
theorem rowsOf_get (E : Ar → Int) (L : List Ar) (N v : Nat) (hv : v < N) : (rowsOf E L N)[v]? = some (rowK E L v L.length) := by
  unfold rowsOf; rw [List.getElem?_map, List.getElem?_range hv]; rfl
def endF (a : Ar) : Int := a.1
def endT (a : Ar) : Int := a.2.1
theorem ends_ok {r : Raw} (h : r.Ok) {N : Nat} (hN : (N : Int) = r.nodes) : EndsOk endF r.arcs N ∧ EndsOk endT r.arcs N := by
  constructor <;> intro k hk <;> rw [List.getElem?_eq_getElem hk] <;> have ha := h.arc _ (List.getElem_mem hk)
  · exact ⟨ha.1.1, by have := ha.1.2; show r.arcs[k].1 < _; omega⟩
  · exact ⟨ha.2.1.1, by have := ha.2.1.2; show r.arcs[k].2.1 < _; omega⟩
end Go.Proofs.YtjobijmmjebpaaaDoor
