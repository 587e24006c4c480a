/- Texts of the law GraphTells, merged: GrCheck, ErrWrap, GrFails, GrOk, HeldAny, OutMore, GrFew, GrRightOk, GrFirstP, GrFirstQ, GrAhead. -/
import Derived.Test.YtnkcmlngoeofgaaDoorPGraphTells04
import Derived.Recover
import Derived.Test.YtnkcmlngoeofgaaDoorPGraphTells02
import Derived.Test.YtnkcmlngoeofgaaDoorPGraphTells03
import Derived.OrdersHeld
import Derived.Deep.RegionHeld
import Derived.Deep.Cut
import Derived.Deep.CutRange
import Derived.Deep.CutBlock
/- graph.Check: the walk; its deferred closure. -/
namespace Go.Proofs.YtnkcmlngoeofgaaDoor
open Go.RowKit Go.Shelf
/-- nothing to recover -/
theorem check_idle (r : Nat) (w : World) : CallsD Tryd.prog 45 #[.pointer (some ⟨r, 0, none⟩)] .returning w fun e u' w' => e = .returned (.tuple #[]) ∧ u' = .returning ∧ w' = w := by
  refine callsD_of_wpS Tryd.func45 rfl fun c₀ cs hu => ?_
  apply wpS_seq
  apply wpS_region
  simp [wpOpsS, go_sem, recoverD, hu, Tryd.ntmps45, Exit.thenS]
  refine wpS_of_wp ?_
  simp only [Array.replicate_succ, Array.replicate_zero, List.push_toArray, List.setIfInBounds_toArray, List.set_cons_succ, List.set_cons_zero, List.append_toArray, List.cons_append, List.nil_append]
  go_wp2
  cases c₀
  simp_all [bodyPostS, results, Tryd.results45]
set_option maxRecDepth 100000 in
/-- a panic of look's -/
theorem check_err (r b : Nat) (w : World) (v1 : Value) (h1 : Blk w r #[v1] 31 (0, 0)) :
    CallsD Tryd.prog 45 #[.pointer (some ⟨r, 0, none⟩)] (.panicking (looked b)) w fun e u' w' =>
      e = .returned (.tuple #[]) ∧ u' = .panicking [{ v := .iface 82 (.agg #[.pointer (some ⟨b, 0, none⟩)]), recovered := true }] ∧
        w' = (w.setCell ⟨r, 0, none⟩ (.iface 82 (.agg #[.pointer (some ⟨b, 0, none⟩)]))).alloc (.cells #[.pointer (some ⟨b, 0, none⟩)] 82) := by
  have hta : ∀ w : World, (Instr.typeAssert (.iface 82 (.agg #[.pointer (some ⟨b, 0, none⟩)])) 20 82 true).run Tryd.prog w = .ok (.tuple #[.agg #[.pointer (some ⟨b, 0, none⟩)], .bool true]) w := fun _ => by rfl
  have hlt := h1.lt
  have c1 := h1.cell 0; have f1 := h1.free 0 (Or.inr (Nat.zero_le _))
  change w.cell? ⟨r, 0, none⟩ = some v1 at c1
  unfold looked
  refine callsD_of_wpS Tryd.func45 rfl fun c₀ cs hu => ?_
  apply wpS_seq
  apply wpS_region
  simp [wpOpsS, go_sem, recoverD, hu, Tryd.ntmps45, Exit.thenS]
  refine wpS_of_wp ?_
  simp only [Array.replicate_succ, Array.replicate_zero, List.push_toArray, List.setIfInBounds_toArray, List.set_cons_succ, List.set_cons_zero, List.append_toArray, List.cons_append, List.nil_append]
  go_wp2
  cases c₀
  simp_all [bodyPostS, results, Tryd.results45]
theorem leaves_end {fn : Func} {tmps : Array Value} {R : Ending → World → Prop} {w : World} {v : Value} (h : (results fn tmps).run Tryd.prog w = .ok v w) (hR : R (.returned v) w) : Leaves Tryd.prog fn tmps R [] .returning w := ⟨v, h, hR⟩
/-- what Check answers -/
def Checked (W' : World) (v : Value) (nodes : Int) (X Y : List Int) (ars : List Ar) : Prop :=
  (v = .nilIface ∧ lookV (phases nodes X Y ars) 0 = none) ∨
  (∃ b k p, v = .iface 82 (.agg #[.pointer (some ⟨b, 0, none⟩)]) ∧ lookV (phases nodes X Y ars) 0 = some (k, p) ∧ Blk W' b #[.int .i64 p.co, .int .i64 (k : Nat), .int .i64 p.ix, .int .i64 p.fl] 47 (0, 0))
set_option maxHeartbeats 1000000 in
theorem check_any (vx vy va : Value) (nodes : Int) (X Y : List Int) (ars : List Ar) (w : World) (hx : SlX w vx X) (hy : SlX w vy Y) (ha : SlA w va ars) :
    Calls Tryd.prog 15 #[.agg #[.int .i64 nodes, vx, vy, va]] w fun e w' => ∃ v, e = .returned v ∧ Checked w' v nodes X Y ars ∧ Below w.heap.size w w' := by
  have hmf : ∀ (fn : Fn) (first cap : Array Value) (w : World), (Instr.makeFunc fn first cap).run Tryd.prog w = .ok (.func fn first cap) w := fun _ _ _ _ => rfl
  have hb1 := (Below.refl w.heap.size w).alloc (Nat.le_refl _) (.cells #[.int .i64 nodes, vx, vy, va] 25)
  have hb2 := hb1.alloc (by simp) (.cells #[.nilIface] 31)
  have hr : Blk ((w.alloc (.cells #[.int .i64 nodes, vx, vy, va] 25)).alloc (.cells #[.nilIface] 31)) (w.heap.size + 1) #[.nilIface] 31 (0, 0) := by
    have h := Blk.new (w.alloc (.cells #[.int .i64 nodes, vx, vy, va] 25)) #[.nilIface] 31 (0, 0)
    rwa [World.size_alloc] at h
  have hk := KpC.of_below hb2
  have C := (look_in 1 (Nat.le_refl 1) vx vy va nodes X Y ars _ (hx.keep hk) (hy.keep hk) (ha.keep hk)).calls (fun _ => by simp [FK, Fence.list, Fence.room])
  have HC := Lib.hid C; have HB := Lib.hid hb2; have HR := Lib.hid hr
  obtain ⟨ax, cx, rfl, _⟩ := hx
  obtain ⟨ay, cy, rfl, _⟩ := hy
  obtain ⟨aa, ca, rfl, _⟩ := ha
  clear hb1 hb2 hr hk C
  go_enter_defers Tryd.func15, Tryd.ntmps15
  go_wp2_with fail
  refine HC.out.mono ?_
  rintro e w2 ⟨(⟨rfl, hno⟩ | ⟨b, k, p, rfl, hlk, hblk⟩), hb3⟩
  · have hr2 := HR.out.below hb3 HR.out.lt
    have hbz := (HB.out.next' hb3).setCell (p := ⟨w.heap.size + 1, 0, none⟩) (by show w.heap.size ≤ w.heap.size + 1; omega) .nilIface
    have hrz := hr2.set 0 .nilIface
    have c1 := hr2.cell 0; have f1 := hr2.free 0 (Or.inr (Nat.zero_le _))
    change w2.cell? ⟨w.heap.size + 1, 0, none⟩ = some .nilIface at c1
    have HBz := Lib.hid hbz; have HRz := Lib.hid hrz; have HN := Lib.hid hno
    clear hr2 hb3 hbz hrz hno HC HB HR
    go_wp2_with fail
    have d1 := HRz.out.cell 0
    generalize w2.setCell ⟨w.heap.size + 1, 0, none⟩ .nilIface = wz at *
    change wz.cell? ⟨w.heap.size + 1, 0, none⟩ = some .nilIface at d1
    refine leaves_cons (f := 45) (args := #[.pointer (some ⟨w.heap.size + 1, 0, none⟩)]) (by simp) (by simp [go_sem]) ?_
    refine (check_idle (w.heap.size + 1) wz).mono ?_
    rintro e u' w'' ⟨rfl, rfl, rfl⟩
    exact leaves_end (v := .nilIface) (by simp [results, Tryd.results15, go_sem, d1]) ⟨_, rfl, .inl ⟨rfl, HN.out⟩, HBz.out⟩
  · have hr2 := HR.out.below hb3 HR.out.lt
    have hbl := hblk.lt
    have hne : b ≠ w.heap.size + 1 := fun e => by
      subst e
      have e2 := (show w2.heap[w.heap.size + 1]? = some _ from hr2).symm.trans (show w2.heap[w.heap.size + 1]? = some _ from hblk)
      cases e2
    refine leaves_cons (f := 45) (args := #[.pointer (some ⟨w.heap.size + 1, 0, none⟩)]) (by simp) (by simp [go_sem]) ?_
    refine (check_err (w.heap.size + 1) b w2 _ hr2).mono ?_
    rintro e u' w'' ⟨rfl, rfl, rfl⟩
    have hbz := ((HB.out.next' hb3).setCell (p := ⟨w.heap.size + 1, 0, none⟩) (by show w.heap.size ≤ w.heap.size + 1; omega) (.iface 82 (.agg #[.pointer (some ⟨b, 0, none⟩)]))).alloc (by simpa using (HB.out.next' hb3).size) (.cells #[.pointer (some ⟨b, 0, none⟩)] 82)
    have hrz := (hr2.set 0 (.iface 82 (.agg #[.pointer (some ⟨b, 0, none⟩)]))).alloc (.cells #[.pointer (some ⟨b, 0, none⟩)] 82)
    have hfz := (hblk.setOther ⟨w.heap.size + 1, 0, none⟩ (.iface 82 (.agg #[.pointer (some ⟨b, 0, none⟩)])) hne).alloc (.cells #[.pointer (some ⟨b, 0, none⟩)] 82)
    generalize (w2.setCell ⟨w.heap.size + 1, 0, none⟩ (.iface 82 (.agg #[.pointer (some ⟨b, 0, none⟩)]))).alloc (.cells #[.pointer (some ⟨b, 0, none⟩)] 82) = wz at *
    have d1 := hrz.cell 0
    change wz.cell? ⟨w.heap.size + 1, 0, none⟩ = some (.iface 82 (.agg #[.pointer (some ⟨b, 0, none⟩)])) at d1
    exact leaves_end (v := .iface 82 (.agg #[.pointer (some ⟨b, 0, none⟩)])) (by simp [results, Tryd.results15, go_sem, d1]) ⟨_, rfl, .inr ⟨b, k, p, rfl, hlk, hfz⟩, hbz⟩
end Go.Proofs.YtnkcmlngoeofgaaDoor
/- errors.As by its contracts: an error that wraps a fault (graph's trouble). -/
namespace Go.Proofs.YtnkcmlngoeofgaaDoor
open Go.RowKit Go.Extern.Stop Go.Stop Go.Extern
theorem as_typeOfW (v : Value) (w : World) : (ReflectliteType.typeOf #[.iface 82 v]).run Tryd.prog w = .ok (.iface 135 (.agg #[.pointer (some ⟨1, 82, none⟩)])) w := by kernel_rfl
theorem as_assignableW (w : World) : (ReflectliteType.relation "AssignableTo" ReflectliteType.assignableTo #[.agg #[.pointer (some ⟨1, 82, none⟩)], .iface 135 (.agg #[.pointer (some ⟨1, 80, none⟩)])]).run Tryd.prog w = .ok (.bool false) w := by kernel_rfl
theorem as_notAs (v : Value) (w : World) : (Instr.typeAssert (.iface 82 v) 31 140 true).run Tryd.prog w = .ok (.tuple #[.nilIface, .bool false]) w :=
  run_typeAssert_lacksB Tryd.underlying140 (by kernel_rfl) (by kernel_rfl) v _ w
theorem as_isUnwrap (v : Value) (w : World) : (Instr.typeAssert (.iface 82 v) 31 143 true).run Tryd.prog w = .ok (.tuple #[.iface 82 v, .bool true]) w := by kernel_rfl
theorem as_methodUnwrap (n : Nat) (v : Value) (w : World) : (Go.method (n + 1) 82 v "Unwrap").run Tryd.prog w = .ok (110, v) w := by kernel_rfl
set_option maxHeartbeats 4000000 in
theorem as_wrap (e t : Addr) (old : Value) (w : World) (hg : w.cell? ⟨0, 0, none⟩ = some (.iface 135 (.agg #[.pointer (some ⟨1, 31, none⟩)]))) (ht0 : w.cell? t = some old) (hf0 : w.frozen? t = false) :
    Calls Tryd.prog 61 #[.iface 82 (.agg #[.pointer (some e)]), .iface 102 (.pointer (some t))] w fun ev w' => ev = .returned (.bool true) ∧ w' = (((((w.alloc (.cells #[.pointer (some t)] 102)).alloc (.cells #[.pointer (some ⟨1, 102, none⟩), .pointer (some ⟨w.heap.size, 0, none⟩), .int .u64 150] 122)).alloc (.cells #[.pointer (some ⟨1, 102, none⟩), .pointer (some ⟨w.heap.size, 0, none⟩), .int .u64 150] 122)).alloc (.cells #[.pointer (some e)] 82)).alloc (.cells #[.pointer (some e)] 80)).setCell t (.pointer (some e)) := by
  have h6 := @run_callFunc_extern Tryd.prog 79 _ (fun args => ReflectliteValue.unpack (args.getD 0 (.tuple #[]))) Tryd.func79 (by kernel_rfl) (by kernel_rfl) (by kernel_rfl) (by kernel_rfl)
  have h7 := @run_callFunc_extern Tryd.prog 80 _ (ReflectliteValue.methodAny (ReflectliteValue.valueError "reflectlite.Value.Type" 0) (fun t _ _ _ => ReflectliteType.toType t)) Tryd.func80 (by kernel_rfl) (by kernel_rfl) (by kernel_rfl) (by kernel_rfl)
  have h8 := @run_callFunc_extern Tryd.prog 81 _ (ReflectliteValue.method (ReflectliteValue.valueError "reflectlite.Value.IsNil" 0) ReflectliteValue.isNil) Tryd.func81 (by kernel_rfl) (by kernel_rfl) (by kernel_rfl) (by kernel_rfl)
  have h27 := @run_callFunc_extern Tryd.prog 104 _ (ReflectliteType.abiMethod fun t => do pure (.int .u8 (← Rtype.kind t))) Tryd.func104 (by kernel_rfl) (by kernel_rfl) (by kernel_rfl) (by kernel_rfl)
  have h37 := @run_callFunc_extern Tryd.prog 118 _ (ReflectliteType.method ReflectliteType.elem) Tryd.func118 (by kernel_rfl) (by kernel_rfl) (by kernel_rfl) (by kernel_rfl)
  have h38 := @run_callFunc_extern Tryd.prog 119 _ (ReflectliteType.relation "Implements" ReflectliteType.implements_) Tryd.func119 (by kernel_rfl) (by kernel_rfl) (by kernel_rfl) (by kernel_rfl)
  have h10 := @run_callFunc_extern Tryd.prog 86 _ ReflectliteType.typeOf Tryd.func86 (by kernel_rfl) (by kernel_rfl) (by kernel_rfl) (by kernel_rfl)
  have h35 := @run_callFunc_extern Tryd.prog 116 _ (ReflectliteType.relation "AssignableTo" ReflectliteType.assignableTo) Tryd.func116 (by kernel_rfl) (by kernel_rfl) (by kernel_rfl) (by kernel_rfl)
  have h11 := @run_callFunc_extern Tryd.prog 87 _ (ReflectliteValue.method (ReflectliteValue.valueError "reflectlite.Value.Elem" 0) ReflectliteValue.elem) Tryd.func87 (by kernel_rfl) (by kernel_rfl) (by kernel_rfl) (by kernel_rfl)
  have h12 := @run_callFunc_extern Tryd.prog 88 _ ReflectliteValue.set Tryd.func88 (by kernel_rfl) (by kernel_rfl) (by kernel_rfl) (by kernel_rfl)
  have tO := as_typeOf25
  have tOw := as_typeOfW
  have aW := as_assignableW
  have tA := as_notAs
  have tU := as_isUnwrap
  have mU := as_methodUnwrap
  have mA := as_methodAssignableTo
  have a25 := as_assignable25
  have v25 := as_valueOf25
  have f6 := as_valueOf27
  have f7 := as_type27
  have mK := as_methodKind
  have mE := as_methodElem
  have mI := as_methodImplements
  have k27 := as_kind27
  have k25 := as_kind25
  have e27 := as_elem27
  have i25 := as_implements25
  have n8 := as_isNil27 ⟨w.heap.size, 0, none⟩ t ((w.alloc (.cells #[.pointer (some t)] 102)).alloc (.cells #[.pointer (some ⟨1, 102, none⟩), .pointer (some ⟨w.heap.size, 0, none⟩), .int .u64 150] 122)) (by simp)
  have hlt : 0 < w.heap.size := by
    rcases Nat.eq_zero_or_pos w.heap.size with h0 | h
    · simp [World.cell?, h0] at hg
    · exact h
  have hg2 : ((w.alloc (.cells #[.pointer (some t)] 102)).alloc (.cells #[.pointer (some ⟨1, 102, none⟩), .pointer (some ⟨w.heap.size, 0, none⟩), .int .u64 150] 122)).cell? ⟨0, 0, none⟩ = some (.iface 135 (.agg #[.pointer (some ⟨1, 31, none⟩)])) := by
    rw [World.cell?_alloc_lt _ _ ⟨0, 0, none⟩ (by simp), World.cell?_alloc_lt _ _ ⟨0, 0, none⟩ hlt]; exact hg
  have htl : t.block < w.heap.size := by
    rcases Nat.lt_or_ge t.block w.heap.size with h | h
    · exact h
    · simp [World.cell?, Array.getElem?_eq_none h] at ht0
  have el := as_elemV27 ⟨w.heap.size, 0, none⟩ t ((((w.alloc (.cells #[.pointer (some t)] 102)).alloc (.cells #[.pointer (some ⟨1, 102, none⟩), .pointer (some ⟨w.heap.size, 0, none⟩), .int .u64 150] 122)).alloc (.cells #[.pointer (some ⟨1, 102, none⟩), .pointer (some ⟨w.heap.size, 0, none⟩), .int .u64 150] 122)).alloc (.cells #[.pointer (some e)] 82)) (by rw [World.cell?_alloc_lt _ _ ⟨w.heap.size, 0, none⟩ (by simp; omega), World.cell?_alloc_lt _ _ ⟨w.heap.size, 0, none⟩ (by simp; omega)]; simp)
  have st := as_set25 t ⟨w.heap.size + 1 + 1 + 1 + 1, 0, none⟩ e old (((((w.alloc (.cells #[.pointer (some t)] 102)).alloc (.cells #[.pointer (some ⟨1, 102, none⟩), .pointer (some ⟨w.heap.size, 0, none⟩), .int .u64 150] 122)).alloc (.cells #[.pointer (some ⟨1, 102, none⟩), .pointer (some ⟨w.heap.size, 0, none⟩), .int .u64 150] 122)).alloc (.cells #[.pointer (some e)] 82)).alloc (.cells #[.pointer (some e)] 80))
    (by rw [World.cell?_alloc_at _ _ _ _ (by simp)]; rfl)
    (by rw [World.cell?_alloc_lt _ _ t (by simp; omega), World.cell?_alloc_lt _ _ t (by simp; omega), World.cell?_alloc_lt _ _ t (by simp; omega), World.cell?_alloc_lt _ _ t (by simp; omega), World.cell?_alloc_lt _ _ t htl]; exact ht0)
    (by rw [World.frozen?_alloc_old _ _ t (by simp; omega), World.frozen?_alloc_old _ _ t (by simp; omega), World.frozen?_alloc_old _ _ t (by simp; omega), World.frozen?_alloc_old _ _ t (by simp; omega), World.frozen?_alloc_old _ _ t (Nat.ne_of_lt htl)]; exact hf0)
  go_enter Tryd.func61, Tryd.ntmps61
  go_wp2
  refine wp_loop_rounds 2 ?_
  rw [rounds_succ]
  go_wp2
  rw [rounds_succ]
  go_wp2
  go_ret
  exact ⟨rfl, rfl⟩
theorem asTo_trouble (b : Nat) (cs : Array Value) : AsTo (.iface 82 (.agg #[.pointer (some ⟨b, 0, none⟩)])) b cs := by
  refine ⟨⟨_, _, rfl⟩, fun t u hg ht _ => ?_⟩
  have hc := ht.cell 0
  change u.cell? ⟨t, 0, none⟩ = some (.pointer none) at hc
  refine (as_wrap ⟨b, 0, none⟩ ⟨t, 0, none⟩ _ u hg hc (ht.free 0 (Or.inr (Nat.zero_le _)))).mono ?_
  rintro e w' ⟨rfl, rfl⟩
  refine ⟨rfl, (((((Kept.refl (· = t) u).alloc _).alloc _).alloc _).alloc _ |>.alloc _).setCell (p := ⟨t, 0, none⟩) rfl _, ?_⟩
  exact (((((ht.alloc _).alloc _).alloc _).alloc _).alloc _).set 0 (.pointer (some ⟨b, 0, none⟩))
end Go.Proofs.YtnkcmlngoeofgaaDoor
/- what Check tells, as a fault; the graph laws' fails. -/
namespace Go.Proofs.YtnkcmlngoeofgaaDoor
open Go.RowKit
/-- a fault's fields: code, phase, index, field -/
abbrev Ft := Int × Int × Int × Int
def faultOf : Option (Nat × Pl) → Ft
  | none => (0, 0, 0, 0)
  | some (k, p) => (p.co, (k : Nat), p.ix, p.fl)
/-- what is wrong with a graph first -/
def Raw.wrong (r : Raw) : Ft := faultOf (lookV (phases r.nodes r.X r.Y r.arcs) 0)
theorem lookV_mem : ∀ {L : List (List Pl)} {j k : Nat} {p : Pl}, lookV L j = some (k, p) → ∃ ps ∈ L, p ∈ ps
  | [], _, _, _, h => by cases h
  | ps :: L, j, k, p, h => by
    rw [lookV] at h
    split at h
    · rename_i q hq
      obtain ⟨_, rfl⟩ := Prod.mk.inj (Option.some.inj h)
      exact ⟨ps, by simp, List.mem_of_find?_eq_some hq⟩
    · obtain ⟨qs, hqs, hp⟩ := lookV_mem h
      exact ⟨qs, by simp [hqs], hp⟩
theorem nodesP_co {X Y : List Int} : ∀ (k : Nat) (p : Pl), p ∈ nodesP X Y k → p.co = 7
  | 0, p, h => by cases h
  | k + 1, p, h => by
    rcases List.mem_append.1 h with h | h
    · exact nodesP_co k p h
    · simp only [nodeP, List.mem_cons, List.not_mem_nil, or_false] at h
      rcases h with rfl | rfl <;> rfl
theorem arcsP_co {n : Int} {L : List Ar} : ∀ (k : Nat) (p : Pl), p ∈ arcsP n L k → p.co = 9 ∨ p.co = 10
  | 0, p, h => by cases h
  | k + 1, p, h => by
    rcases List.mem_append.1 h with h | h
    · exact arcsP_co k p h
    · simp only [arcP, List.mem_cons, List.not_mem_nil, or_false] at h
      rcases h with rfl | rfl | rfl
      · exact .inl rfl
      · exact .inl rfl
      · exact .inr rfl
theorem lookV_co {nodes : Int} {X Y : List Int} {ars : List Ar} {k : Nat} {p : Pl} (h : lookV (phases nodes X Y ars) 0 = some (k, p)) : p.co ≠ 0 := by
  obtain ⟨ps, hps, hp⟩ := lookV_mem h
  simp only [phases, List.mem_cons, List.not_mem_nil, or_false] at hps
  rcases hps with rfl | rfl | rfl | rfl | rfl
  · simp only [List.mem_cons, List.not_mem_nil, or_false] at hp; subst hp; simp
  · simp only [List.mem_cons, List.not_mem_nil, or_false] at hp; rcases hp with rfl | rfl <;> simp
  · rw [nodesP_co _ _ hp]; decide
  · simp only [List.mem_cons, List.not_mem_nil, or_false] at hp; subst hp; simp
  · rcases arcsP_co _ _ hp with h | h <;> rw [h] <;> decide
theorem checked_is {w : World} {v : Value} {r : Raw} (h : Checked w v r.nodes r.X r.Y r.arcs) : ErrIs w v r.wrong.1 r.wrong.2.1 r.wrong.2.2.1 r.wrong.2.2.2 := by
  unfold Raw.wrong
  rcases h with ⟨rfl, h⟩ | ⟨b, k, p, rfl, h, hb⟩
  · rw [h]; exact .inl ⟨rfl, rfl, rfl, rfl, rfl⟩
  · rw [h]; exact .inr ⟨lookV_co h, b, asTo_trouble b _, hb⟩
/-- Check, as a contract over raw graphs -/
theorem check_raw (v : Value) (r : Raw) (w : World) (h : RawV w v r) : Calls Tryd.prog 15 #[v] w fun e w' => ∃ u, e = .returned u ∧ ErrIs w' u r.wrong.1 r.wrong.2.1 r.wrong.2.2.1 r.wrong.2.2.2 ∧ Below w.heap.size w w' := by
  obtain ⟨vx, vy, va, rfl, hx, hy, ha⟩ := h
  refine (check_any vx vy va r.nodes r.X r.Y r.arcs w hx hy ha).mono ?_
  rintro e w' ⟨u, rfl, hc, hb⟩
  exact ⟨u, rfl, checked_is hc, hb⟩
theorem ErrIs.form {w : World} {v : Value} {c ph ix fl : Int} (h : ErrIs w v c ph ix fl) : (v = .nilIface ∧ c = 0) ∨ ((∃ t x, v = .iface t x) ∧ c ≠ 0) := by
  rcases h with ⟨h1, h2, _⟩ | ⟨hc, b, ⟨h3, _⟩, _⟩
  · exact .inl ⟨h1, h2⟩
  · exact .inr ⟨h3, hc⟩
set_option maxHeartbeats 1000000 in
theorem fails_any (v : Value) (r : Raw) (w : World) (c ph ix fl : Int) (hg : HG w) (h : RawV w v r) (he : r.wrong = (c, ph, ix, fl)) :
    Calls Tryd.prog 18 #[v, .int .i64 c, .int .i64 ph, .int .i64 ix, .int .i64 fl] w fun e w' => e = .returned (.bool true) ∧ Below w.heap.size w w' := by
  have hf := h
  obtain ⟨vx, vy, va, rfl, hx, hy, ha⟩ := hf
  have fx := hx.form; have fy := hy.form; have fa := ha.form
  have hb := (Below.refl w.heap.size w).alloc (Nat.le_refl _) (.cells #[.int .i64 r.nodes, vx, vy, va] 25)
  have C := Lib.hid (check_raw _ _ _ (h.below hb)); have HB := Lib.hid hb; have HG0 := Lib.hid hg
  rw [he] at C
  clear h hx hy ha hb hg he
  obtain ⟨_, _, _, rfl⟩ := fx
  obtain ⟨_, _, _, rfl⟩ := fy
  obtain ⟨_, _, _, rfl⟩ := fa
  go_enter Tryd.func18, Tryd.ntmps18
  go_wp2_with fail
  refine C.out.mono ?_
  rintro e w1 ⟨u, rfl, hi, hb1⟩
  have HB1 := Lib.hid (HB.out.next' hb1)
  have C2 := Lib.hid (lawTold_is w1 u c ph ix fl (HG0.out.later HB1.out) hi)
  clear hi hb1
  go_wp2_with fail
  refine C2.out.mono ?_
  rintro e w2 ⟨rfl, hb2⟩
  have HB2 := Lib.hid (HB1.out.next' hb2)
  clear hb2
  go_wp2_with fail
  go_ret
  exact ⟨rfl, HB2.out⟩
end Go.Proofs.YtnkcmlngoeofgaaDoor
/- a graph that may be: what Check's nil says; a list's element another one. -/
namespace Go.Proofs.YtnkcmlngoeofgaaDoor
open Go.RowKit
/-- a graph that may be -/
def Raw.ok (r : Raw) : Prop := lookV (phases r.nodes r.X r.Y r.arcs) 0 = none
theorem lookV_none : ∀ {L : List (List Pl)} {j : Nat}, lookV L j = none → ∀ ps ∈ L, ∀ p ∈ ps, p.bad = false
  | [], _, _, ps, h => by cases h
  | qs :: L, j, h, ps, hps => by
    rw [lookV] at h
    split at h
    · cases h
    · rename_i hq
      intro p hp
      rcases List.mem_cons.1 hps with rfl | hps
      · have := List.find?_eq_none.1 hq p hp
        simpa using this
      · exact lookV_none h ps hps p hp
theorem none_lookV : ∀ {L : List (List Pl)} {j : Nat}, (∀ ps ∈ L, ∀ p ∈ ps, p.bad = false) → lookV L j = none
  | [], _, _ => rfl
  | qs :: L, j, h => by rw [lookV_cons (find_none (h qs (by simp)))]; exact none_lookV fun ps hps => h ps (by simp [hps])
theorem nodesP_mem (X Y : List Int) : ∀ (k i : Nat), i < k → ∀ p ∈ nodeP i (X[i]?.getD 0, Y[i]?.getD 0), p ∈ nodesP X Y k
  | k + 1, i, hi, p, hp => by
    refine List.mem_append.2 ?_
    rcases Nat.lt_or_ge i k with h | h
    · exact .inl (nodesP_mem X Y k i h p hp)
    · obtain rfl : i = k := by omega
      exact .inr hp
theorem mem_nodesP (X Y : List Int) : ∀ (k : Nat), ∀ p ∈ nodesP X Y k, ∃ i, i < k ∧ p ∈ nodeP i (X[i]?.getD 0, Y[i]?.getD 0)
  | 0, p, hp => by cases hp
  | k + 1, p, hp => by
    rcases List.mem_append.1 hp with h | h
    · obtain ⟨i, hi, hp⟩ := mem_nodesP X Y k p h
      exact ⟨i, by omega, hp⟩
    · exact ⟨k, by omega, h⟩
theorem arcsP_mem (n : Int) (L : List Ar) : ∀ (k i : Nat), i < k → ∀ p ∈ arcP n i (L[i]?.getD (0, 0, 0)), p ∈ arcsP n L k
  | k + 1, i, hi, p, hp => by
    refine List.mem_append.2 ?_
    rcases Nat.lt_or_ge i k with h | h
    · exact .inl (arcsP_mem n L k i h p hp)
    · obtain rfl : i = k := by omega
      exact .inr hp
theorem mem_arcsP (n : Int) (L : List Ar) : ∀ (k : Nat), ∀ p ∈ arcsP n L k, ∃ i, i < k ∧ p ∈ arcP n i (L[i]?.getD (0, 0, 0))
  | 0, p, hp => by cases hp
  | k + 1, p, hp => by
    rcases List.mem_append.1 hp with h | h
    · obtain ⟨i, hi, hp⟩ := mem_arcsP n L k p h
      exact ⟨i, by omega, hp⟩
    · exact ⟨k, by omega, h⟩
/-- a coordinate, an end, a weight that may be -/
def coordOk (x : Int) : Prop := -2147483648 ≤ x ∧ x < 2147483648
def arcOk (n : Int) (a : Ar) : Prop := (0 ≤ a.1 ∧ a.1 < n) ∧ (0 ≤ a.2.1 ∧ a.2.1 < n) ∧ (0 ≤ a.2.2 ∧ a.2.2 < 2147483648)
/-- it in plain words -/
structure Raw.Ok (r : Raw) : Prop where
  nodes : 1 ≤ r.nodes ∧ r.nodes ≤ 16777216
  lenX : (r.X.length : Int) = r.nodes
  lenY : (r.Y.length : Int) = r.nodes
  x : ∀ x ∈ r.X, coordOk x
  y : ∀ y ∈ r.Y, coordOk y
  arcs : r.arcs.length ≤ 67108864
  arc : ∀ a ∈ r.arcs, arcOk r.nodes a
theorem good_of {p : Pl} (h : p.lo ≤ p.n ∧ p.n < p.hi) : p.bad = false := by
  unfold Pl.bad
  simp only [Bool.or_eq_false_iff, decide_eq_false_iff_not]
  omega
theorem Raw.ok_iff (r : Raw) : r.ok ↔ r.Ok := by
  constructor
  · intro h
    have h0 := lookV_none h
    simp only [phases, List.mem_cons, List.not_mem_nil, or_false] at h0
    have a1 := bad_out (h0 _ (.inl rfl) ⟨0, 0, 5, r.nodes, 1, 16777217⟩ (by simp))
    have a2 := bad_out (h0 _ (.inr (.inl rfl)) ⟨0, 0, 6, r.X.length, r.nodes, r.nodes + 1⟩ (by simp))
    have a3 := bad_out (h0 _ (.inr (.inl rfl)) ⟨0, 1, 6, r.Y.length, r.nodes, r.nodes + 1⟩ (by simp))
    have a4 := fun p hp => bad_out (h0 _ (.inr (.inr (.inl rfl))) p hp)
    have a5 := bad_out (h0 _ (.inr (.inr (.inr (.inl rfl)))) ⟨0, 0, 8, r.arcs.length, 0, 67108865⟩ (by simp))
    have a6 := fun p hp => bad_out (h0 _ (.inr (.inr (.inr (.inr rfl)))) p hp)
    dsimp only at a1 a2 a3 a5
    have hxy : r.X.length = r.Y.length := by omega
    refine ⟨by omega, by omega, by omega, fun x hx => ?_, fun y hy => ?_, by omega, fun a ha => ?_⟩
    · obtain ⟨i, hi, rfl⟩ := List.mem_iff_getElem.1 hx
      have := a4 _ (nodesP_mem r.X r.Y r.X.length i hi ⟨i, 0, 7, r.X[i]?.getD 0, -2147483648, 2147483648⟩ (by simp [nodeP]))
      rw [List.getElem?_eq_getElem hi] at this
      exact this
    · obtain ⟨i, hi, rfl⟩ := List.mem_iff_getElem.1 hy
      have := a4 _ (nodesP_mem r.X r.Y r.X.length i (by omega) ⟨i, 1, 7, r.Y[i]?.getD 0, -2147483648, 2147483648⟩ (by simp [nodeP]))
      rw [List.getElem?_eq_getElem hi] at this
      exact this
    · obtain ⟨i, hi, rfl⟩ := List.mem_iff_getElem.1 ha
      have b1 := a6 _ (arcsP_mem r.nodes r.arcs r.arcs.length i hi ⟨i, 0, 9, (r.arcs[i]?.getD (0, 0, 0)).1, 0, r.nodes⟩ (by simp [arcP]))
      have b2 := a6 _ (arcsP_mem r.nodes r.arcs r.arcs.length i hi ⟨i, 1, 9, (r.arcs[i]?.getD (0, 0, 0)).2.1, 0, r.nodes⟩ (by simp [arcP]))
      have b3 := a6 _ (arcsP_mem r.nodes r.arcs r.arcs.length i hi ⟨i, 2, 10, (r.arcs[i]?.getD (0, 0, 0)).2.2, 0, 2147483648⟩ (by simp [arcP]))
      rw [List.getElem?_eq_getElem hi] at b1 b2 b3
      exact ⟨b1, b2, b3⟩
  · intro h
    refine none_lookV fun ps hps p hp => ?_
    simp only [phases, List.mem_cons, List.not_mem_nil, or_false] at hps
    have h1 := h.nodes; have h2 := h.lenX; have h3 := h.lenY; have h4 := h.arcs
    rcases hps with rfl | rfl | rfl | rfl | rfl
    · simp only [List.mem_cons, List.not_mem_nil, or_false] at hp; subst hp; exact good_of (by dsimp only; omega)
    · simp only [List.mem_cons, List.not_mem_nil, or_false] at hp; rcases hp with rfl | rfl <;> exact good_of (by dsimp only; omega)
    · obtain ⟨i, hi, hp⟩ := mem_nodesP _ _ _ _ hp
      have hy : i < r.Y.length := by omega
      rw [List.getElem?_eq_getElem hi, List.getElem?_eq_getElem hy] at hp
      simp only [nodeP, Option.getD_some, List.mem_cons, List.not_mem_nil, or_false] at hp
      rcases hp with rfl | rfl
      · exact good_of (h.x _ (List.getElem_mem hi))
      · exact good_of (h.y _ (List.getElem_mem hy))
    · simp only [List.mem_cons, List.not_mem_nil, or_false] at hp; subst hp; exact good_of (by dsimp only; omega)
    · obtain ⟨i, hi, hp⟩ := mem_arcsP _ _ _ _ hp
      rw [List.getElem?_eq_getElem hi] at hp
      have ha := h.arc _ (List.getElem_mem hi)
      simp only [arcP, Option.getD_some, List.mem_cons, List.not_mem_nil, or_false] at hp
      rcases hp with rfl | rfl | rfl
      · exact good_of ha.1
      · exact good_of ha.2.1
      · exact good_of ha.2.2
theorem Raw.wrong_zero (r : Raw) : r.wrong.1 = 0 ↔ r.ok := by
  unfold Raw.wrong Raw.ok
  cases h : lookV (phases r.nodes r.X r.Y r.arcs) 0 with
  | none => simp [faultOf]
  | some kp =>
    obtain ⟨k, p⟩ := kp
    simp only [faultOf]
    exact ⟨fun e => (lookV_co h e).elim, fun e => by cases e⟩
theorem Raw.ok_wrong {r : Raw} (h : r.ok) : r.wrong = (0, 0, 0, 0) := by unfold Raw.wrong; rw [show lookV _ 0 = none from h]; rfl
theorem inC_set (L : List Int) (k : Nat) (u : Int) (hk : k < L.length) : (L.flatMap inC).set k (.int .i64 u) = (L.set k u).flatMap inC := by
  have h := flat_set 1 inC inC_len L k 0 u (.int .i64 u) hk (by omega) (fun x _ => rfl)
  rwa [Nat.mul_one, Nat.add_zero] at h
theorem OutI.setX {w1 W : World} {Bo : Nat} {vy va : Value} {g n cap : Nat} {r : Raw} (h : OutI w1 Bo (.slice (some ⟨g, 0, none⟩) n cap) vy va r W) (hn : r.X.length = n) (k : Nat) (hk : k < r.X.length) (u : Int) :
    OutI w1 Bo (.slice (some ⟨g, 0, none⟩) n cap) vy va { r with X := r.X.set k u } (W.setCell ⟨g, k, none⟩ (.int .i64 u)) := by
  have hown := h.own.1
  obtain ⟨hgb, cur, hc⟩ := ownsRow_blk' hown (g := g) rfl
  have hgBo : Bo ≠ g := fun e => by
    subst e
    have e2 := (show W.heap[Bo]? = some _ from h.blk).symm.trans (show W.heap[Bo]? = some _ from hc)
    cases e2
  have oy := ownsRow_agree' h.own.2.1 (w' := W.setCell ⟨g, k, none⟩ (.int .i64 u)) fun b hb => heap_setCell_other _ _ _ _ (fun e => h.own.2.2.2 g rfl (by rw [hb]; exact congrArg some e))
  have oa := ownsRow_set h.own.2.2.1 (p := ⟨g, k, none⟩) hc (by decide) (.int .i64 u)
  have ox := ownsRow_setAt (n := n) (by rw [← hn]; rw [← hn] at hown; exact hown) k (.int .i64 u)
  rw [inC_set _ _ _ hk] at ox
  refine ⟨h.blk.setOther ⟨g, k, none⟩ (.int .i64 u) hgBo, ⟨?_, oy, oa, h.own.2.2.2⟩, ?_⟩
  · show World.ownsRow _ _ _ _ _ (r.X.set k _).length _
    rw [List.length_set, hn]; exact ox
  · have hk := h.kept
    exact ⟨hk.os, hk.tape, hk.output, by simpa using hk.size, fun j hj hs => (heap_setCell_other _ _ _ _ (show j ≠ g by omega)).trans (hk.block j hj hs)⟩
theorem OutI.setY {w1 W : World} {Bo : Nat} {vx va : Value} {g n cap : Nat} {r : Raw} (h : OutI w1 Bo vx (.slice (some ⟨g, 0, none⟩) n cap) va r W) (hn : r.Y.length = n) (k : Nat) (hk : k < r.Y.length) (u : Int) :
    OutI w1 Bo vx (.slice (some ⟨g, 0, none⟩) n cap) va { r with Y := r.Y.set k u } (W.setCell ⟨g, k, none⟩ (.int .i64 u)) := by
  have hown := h.own.2.1
  obtain ⟨hgb, cur, hc⟩ := ownsRow_blk' hown (g := g) rfl
  have hgBo : Bo ≠ g := fun e => by
    subst e
    have e2 := (show W.heap[Bo]? = some _ from h.blk).symm.trans (show W.heap[Bo]? = some _ from hc)
    cases e2
  have ox := ownsRow_agree' h.own.1 (w' := W.setCell ⟨g, k, none⟩ (.int .i64 u)) fun b hb => heap_setCell_other _ _ _ _ (fun e => h.own.2.2.2 b hb (by rw [e]; rfl))
  have oa := ownsRow_set h.own.2.2.1 (p := ⟨g, k, none⟩) hc (by decide) (.int .i64 u)
  have oy := ownsRow_setAt (n := n) (by rw [← hn]; rw [← hn] at hown; exact hown) k (.int .i64 u)
  rw [inC_set _ _ _ hk] at oy
  refine ⟨h.blk.setOther ⟨g, k, none⟩ (.int .i64 u) hgBo, ⟨ox, ?_, oa, h.own.2.2.2⟩, ?_⟩
  · show World.ownsRow _ _ _ _ _ (r.Y.set k _).length _
    rw [List.length_set, hn]; exact oy
  · have hk := h.kept
    exact ⟨hk.os, hk.tape, hk.output, by simpa using hk.size, fun j hj hs => (heap_setCell_other _ _ _ _ (show j ≠ g by omega)).trans (hk.block j hj hs)⟩
/-- moved: what was at v is at the place of v's other number -/
structure MovedTo (by_ : Int) (r r' : Raw) : Prop where
  nodes : r'.nodes = r.nodes
  lenX : r'.X.length = r.X.length
  lenY : r'.Y.length = r.Y.length
  x : ∀ v : Nat, (v : Int) < r.nodes → r'.X[(mvI r.nodes by_ v).toNat]? = r.X[v]?
  y : ∀ v : Nat, (v : Int) < r.nodes → r'.Y[(mvI r.nodes by_ v).toNat]? = r.Y[v]?
  arcs : r'.arcs = r.arcs.map fun a => (mvI r.nodes by_ a.1, mvI r.nodes by_ a.2.1, a.2.2)
theorem mv_inj {n by_ u v : Int} (hu : 0 ≤ u ∧ u < n) (hv : 0 ≤ v ∧ v < n) (h : mvI n by_ u = mvI n by_ v) : u = v := by
  unfold mvI at h
  have h2 := Int.emod_emod_of_dvd
  have h1 := (Int.emod_eq_emod_iff_emod_sub_eq_zero).1 h
  rw [show u + by_ - (v + by_) = u - v by omega] at h1
  obtain ⟨c, hc⟩ := Int.dvd_of_emod_eq_zero h1
  have hc0 : c = 0 := by
    rcases Int.lt_trichotomy c 0 with h | h | h
    · have : n * c ≤ n * (-1) := Int.mul_le_mul_of_nonneg_left (by omega) (by omega)
      omega
    · exact h
    · have : n * 1 ≤ n * c := Int.mul_le_mul_of_nonneg_left (by omega) (by omega)
      omega
  rw [hc0] at hc; omega
end Go.Proofs.YtnkcmlngoeofgaaDoor
/-
  A region that draws its order, by hand: its reads taken first where a condition on the world holds (S), which may GROW on the way; calls one by one. Over the kit's OrdersHeld.
-/
namespace Go.Proofs.YtnkcmlngoeofgaaDoor
section
variable {P : Program} {ops : Array Oper} {Q : Exit → Act → World → Prop} {S S1 : World → Prop}
theorem heldA_grow (h : ∀ w, S1 w → S w) : ∀ (fuel : Nat) (listed : Array Bool) (a : Act) (w : World), wpAnyH P .any ops Q S1 fuel listed a w → wpAnyH P .any ops Q S fuel listed a w
  | 0, _, _, _, hh => hh
  | fuel + 1, _, _, _, hh => ⟨hh.1, fun i hi => wpOp_mono (fun a' w' h' => ⟨h w' h'.1, heldA_grow h fuel _ a' w' h'.2⟩) (hh.2 i hi)⟩
theorem heldA_take {i d : Nat} {oi : Oper} {v : Value} {fuel : Nat} {listed : Array Bool} {tmps : Array Value} {ds : List Deferred} {w : World} (hi : ops[i]? = some oi) (hd : oi.dst = some d) (hs : Region.noSelect ops = true) (hf : Region.free .any ops listed i = true)
    (hr : (Region.ready .any ops listed).contains i = true) (hQ : ∀ c a w, Q (.panic c) (a.put oi.dst v) w → Q (.panic c) a w) (hw : Region.wanted oi (yielded ops tmps) = true) (hy : ∀ w, S w → (execOp (Act.eval { tmps := tmps, defers := ds }) oi).run P w = .ok (.value v) w) (hS : S w)
    (h : wpAnyH P .any ops Q S fuel (listed.setIfInBounds i true) { tmps := tmps.setIfInBounds d v, defers := ds } w) : wpAnyH P .any ops Q S (fuel + 1) listed { tmps := tmps, defers := ds } w :=
  wpAnyH_take hi hs hf hr hQ (Or.inl ⟨hw, hy⟩) hS (by rw [hd]; exact h)
theorem heldA_one {i : Nat} {fuel : Nat} {listed : Array Bool} {a : Act} {w : World} (hr : Region.ready .any ops listed = [i])
    (h : wpOp P ops Q i (fun a' w' => S w' ∧ wpAnyH P .any ops Q S fuel (listed.setIfInBounds i true) a' w') a w) : wpAnyH P .any ops Q S (fuel + 1) listed a w :=
  ⟨fun h0 => (by rw [hr] at h0; cases h0), fun j hj => by rw [hr] at hj; obtain rfl : j = i := by simpa using hj
                                                          exact h⟩
theorem heldA_two {i k : Nat} {fuel : Nat} {listed : Array Bool} {a : Act} {w : World} (hr : Region.ready .any ops listed = [i, k])
    (h1 : wpOp P ops Q i (fun a' w' => S w' ∧ wpAnyH P .any ops Q S fuel (listed.setIfInBounds i true) a' w') a w) (h2 : wpOp P ops Q k (fun a' w' => S w' ∧ wpAnyH P .any ops Q S fuel (listed.setIfInBounds k true) a' w') a w) : wpAnyH P .any ops Q S (fuel + 1) listed a w :=
  ⟨fun h0 => (by rw [hr] at h0; cases h0), fun j hj => by
    rw [hr] at hj
    rcases List.mem_cons.1 hj with rfl | hj
    · exact h1
    · obtain rfl : j = k := by simpa using hj
      exact h2⟩
/-- a call of a Go function that comes back -/
theorem wpOp_calls {i : Nat} {o : Oper} {d : Nat} {tmps : Array Value} {ds : List Deferred} {w w' : World} {f : FuncId} {args : Array Value} {K : Act → World → Prop} {R : Ending → World → Prop} (hi : ops[i]? = some o) (hd : o.dst = some d) (hw : Region.wanted o (yielded ops tmps) = true)
    (he : (execOp (Act.eval { tmps := tmps, defers := ds }) o).run P w = .ok (.enter f args) w') (hc : Calls P f args w' R) (hk : ∀ v w'', R (.returned v) w'' → K { tmps := tmps.setIfInBounds d v, defers := ds } w'') (hp : ∀ ch w'', R (.panicked ch) w'' → False) (ho : ∀ w'', R .outgrown w'' → False) :
    wpOp P ops Q i K { tmps := tmps, defers := ds } w := by
  unfold wpOp
  rw [hi]
  simp only [hw, if_true]
  refine .inl ?_
  unfold Oper.wp
  rw [he]
  simp only [Oper.upon]
  refine hc.mono fun e w'' hr => ?_
  cases e with
  | returned v => dsimp only; rw [hd]; exact hk v w'' hr
  | panicked ch => exact (hp ch w'' hr).elim
  | outgrown => exact (ho w'' hr).elim
end
end Go.Proofs.YtnkcmlngoeofgaaDoor
/- A graph of ours in a variable: what else may be done with it; rows of arguments cut; operations that are passed over. -/
namespace Go.Proofs.YtnkcmlngoeofgaaDoor
open Go.RowKit
/-- where a row that is ours begins -/
theorem ownForm {w : World} {base : Nat} {e : TypeId} {v : Value} {n size : Nat} {xs : List Value} (h : w.ownsRow base e size v n xs) : ∃ a c, v = .slice a n c ∧ (0 < n → ∃ g, a = some ⟨g, 0, none⟩) := by
  rcases h.2 with ⟨h, h0⟩ | ⟨g, cap, cur, h, _⟩
  · exact ⟨_, _, by rw [h0]; exact h, fun h => by omega⟩
  · exact ⟨_, _, h, fun _ => ⟨g, rfl⟩⟩
theorem OutI.cellA {w1 W : World} {Bo : Nat} {vx vy : Value} {g n cap : Nat} {r : Raw} (h : OutI w1 Bo vx vy (.slice (some ⟨g, 0, none⟩) n cap) r W) (hn : r.arcs.length = n) (k d : Nat) (hk : k < r.arcs.length) (hd : d < 3) :
    (∃ v, W.cell? ⟨g, k * 3 + d, none⟩ = some v) ∧ W.frozen? ⟨g, k * 3 + d, none⟩ = false := by
  obtain ⟨_, _, hg⟩ := ownsRow_blk' h.own.2.2.1 (g := g) rfl
  refine ⟨?_, hg.free _ (Or.inr (Nat.zero_le _))⟩
  have sA : SlA W (.slice (some ⟨g, 0, none⟩) n cap) r.arcs := slA_own hn (by have h := h.own.2.2.1; rwa [hn] at h)
  obtain ⟨b, off, e, d0, d1, d2⟩ := sA.at k hk
  obtain ⟨rfl, rfl⟩ : g = b ∧ 0 = off := by simpa using e
  rw [Nat.zero_add] at d0 d1 d2
  match d, hd with
  | 0, _ => exact ⟨_, d0⟩
  | 1, _ => exact ⟨_, d1⟩
  | 2, _ => exact ⟨_, d2⟩
section
variable {P : Program} {ops : Array Oper} {Q : Exit → Act → World → Prop} {S : World → Prop}
theorem heldA_skip {i d : Nat} {oi : Oper} {fuel : Nat} {listed : Array Bool} {tmps : Array Value} {ds : List Deferred} {w : World} (hi : ops[i]? = some oi) (hd : oi.dst = some d) (hs : Region.noSelect ops = true) (hf : Region.free .any ops listed i = true)
    (hr : (Region.ready .any ops listed).contains i = true) (hQ : ∀ c a w, Q (.panic c) (a.put oi.dst undef) w → Q (.panic c) a w) (hw : Region.wanted oi (yielded ops tmps) = false) (hS : S w)
    (h : wpAnyH P .any ops Q S fuel (listed.setIfInBounds i true) { tmps := tmps.setIfInBounds d undef, defers := ds } w) : wpAnyH P .any ops Q S (fuel + 1) listed { tmps := tmps, defers := ds } w :=
  wpAnyH_take hi hs hf hr hQ (Or.inr ⟨hw, rfl⟩) hS (by rw [hd]; exact h)
end
theorem inC_map (L : List Int) : L.flatMap inC = L.map (Value.int .i64) := by
  induction L with
  | nil => rfl
  | cons x L ih => rw [List.flatMap_cons, ih]; rfl
theorem OutI.takeY {w1 W : World} {Bo : Nat} {vx va : Value} {g n cap : Nat} {r : Raw} (h : OutI w1 Bo vx (.slice (some ⟨g, 0, none⟩) n cap) va r W) (hn : r.Y.length = n) (m : Nat) (hm : m ≤ n) :
    OutI w1 Bo vx (.slice (some ⟨g, 0, none⟩) m cap) va { r with Y := r.Y.take m } (W.setCell ⟨Bo, 2, none⟩ (.slice (some ⟨g, 0, none⟩) m cap)) := by
  have hown := h.own.2.1
  obtain ⟨hl, h2⟩ := hown
  have hY : W.ownsRow w1.heap.size 2 1 (.slice (some ⟨g, 0, none⟩) m cap) (r.Y.take m).length ((r.Y.take m).flatMap inC) := by
    have hlm : (r.Y.take m).length = m := by rw [List.length_take]; omega
    rw [hlm]
    refine ⟨by rw [inC_map, List.length_map, hlm, Nat.mul_one], ?_⟩
    rcases h2 with ⟨e, _⟩ | ⟨g', cap', cur, ev, hb, hg, hnc, hcm, hcs, ht⟩
    · cases e
    · obtain ⟨rfl, _, rfl⟩ : g = g' ∧ n = r.Y.length ∧ cap = cap' := by simpa using ev
      refine .inr ⟨g, cap, cur, rfl, hb, hg, by omega, hcm, hcs, ?_⟩
      have : (cur.toList.take (r.Y.length * 1)).take (m * 1) = (r.Y.flatMap inC).take (m * 1) := by rw [ht]
      rw [List.take_take, Nat.min_eq_left (by omega)] at this
      rw [this, inC_map, inC_map, List.map_take, Nat.mul_one]
  have hO : Own3 w1.heap.size W vx (.slice (some ⟨g, 0, none⟩) m cap) va { r with Y := r.Y.take m } := ⟨h.own.1, hY, h.own.2.2.1, fun b h1 h3 => h.own.2.2.2 b h1 (by simpa [Value.ownBlock] using h3)⟩
  exact ⟨h.blk.set 2 _, hO.set (p := ⟨Bo, 2, none⟩) h.blk (by decide) (by decide) _, h.kept.setCell (p := ⟨Bo, 2, none⟩) rfl _⟩
theorem OutI.setN {w1 W : World} {Bo : Nat} {vx vy va : Value} {r : Raw} (h : OutI w1 Bo vx vy va r W) (n : Int) : OutI w1 Bo vx vy va { r with nodes := n } (W.setCell ⟨Bo, 0, none⟩ (.int .i64 n)) :=
  ⟨h.blk.set 0 _, Own3.set (r := { r with nodes := n }) (p := ⟨Bo, 0, none⟩) h.own h.blk (by decide) (by decide) _, h.kept.setCell (p := ⟨Bo, 0, none⟩) rfl _⟩
theorem ownCellB {w : World} {lo : Nat} {e : TypeId} {gl c : Nat} {R : List Int} (h : w.ownsRow lo e 1 (.slice (some ⟨gl, 0, none⟩) R.length c) R.length (R.flatMap inC)) {i : Nat} (hi : i < R.length) : ∃ x, w.cell? ⟨gl, i, none⟩ = some x := by
  obtain ⟨b, off, e2, hc⟩ := (slX_own rfl h).at i hi
  obtain ⟨rfl, rfl⟩ : gl = b ∧ 0 = off := by simpa using e2
  rw [Nat.zero_add] at hc
  exact ⟨_, hc⟩
theorem OutI.cellX {w1 W : World} {Bo : Nat} {vy va : Value} {g n cap : Nat} {r : Raw} (h : OutI w1 Bo (.slice (some ⟨g, 0, none⟩) n cap) vy va r W) (hn : r.X.length = n) (k : Nat) (hk : k < n) : (∃ v, W.cell? ⟨g, k, none⟩ = some v) ∧ W.frozen? ⟨g, k, none⟩ = false := by
  subst hn
  obtain ⟨_, _, hg⟩ := ownsRow_blk' h.own.1 (g := g) rfl
  exact ⟨ownCellB h.own.1 hk, hg.free _ (Or.inr (Nat.zero_le _))⟩
theorem OutI.cellY {w1 W : World} {Bo : Nat} {vx va : Value} {g n cap : Nat} {r : Raw} (h : OutI w1 Bo vx (.slice (some ⟨g, 0, none⟩) n cap) va r W) (hn : r.Y.length = n) (k : Nat) (hk : k < n) : (∃ v, W.cell? ⟨g, k, none⟩ = some v) ∧ W.frozen? ⟨g, k, none⟩ = false := by
  subst hn
  obtain ⟨_, _, hg⟩ := ownsRow_blk' h.own.2.1 (g := g) rfl
  exact ⟨ownCellB h.own.2.1 hk, hg.free _ (Or.inr (Nat.zero_le _))⟩
theorem SlA.cut {w : World} {a : Option Addr} {n cap : Nat} {L : List Ar} (h : SlA w (.slice a n cap) L) (m : Nat) (hm : m ≤ L.length) : SlA w (.slice a m cap) (L.take m) := by
  obtain ⟨a', cap', e, h1, h2, h3⟩ := h
  obtain ⟨rfl, rfl, rfl⟩ : a = a' ∧ n = L.length ∧ cap = cap' := by simpa using e
  have hl : (L.take m).length = m := by rw [List.length_take]; omega
  refine ⟨a, cap, by rw [hl], by omega, h2, fun i hi => ?_⟩
  have hi' : i < L.length := by omega
  rw [List.getElem_take]
  exact h3 i hi'
end Go.Proofs.YtnkcmlngoeofgaaDoor
/- the graph laws' few. -/
namespace Go.Proofs.YtnkcmlngoeofgaaDoor
open Go.RowKit
theorem SlX.cut {w : World} {a : Option Addr} {n cap : Nat} {L : List Int} (h : SlX w (.slice a n cap) L) (m : Nat) (hm : m ≤ L.length) : SlX w (.slice a m cap) (L.take m) := by
  obtain ⟨a', cap', e, h1, h2, h3⟩ := h
  obtain ⟨rfl, rfl, rfl⟩ : a = a' ∧ n = L.length ∧ cap = cap' := by simpa using e
  have hl : (L.take m).length = m := by rw [List.length_take]; omega
  refine ⟨a, cap, by rw [hl], by omega, h2, fun i hi => ?_⟩
  have hi' : i < L.length := by omega
  rw [List.getElem_take]
  exact h3 i hi'
/-- a graph with lists that are not too long -/
def fewR (r : Raw) : Raw := ⟨r.nodes, r.X.take (min r.X.length 40), r.Y.take (min r.Y.length 40), r.arcs.take (min r.arcs.length 60)⟩
theorem fewR_few (r : Raw) : (fewR r).X.length ≤ 40 ∧ (fewR r).Y.length ≤ 40 ∧ (fewR r).arcs.length ≤ 60 := by
  refine ⟨?_, ?_, ?_⟩
  · show (r.X.take _).length ≤ _; rw [List.length_take]; omega
  · show (r.Y.take _).length ≤ _; rw [List.length_take]; omega
  · show (r.arcs.take _).length ≤ _; rw [List.length_take]; omega
set_option maxRecDepth 100000 in
set_option maxHeartbeats 8000000 in
theorem few_any (v : Value) (r : Raw) (w : World) (h : RawV w v r) : Calls Tryd.prog 14 #[v] w fun e w' => ∃ v', e = .returned v' ∧ RawV w' v' (fewR r) ∧ Below w.heap.size w w' := by
  obtain ⟨vx, vy, va, rfl, hx, hy, ha⟩ := h
  obtain ⟨xa, xc, rfl, hxc, hxm, _⟩ := id hx
  obtain ⟨ya, yc, rfl, hyc, hym, _⟩ := id hy
  obtain ⟨za, zc, rfl, hzc, hzm, _⟩ := id ha
  unfold maxLen at hxm hym hzm
  obtain ⟨B1, hB1⟩ : ∃ b, b = w.heap.size := ⟨_, rfl⟩
  obtain ⟨B2, hB2⟩ : ∃ b, b = w.heap.size + 1 := ⟨_, rfl⟩
  obtain ⟨w1, hw1⟩ : ∃ u, u = (w.alloc (.cells #[.int .i64 r.nodes, .slice xa r.X.length xc, .slice ya r.Y.length yc, .slice za r.arcs.length zc] 25)).alloc (.cells #[.int .i64 0, .slice none 0 0, .slice none 0 0, .slice none 0 0] 25) := ⟨_, rfl⟩
  have hb1 : Below w.heap.size w w1 := by rw [hw1]; exact ((Below.refl _ _).alloc (Nat.le_refl _) _).alloc (by simp) _
  have K1 : Blk w1 B1 #[.int .i64 r.nodes, .slice xa r.X.length xc, .slice ya r.Y.length yc, .slice za r.arcs.length zc] 25 (0, 0) := by rw [hw1, hB1]; exact (Blk.new _ _ _ _).alloc _
  have K2 : Blk w1 B2 #[.int .i64 0, .slice none 0 0, .slice none 0 0, .slice none 0 0] 25 (0, 0) := by
    rw [hw1, hB2]
    have h := Blk.new (w.alloc (.cells #[.int .i64 r.nodes, .slice xa r.X.length xc, .slice ya r.Y.length yc, .slice za r.arcs.length zc] 25)) #[.int .i64 0, .slice none 0 0, .slice none 0 0, .slice none 0 0] 25 (0, 0)
    rwa [World.size_alloc] at h
  have hne : B2 ≠ B1 := by omega
  have hle1 : w.heap.size ≤ B1 := by omega
  have hle2 : w.heap.size ≤ B2 := by omega
  have HC := Lib.hid (And.intro hne (And.intro hle1 hle2))
  have HX := Lib.hid hx; have HY := Lib.hid hy; have HA := Lib.hid ha
  have HB := Lib.hid hb1; have HK1 := Lib.hid K1; have HK2 := Lib.hid K2; have HW1 := Lib.hid hw1; have HE1 := Lib.hid hB1; have HE2 := Lib.hid hB2
  have g1 : (if (40 : Int) < (r.X.length : Int) then (40 : Int) else (r.X.length : Int)) = ((min r.X.length 40 : Nat) : Int) := by split <;> omega
  have g2 : (if (40 : Int) < (r.Y.length : Int) then (40 : Int) else (r.Y.length : Int)) = ((min r.Y.length 40 : Nat) : Int) := by split <;> omega
  have g3 : (if (60 : Int) < (r.arcs.length : Int) then (60 : Int) else (r.arcs.length : Int)) = ((min r.arcs.length 60 : Nat) : Int) := by split <;> omega
  have i1 : ((min r.X.length 40 : Nat) : Int) ≤ (xc : Int) := by omega
  have i2 : ((min r.Y.length 40 : Nat) : Int) ≤ (yc : Int) := by omega
  have i3 : ((min r.arcs.length 60 : Nat) : Int) ≤ (zc : Int) := by omega
  have j1 : min r.X.length 40 ≤ xc := by omega
  have j2 : min r.Y.length 40 ≤ yc := by omega
  have j3 : min r.arcs.length 60 ≤ zc := by omega
  clear hx hy ha hb1 K1 K2 hw1 hne hle1 hle2
  go_enter Tryd.func14, Tryd.ntmps14
  go_upto_region 1 with fail
  rw [← HW1.out, ← HE2.out, ← HE1.out]
  clear hB1 hB2 HW1 HE1 HE2
  have c := HK1.out.cell 1; have f := HK1.out.free 1 (Or.inr (Nat.zero_le _))
  change w1.cell? ⟨B1, 1, none⟩ = some (.slice xa r.X.length xc) at c
  go_upto_region 2 with fail
  have K1 := HK1.out.set 1 (.slice xa (min r.X.length 40) xc)
  have K2 := HK2.out.setOther ⟨B1, 1, none⟩ (.slice xa (min r.X.length 40) xc) HC.out.1
  have hb := HB.out.setCell (p := ⟨B1, 1, none⟩) HC.out.2.1 (.slice xa (min r.X.length 40) xc)
  have HK1' := Lib.hid K1; have HK2' := Lib.hid K2; have HB' := Lib.hid hb
  clear c f K1 K2 hb HK1 HK2 HB
  generalize w1.setCell ⟨B1, 1, none⟩ (.slice xa (min r.X.length 40) xc) = w2 at *
  have c := HK1'.out.cell 2; have f := HK1'.out.free 2 (Or.inr (Nat.zero_le _))
  change w2.cell? ⟨B1, 2, none⟩ = some (.slice ya r.Y.length yc) at c
  go_upto_region 3 with fail
  have K1 := HK1'.out.set 2 (.slice ya (min r.Y.length 40) yc)
  have K2 := HK2'.out.setOther ⟨B1, 2, none⟩ (.slice ya (min r.Y.length 40) yc) HC.out.1
  have hb := HB'.out.setCell (p := ⟨B1, 2, none⟩) HC.out.2.1 (.slice ya (min r.Y.length 40) yc)
  have HK1 := Lib.hid K1; have HK2 := Lib.hid K2; have HB := Lib.hid hb
  clear c f K1 K2 hb HK1' HK2' HB'
  generalize w2.setCell ⟨B1, 2, none⟩ (.slice ya (min r.Y.length 40) yc) = w3 at *
  have c := HK1.out.cell 3; have f := HK1.out.free 3 (Or.inr (Nat.zero_le _))
  change w3.cell? ⟨B1, 3, none⟩ = some (.slice za r.arcs.length zc) at c
  go_upto_region 4 with fail
  have K1 := HK1.out.set 3 (.slice za (min r.arcs.length 60) zc)
  have K2 := HK2.out.setOther ⟨B1, 3, none⟩ (.slice za (min r.arcs.length 60) zc) HC.out.1
  have hb := HB.out.setCell (p := ⟨B1, 3, none⟩) HC.out.2.1 (.slice za (min r.arcs.length 60) zc)
  have HK1' := Lib.hid K1; have HK2' := Lib.hid K2; have HB' := Lib.hid hb
  clear c f K1 K2 hb HK1 HK2 HB
  generalize w3.setCell ⟨B1, 3, none⟩ (.slice za (min r.arcs.length 60) zc) = w4 at *
  have c0 := HK1'.out.cell 0; have c1 := HK1'.out.cell 1; have c2 := HK1'.out.cell 2; have c3 := HK1'.out.cell 3
  change w4.cell? ⟨B1, 0, none⟩ = some (.int .i64 r.nodes) at c0
  change w4.cell? ⟨B1, 1, none⟩ = some (.slice xa (min r.X.length 40) xc) at c1
  change w4.cell? ⟨B1, 2, none⟩ = some (.slice ya (min r.Y.length 40) yc) at c2
  change w4.cell? ⟨B1, 3, none⟩ = some (.slice za (min r.arcs.length 60) zc) at c3
  have e0 := HK2'.out.cell 0; have e1 := HK2'.out.cell 1; have e2 := HK2'.out.cell 2; have e3 := HK2'.out.cell 3
  change w4.cell? ⟨B2, 0, none⟩ = some (.int .i64 0) at e0
  change w4.cell? ⟨B2, 1, none⟩ = some (.slice none 0 0) at e1
  change w4.cell? ⟨B2, 2, none⟩ = some (.slice none 0 0) at e2
  change w4.cell? ⟨B2, 3, none⟩ = some (.slice none 0 0) at e3
  have fr := fun i => HK2'.out.free i (Or.inr (Nat.zero_le _))
  have f0 := fr 0; have f1 := fr 1; have f2 := fr 2; have f3 := fr 3
  have bZ := (((HK2'.out.set 0 (.int .i64 r.nodes)).set 1 (.slice xa (min r.X.length 40) xc)).set 2 (.slice ya (min r.Y.length 40) yc)).set 3 (.slice za (min r.arcs.length 60) zc)
  have hbz := (((HB'.out.setCell (p := ⟨B2, 0, none⟩) HC.out.2.2 (.int .i64 r.nodes)).setCell (p := ⟨B2, 1, none⟩) HC.out.2.2 (.slice xa (min r.X.length 40) xc)).setCell (p := ⟨B2, 2, none⟩) HC.out.2.2 (.slice ya (min r.Y.length 40) yc)).setCell (p := ⟨B2, 3, none⟩) HC.out.2.2 (.slice za (min r.arcs.length 60) zc)
  have HZ := Lib.hid bZ; have HBz := Lib.hid hbz
  clear bZ hbz fr HK1' HK2' HB'
  go_wp2_with fail
  generalize (((w4.setCell ⟨B2, 0, none⟩ (.int .i64 r.nodes)).setCell ⟨B2, 1, none⟩ (.slice xa (min r.X.length 40) xc)).setCell ⟨B2, 2, none⟩ (.slice ya (min r.Y.length 40) yc)).setCell ⟨B2, 3, none⟩ (.slice za (min r.arcs.length 60) zc) = wz at *
  have z0 := HZ.out.cell 0; have z1 := HZ.out.cell 1; have z2 := HZ.out.cell 2; have z3 := HZ.out.cell 3
  change wz.cell? ⟨B2, 0, none⟩ = some (.int .i64 r.nodes) at z0
  change wz.cell? ⟨B2, 1, none⟩ = some (.slice xa (min r.X.length 40) xc) at z1
  change wz.cell? ⟨B2, 2, none⟩ = some (.slice ya (min r.Y.length 40) yc) at z2
  change wz.cell? ⟨B2, 3, none⟩ = some (.slice za (min r.arcs.length 60) zc) at z3
  have k := KpC.of_below HBz.out
  exact bodyPost_ret (v := .agg #[.int .i64 r.nodes, .slice xa (min r.X.length 40) xc, .slice ya (min r.Y.length 40) yc, .slice za (min r.arcs.length 60) zc]) (by simp [results, Tryd.results14, go_sem, z0, z1, z2, z3]) rfl ⟨_, rfl, ⟨_, _, _, rfl, (HX.out.keep k).cut _ (by omega), (HY.out.keep k).cut _ (by omega), (HA.out.keep k).cut _ (by omega)⟩, HBz.out⟩
end Go.Proofs.YtnkcmlngoeofgaaDoor
/- what right gives is a graph that may be. -/
namespace Go.Proofs.YtnkcmlngoeofgaaDoor
theorem w32_ok (x : Int) : coordOk (w32 x) := by
  unfold coordOk w32
  rw [IntKind.wrap_i32]
  omega
theorem rightV_ok (r : Raw) (n : Nat) : (rightV r n).Ok := by
  have hn : n % 12 < 12 := Nat.mod_lt _ (by omega)
  refine ⟨?_, ?_, ?_, ?_, ?_, ?_, ?_⟩
  · show (1 : Int) ≤ ((1 + n % 12 : Nat) : Int) ∧ ((1 + n % 12 : Nat) : Int) ≤ 16777216
    omega
  · show (((List.range (1 + n % 12)).map _).length : Int) = ((1 + n % 12 : Nat) : Int)
    rw [List.length_map, List.length_range]
  · show (((List.range (1 + n % 12)).map _).length : Int) = ((1 + n % 12 : Nat) : Int)
    rw [List.length_map, List.length_range]
  · intro x hx
    obtain ⟨i, _, rfl⟩ := List.mem_map.1 hx
    exact w32_ok _
  · intro x hx
    obtain ⟨i, _, rfl⟩ := List.mem_map.1 hx
    exact w32_ok _
  · show ((r.arcs.take 40).map _).length ≤ _
    rw [List.length_map, List.length_take]; omega
  · intro a ha
    obtain ⟨b, _, rfl⟩ := List.mem_map.1 ha
    have hN : (0 : Int) < ((1 + n % 12 : Nat) : Int) := by omega
    refine ⟨⟨Int.emod_nonneg _ (by omega), Int.emod_lt_of_pos _ hN⟩, ⟨Int.emod_nonneg _ (by omega), Int.emod_lt_of_pos _ hN⟩, ⟨Int.emod_nonneg _ (by omega), Int.emod_lt_of_pos _ (by omega)⟩⟩
end Go.Proofs.YtnkcmlngoeofgaaDoor
/- GraphFirst, in plain words: where the first bad place of a graph is. -/
namespace Go.Proofs.YtnkcmlngoeofgaaDoor
theorem nodesP_prefix (X Y : List Int) : ∀ k i, i ≤ k → nodesP X Y i <+: nodesP X Y k
  | 0, i, h => by obtain rfl : i = 0 := by omega
                  exact List.prefix_refl _
  | k + 1, i, h => by
    rcases Nat.lt_or_ge i (k + 1) with h' | h'
    · exact (nodesP_prefix X Y k i (by omega)).trans ⟨_, rfl⟩
    · obtain rfl : i = k + 1 := by omega
      exact List.prefix_refl _
theorem arcsP_prefix (n : Int) (L : List Ar) : ∀ k i, i ≤ k → arcsP n L i <+: arcsP n L k
  | 0, i, h => by obtain rfl : i = 0 := by omega
                  exact List.prefix_refl _
  | k + 1, i, h => by
    rcases Nat.lt_or_ge i (k + 1) with h' | h'
    · exact (arcsP_prefix n L k i (by omega)).trans ⟨_, rfl⟩
    · obtain rfl : i = k + 1 := by omega
      exact List.prefix_refl _
/-- a graph's count and its lists' lengths are right -/
def Raw.sized (r : Raw) : Prop := (1 ≤ r.nodes ∧ r.nodes ≤ 16777216) ∧ (r.X.length : Int) = r.nodes ∧ (r.Y.length : Int) = r.nodes
theorem sized_look {r : Raw} (h : r.sized) : lookV (phases r.nodes r.X r.Y r.arcs) 0 = lookV [nodesP r.X r.Y r.X.length, [⟨0, 0, 8, r.arcs.length, 0, 67108865⟩], arcsP r.nodes r.arcs r.arcs.length] 2 := by
  obtain ⟨h1, h2, h3⟩ := h
  unfold phases
  rw [lookV_cons (find_none fun p hp => ?_), lookV_cons (find_none fun p hp => ?_)]
  · simp only [List.mem_cons, List.not_mem_nil, or_false] at hp
    rcases hp with rfl | rfl <;> exact good_of (by dsimp only; omega)
  · simp only [List.mem_cons, List.not_mem_nil, or_false] at hp
    subst hp; exact good_of (by dsimp only; omega)
theorem first_node {r : Raw} (h : r.sized) {i : Nat} (hi : i < r.X.length) {pre : List Pl} {p : Pl} (hp : nodesP r.X r.Y i ++ pre ++ [p] <+: nodesP r.X r.Y (i + 1)) (hn : ∀ q ∈ nodesP r.X r.Y i ++ pre, q.bad = false) (hb : p.bad = true) : r.wrong = (p.co, 2, p.ix, p.fl) := by
  unfold Raw.wrong
  rw [sized_look h]
  have hf := find_pre (hp.trans (nodesP_prefix r.X r.Y r.X.length (i + 1) (by omega))) hn hb
  show faultOf (lookV _ _) = _
  rw [lookV]
  simp only [hf]
  rfl
theorem first_arc {r : Raw} (h : r.sized) (hg : ∀ q ∈ nodesP r.X r.Y r.X.length, q.bad = false) (hl : r.arcs.length ≤ 67108864) {i : Nat} (hi : i < r.arcs.length) {pre : List Pl} {p : Pl} (hp : arcsP r.nodes r.arcs i ++ pre ++ [p] <+: arcsP r.nodes r.arcs (i + 1)) (hn : ∀ q ∈ arcsP r.nodes r.arcs i ++ pre, q.bad = false) (hb : p.bad = true) : r.wrong = (p.co, 4, p.ix, p.fl) := by
  unfold Raw.wrong
  rw [sized_look h, lookV_cons (find_none hg), lookV_cons (find_none fun q hq => by
    simp only [List.mem_cons, List.not_mem_nil, or_false] at hq
    subst hq; exact good_of (by dsimp only; omega))]
  have hf := find_pre (hp.trans (arcsP_prefix r.nodes r.arcs r.arcs.length (i + 1) (by omega))) hn hb
  show faultOf (lookV _ _) = _
  rw [lookV]
  simp only [hf]
  rfl
end Go.Proofs.YtnkcmlngoeofgaaDoor
/- GraphFirst, in plain words: the five kinds of first bad places. -/
namespace Go.Proofs.YtnkcmlngoeofgaaDoor
theorem bad_coord {i f : Nat} {x : Int} (h : ¬ coordOk x) : (⟨i, f, 7, x, -2147483648, 2147483648⟩ : Pl).bad = true := by
  unfold coordOk at h
  unfold Pl.bad
  simp only [Bool.or_eq_true, decide_eq_true_eq]
  omega
theorem good_coord {i f : Nat} {x : Int} (h : coordOk x) : (⟨i, f, 7, x, -2147483648, 2147483648⟩ : Pl).bad = false := good_of h
/-- all nodes below i are right -/
def nodesOk (r : Raw) (i : Nat) : Prop := ∀ j, j < i → coordOk (r.X[j]?.getD 0) ∧ coordOk (r.Y[j]?.getD 0)
/-- all arcs below i are right -/
def arcsOk (r : Raw) (i : Nat) : Prop := ∀ j, j < i → arcOk r.nodes (r.arcs[j]?.getD (0, 0, 0))
theorem nodes_good {r : Raw} {i : Nat} (h : nodesOk r i) : ∀ q ∈ nodesP r.X r.Y i, q.bad = false := fun q hq => by
  obtain ⟨j, hj, hq⟩ := mem_nodesP _ _ _ _ hq
  simp only [nodeP, List.mem_cons, List.not_mem_nil, or_false] at hq
  rcases hq with rfl | rfl
  · exact good_coord (h j hj).1
  · exact good_coord (h j hj).2
theorem arcs_good {r : Raw} {i : Nat} (h : arcsOk r i) : ∀ q ∈ arcsP r.nodes r.arcs i, q.bad = false := fun q hq => by
  obtain ⟨j, hj, hq⟩ := mem_arcsP _ _ _ _ hq
  obtain ⟨h1, h2, h3⟩ := h j hj
  simp only [arcP, List.mem_cons, List.not_mem_nil, or_false] at hq
  rcases hq with rfl | rfl | rfl
  · exact good_of h1
  · exact good_of h2
  · exact good_of h3
theorem first_x {r : Raw} (h : r.sized) {i : Nat} (hi : i < r.X.length) (hn : nodesOk r i) (hb : ¬ coordOk (r.X[i]?.getD 0)) : r.wrong = (7, 2, (i : Int), 0) :=
  first_node h hi (pre := []) (p := ⟨i, 0, 7, r.X[i]?.getD 0, -2147483648, 2147483648⟩) ⟨[⟨i, 1, 7, r.Y[i]?.getD 0, -2147483648, 2147483648⟩], by simp [nodesP, nodeP]⟩ (by simpa using nodes_good hn) (bad_coord hb)
theorem first_y {r : Raw} (h : r.sized) {i : Nat} (hi : i < r.X.length) (hn : nodesOk r i) (hx : coordOk (r.X[i]?.getD 0)) (hb : ¬ coordOk (r.Y[i]?.getD 0)) : r.wrong = (7, 2, (i : Int), 1) :=
  first_node h hi (pre := [⟨i, 0, 7, r.X[i]?.getD 0, -2147483648, 2147483648⟩]) (p := ⟨i, 1, 7, r.Y[i]?.getD 0, -2147483648, 2147483648⟩) ⟨[], by simp [nodesP, nodeP]⟩ (fun q hq => by
    rcases List.mem_append.1 hq with hq | hq
    · exact nodes_good hn q hq
    · rw [List.mem_singleton.1 hq]; exact good_coord hx) (bad_coord hb)
theorem first_from {r : Raw} (h : r.sized) (hg : nodesOk r r.X.length) (hl : r.arcs.length ≤ 67108864) {i : Nat} (hi : i < r.arcs.length) (hn : arcsOk r i) (hb : ¬ (0 ≤ (r.arcs[i]?.getD (0, 0, 0)).1 ∧ (r.arcs[i]?.getD (0, 0, 0)).1 < r.nodes)) : r.wrong = (9, 4, (i : Int), 0) :=
  first_arc h (nodes_good hg) hl hi (pre := []) (p := ⟨i, 0, 9, (r.arcs[i]?.getD (0, 0, 0)).1, 0, r.nodes⟩) ⟨[⟨i, 1, 9, (r.arcs[i]?.getD (0, 0, 0)).2.1, 0, r.nodes⟩, ⟨i, 2, 10, (r.arcs[i]?.getD (0, 0, 0)).2.2, 0, 2147483648⟩], by simp [arcsP, arcP]⟩ (by simpa using arcs_good hn) (by
    unfold Pl.bad
    simp only [Bool.or_eq_true, decide_eq_true_eq]
    omega)
theorem first_to {r : Raw} (h : r.sized) (hg : nodesOk r r.X.length) (hl : r.arcs.length ≤ 67108864) {i : Nat} (hi : i < r.arcs.length) (hn : arcsOk r i) (hf : 0 ≤ (r.arcs[i]?.getD (0, 0, 0)).1 ∧ (r.arcs[i]?.getD (0, 0, 0)).1 < r.nodes) (hb : ¬ (0 ≤ (r.arcs[i]?.getD (0, 0, 0)).2.1 ∧ (r.arcs[i]?.getD (0, 0, 0)).2.1 < r.nodes)) : r.wrong = (9, 4, (i : Int), 1) :=
  first_arc h (nodes_good hg) hl hi (pre := [⟨i, 0, 9, (r.arcs[i]?.getD (0, 0, 0)).1, 0, r.nodes⟩]) (p := ⟨i, 1, 9, (r.arcs[i]?.getD (0, 0, 0)).2.1, 0, r.nodes⟩) ⟨[⟨i, 2, 10, (r.arcs[i]?.getD (0, 0, 0)).2.2, 0, 2147483648⟩], by simp [arcsP, arcP]⟩ (fun q hq => by
    rcases List.mem_append.1 hq with hq | hq
    · exact arcs_good hn q hq
    · rw [List.mem_singleton.1 hq]; exact good_of hf) (by
    unfold Pl.bad
    simp only [Bool.or_eq_true, decide_eq_true_eq]
    omega)
theorem first_weight {r : Raw} (h : r.sized) (hg : nodesOk r r.X.length) (hl : r.arcs.length ≤ 67108864) {i : Nat} (hi : i < r.arcs.length) (hn : arcsOk r i) (hf : 0 ≤ (r.arcs[i]?.getD (0, 0, 0)).1 ∧ (r.arcs[i]?.getD (0, 0, 0)).1 < r.nodes) (ht : 0 ≤ (r.arcs[i]?.getD (0, 0, 0)).2.1 ∧ (r.arcs[i]?.getD (0, 0, 0)).2.1 < r.nodes) (hb : ¬ (0 ≤ (r.arcs[i]?.getD (0, 0, 0)).2.2 ∧ (r.arcs[i]?.getD (0, 0, 0)).2.2 < 2147483648)) : r.wrong = (10, 4, (i : Int), 2) :=
  first_arc h (nodes_good hg) hl hi (pre := [⟨i, 0, 9, (r.arcs[i]?.getD (0, 0, 0)).1, 0, r.nodes⟩, ⟨i, 1, 9, (r.arcs[i]?.getD (0, 0, 0)).2.1, 0, r.nodes⟩]) (p := ⟨i, 2, 10, (r.arcs[i]?.getD (0, 0, 0)).2.2, 0, 2147483648⟩) ⟨[], by simp [arcsP, arcP]⟩ (fun q hq => by
    rcases List.mem_append.1 hq with hq | hq
    · exact arcs_good hn q hq
    · simp only [List.mem_cons, List.not_mem_nil, or_false] at hq
      rcases hq with rfl | rfl
      · exact good_of hf
      · exact good_of ht) (by
    unfold Pl.bad
    simp only [Bool.or_eq_true, decide_eq_true_eq]
    omega)
/-- the lists' lengths -/
theorem first_shape {r : Raw} (h : 1 ≤ r.nodes ∧ r.nodes ≤ 16777216) (hb : ¬ (r.X.length : Int) = r.nodes) : r.wrong = (6, 1, 0, 0) := by
  unfold Raw.wrong phases
  rw [lookV_cons (find_none fun p hp => by
    simp only [List.mem_cons, List.not_mem_nil, or_false] at hp
    subst hp; exact good_of (by dsimp only; omega))]
  have hbad : (⟨0, 0, 6, (r.X.length : Int), r.nodes, r.nodes + 1⟩ : Pl).bad = true := by
    unfold Pl.bad
    simp only [Bool.or_eq_true, decide_eq_true_eq]
    omega
  rw [lookV]
  simp only [List.find?_cons, hbad]
  rfl
theorem first_shapeY {r : Raw} (h : 1 ≤ r.nodes ∧ r.nodes ≤ 16777216) (hx : (r.X.length : Int) = r.nodes) (hb : ¬ (r.Y.length : Int) = r.nodes) : r.wrong = (6, 1, 0, 1) := by
  unfold Raw.wrong phases
  rw [lookV_cons (find_none fun p hp => by
    simp only [List.mem_cons, List.not_mem_nil, or_false] at hp
    subst hp; exact good_of (by dsimp only; omega))]
  have hgood : (⟨0, 0, 6, (r.X.length : Int), r.nodes, r.nodes + 1⟩ : Pl).bad = false := good_of (by dsimp only; omega)
  have hbad : (⟨0, 1, 6, (r.Y.length : Int), r.nodes, r.nodes + 1⟩ : Pl).bad = true := by
    unfold Pl.bad
    simp only [Bool.or_eq_true, decide_eq_true_eq]
    omega
  rw [lookV]
  simp only [List.find?_cons, hgood, hbad]
  rfl
end Go.Proofs.YtnkcmlngoeofgaaDoor
/- GraphFirst's ahead. -/
namespace Go.Proofs.YtnkcmlngoeofgaaDoor
open Go.RowKit
/-- is a violation (phase, index, field) ahead of another one? -/
def aheadB (a b : Int × Int × Int) : Bool := if a.1 = b.1 then (if a.2.1 = b.2.1 then decide (a.2.2 < b.2.2) else decide (a.2.1 < b.2.1)) else decide (a.1 < b.1)
set_option maxHeartbeats 4000000 in
theorem ahead_any (a0 a1 a2 a3 b0 b1 b2 b3 : Int) (w : World) : Calls Tryd.prog 17 #[.agg #[.int .i64 a0, .int .i64 a1, .int .i64 a2, .int .i64 a3], .agg #[.int .i64 b0, .int .i64 b1, .int .i64 b2, .int .i64 b3]] w fun e w' => e = .returned (.bool (aheadB (a0, a1, a2) (b0, b1, b2))) ∧ Below w.heap.size w w' := by
  obtain ⟨B1, hB1⟩ : ∃ b, b = w.heap.size := ⟨_, rfl⟩
  obtain ⟨B2, hB2⟩ : ∃ b, b = w.heap.size + 1 := ⟨_, rfl⟩
  obtain ⟨w1, hw1⟩ : ∃ u, u = (w.alloc (.cells #[.int .i64 a0, .int .i64 a1, .int .i64 a2, .int .i64 a3] 35)).alloc (.cells #[.int .i64 b0, .int .i64 b1, .int .i64 b2, .int .i64 b3] 35) := ⟨_, rfl⟩
  have hb1 : Below w.heap.size w w1 := by rw [hw1]; exact ((Below.refl _ _).alloc (Nat.le_refl _) _).alloc (by simp) _
  have K1 : Blk w1 B1 #[.int .i64 a0, .int .i64 a1, .int .i64 a2, .int .i64 a3] 35 (0, 0) := by rw [hw1, hB1]; exact (Blk.new _ _ _ _).alloc _
  have K2 : Blk w1 B2 #[.int .i64 b0, .int .i64 b1, .int .i64 b2, .int .i64 b3] 35 (0, 0) := by
    rw [hw1, hB2]
    have h := Blk.new (w.alloc (.cells #[.int .i64 a0, .int .i64 a1, .int .i64 a2, .int .i64 a3] 35)) #[.int .i64 b0, .int .i64 b1, .int .i64 b2, .int .i64 b3] 35 (0, 0)
    rwa [World.size_alloc] at h
  have HW1 := Lib.hid hw1; have HE1 := Lib.hid hB1; have HE2 := Lib.hid hB2; have HB := Lib.hid hb1
  have c0 := K1.cell 0; have c1 := K1.cell 1; have c2 := K1.cell 2
  have d0 := K2.cell 0; have d1 := K2.cell 1; have d2 := K2.cell 2
  simp only [List.getElem?_toArray, List.getElem?_cons_succ, List.getElem?_cons_zero] at c0 c1 c2 d0 d1 d2
  clear K1 K2 hw1 hb1 hB1 hB2
  go_enter Tryd.func17, Tryd.ntmps17
  go_upto_region 1 with fail
  rw [← HW1.out, ← HE2.out, ← HE1.out]
  by_cases h0 : a0 = b0
  case neg =>
    have q0 : (a0 != b0) = true := by simpa using h0
    have hs : aheadB (a0, a1, a2) (b0, b1, b2) = decide (a0 < b0) := by unfold aheadB; rw [if_neg h0]
    have HS := Lib.hid hs
    clear hs h0
    go_wp2_with fail
    go_ret
    exact ⟨by rw [HS.out]; first | done | rfl, HB.out⟩
  have q0 : (a0 != b0) = false := by simpa using h0
  have H0 := Lib.hid h0
  clear h0
  by_cases h1 : a1 = b1
  case neg =>
    have q1 : (a1 != b1) = true := by simpa using h1
    have hs : aheadB (a0, a1, a2) (b0, b1, b2) = decide (a1 < b1) := by unfold aheadB; rw [if_pos H0.out, if_neg h1]
    have HS := Lib.hid hs
    clear hs h1
    go_wp2_with fail
    go_ret
    exact ⟨by rw [HS.out]; first | done | rfl, HB.out⟩
  have q1 : (a1 != b1) = false := by simpa using h1
  have hs : aheadB (a0, a1, a2) (b0, b1, b2) = decide (a2 < b2) := by unfold aheadB; rw [if_pos H0.out, if_pos h1]
  have HS := Lib.hid hs
  clear hs h1
  go_wp2_with fail
  go_ret
  exact ⟨by rw [HS.out]; first | done | rfl, HB.out⟩
end Go.Proofs.YtnkcmlngoeofgaaDoor
