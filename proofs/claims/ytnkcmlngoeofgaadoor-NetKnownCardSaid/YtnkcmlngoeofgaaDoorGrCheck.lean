/- graph.Check: the walk; its deferred closure. -/
import Derived.Test.YtnkcmlngoeofgaaDoorGrLook
import Derived.Recover
namespace Go.Proofs.YtnkcmlngoeofgaaDoor
open Go.RowKit Go.Shelf
/-- nothing to recover -/
theorem check_idle (r : Nat) (w : World) : CallsD Tryd.prog 45 #[.pointer (some ⟨r, 0, none⟩)] .returning w fun e u' w' => e = .returned (.tuple #[]) ∧ u' = .returning ∧ w' = w := by
  refine callsD_of_wpS Tryd.func45 rfl fun c₀ cs hu => ?_
  apply wpS_seq
  apply wpS_region
  simp [wpOpsS, go_sem, recoverD, hu, Tryd.ntmps45, Exit.thenS]
  refine wpS_of_wp ?_
  simp only [Array.replicate_succ, Array.replicate_zero, List.push_toArray, List.setIfInBounds_toArray, List.set_cons_succ, List.set_cons_zero, List.append_toArray, List.cons_append, List.nil_append]
  go_wp2
  cases c₀
  simp_all [bodyPostS, results, Tryd.results45]
set_option maxRecDepth 100000 in
/-- a panic of look's -/
theorem check_err (r b : Nat) (w : World) (v1 : Value) (h1 : Blk w r #[v1] 31 (0, 0)) :
    CallsD Tryd.prog 45 #[.pointer (some ⟨r, 0, none⟩)] (.panicking (looked b)) w fun e u' w' =>
      e = .returned (.tuple #[]) ∧ u' = .panicking [{ v := .iface 82 (.agg #[.pointer (some ⟨b, 0, none⟩)]), recovered := true }] ∧
        w' = (w.setCell ⟨r, 0, none⟩ (.iface 82 (.agg #[.pointer (some ⟨b, 0, none⟩)]))).alloc (.cells #[.pointer (some ⟨b, 0, none⟩)] 82) := by
  have hta : ∀ w : World, (Instr.typeAssert (.iface 82 (.agg #[.pointer (some ⟨b, 0, none⟩)])) 20 82 true).run Tryd.prog w = .ok (.tuple #[.agg #[.pointer (some ⟨b, 0, none⟩)], .bool true]) w := fun _ => by rfl
  have hlt := h1.lt
  have c1 := h1.cell 0; have f1 := h1.free 0 (Or.inr (Nat.zero_le _))
  change w.cell? ⟨r, 0, none⟩ = some v1 at c1
  unfold looked
  refine callsD_of_wpS Tryd.func45 rfl fun c₀ cs hu => ?_
  apply wpS_seq
  apply wpS_region
  simp [wpOpsS, go_sem, recoverD, hu, Tryd.ntmps45, Exit.thenS]
  refine wpS_of_wp ?_
  simp only [Array.replicate_succ, Array.replicate_zero, List.push_toArray, List.setIfInBounds_toArray, List.set_cons_succ, List.set_cons_zero, List.append_toArray, List.cons_append, List.nil_append]
  go_wp2
  cases c₀
  simp_all [bodyPostS, results, Tryd.results45]
theorem leaves_end {fn : Func} {tmps : Array Value} {R : Ending → World → Prop} {w : World} {v : Value} (h : (results fn tmps).run Tryd.prog w = .ok v w) (hR : R (.returned v) w) : Leaves Tryd.prog fn tmps R [] .returning w := ⟨v, h, hR⟩
/-- what Check answers -/
def Checked (W' : World) (v : Value) (nodes : Int) (X Y : List Int) (ars : List Ar) : Prop :=
  (v = .nilIface ∧ lookV (phases nodes X Y ars) 0 = none) ∨
  (∃ b k p, v = .iface 82 (.agg #[.pointer (some ⟨b, 0, none⟩)]) ∧ lookV (phases nodes X Y ars) 0 = some (k, p) ∧ Blk W' b #[.int .i64 p.co, .int .i64 (k : Nat), .int .i64 p.ix, .int .i64 p.fl] 47 (0, 0))
set_option maxHeartbeats 1000000 in
theorem check_any (vx vy va : Value) (nodes : Int) (X Y : List Int) (ars : List Ar) (w : World) (hx : SlX w vx X) (hy : SlX w vy Y) (ha : SlA w va ars) :
    Calls Tryd.prog 15 #[.agg #[.int .i64 nodes, vx, vy, va]] w fun e w' => ∃ v, e = .returned v ∧ Checked w' v nodes X Y ars ∧ Below w.heap.size w w' := by
  have hmf : ∀ (fn : Fn) (first cap : Array Value) (w : World), (Instr.makeFunc fn first cap).run Tryd.prog w = .ok (.func fn first cap) w := fun _ _ _ _ => rfl
  have hb1 := (Below.refl w.heap.size w).alloc (Nat.le_refl _) (.cells #[.int .i64 nodes, vx, vy, va] 25)
  have hb2 := hb1.alloc (by simp) (.cells #[.nilIface] 31)
  have hr : Blk ((w.alloc (.cells #[.int .i64 nodes, vx, vy, va] 25)).alloc (.cells #[.nilIface] 31)) (w.heap.size + 1) #[.nilIface] 31 (0, 0) := by
    have h := Blk.new (w.alloc (.cells #[.int .i64 nodes, vx, vy, va] 25)) #[.nilIface] 31 (0, 0)
    rwa [World.size_alloc] at h
  have hk := KpC.of_below hb2
  have C := (look_in 1 (Nat.le_refl 1) vx vy va nodes X Y ars _ (hx.keep hk) (hy.keep hk) (ha.keep hk)).calls (fun _ => by simp [FK, Fence.list, Fence.room])
  have HC := Lib.hid C; have HB := Lib.hid hb2; have HR := Lib.hid hr
  obtain ⟨ax, cx, rfl, _⟩ := hx
  obtain ⟨ay, cy, rfl, _⟩ := hy
  obtain ⟨aa, ca, rfl, _⟩ := ha
  clear hb1 hb2 hr hk C
  go_enter_defers Tryd.func15, Tryd.ntmps15
  go_wp2_with fail
  refine HC.out.mono ?_
  rintro e w2 ⟨(⟨rfl, hno⟩ | ⟨b, k, p, rfl, hlk, hblk⟩), hb3⟩
  · have hr2 := HR.out.below hb3 HR.out.lt
    have hbz := (HB.out.next' hb3).setCell (p := ⟨w.heap.size + 1, 0, none⟩) (by show w.heap.size ≤ w.heap.size + 1; omega) .nilIface
    have hrz := hr2.set 0 .nilIface
    have c1 := hr2.cell 0; have f1 := hr2.free 0 (Or.inr (Nat.zero_le _))
    change w2.cell? ⟨w.heap.size + 1, 0, none⟩ = some .nilIface at c1
    have HBz := Lib.hid hbz; have HRz := Lib.hid hrz; have HN := Lib.hid hno
    clear hr2 hb3 hbz hrz hno HC HB HR
    go_wp2_with fail
    have d1 := HRz.out.cell 0
    generalize w2.setCell ⟨w.heap.size + 1, 0, none⟩ .nilIface = wz at *
    change wz.cell? ⟨w.heap.size + 1, 0, none⟩ = some .nilIface at d1
    refine leaves_cons (f := 45) (args := #[.pointer (some ⟨w.heap.size + 1, 0, none⟩)]) (by simp) (by simp [go_sem]) ?_
    refine (check_idle (w.heap.size + 1) wz).mono ?_
    rintro e u' w'' ⟨rfl, rfl, rfl⟩
    exact leaves_end (v := .nilIface) (by simp [results, Tryd.results15, go_sem, d1]) ⟨_, rfl, .inl ⟨rfl, HN.out⟩, HBz.out⟩
  · have hr2 := HR.out.below hb3 HR.out.lt
    have hbl := hblk.lt
    have hne : b ≠ w.heap.size + 1 := fun e => by
      subst e
      have e2 := (show w2.heap[w.heap.size + 1]? = some _ from hr2).symm.trans (show w2.heap[w.heap.size + 1]? = some _ from hblk)
      cases e2
    refine leaves_cons (f := 45) (args := #[.pointer (some ⟨w.heap.size + 1, 0, none⟩)]) (by simp) (by simp [go_sem]) ?_
    refine (check_err (w.heap.size + 1) b w2 _ hr2).mono ?_
    rintro e u' w'' ⟨rfl, rfl, rfl⟩
    have hbz := ((HB.out.next' hb3).setCell (p := ⟨w.heap.size + 1, 0, none⟩) (by show w.heap.size ≤ w.heap.size + 1; omega) (.iface 82 (.agg #[.pointer (some ⟨b, 0, none⟩)]))).alloc (by simpa using (HB.out.next' hb3).size) (.cells #[.pointer (some ⟨b, 0, none⟩)] 82)
    have hrz := (hr2.set 0 (.iface 82 (.agg #[.pointer (some ⟨b, 0, none⟩)]))).alloc (.cells #[.pointer (some ⟨b, 0, none⟩)] 82)
    have hfz := (hblk.setOther ⟨w.heap.size + 1, 0, none⟩ (.iface 82 (.agg #[.pointer (some ⟨b, 0, none⟩)])) hne).alloc (.cells #[.pointer (some ⟨b, 0, none⟩)] 82)
    generalize (w2.setCell ⟨w.heap.size + 1, 0, none⟩ (.iface 82 (.agg #[.pointer (some ⟨b, 0, none⟩)]))).alloc (.cells #[.pointer (some ⟨b, 0, none⟩)] 82) = wz at *
    have d1 := hrz.cell 0
    change wz.cell? ⟨w.heap.size + 1, 0, none⟩ = some (.iface 82 (.agg #[.pointer (some ⟨b, 0, none⟩)])) at d1
    exact leaves_end (v := .iface 82 (.agg #[.pointer (some ⟨b, 0, none⟩)])) (by simp [results, Tryd.results15, go_sem, d1]) ⟨_, rfl, .inr ⟨b, k, p, rfl, hlk, hfz⟩, hbz⟩
end Go.Proofs.YtnkcmlngoeofgaaDoor
