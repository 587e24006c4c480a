/- Texts of the law CellNorms, merged: GrIts, GrMarks, GrPhase, GrLook, GrCheck, ErrAsA, ErrAs. -/
import Derived.Test.YtjobijmmjebpaaaDoorPCellNorms01
import Derived.Test.YtjobijmmjebpaaaDoorPCellNorms00
import Derived.WalkLawsBesides
import Derived.Recover
import Derived.Test.YtjobijmmjebpaaaDoorPCellNorms02
import Derived.Test.YtjobijmmjebpaaaDoorRows
import Derived.WalkKit
import Derived.LaidEql
import Derived.Stop.Asserts
import Derived.RowKitTokens
/- graph: what look's five closures hand back: iterators over places. -/
namespace Go.Proofs.YtjobijmmjebpaaaDoor
open Go.RowKit Go.Shelf
attribute [local go_sem] Oper.semAt_some FK_round FK_depth Oper.semAt_none
/-- the raw graph's variable -/
structure RawAt (w : World) (Br : Nat) (nodes : Int) (X Y : List Int) (ars : List Ar) : Prop where
  ex : ∃ vx vy va, Blk w Br #[.int .i64 nodes, vx, vy, va] 26 (0, 0) ∧ SlX w vx X ∧ SlX w vy Y ∧ SlA w va ars
theorem RawAt.keep {w w' : World} {Br : Nat} {nodes : Int} {X Y : List Int} {ars : List Ar} (h : RawAt w Br nodes X Y ars) (hk : KpC w w') : RawAt w' Br nodes X Y ars := by
  obtain ⟨vx, vy, va, h1, h2, h3, h4⟩ := h
  exact ⟨vx, vy, va, hk.blk h1, h2.keep hk, h3.keep hk, h4.keep hk⟩
/-- an iterator over places -/
def ItOf (w : World) (gf : Nat) (lb : Array Value) (ps : List Pl) : Prop :=
  (gf = 82 ∧ ∃ Bs v, lb = #[.pointer (some ⟨Bs, 0, none⟩)] ∧ Blk w Bs #[v] 126 (0, 0) ∧ SlP w v ps) ∨
  (gf = 77 ∧ ∃ Br nodes X Y ars, lb = #[.pointer (some ⟨Br, 0, none⟩)] ∧ RawAt w Br nodes X Y ars ∧ X.length = Y.length ∧ ps = nodesP X Y X.length) ∨
  (gf = 78 ∧ ∃ Br nodes X Y ars, lb = #[.pointer (some ⟨Br, 0, none⟩)] ∧ RawAt w Br nodes X Y ars ∧ ps = arcsP nodes ars ars.length)
theorem ItOf.keep {w w' : World} {gf : Nat} {lb : Array Value} {ps : List Pl} (h : ItOf w gf lb ps) (hk : KpC w w') : ItOf w' gf lb ps := by
  rcases h with ⟨e, Bs, v, h1, h2, h3⟩ | ⟨e, Br, nodes, X, Y, ars, h1, h2, h3, h4⟩ | ⟨e, Br, nodes, X, Y, ars, h1, h2, h3⟩
  · exact .inl ⟨e, Bs, v, h1, hk.blk h2, h3.keep hk⟩
  · exact .inr (.inl ⟨e, Br, nodes, X, Y, ars, h1, h2.keep hk, h3, h4⟩)
  · exact .inr (.inr ⟨e, Br, nodes, X, Y, ars, h1, h2.keep hk, h3⟩)
theorem it_in (m : Nat) (L gf : Nat) (lb : Array Value) (ps : List Pl) (J : List Pl → World → Prop) (U : List PanicEntry → List Pl → World → Prop) (hJA : ∀ s W W', J s W → Below W.heap.size W W' → J s W')
    (hY : ∀ pre x W, J pre W → pre.length < ps.length → YieldAt FK (m - 1) Tryd.prog L (encP x) W fun e W' =>
      (e = .returned (.bool true) ∧ J (pre ++ [x]) W' ∧ KpC W W') ∨ (∃ ch, e = .panicked ch ∧ U ch (pre ++ [x]) W'))
    (W : World) (h : ItOf W gf lb ps) (h0 : J [] W) :
    CallsIn FK m Tryd.prog gf (#[.func (.yield L) #[] #[]] ++ lb) W fun e W' => (∃ v, e = .returned v ∧ J ps W') ∨ (∃ ch xs, e = .panicked ch ∧ xs <+: ps ∧ U ch xs W') := by
  rcases h with ⟨rfl, Bs, v, rfl, h2, h3⟩ | ⟨rfl, Br, nodes, X, Y, ars, rfl, ⟨vx, vy, va, hb, hx, hy, ha⟩, h3, rfl⟩ | ⟨rfl, Br, nodes, X, Y, ars, rfl, ⟨vx, vy, va, hb, hx, hy, ha⟩, rfl⟩
  · exact values_in m L Bs ps v J U hJA hY W h2 h3 h0
  · rw [nodesP_len] at hY
    exact nodes_in m L Br nodes vx vy va X Y J U hJA hY W hb hx hy h3 h0
  · rw [arcsP_len] at hY
    exact arcs_in m L Br nodes vx vy va ars J U hJA hY W hb ha h0
set_option maxRecDepth 100000 in
set_option maxHeartbeats 4000000 in
theorem values_new (m : Nat) (sl : Value) (W : World) (ps : List Pl) (h : SlP W sl ps) (hone : sl.oneCell' = true) :
    CallsIn FK m Tryd.prog 76 #[sl] W fun e W' => ∃ gf lb, e = .returned (.func (.func gf) #[] lb) ∧ ItOf W' gf lb ps ∧ Below W.heap.size W W' := by
  have hb := (Below.refl W.heap.size W).alloc (Nat.le_refl _) (.cells #[sl] 126)
  have H : Hid (ItOf (W.alloc (.cells #[sl] 126)) 82 #[.pointer (some ⟨W.heap.size, 0, none⟩)] ps ∧ Below W.heap.size W (W.alloc (.cells #[sl] 126))) := Lib.hid ⟨.inl ⟨rfl, _, _, rfl, Blk.new _ _ _ _, h.keep (KpC.of_below hb)⟩, hb⟩
  obtain ⟨a, cap, rfl, _⟩ := h
  clear hb hone
  have hmf : ∀ (fn : Fn) (first cap : Array Value) (w : World), (Instr.makeFunc fn first cap).run Tryd.prog w = .ok (.func fn first cap) w := fun _ _ _ _ => rfl
  refine callsIn_of_wp Tryd.func76 rfl (by simp [FK, Fence.list]) ?_ rfl
  simp only [Tryd.ntmps76, List.size_toArray, List.length_cons, List.length_nil, Nat.reduceAdd, Nat.reduceSub, Array.replicate_succ, Array.replicate_zero, List.push_toArray, List.append_toArray, List.nil_append, List.cons_append]
  gi_wp2_with fail
  go_ret
  exact ⟨_, _, rfl, H.out⟩
set_option maxRecDepth 100000 in
set_option maxHeartbeats 4000000 in
theorem one_in (m : Nat) (c n lo hi : Int) (W : World) :
    CallsIn FK m Tryd.prog 64 #[.int .i64 c, .int .i64 n, .int .i64 lo, .int .i64 hi] W fun e W' => ∃ gf lb, e = .returned (.func (.func gf) #[] lb) ∧ ItOf W' gf lb [⟨0, 0, c, n, lo, hi⟩] ∧ Below W.heap.size W W' := by
  have hb := (Below.refl W.heap.size W).alloc (Nat.le_refl _) (.cells #[.int .i64 0, .int .i64 0, .int .i64 c, .int .i64 n, .int .i64 lo, .int .i64 hi] 112)
  have hS : SlP (W.alloc (.cells #[.int .i64 0, .int .i64 0, .int .i64 c, .int .i64 n, .int .i64 lo, .int .i64 hi] 112)) (.slice (some ⟨W.heap.size, 0, none⟩) 1 1) [⟨0, 0, c, n, lo, hi⟩] := slP_new (L := [⟨0, 0, c, n, lo, hi⟩]) (Blk.new _ _ _ _) rfl (by show 1 ≤ 1000; omega)
  have C := Lib.hid (values_new (m - 1) _ _ _ hS rfl); have HB := Lib.hid hb
  clear hb hS
  refine callsIn_of_wp Tryd.func64 rfl (by simp [FK, Fence.list]) ?_ rfl
  simp only [Tryd.ntmps64, List.size_toArray, List.length_cons, List.length_nil, Nat.reduceAdd, Nat.reduceSub, Array.replicate_succ, Array.replicate_zero, List.push_toArray, List.append_toArray, List.nil_append, List.cons_append]
  gi_wp2_with fail
  refine ⟨by simp [FK, Fence.list], ?_⟩
  refine C.out.mono ?_
  rintro e W2 ⟨gf, lb, rfl, h1, h2⟩
  have H1 := Lib.hid h1; have H2 := Lib.hid (HB.out.next' h2)
  clear h1 h2
  gi_wp2_with fail
  go_ret
  exact ⟨_, _, rfl, H1.out, H2.out⟩
set_option maxRecDepth 100000 in
set_option maxHeartbeats 4000000 in
theorem look1_in (m Br : Nat) (nodes : Int) (X Y : List Int) (ars : List Ar) (W : World) (h : RawAt W Br nodes X Y ars) :
    CallsIn FK m Tryd.prog 63 #[.pointer (some ⟨Br, 0, none⟩)] W fun e W' => ∃ gf lb, e = .returned (.func (.func gf) #[] lb) ∧ ItOf W' gf lb [⟨0, 0, 5, nodes, 1, 16777217⟩] ∧ Below W.heap.size W W' := by
  obtain ⟨vx, vy, va, hb, _⟩ := h
  have c0 := hb.cell 0
  change W.cell? ⟨Br, 0, none⟩ = some (.int .i64 nodes) at c0
  refine callsIn_of_wp Tryd.func63 rfl (by simp [FK, Fence.list]) ?_ rfl
  simp only [Tryd.ntmps63, List.size_toArray, List.length_cons, List.length_nil, Nat.reduceAdd, Nat.reduceSub, Array.replicate_succ, Array.replicate_zero, List.push_toArray, List.append_toArray, List.nil_append, List.cons_append]
  gi_wp2_with fail
  refine ⟨by simp [FK, Fence.list], ?_⟩
  refine (one_in (m - 1) 5 nodes 1 16777217 W).mono ?_
  rintro e W2 ⟨gf, lb, rfl, h1, h2⟩
  have H1 := Lib.hid h1; have H2 := Lib.hid h2
  clear h1 h2
  gi_wp2_with fail
  go_ret
  exact ⟨_, _, rfl, H1.out, H2.out⟩
set_option maxRecDepth 100000 in
set_option maxHeartbeats 4000000 in
theorem nodes_new (m : Nat) (vx vy va : Value) (nodes : Int) (X Y : List Int) (ars : List Ar) (W : World) (hx : SlX W vx X) (hy : SlX W vy Y) (ha : SlA W va ars) (hl : X.length = Y.length) :
    CallsIn FK m Tryd.prog 68 #[.agg #[.int .i64 nodes, vx, vy, va]] W fun e W' => ∃ gf lb, e = .returned (.func (.func gf) #[] lb) ∧ ItOf W' gf lb (nodesP X Y X.length) ∧ Below W.heap.size W W' := by
  have hb := (Below.refl W.heap.size W).alloc (Nat.le_refl _) (.cells #[.int .i64 nodes, vx, vy, va] 26)
  have hk := KpC.of_below hb
  have H : Hid (ItOf (W.alloc (.cells #[.int .i64 nodes, vx, vy, va] 26)) 77 #[.pointer (some ⟨W.heap.size, 0, none⟩)] (nodesP X Y X.length) ∧ Below W.heap.size W (W.alloc (.cells #[.int .i64 nodes, vx, vy, va] 26))) := Lib.hid ⟨.inr (.inl ⟨rfl, _, nodes, X, Y, ars, rfl, ⟨vx, vy, va, Blk.new _ _ _ _, hx.keep hk, hy.keep hk, ha.keep hk⟩, hl, rfl⟩), hb⟩
  clear hl
  obtain ⟨ax, cx, rfl, _⟩ := hx
  obtain ⟨ay, cy, rfl, _⟩ := hy
  obtain ⟨aa, ca, rfl, _⟩ := ha
  clear hb hk
  have hmf : ∀ (fn : Fn) (first cap : Array Value) (w : World), (Instr.makeFunc fn first cap).run Tryd.prog w = .ok (.func fn first cap) w := fun _ _ _ _ => rfl
  refine callsIn_of_wp Tryd.func68 rfl (by simp [FK, Fence.list]) ?_ rfl
  simp only [Tryd.ntmps68, List.size_toArray, List.length_cons, List.length_nil, Nat.reduceAdd, Nat.reduceSub, Array.replicate_succ, Array.replicate_zero, List.push_toArray, List.append_toArray, List.nil_append, List.cons_append]
  gi_wp2_with fail
  go_ret
  exact ⟨_, _, rfl, H.out⟩
set_option maxRecDepth 100000 in
set_option maxHeartbeats 4000000 in
theorem arcs_new (m : Nat) (vx vy va : Value) (nodes : Int) (X Y : List Int) (ars : List Ar) (W : World) (hx : SlX W vx X) (hy : SlX W vy Y) (ha : SlA W va ars)  :
    CallsIn FK m Tryd.prog 71 #[.agg #[.int .i64 nodes, vx, vy, va]] W fun e W' => ∃ gf lb, e = .returned (.func (.func gf) #[] lb) ∧ ItOf W' gf lb (arcsP nodes ars ars.length) ∧ Below W.heap.size W W' := by
  have hb := (Below.refl W.heap.size W).alloc (Nat.le_refl _) (.cells #[.int .i64 nodes, vx, vy, va] 26)
  have hk := KpC.of_below hb
  have H : Hid (ItOf (W.alloc (.cells #[.int .i64 nodes, vx, vy, va] 26)) 78 #[.pointer (some ⟨W.heap.size, 0, none⟩)] (arcsP nodes ars ars.length) ∧ Below W.heap.size W (W.alloc (.cells #[.int .i64 nodes, vx, vy, va] 26))) := Lib.hid ⟨.inr (.inr ⟨rfl, _, nodes, X, Y, ars, rfl, ⟨vx, vy, va, Blk.new _ _ _ _, hx.keep hk, hy.keep hk, ha.keep hk⟩, rfl⟩), hb⟩
  obtain ⟨ax, cx, rfl, _⟩ := hx
  obtain ⟨ay, cy, rfl, _⟩ := hy
  obtain ⟨aa, ca, rfl, _⟩ := ha
  clear hb hk
  have hmf : ∀ (fn : Fn) (first cap : Array Value) (w : World), (Instr.makeFunc fn first cap).run Tryd.prog w = .ok (.func fn first cap) w := fun _ _ _ _ => rfl
  refine callsIn_of_wp Tryd.func71 rfl (by simp [FK, Fence.list]) ?_ rfl
  simp only [Tryd.ntmps71, List.size_toArray, List.length_cons, List.length_nil, Nat.reduceAdd, Nat.reduceSub, Array.replicate_succ, Array.replicate_zero, List.push_toArray, List.append_toArray, List.nil_append, List.cons_append]
  gi_wp2_with fail
  go_ret
  exact ⟨_, _, rfl, H.out⟩
set_option maxRecDepth 100000 in
set_option maxHeartbeats 4000000 in
theorem shapes_new (m : Nat) (vx vy va : Value) (nodes : Int) (X Y : List Int) (ars : List Ar) (W : World) (hx : SlX W vx X) (hy : SlX W vy Y) (ha : SlA W va ars) (hn : 1 ≤ nodes ∧ nodes ≤ 16777216) :
    CallsIn FK m Tryd.prog 66 #[.agg #[.int .i64 nodes, vx, vy, va]] W fun e W' => ∃ gf lb, e = .returned (.func (.func gf) #[] lb) ∧ ItOf W' gf lb [⟨0, 0, 6, X.length, nodes, nodes + 1⟩, ⟨0, 1, 6, Y.length, nodes, nodes + 1⟩] ∧ Below W.heap.size W W' := by
  have hw : IntKind.i64.wrap (nodes + 1) = nodes + 1 := wrap_small _ (by omega) (by omega)
  obtain ⟨w2, hw2⟩ : ∃ w2, w2 = (W.alloc (.cells #[.int .i64 nodes, vx, vy, va] 26)).alloc (.cells #[.int .i64 0, .int .i64 0, .int .i64 6, .int .i64 X.length, .int .i64 nodes, .int .i64 (nodes + 1), .int .i64 0, .int .i64 1, .int .i64 6, .int .i64 Y.length, .int .i64 nodes, .int .i64 (nodes + 1)] 112) := ⟨_, rfl⟩
  have hb : Below W.heap.size W w2 := by rw [hw2]; exact ((Below.refl W.heap.size W).alloc (Nat.le_refl _) _).alloc (by simp) _
  have hS : SlP w2 (.slice (some ⟨W.heap.size + 1, 0, none⟩) 2 2) [⟨0, 0, 6, X.length, nodes, nodes + 1⟩, ⟨0, 1, 6, Y.length, nodes, nodes + 1⟩] := by
    have h := Blk.new (W.alloc (.cells #[.int .i64 nodes, vx, vy, va] 26)) #[.int .i64 0, .int .i64 0, .int .i64 6, .int .i64 X.length, .int .i64 nodes, .int .i64 (nodes + 1), .int .i64 0, .int .i64 1, .int .i64 6, .int .i64 Y.length, .int .i64 nodes, .int .i64 (nodes + 1)] 112 (0, 0)
    rw [World.size_alloc, ← hw2] at h
    exact slP_new (L := [⟨0, 0, 6, X.length, nodes, nodes + 1⟩, ⟨0, 1, 6, Y.length, nodes, nodes + 1⟩]) h rfl (by show 2 ≤ 1000; omega)
  have C := Lib.hid (values_new (m - 1) _ _ _ hS rfl); have HB := Lib.hid hb; have HW2 := Lib.hid hw2
  obtain ⟨ax, cx, rfl, _⟩ := hx
  obtain ⟨ay, cy, rfl, _⟩ := hy
  obtain ⟨aa, ca, rfl, _⟩ := ha
  clear hb hS hw2
  refine callsIn_of_wp Tryd.func66 rfl (by simp [FK, Fence.list]) ?_ rfl
  simp only [Tryd.ntmps66, List.size_toArray, List.length_cons, List.length_nil, Nat.reduceAdd, Nat.reduceSub, Array.replicate_succ, Array.replicate_zero, List.push_toArray, List.append_toArray, List.nil_append, List.cons_append]
  gi_wp2_with fail
  rw [← HW2.out]
  refine ⟨by simp [FK, Fence.list], ?_⟩
  refine C.out.mono ?_
  rintro e W2 ⟨gf, lb, rfl, h1, h2⟩
  have H1 := Lib.hid h1; have H2 := Lib.hid (HB.out.next' h2)
  clear h1 h2
  gi_wp2_with fail
  go_ret
  exact ⟨_, _, rfl, H1.out, H2.out⟩
set_option maxRecDepth 100000 in
set_option maxHeartbeats 4000000 in
theorem look2_in (m Br : Nat) (nodes : Int) (X Y : List Int) (ars : List Ar) (W : World) (h : RawAt W Br nodes X Y ars) (hn : 1 ≤ nodes ∧ nodes ≤ 16777216) :
    CallsIn FK m Tryd.prog 65 #[.pointer (some ⟨Br, 0, none⟩)] W fun e W' => ∃ gf lb, e = .returned (.func (.func gf) #[] lb) ∧ ItOf W' gf lb [⟨0, 0, 6, X.length, nodes, nodes + 1⟩, ⟨0, 1, 6, Y.length, nodes, nodes + 1⟩] ∧ Below W.heap.size W W' := by
  obtain ⟨vx, vy, va, hb, hx, hy, ha⟩ := h
  have c0 := hb.cell 0; have c1 := hb.cell 1; have c2 := hb.cell 2; have c3 := hb.cell 3
  change W.cell? ⟨Br, 0, none⟩ = some (.int .i64 nodes) at c0
  change W.cell? ⟨Br, 1, none⟩ = some vx at c1
  change W.cell? ⟨Br, 2, none⟩ = some vy at c2
  change W.cell? ⟨Br, 3, none⟩ = some va at c3
  have C := Lib.hid (shapes_new (m - 1) vx vy va nodes X Y ars W hx hy ha hn)
  clear hx hy ha hb
  refine callsIn_of_wp Tryd.func65 rfl (by simp [FK, Fence.list]) ?_ rfl
  simp only [Tryd.ntmps65, List.size_toArray, List.length_cons, List.length_nil, Nat.reduceAdd, Nat.reduceSub, Array.replicate_succ, Array.replicate_zero, List.push_toArray, List.append_toArray, List.nil_append, List.cons_append]
  gi_wp2_with fail
  refine ⟨by simp [FK, Fence.list], ?_⟩
  refine C.out.mono ?_
  rintro e W2 ⟨gf, lb, rfl, h1, h2⟩
  have H1 := Lib.hid h1; have H2 := Lib.hid h2
  clear h1 h2
  gi_wp2_with fail
  go_ret
  exact ⟨_, _, rfl, H1.out, H2.out⟩
set_option maxRecDepth 100000 in
set_option maxHeartbeats 4000000 in
theorem look3_in (m Br : Nat) (nodes : Int) (X Y : List Int) (ars : List Ar) (W : World) (h : RawAt W Br nodes X Y ars) (hl : X.length = Y.length) :
    CallsIn FK m Tryd.prog 67 #[.pointer (some ⟨Br, 0, none⟩)] W fun e W' => ∃ gf lb, e = .returned (.func (.func gf) #[] lb) ∧ ItOf W' gf lb (nodesP X Y X.length) ∧ Below W.heap.size W W' := by
  obtain ⟨vx, vy, va, hb, hx, hy, ha⟩ := h
  have c0 := hb.cell 0; have c1 := hb.cell 1; have c2 := hb.cell 2; have c3 := hb.cell 3
  change W.cell? ⟨Br, 0, none⟩ = some (.int .i64 nodes) at c0
  change W.cell? ⟨Br, 1, none⟩ = some vx at c1
  change W.cell? ⟨Br, 2, none⟩ = some vy at c2
  change W.cell? ⟨Br, 3, none⟩ = some va at c3
  have C := Lib.hid (nodes_new (m - 1) vx vy va nodes X Y ars W hx hy ha hl)
  clear hx hy ha hb hl
  refine callsIn_of_wp Tryd.func67 rfl (by simp [FK, Fence.list]) ?_ rfl
  simp only [Tryd.ntmps67, List.size_toArray, List.length_cons, List.length_nil, Nat.reduceAdd, Nat.reduceSub, Array.replicate_succ, Array.replicate_zero, List.push_toArray, List.append_toArray, List.nil_append, List.cons_append]
  gi_wp2_with fail
  refine ⟨by simp [FK, Fence.list], ?_⟩
  refine C.out.mono ?_
  rintro e W2 ⟨gf, lb, rfl, h1, h2⟩
  have H1 := Lib.hid h1; have H2 := Lib.hid h2
  clear h1 h2
  gi_wp2_with fail
  go_ret
  exact ⟨_, _, rfl, H1.out, H2.out⟩
set_option maxRecDepth 100000 in
set_option maxHeartbeats 4000000 in
theorem look5_in (m Br : Nat) (nodes : Int) (X Y : List Int) (ars : List Ar) (W : World) (h : RawAt W Br nodes X Y ars) :
    CallsIn FK m Tryd.prog 70 #[.pointer (some ⟨Br, 0, none⟩)] W fun e W' => ∃ gf lb, e = .returned (.func (.func gf) #[] lb) ∧ ItOf W' gf lb (arcsP nodes ars ars.length) ∧ Below W.heap.size W W' := by
  obtain ⟨vx, vy, va, hb, hx, hy, ha⟩ := h
  have c0 := hb.cell 0; have c1 := hb.cell 1; have c2 := hb.cell 2; have c3 := hb.cell 3
  change W.cell? ⟨Br, 0, none⟩ = some (.int .i64 nodes) at c0
  change W.cell? ⟨Br, 1, none⟩ = some vx at c1
  change W.cell? ⟨Br, 2, none⟩ = some vy at c2
  change W.cell? ⟨Br, 3, none⟩ = some va at c3
  have C := Lib.hid (arcs_new (m - 1) vx vy va nodes X Y ars W hx hy ha)
  clear hx hy ha hb
  refine callsIn_of_wp Tryd.func70 rfl (by simp [FK, Fence.list]) ?_ rfl
  simp only [Tryd.ntmps70, List.size_toArray, List.length_cons, List.length_nil, Nat.reduceAdd, Nat.reduceSub, Array.replicate_succ, Array.replicate_zero, List.push_toArray, List.append_toArray, List.nil_append, List.cons_append]
  gi_wp2_with fail
  refine ⟨by simp [FK, Fence.list], ?_⟩
  refine C.out.mono ?_
  rintro e W2 ⟨gf, lb, rfl, h1, h2⟩
  have H1 := Lib.hid h1; have H2 := Lib.hid h2
  clear h1 h2
  gi_wp2_with fail
  go_ret
  exact ⟨_, _, rfl, H1.out, H2.out⟩
set_option maxRecDepth 100000 in
set_option maxHeartbeats 4000000 in
theorem look4_in (m Br : Nat) (nodes : Int) (X Y : List Int) (ars : List Ar) (W : World) (h : RawAt W Br nodes X Y ars) :
    CallsIn FK m Tryd.prog 69 #[.pointer (some ⟨Br, 0, none⟩)] W fun e W' => ∃ gf lb, e = .returned (.func (.func gf) #[] lb) ∧ ItOf W' gf lb [⟨0, 0, 8, ars.length, 0, 67108865⟩] ∧ Below W.heap.size W W' := by
  obtain ⟨vx, vy, va, hb, hx, hy, ha⟩ := h
  obtain ⟨aa, ca, rfl, _⟩ := ha
  have c3 := hb.cell 3
  change W.cell? ⟨Br, 3, none⟩ = some (.slice aa ars.length ca) at c3
  have C := Lib.hid (one_in (m - 1) 8 ars.length 0 67108865 W)
  clear hx hy hb
  refine callsIn_of_wp Tryd.func69 rfl (by simp [FK, Fence.list]) ?_ rfl
  simp only [Tryd.ntmps69, List.size_toArray, List.length_cons, List.length_nil, Nat.reduceAdd, Nat.reduceSub, Array.replicate_succ, Array.replicate_zero, List.push_toArray, List.append_toArray, List.nil_append, List.cons_append]
  gi_wp2_with fail
  refine ⟨by simp [FK, Fence.list], ?_⟩
  refine C.out.mono ?_
  rintro e W2 ⟨gf, lb, rfl, h1, h2⟩
  have H1 := Lib.hid h1; have H2 := Lib.hid h2
  clear h1 h2
  gi_wp2_with fail
  go_ret
  exact ⟨_, _, rfl, H1.out, H2.out⟩
end Go.Proofs.YtjobijmmjebpaaaDoor
/- a function that ranges over functions again and again: the marks among what it defers, at its end. -/
namespace Go.Proofs.YtjobijmmjebpaaaDoor
open Go.RowKit Go.Shelf
theorem KpC.put {W : World} {l : Nat} {o o' : Obj} (ho : W.heap[l]? = some o) (hc : o.isCells = false) : KpC W (W.putObj l o') :=
  ⟨by simp, fun k cs t fr hk => World.putObj_heap_other (fun e => by
    subst e
    rw [ho] at hk; cases hk; cases hc)⟩
theorem below_put {B : Nat} {w W : World} {l : Nat} {o' : Obj} (h : Below B w W) (hl : B ≤ l) : Below B w (W.putObj l o') :=
  ⟨h.os, h.tape, h.output, by simpa using h.size, fun k hk => (World.putObj_heap_other (by omega)).trans (h.block k hk)⟩
/-- marks that stand from B on -/
def MarksAt (B : Nat) (w : World) : List Deferred → Prop
  | [] => True
  | d :: ds => (∃ D, d = { target := .collected D, args := #[] } ∧ B ≤ D ∧ w.heap[D]? = some (.deferred (some [])) ∧ ∀ d' ∈ ds, ∀ D', d' = { target := .collected D', args := #[] } → D' < D) ∧ MarksAt B w ds
theorem MarksAt.keep {B : Nat} : ∀ {ds : List Deferred} {w w' : World}, MarksAt B w ds → (∀ D, B ≤ D → (∃ d ∈ ds, d = { target := .collected D, args := #[] }) → w'.heap[D]? = w.heap[D]?) → MarksAt B w' ds
  | [], _, _, _, _ => trivial
  | d :: ds, w, w', ⟨⟨D, e, h1, h2, h3⟩, h⟩, hk => ⟨⟨D, e, h1, (hk D h1 ⟨d, by simp, e⟩).trans h2, h3⟩, MarksAt.keep h fun D' h1' ⟨d', hd', e'⟩ => hk D' h1' ⟨d', by simp [hd'], e'⟩⟩
theorem leaves_marks {F : Fence} {n : Nat} {P : Program} {fn : Func} {tmps : Array Value} {R : Ending → World → Prop} {B : Nat} {w0 : World} {u : FrameMode} (hu : u ≠ .run) :
    ∀ (ds : List Deferred) (w : World), MarksAt B w ds → Below B w0 w → (∀ w', KpC w w' → Below B w0 w' → LeavesIn F n P fn tmps R [] u w') → LeavesInM F n P fn tmps R ds u w
  | [], w, _, hb, h => h w (KpC.refl w) hb
  | d :: ds, w, ⟨⟨D, e, h1, h2, h3⟩, hm⟩, hb, h => by
    subst e
    refine ⟨hu, .inl ⟨_, _, rfl, run_takeDeferred h2, leaves_marks hu ds _ (hm.keep fun D' h1' ⟨d', hd', e'⟩ => World.putObj_heap_other (by have := h3 d' hd' D' e'; omega)) (below_put hb h1) fun w' hk hb' => h w' ((KpC.put h2 rfl).trans hk) hb'⟩⟩
theorem MarksAt.lt {B : Nat} : ∀ {ds : List Deferred} {w : World}, MarksAt B w ds → ∀ d ∈ ds, ∀ D, d = { target := .collected D, args := #[] } → D < w.heap.size
  | d :: ds, w, ⟨⟨D, e, h1, h2, h3⟩, h⟩, d', hd', D', e' => by
    rcases List.mem_cons.1 hd' with rfl | hd'
    · rw [e] at e'
      have : D = D' := by simpa using e'
      subst this
      exact (Array.getElem?_eq_some_iff.1 h2).1
    · exact MarksAt.lt h d' hd' D' e'
/-- one mark more -/
theorem MarksAt.more {B D : Nat} {ds : List Deferred} {w w' : World} (h : MarksAt B w ds) (hb : Below w.heap.size w w') (hB : B ≤ w.heap.size) (hD : w.heap.size ≤ D) (hK : w'.heap[D]? = some (.deferred (some []))) :
    MarksAt B w' ({ target := .collected D, args := #[] } :: ds) :=
  ⟨⟨D, rfl, by omega, hK, fun d' hd' D' e' => by have := h.lt d' hd' D' e'; omega⟩, h.keep fun D' _ ⟨d', hd', e'⟩ => hb.block D' (h.lt d' hd' D' e')⟩
end Go.Proofs.YtjobijmmjebpaaaDoor
/- graph, in plain words: the first bad place. -/
namespace Go.Proofs.YtjobijmmjebpaaaDoor
open Go.RowKit
theorem find_pre {ps pre : List Pl} {x : Pl} (h : pre ++ [x] <+: ps) (hn : ∀ p ∈ pre, p.bad = false) (hb : x.bad = true) : ps.find? Pl.bad = some x := by
  obtain ⟨t, rfl⟩ := h
  rw [List.append_assoc, List.find?_append]
  have e : pre.find? Pl.bad = none := by
    rw [List.find?_eq_none]
    intro p hp
    rw [hn p hp]; decide
  rw [e]
  simp [hb]
theorem find_none {ps : List Pl} (hn : ∀ p ∈ ps, p.bad = false) : ps.find? Pl.bad = none := by
  rw [List.find?_eq_none]
  intro p hp
  rw [hn p hp]; decide
/-- what look tells: the phase, and the place -/
def lookV : List (List Pl) → Nat → Option (Nat × Pl)
  | [], _ => none
  | ps :: rest, k => match ps.find? Pl.bad with
    | some p => some (k, p)
    | none => lookV rest (k + 1)
end Go.Proofs.YtjobijmmjebpaaaDoor
/- graph.look: the walk. -/
namespace Go.Proofs.YtjobijmmjebpaaaDoor
open Go.RowKit Go.Shelf
attribute [local go_sem] Oper.semAt_some FK_round FK_depth Oper.semAt_none
/-- what look panics with: the trouble around the fault at b -/
def looked (b : Nat) : List PanicEntry := [{ v := .iface 95 (.agg #[.pointer (some ⟨b, 0, none⟩)]), recovered := false }]
/-- the five phases -/
def phases (nodes : Int) (X Y : List Int) (ars : List Ar) : List (List Pl) :=
  [[⟨0, 0, 5, nodes, 1, 16777217⟩], [⟨0, 0, 6, X.length, nodes, nodes + 1⟩, ⟨0, 1, 6, Y.length, nodes, nodes + 1⟩], nodesP X Y X.length, [⟨0, 0, 8, ars.length, 0, 67108865⟩], arcsP nodes ars ars.length]
theorem lookV_cons {ps : List Pl} {L : List (List Pl)} {j : Nat} (h : ps.find? Pl.bad = none) : lookV (ps :: L) j = lookV L (j + 1) := by
  rw [lookV]; simp only [h]
theorem lookV_drop : ∀ (L : List (List Pl)) (k j : Nat), (∀ p ∈ (L.take k).flatten, p.bad = false) → k ≤ L.length → lookV L j = lookV (L.drop k) (j + k)
  | _, 0, _, _, _ => rfl
  | [], k + 1, _, _, h => by cases h
  | ps :: L, k + 1, j, hb, h => by
    rw [lookV_cons (find_none fun p hp => hb p (by simp [hp])), lookV_drop L k (j + 1) (fun p hp => hb p (by simp only [List.take_succ_cons, List.flatten_cons, List.mem_append]; exact .inr hp)) (by simpa using h), show j + 1 + k = j + (k + 1) by omega]
    rfl
def tells : List Nat := [63, 65, 67, 69, 70]
theorem bad_out {p : Pl} (h : p.bad = false) : p.lo ≤ p.n ∧ p.n < p.hi := by
  unfold Pl.bad at h
  simp only [Bool.or_eq_false_iff, decide_eq_false_iff_not] at h
  omega
theorem tell_in (k : Nat) (hk : k < 5) (m Br : Nat) (nodes : Int) (X Y : List Int) (ars : List Ar) (W : World) (h : RawAt W Br nodes X Y ars) (hpre : ∀ p ∈ ((phases nodes X Y ars).take k).flatten, p.bad = false) :
    CallsIn FK m Tryd.prog (tells.getD k 0) #[.pointer (some ⟨Br, 0, none⟩)] W fun e W' => ∃ gf lb, e = .returned (.func (.func gf) #[] lb) ∧ ItOf W' gf lb ((phases nodes X Y ars).getD k []) ∧ Below W.heap.size W W' := by
  have hn : 1 ≤ k → 1 ≤ nodes ∧ nodes ≤ 16777216 := fun h1 => by
    have := bad_out (hpre ⟨0, 0, 5, nodes, 1, 16777217⟩ (by
      obtain ⟨k', rfl⟩ : ∃ k', k = k' + 1 := ⟨k - 1, by omega⟩
      simp [phases]))
    dsimp only at this
    omega
  have hl : 2 ≤ k → X.length = Y.length := fun h1 => by
    obtain ⟨k', rfl⟩ : ∃ k', k = k' + 1 + 1 := ⟨k - 2, by omega⟩
    have e1 := bad_out (hpre ⟨0, 0, 6, X.length, nodes, nodes + 1⟩ (by simp [phases]))
    have e2 := bad_out (hpre ⟨0, 1, 6, Y.length, nodes, nodes + 1⟩ (by simp [phases]))
    dsimp only at e1 e2
    omega
  match k, hk with
  | 0, _ => exact look1_in m Br nodes X Y ars W h
  | 1, _ => exact look2_in m Br nodes X Y ars W h (hn (by omega))
  | 2, _ => exact look3_in m Br nodes X Y ars W h (hl (by omega))
  | 3, _ => exact look4_in m Br nodes X Y ars W h
  | 4, _ => exact look5_in m Br nodes X Y ars W h
theorem FK_ex (fn : Nat) (h : FK.fn fn) : ∃ f, Tryd.prog.funcs[fn]? = some f := by
  simp only [FK, Fence.list, List.mem_cons, List.not_mem_nil, or_false] at h
  rcases h with rfl | rfl | rfl | rfl | rfl | rfl | rfl | rfl | rfl | rfl | rfl | rfl | rfl | rfl
  · exact ⟨_, Tryd.func56⟩
  · exact ⟨_, Tryd.func63⟩
  · exact ⟨_, Tryd.func64⟩
  · exact ⟨_, Tryd.func65⟩
  · exact ⟨_, Tryd.func66⟩
  · exact ⟨_, Tryd.func67⟩
  · exact ⟨_, Tryd.func68⟩
  · exact ⟨_, Tryd.func69⟩
  · exact ⟨_, Tryd.func70⟩
  · exact ⟨_, Tryd.func71⟩
  · exact ⟨_, Tryd.func76⟩
  · exact ⟨_, Tryd.func77⟩
  · exact ⟨_, Tryd.func78⟩
  · exact ⟨_, Tryd.func82⟩
theorem ItOf.fn {w : World} {gf : Nat} {lb : Array Value} {ps : List Pl} (h : ItOf w gf lb ps) : FK.fn gf ∧ ∀ args w, (callFunc gf args).run Tryd.prog w = .ok (.enter gf args) w := by
  rcases h with ⟨rfl, _⟩ | ⟨rfl, _⟩ | ⟨rfl, _⟩
  · exact ⟨by simp [FK, Fence.list], enters_of Tryd.func82 (by kernel_rfl) rfl⟩
  · exact ⟨by simp [FK, Fence.list], enters_of Tryd.func77 (by kernel_rfl) rfl⟩
  · exact ⟨by simp [FK, Fence.list], enters_of Tryd.func78 (by kernel_rfl) rfl⟩
theorem tells_fn (k : Nat) (hk : k < 5) : FK.fn (tells.getD k 0) ∧ ∀ args w, (callFunc (tells.getD k 0) args).run Tryd.prog w = .ok (.enter (tells.getD k 0) args) w := by
  match k, hk with
  | 0, _ => exact ⟨by simp [FK, Fence.list, tells], enters_of Tryd.func63 (by kernel_rfl) rfl⟩
  | 1, _ => exact ⟨by simp [FK, Fence.list, tells], enters_of Tryd.func65 (by kernel_rfl) rfl⟩
  | 2, _ => exact ⟨by simp [FK, Fence.list, tells], enters_of Tryd.func67 (by kernel_rfl) rfl⟩
  | 3, _ => exact ⟨by simp [FK, Fence.list, tells], enters_of Tryd.func69 (by kernel_rfl) rfl⟩
  | 4, _ => exact ⟨by simp [FK, Fence.list, tells], enters_of Tryd.func70 (by kernel_rfl) rfl⟩
/-- behind k phases -/
structure LookI (W : World) (Br Bc : Nat) (nodes : Int) (X Y : List Int) (ars : List Ar) (k : Nat) (w : World) : Prop where
  below : Below W.heap.size W w
  raw : RawAt w Br nodes X Y ars
  tell : Blk w Bc (tells.map fun f => Value.func (.func f) #[] #[.pointer (some ⟨Br, 0, none⟩)]).toArray 108 (0, 0)
  good : ∀ p ∈ ((phases nodes X Y ars).take k).flatten, p.bad = false
theorem LookI.cell {W : World} {Br Bc : Nat} {nodes : Int} {X Y : List Int} {ars : List Ar} {k : Nat} {w : World} (h : LookI W Br Bc nodes X Y ars k w) (hk : k < 5) : w.cell? ⟨Bc, k, none⟩ = some (.func (.func (tells.getD k 0)) #[] #[.pointer (some ⟨Br, 0, none⟩)]) := by
  rw [h.tell.cell]
  match k, hk with
  | 0, _ => rfl
  | 1, _ => rfl
  | 2, _ => rfl
  | 3, _ => rfl
  | 4, _ => rfl
theorem LookI.to {W : World} {Br Bc : Nat} {nodes : Int} {X Y : List Int} {ars : List Ar} {k : Nat} {w w' : World} (h : LookI W Br Bc nodes X Y ars k w) (hb : Below w.heap.size w w') : LookI W Br Bc nodes X Y ars k w' :=
  ⟨h.below.next' hb |> fun x => x, h.raw.keep (KpC.of_below hb), h.tell.below hb h.tell.lt, h.good⟩
/-- how a phase's round panics -/
def PhT (k : Nat) (w : World) (ch : List PanicEntry) (xs : List Pl) (W : World) : Prop :=
  ∃ pre x b, xs = pre ++ [x] ∧ (∀ p ∈ pre, p.bad = false) ∧ x.bad = true ∧ ch = looked b ∧ Blk W b #[.int .i64 x.co, .int .i64 (k : Nat), .int .i64 x.ix, .int .i64 x.fl] 83 (0, 0) ∧ Below w.heap.size w W
/-- ahead of a round's body -/
def AheadG (tm : Array Value) (w2 : World) (pre : List Pl) (x : Pl) (a1 : Act) (A : World) : Prop :=
  ∃ b, a1 = { tmps := (tm.setIfInBounds 19 (.agg #[.int .i64 x.ix, .int .i64 x.fl, .int .i64 x.co, .int .i64 x.n, .int .i64 x.lo, .int .i64 x.hi])).setIfInBounds 4 (.pointer (some ⟨b, 0, none⟩)), defers := [] } ∧
    Blk A b #[.int .i64 x.ix, .int .i64 x.fl, .int .i64 x.co, .int .i64 x.n, .int .i64 x.lo, .int .i64 x.hi] 112 (0, 0) ∧ Below w2.heap.size w2 A ∧ ∀ p ∈ pre, p.bad = false
theorem phases_cut {nodes : Int} {X Y : List Int} {ars : List Ar} {k : Nat} (hk : k < 5) : (phases nodes X Y ars).drop k = (phases nodes X Y ars).getD k [] :: (phases nodes X Y ars).drop (k + 1) := by
  have hl : k < (phases nodes X Y ars).length := hk
  rw [List.drop_eq_getElem_cons hl, List.getD_eq_getElem?_getD, List.getElem?_eq_getElem hl]; rfl
theorem phases_good {nodes : Int} {X Y : List Int} {ars : List Ar} {k : Nat} (hk : k < 5) (h : ∀ p ∈ ((phases nodes X Y ars).take k).flatten, p.bad = false) (h2 : ∀ p ∈ (phases nodes X Y ars).getD k [], p.bad = false) :
    ∀ p ∈ ((phases nodes X Y ars).take (k + 1)).flatten, p.bad = false := by
  have hl : k < (phases nodes X Y ars).length := hk
  intro p hp
  rw [List.take_succ_eq_append_getElem hl, List.flatten_append, List.mem_append] at hp
  rcases hp with hp | hp
  · exact h p hp
  · refine h2 p ?_
    rw [List.getD_eq_getElem?_getD, List.getElem?_eq_getElem hl]
    simpa using hp
theorem lookV_hit {nodes : Int} {X Y : List Int} {ars : List Ar} {k : Nat} (hk : k < 5) (h : ∀ p ∈ ((phases nodes X Y ars).take k).flatten, p.bad = false) {x : Pl} (h2 : ((phases nodes X Y ars).getD k []).find? Pl.bad = some x) :
    lookV (phases nodes X Y ars) 0 = some (k, x) := by
  rw [lookV_drop _ k 0 h (Nat.le_of_lt hk), phases_cut hk, lookV, h2, Nat.zero_add]
set_option maxRecDepth 100000 in
set_option maxHeartbeats 4000000 in
theorem look_in (m : Nat) (hm : 1 ≤ m) (vx vy va : Value) (nodes : Int) (X Y : List Int) (ars : List Ar) (W : World) (hx : SlX W vx X) (hy : SlX W vy Y) (ha : SlA W va ars) :
    CallsIn FK m Tryd.prog 56 #[.agg #[.int .i64 nodes, vx, vy, va]] W fun e W' =>
      ((e = .returned (.tuple #[]) ∧ lookV (phases nodes X Y ars) 0 = none) ∨ (∃ b k p, e = .panicked (looked b) ∧ lookV (phases nodes X Y ars) 0 = some (k, p) ∧ Blk W' b #[.int .i64 p.co, .int .i64 (k : Nat), .int .i64 p.ix, .int .i64 p.fl] 83 (0, 0))) ∧ Below W.heap.size W W' := by
  have hmf : ∀ (fn : Fn) (first cap : Array Value) (w : World), (Instr.makeFunc fn first cap).run Tryd.prog w = .ok (.func fn first cap) w := fun _ _ _ _ => rfl
  obtain ⟨Br, hBr⟩ : ∃ b, b = W.heap.size := ⟨_, rfl⟩
  obtain ⟨Bc, hBc⟩ : ∃ b, b = W.heap.size + 1 := ⟨_, rfl⟩
  have hb1 := (Below.refl W.heap.size W).alloc (Nat.le_refl _) (.cells #[.int .i64 nodes, vx, vy, va] 26)
  have hb2 := hb1.alloc (by simp) (.cells #[.func (.func 63) #[] #[.pointer (some ⟨Br, 0, none⟩)], .func (.func 65) #[] #[.pointer (some ⟨Br, 0, none⟩)], .func (.func 67) #[] #[.pointer (some ⟨Br, 0, none⟩)], .func (.func 69) #[] #[.pointer (some ⟨Br, 0, none⟩)], .func (.func 70) #[] #[.pointer (some ⟨Br, 0, none⟩)]] 108)
  have hr : RawAt (W.alloc (.cells #[.int .i64 nodes, vx, vy, va] 26)) Br nodes X Y ars := by rw [hBr]; exact ⟨vx, vy, va, Blk.new _ _ _ _, hx.keep (KpC.of_below hb1), hy.keep (KpC.of_below hb1), ha.keep (KpC.of_below hb1)⟩
  have hI0 : LookI W Br Bc nodes X Y ars 0 ((W.alloc (.cells #[.int .i64 nodes, vx, vy, va] 26)).alloc (.cells #[.func (.func 63) #[] #[.pointer (some ⟨Br, 0, none⟩)], .func (.func 65) #[] #[.pointer (some ⟨Br, 0, none⟩)], .func (.func 67) #[] #[.pointer (some ⟨Br, 0, none⟩)], .func (.func 69) #[] #[.pointer (some ⟨Br, 0, none⟩)], .func (.func 70) #[] #[.pointer (some ⟨Br, 0, none⟩)]] 108)) := by
    refine ⟨hb2, hr.keep (KpC.of_below ((Below.refl _ _).alloc (Nat.le_refl _) _)), ?_, fun p hp => by simp at hp⟩
    rw [hBc]
    have h := Blk.new (W.alloc (.cells #[.int .i64 nodes, vx, vy, va] 26)) #[.func (.func 63) #[] #[.pointer (some ⟨Br, 0, none⟩)], .func (.func 65) #[] #[.pointer (some ⟨Br, 0, none⟩)], .func (.func 67) #[] #[.pointer (some ⟨Br, 0, none⟩)], .func (.func 69) #[] #[.pointer (some ⟨Br, 0, none⟩)], .func (.func 70) #[] #[.pointer (some ⟨Br, 0, none⟩)]] 108 (0, 0)
    rw [World.size_alloc] at h
    exact h
  have HI0 := Lib.hid hI0
  obtain ⟨ax, cx, rfl, _⟩ := hx
  obtain ⟨ay, cy, rfl, _⟩ := hy
  obtain ⟨aa, ca, rfl, _⟩ := ha
  clear hb1 hb2 hr hI0
  refine callsIn_of_wp_marks Tryd.func56 rfl (by simp [FK, Fence.list]) ?_ rfl
  simp only [Tryd.ntmps56, List.size_toArray, List.length_cons, List.length_nil, Nat.reduceAdd, Nat.reduceSub, Array.replicate_succ, Array.replicate_zero, List.push_toArray, List.append_toArray, List.nil_append, List.cons_append]
  gi_wp2_with fail
  rw [← hBc, ← hBr]
  obtain ⟨vx, hvx⟩ : ∃ v, v = Value.slice ax X.length cx := ⟨_, rfl⟩
  obtain ⟨vy, hvy⟩ : ∃ v, v = Value.slice ay Y.length cy := ⟨_, rfl⟩
  obtain ⟨va, hva⟩ : ∃ v, v = Value.slice aa ars.length ca := ⟨_, rfl⟩
  rw [← hvx, ← hvy, ← hva] at HI0 ⊢
  refine wpIn_loop (fun a w => ∃ (k : Nat) (u2 u3 u4 u12 u13 u14 u15 u16 u17 u18 u19 u20 u21 u22 u23 u24 u25 u26 u27 u28 u29 u30 u31 u32 u33 u34 u35 u36 u37 u38 u39 u40 u41 u42 u43 : Value) (ds : List Deferred), a = { tmps := #[.agg #[.int .i64 nodes, vx, vy, va], .pointer (some ⟨Br, 0, none⟩), u2, u3, u4, .func (.func 63) #[] #[.pointer (some ⟨Br, 0, none⟩)], .func (.func 65) #[] #[.pointer (some ⟨Br, 0, none⟩)], .func (.func 67) #[] #[.pointer (some ⟨Br, 0, none⟩)], .func (.func 69) #[] #[.pointer (some ⟨Br, 0, none⟩)], .func (.func 70) #[] #[.pointer (some ⟨Br, 0, none⟩)], .slice (some ⟨Bc, 0, none⟩) 5 5, .int .i64 5, u12, u13, u14, u15, u16, u17, u18, u19, u20, u21, u22, u23, u24, u25, u26, u27, u28, u29, u30, u31, u32, u33, u34, u35, u36, u37, u38, u39, u40, u41, u42, u43], defers := ds } ∧ u12 = .int .i64 (k : Nat) ∧ k ≤ 5 ∧ MarksAt W.heap.size w ds ∧ LookI W Br Bc nodes X Y ars k w) (fun a _ => 5 - (intOf (a.tmps.getD 12 undef)).toNat) ?_ ?_
  · exact ⟨0, _, _, _, _, _, _, _, _, _, _, _, _, _, _, _, _, _, _, _, _, _, _, _, _, _, _, _, _, _, _, _, _, _, _, _, [], rfl, rfl, by omega, trivial, HI0.out⟩
  rintro _ w ⟨k, u2, u3, u4, u12, u13, u14, u15, u16, u17, u18, u19, u20, u21, u22, u23, u24, u25, u26, u27, u28, u29, u30, u31, u32, u33, u34, u35, u36, u37, u38, u39, u40, u41, u42, u43, ds, rfl, rfl, hk, hmk, hI⟩
  clear HI0 hBr hBc hvx hvy hva
  by_cases hlt : k < 5
  · have hltI : (k : Int) < 5 := by omega
    have hc := hI.cell hlt
    obtain ⟨hF, eg⟩ := tells_fn k hlt
    have hbw := (Below.refl w.heap.size w).alloc (Nat.le_refl _) (.cells #[.int .i64 (k : Nat)] 3)
    have C := tell_in k hlt (m - 1) Br nodes X Y ars _ (hI.raw.keep (KpC.of_below hbw)) hI.good
    obtain ⟨fk, hfk⟩ : ∃ f, f = tells.getD k 0 := ⟨_, rfl⟩
    obtain ⟨ps, hps⟩ : ∃ ps, ps = (phases nodes X Y ars).getD k [] := ⟨_, rfl⟩
    rw [← hfk] at hc hF eg C
    rw [← hps] at C
    have hBp := Blk.new w #[.int .i64 (k : Nat)] 3 (0, 0)
    have HC := Lib.hid C; have HB := Lib.hid hbw; have HBp := Lib.hid hBp; have HI := Lib.hid hI; have HM := Lib.hid hmk; have HPs := Lib.hid hps
    clear C hbw hBp hI hmk hfk hps
    gi_wp2_with fail
    refine HC.out.mono ?_
    rintro e w2 ⟨gf, lb, rfl, hit, hb2⟩
    have hBp2 := HBp.out.below hb2 HBp.out.lt
    have hB2 := HB.out.next' hb2
    have HIt := Lib.hid hit; have HB2 := Lib.hid hB2; have HBp2 := Lib.hid hBp2
    clear hit hB2 hBp2 hb2 HBp HB HC hF eg hc
    gi_wp2_with fail
    refine wpIn_rangeDies (α := Pl) FK_round FK_ex hm (gf := gf) (lb := lb) rfl HIt.out.fn.1 HIt.out.fn.2 (fun x : Pl => #[.agg #[.int .i64 x.ix, .int .i64 x.fl, .int .i64 x.co, .int .i64 x.n, .int .i64 x.lo, .int .i64 x.hi]]) (fun _ => rfl) (fun A B => Below A.heap.size A B) KpC (fun xs _ => xs = ps) (PhT k w2) (· <+: ps) ps.length
      ?hit ?hSt (fun xs A => Below w2.heap.size w2 A ∧ ∀ p ∈ xs, p.bad = false) ?hIs ?hIp ?hIa ?hSp KpC.trans ?hKb ?h0
      (AheadG #[.agg #[.int .i64 nodes, vx, vy, va], .pointer (some ⟨Br, 0, none⟩), .pointer (some ⟨w.heap.size, 0, none⟩), .func (.func fk) #[] #[.pointer (some ⟨Br, 0, none⟩)], u4, .func (.func 63) #[] #[.pointer (some ⟨Br, 0, none⟩)], .func (.func 65) #[] #[.pointer (some ⟨Br, 0, none⟩)], .func (.func 67) #[] #[.pointer (some ⟨Br, 0, none⟩)], .func (.func 69) #[] #[.pointer (some ⟨Br, 0, none⟩)], .func (.func 70) #[] #[.pointer (some ⟨Br, 0, none⟩)], .slice (some ⟨Bc, 0, none⟩) 5 5, .int .i64 5, .int .i64 (k : Nat), .bool true, .int .i64 (k : Nat), .pointer (some ⟨Bc, k, none⟩), .func (.func fk) #[] #[.pointer (some ⟨Br, 0, none⟩)], .func (.func fk) #[] #[.pointer (some ⟨Br, 0, none⟩)], .func (.func gf) #[] lb, u19, u20, u21, u22, u23, u24, u25, u26, u27, u28, u29, u30, u31, u32, u33, u34, u35, u36, u37, u38, u39, u40, u41, u42, u43] w2) ?hAp ?hassign ?hbody ?hdone ?hthrow
    case hit =>
      intro l J U W3 hW hJ hY h0
      refine (it_in (m - 1) l gf lb ps J U hJ hY W3 (HIt.out.keep (KpC.of_below hW)) h0).mono ?_
      rintro e W4 (⟨v, rfl, h⟩ | ⟨ch, xs, rfl, h1, h2⟩)
      · exact .inl ⟨v, ps, rfl, rfl, h⟩
      · exact .inr ⟨ch, xs, rfl, h1, h2⟩
    case hSt =>
      intro A B j o hAB _ ho _
      exact (hAB.block j (Array.getElem?_eq_some_iff.1 ho).1).trans ho
    case hIs =>
      rintro xs A B ⟨h1, h2⟩ hAB
      exact ⟨h1.next' hAB, h2⟩
    case hIp =>
      rintro xs A l o o' ⟨h1, h2⟩ hl _ _
      exact ⟨below_put h1 hl, h2⟩
    case hIa =>
      rintro xs A o ⟨h1, h2⟩
      exact ⟨h1.alloc h1.size o, h2⟩
    case hSp =>
      rintro xs A l o o' h _ _ _
      exact h
    case hKb =>
      intro A l o o' _ ho hc
      exact KpC.put ho hc
    case h0 => exact ⟨Below.refl _ _, fun p hp => by cases hp⟩
    case hAp =>
      rintro pre x a1 A l o o' ⟨b, e, h1, h2, h3⟩ hl ho hc
      exact ⟨b, e, (KpC.put ho hc).blk h1, below_put h2 hl, h3⟩
    case hassign =>
      rintro l pre x A K ⟨h1, h2⟩ hlen hK
      clear HIt HI HM HPs HBp2 HB2
      gi_wp2_with fail
      refine hK _ _ ⟨A.heap.size, rfl, Blk.new _ _ _ _, h1.alloc h1.size _, h2⟩ ⟨by simp, fun k o _ hk ho => (Below.heap_alloc A _ k (Array.getElem?_eq_some_iff.1 hk).1).trans hk⟩ (KpC.of_below ((Below.refl _ _).alloc (Nat.le_refl _) _))
    case hbody =>
      rintro l pre x a1 A ⟨b, rfl, h1, h2, h3⟩ hlen
      simp only [List.setIfInBounds_toArray, List.set_cons_succ, List.set_cons_zero]
      have c2 := (HBp2.out.below h2 HBp2.out.lt).cell 0
      have d0 := h1.cell 0; have d1 := h1.cell 1; have d2 := h1.cell 2; have d3 := h1.cell 3; have d4 := h1.cell 4; have d5 := h1.cell 5
      change A.cell? ⟨w.heap.size, 0, none⟩ = some (.int .i64 (k : Nat)) at c2
      change A.cell? ⟨b, 0, none⟩ = some (.int .i64 x.ix) at d0
      change A.cell? ⟨b, 1, none⟩ = some (.int .i64 x.fl) at d1
      change A.cell? ⟨b, 2, none⟩ = some (.int .i64 x.co) at d2
      change A.cell? ⟨b, 3, none⟩ = some (.int .i64 x.n) at d3
      change A.cell? ⟨b, 4, none⟩ = some (.int .i64 x.lo) at d4
      change A.cell? ⟨b, 5, none⟩ = some (.int .i64 x.hi) at d5
      have H2 := Lib.hid h2; have H3 := Lib.hid h3
      clear h1 h2 h3 HIt HI HM HPs HBp2 HB2
      by_cases t1 : x.n < x.lo
      · have hbad : Hid (x.bad = true) := Lib.hid (by unfold Pl.bad; simp [t1])
        gi_wp2_with fail
        refine ⟨rfl, ⟨by simp, fun j o _ hj _ => (Below.heap_alloc A _ j (Array.getElem?_eq_some_iff.1 hj).1).trans hj⟩, pre, x, A.heap.size, rfl, H3.out, hbad.out, rfl, Blk.new _ _ _ _, H2.out.alloc H2.out.size _⟩
      by_cases t2 : x.hi ≤ x.n
      · have hbad : Hid (x.bad = true) := Lib.hid (by unfold Pl.bad; simp [t2])
        gi_wp2_with fail
        refine ⟨rfl, ⟨by simp, fun j o _ hj _ => (Below.heap_alloc A _ j (Array.getElem?_eq_some_iff.1 hj).1).trans hj⟩, pre, x, A.heap.size, rfl, H3.out, hbad.out, rfl, Blk.new _ _ _ _, H2.out.alloc H2.out.size _⟩
      have hgood : Hid (x.bad = false) := Lib.hid (by unfold Pl.bad; simp [t1, t2])
      gi_wp2_with fail
      refine ⟨⟨Nat.le_refl _, fun j o _ hj _ => hj⟩, KpC.refl _, H2.out, fun p hp => ?_⟩
      rcases List.mem_append.1 hp with hp | hp
      · exact H3.out p hp
      · obtain rfl := List.mem_singleton.1 hp
        exact hgood.out
    case hdone =>
      rintro D xs A hD rfl ⟨h1, h2⟩ hK
      have hMk := HM.out.more (HB2.out.next' h1) HI.out.below.size (Nat.le_trans HB2.out.size hD) hK
      have hIk : LookI W Br Bc nodes X Y ars (k + 1) A := by
        have h := HI.out.to (HB2.out.next' h1)
        exact ⟨h.below, h.raw, h.tell, phases_good hlt h.good (by rw [← HPs.out]; exact h2)⟩
      have HMk := Lib.hid hMk; have HIk := Lib.hid hIk
      clear hMk hIk h1 h2 hK HIt HI HM HPs HBp2 HB2
      gi_wp2_with fail
      refine ⟨⟨k + 1, _, _, _, _, _, _, _, _, _, _, _, _, _, _, _, _, _, _, _, _, _, _, _, _, _, _, _, _, _, _, _, _, _, _, _, _, rfl, by go_num, hlt, HMk.out, HIk.out⟩, ?_⟩
      show 5 - ((k : Int) + 1).toNat < 5 - ((k : Int)).toNat
      omega
    case hthrow =>
      rintro D ch xs A hD hpre ⟨pre, x, b, rfl, hg, hbad, rfl, hblk, hbel⟩ hK
      have hMk := HM.out.more (HB2.out.next' hbel) HI.out.below.size (Nat.le_trans HB2.out.size hD) hK
      have hlk : lookV (phases nodes X Y ars) 0 = some (k, x) := lookV_hit hlt HI.out.good (by rw [← HPs.out]; exact find_pre hpre hg hbad)
      refine leaves_marks (by simp) _ _ hMk (HI.out.below.trans ((HB2.out.next' hbel).mono HI.out.below.size)) fun w' hk' hb' => ?_
      exact ⟨.inr ⟨b, k, x, rfl, hlk, hk'.blk hblk⟩, hb'⟩
  · obtain rfl : k = 5 := by omega
    have e5 : Hid (lookV (phases nodes X Y ars) 0 = none) := Lib.hid (lookV_drop (phases nodes X Y ars) 5 0 hI.good (Nat.le_refl 5))
    have HI := Lib.hid hI; have HM := Lib.hid hmk
    clear hI hmk
    gi_wp2_with fail
    refine leaves_marks (by simp) _ _ HM.out HI.out.below fun w' hk' hb' => ?_
    exact ⟨_, by simp [results, Tryd.results56, go_sem], .inl ⟨rfl, e5.out⟩, hb'⟩
end Go.Proofs.YtjobijmmjebpaaaDoor
/- graph.Check: the walk; its deferred closure. -/
namespace Go.Proofs.YtjobijmmjebpaaaDoor
open Go.RowKit Go.Shelf
/-- nothing to recover -/
theorem check_idle (r : Nat) (w : World) : CallsD Tryd.prog 55 #[.pointer (some ⟨r, 0, none⟩)] .returning w fun e u' w' => e = .returned (.tuple #[]) ∧ u' = .returning ∧ w' = w := by
  refine callsD_of_wpS Tryd.func55 rfl fun c₀ cs hu => ?_
  apply wpS_seq
  apply wpS_region
  simp [wpOpsS, go_sem, recoverD, hu, Tryd.ntmps55, Exit.thenS]
  refine wpS_of_wp ?_
  simp only [Array.replicate_succ, Array.replicate_zero, List.push_toArray, List.setIfInBounds_toArray, List.set_cons_succ, List.set_cons_zero, List.append_toArray, List.cons_append, List.nil_append]
  go_wp2
  cases c₀
  simp_all [bodyPostS, results, Tryd.results55]
set_option maxRecDepth 100000 in
/-- a panic of look's -/
theorem check_err (r b : Nat) (w : World) (v1 : Value) (h1 : Blk w r #[v1] 55 (0, 0)) :
    CallsD Tryd.prog 55 #[.pointer (some ⟨r, 0, none⟩)] (.panicking (looked b)) w fun e u' w' =>
      e = .returned (.tuple #[]) ∧ u' = .panicking [{ v := .iface 95 (.agg #[.pointer (some ⟨b, 0, none⟩)]), recovered := true }] ∧
        w' = (w.setCell ⟨r, 0, none⟩ (.iface 95 (.agg #[.pointer (some ⟨b, 0, none⟩)]))).alloc (.cells #[.pointer (some ⟨b, 0, none⟩)] 95) := by
  have hta : ∀ w : World, (Instr.typeAssert (.iface 95 (.agg #[.pointer (some ⟨b, 0, none⟩)])) 20 95 true).run Tryd.prog w = .ok (.tuple #[.agg #[.pointer (some ⟨b, 0, none⟩)], .bool true]) w := fun _ => by rfl
  have hlt := h1.lt
  have c1 := h1.cell 0; have f1 := h1.free 0 (Or.inr (Nat.zero_le _))
  change w.cell? ⟨r, 0, none⟩ = some v1 at c1
  unfold looked
  refine callsD_of_wpS Tryd.func55 rfl fun c₀ cs hu => ?_
  apply wpS_seq
  apply wpS_region
  simp [wpOpsS, go_sem, recoverD, hu, Tryd.ntmps55, Exit.thenS]
  refine wpS_of_wp ?_
  simp only [Array.replicate_succ, Array.replicate_zero, List.push_toArray, List.setIfInBounds_toArray, List.set_cons_succ, List.set_cons_zero, List.append_toArray, List.cons_append, List.nil_append]
  go_wp2
  cases c₀
  simp_all [bodyPostS, results, Tryd.results55]
theorem leaves_end {fn : Func} {tmps : Array Value} {R : Ending → World → Prop} {w : World} {v : Value} (h : (results fn tmps).run Tryd.prog w = .ok v w) (hR : R (.returned v) w) : Leaves Tryd.prog fn tmps R [] .returning w := ⟨v, h, hR⟩
/-- what Check answers -/
def Checked (W' : World) (v : Value) (nodes : Int) (X Y : List Int) (ars : List Ar) : Prop :=
  (v = .nilIface ∧ lookV (phases nodes X Y ars) 0 = none) ∨
  (∃ b k p, v = .iface 95 (.agg #[.pointer (some ⟨b, 0, none⟩)]) ∧ lookV (phases nodes X Y ars) 0 = some (k, p) ∧ Blk W' b #[.int .i64 p.co, .int .i64 (k : Nat), .int .i64 p.ix, .int .i64 p.fl] 83 (0, 0))
set_option maxHeartbeats 1000000 in
theorem check_any (vx vy va : Value) (nodes : Int) (X Y : List Int) (ars : List Ar) (w : World) (hx : SlX w vx X) (hy : SlX w vy Y) (ha : SlA w va ars) :
    Calls Tryd.prog 45 #[.agg #[.int .i64 nodes, vx, vy, va]] w fun e w' => ∃ v, e = .returned v ∧ Checked w' v nodes X Y ars ∧ Below w.heap.size w w' := by
  have hmf : ∀ (fn : Fn) (first cap : Array Value) (w : World), (Instr.makeFunc fn first cap).run Tryd.prog w = .ok (.func fn first cap) w := fun _ _ _ _ => rfl
  have hb1 := (Below.refl w.heap.size w).alloc (Nat.le_refl _) (.cells #[.int .i64 nodes, vx, vy, va] 26)
  have hb2 := hb1.alloc (by simp) (.cells #[.nilIface] 55)
  have hr : Blk ((w.alloc (.cells #[.int .i64 nodes, vx, vy, va] 26)).alloc (.cells #[.nilIface] 55)) (w.heap.size + 1) #[.nilIface] 55 (0, 0) := by
    have h := Blk.new (w.alloc (.cells #[.int .i64 nodes, vx, vy, va] 26)) #[.nilIface] 55 (0, 0)
    rwa [World.size_alloc] at h
  have hk := KpC.of_below hb2
  have C := (look_in 1 (Nat.le_refl 1) vx vy va nodes X Y ars _ (hx.keep hk) (hy.keep hk) (ha.keep hk)).calls (fun _ => by simp [FK, Fence.list, Fence.room])
  have HC := Lib.hid C; have HB := Lib.hid hb2; have HR := Lib.hid hr
  obtain ⟨ax, cx, rfl, _⟩ := hx
  obtain ⟨ay, cy, rfl, _⟩ := hy
  obtain ⟨aa, ca, rfl, _⟩ := ha
  clear hb1 hb2 hr hk C
  go_enter_defers Tryd.func45, Tryd.ntmps45
  go_wp2_with fail
  refine HC.out.mono ?_
  rintro e w2 ⟨(⟨rfl, hno⟩ | ⟨b, k, p, rfl, hlk, hblk⟩), hb3⟩
  · have hr2 := HR.out.below hb3 HR.out.lt
    have hbz := (HB.out.next' hb3).setCell (p := ⟨w.heap.size + 1, 0, none⟩) (by show w.heap.size ≤ w.heap.size + 1; omega) .nilIface
    have hrz := hr2.set 0 .nilIface
    have c1 := hr2.cell 0; have f1 := hr2.free 0 (Or.inr (Nat.zero_le _))
    change w2.cell? ⟨w.heap.size + 1, 0, none⟩ = some .nilIface at c1
    have HBz := Lib.hid hbz; have HRz := Lib.hid hrz; have HN := Lib.hid hno
    clear hr2 hb3 hbz hrz hno HC HB HR
    go_wp2_with fail
    have d1 := HRz.out.cell 0
    generalize w2.setCell ⟨w.heap.size + 1, 0, none⟩ .nilIface = wz at *
    change wz.cell? ⟨w.heap.size + 1, 0, none⟩ = some .nilIface at d1
    refine leaves_cons (f := 55) (args := #[.pointer (some ⟨w.heap.size + 1, 0, none⟩)]) (by simp) (by simp [go_sem]) ?_
    refine (check_idle (w.heap.size + 1) wz).mono ?_
    rintro e u' w'' ⟨rfl, rfl, rfl⟩
    exact leaves_end (v := .nilIface) (by simp [results, Tryd.results45, go_sem, d1]) ⟨_, rfl, .inl ⟨rfl, HN.out⟩, HBz.out⟩
  · have hr2 := HR.out.below hb3 HR.out.lt
    have hbl := hblk.lt
    have hne : b ≠ w.heap.size + 1 := fun e => by
      subst e
      have e2 := (show w2.heap[w.heap.size + 1]? = some _ from hr2).symm.trans (show w2.heap[w.heap.size + 1]? = some _ from hblk)
      cases e2
    refine leaves_cons (f := 55) (args := #[.pointer (some ⟨w.heap.size + 1, 0, none⟩)]) (by simp) (by simp [go_sem]) ?_
    refine (check_err (w.heap.size + 1) b w2 _ hr2).mono ?_
    rintro e u' w'' ⟨rfl, rfl, rfl⟩
    have hbz := ((HB.out.next' hb3).setCell (p := ⟨w.heap.size + 1, 0, none⟩) (by show w.heap.size ≤ w.heap.size + 1; omega) (.iface 95 (.agg #[.pointer (some ⟨b, 0, none⟩)]))).alloc (by simpa using (HB.out.next' hb3).size) (.cells #[.pointer (some ⟨b, 0, none⟩)] 95)
    have hrz := (hr2.set 0 (.iface 95 (.agg #[.pointer (some ⟨b, 0, none⟩)]))).alloc (.cells #[.pointer (some ⟨b, 0, none⟩)] 95)
    have hfz := (hblk.setOther ⟨w.heap.size + 1, 0, none⟩ (.iface 95 (.agg #[.pointer (some ⟨b, 0, none⟩)])) hne).alloc (.cells #[.pointer (some ⟨b, 0, none⟩)] 95)
    generalize (w2.setCell ⟨w.heap.size + 1, 0, none⟩ (.iface 95 (.agg #[.pointer (some ⟨b, 0, none⟩)]))).alloc (.cells #[.pointer (some ⟨b, 0, none⟩)] 95) = wz at *
    have d1 := hrz.cell 0
    change wz.cell? ⟨w.heap.size + 1, 0, none⟩ = some (.iface 95 (.agg #[.pointer (some ⟨b, 0, none⟩)])) at d1
    exact leaves_end (v := .iface 95 (.agg #[.pointer (some ⟨b, 0, none⟩)])) (by simp [results, Tryd.results45, go_sem, d1]) ⟨_, rfl, .inr ⟨b, k, p, rfl, hlk, hfz⟩, hbz⟩
end Go.Proofs.YtjobijmmjebpaaaDoor
/- errors.As by its contracts: a nil error; an error that is the target's own kind (*api.Fault). After the worked example of the kit (its texts turned to this program's numbers). -/
namespace Go.Proofs.YtjobijmmjebpaaaDoor
open Go.RowKit Go.Extern.Stop Go.Stop Go.Extern
theorem as_nil (t : Value) (w : World) :
    Calls Tryd.prog 57 #[.nilIface, t] w fun e w' => e = .returned (.bool false) ∧ w' = w := by
  go_enter Tryd.func57, Tryd.ntmps57
  go_wp2
  go_ret
  exact ⟨rfl, rfl⟩

theorem as_valueOf27 (t : Addr) (w : World) : (ReflectliteValue.unpack (.iface 99 (.pointer (some t)))).run Tryd.prog w
    = .ok (.agg #[.pointer (some ⟨1, 99, none⟩), .pointer (some ⟨w.heap.size, 0, none⟩), .int .u64 150]) (w.alloc (.cells #[.pointer (some t)] 99)) := by kernel_rfl
theorem as_type27 (a : Addr) (w : World) : (ReflectliteValue.methodAny (ReflectliteValue.valueError "reflectlite.Value.Type" 0) (fun t _ _ _ => ReflectliteType.toType t) #[.agg #[.pointer (some ⟨1, 99, none⟩), .pointer (some a), .int .u64 150]]).run Tryd.prog w
    = .ok (.iface 129 (.agg #[.pointer (some ⟨1, 99, none⟩)])) w := by kernel_rfl
theorem as_methodKind (n : Nat) (h : Value) (w : World) : (Go.method (n + 1) 129 (.agg #[h]) "Kind").run Tryd.prog w = .ok (97, h) w := by kernel_rfl
theorem as_kind27 (w : World) : ((ReflectliteType.abiMethod fun t => (fun a : Nat => Value.int IntKind.u8 (a : Int)) <$> Rtype.kind t) #[.pointer (some ⟨1, 99, none⟩)]).run Tryd.prog w = .ok (.int .u8 22) w := by kernel_rfl
theorem as_kind25 (w : World) : ((ReflectliteType.abiMethod fun t => (fun a : Nat => Value.int IntKind.u8 (a : Int)) <$> Rtype.kind t) #[.pointer (some ⟨1, 85, none⟩)]).run Tryd.prog w = .ok (.int .u8 22) w := by kernel_rfl

theorem rlm (z : Sem Value) (f : TypeId → Addr → Nat → Nat → Sem Value) (v : Value) :
    ReflectliteValue.method z f #[v] = (do match ← ReflectliteValue.parts v with | none => z | some (t, a, fl) => f t a fl (fl % 32)) := rfl
theorem as_parts27 (a : Addr) (w : World) : (ReflectliteValue.parts (.agg #[.pointer (some ⟨1, 99, none⟩), .pointer (some a), .int .u64 150])).run Tryd.prog w = .ok (some (99, a, 150)) w := by kernel_rfl
theorem as_isNil27 (a p : Addr) (W : World) (ha : W.cell? a = some (.pointer (some p))) :
    (ReflectliteValue.method (ReflectliteValue.valueError "reflectlite.Value.IsNil" 0) ReflectliteValue.isNil #[.agg #[.pointer (some ⟨1, 99, none⟩), .pointer (some a), .int .u64 150]]).run Tryd.prog W = .ok (.bool false) W := by
  rw [rlm]
  simp only [Sem.run_bind, as_parts27, Result.andThen]
  simp [ReflectliteValue.isNil, loadVar, isAgg, underlying, Tryd.underlying99, ha, Result.andThen]

theorem as_methodElem (n : Nat) (h : Value) (w : World) : (Go.method (n + 1) 129 (.agg #[h]) "Elem").run Tryd.prog w = .ok (112, .agg #[h]) w := by kernel_rfl
theorem as_methodImplements (n : Nat) (h : Value) (w : World) : (Go.method (n + 1) 129 (.agg #[h]) "Implements").run Tryd.prog w = .ok (113, .agg #[h]) w := by kernel_rfl
theorem as_methodAssignableTo (n : Nat) (h : Value) (w : World) : (Go.method (n + 1) 129 (.agg #[h]) "AssignableTo").run Tryd.prog w = .ok (110, .agg #[h]) w := by kernel_rfl
theorem as_elem27 (w : World) : (ReflectliteType.method ReflectliteType.elem #[.agg #[.pointer (some ⟨1, 99, none⟩)]]).run Tryd.prog w = .ok (.iface 129 (.agg #[.pointer (some ⟨1, 85, none⟩)])) w := by kernel_rfl
theorem as_implements25 (w : World) : (ReflectliteType.relation "Implements" ReflectliteType.implements_ #[.agg #[.pointer (some ⟨1, 85, none⟩)], .iface 129 (.agg #[.pointer (some ⟨1, 55, none⟩)])]).run Tryd.prog w = .ok (.bool true) w := by kernel_rfl
theorem as_typeOf25 (v : Value) (w : World) : (ReflectliteType.typeOf #[.iface 85 v]).run Tryd.prog w = .ok (.iface 129 (.agg #[.pointer (some ⟨1, 85, none⟩)])) w := by kernel_rfl
theorem as_assignable25 (w : World) : (ReflectliteType.relation "AssignableTo" ReflectliteType.assignableTo #[.agg #[.pointer (some ⟨1, 85, none⟩)], .iface 129 (.agg #[.pointer (some ⟨1, 85, none⟩)])]).run Tryd.prog w = .ok (.bool true) w := by kernel_rfl
theorem as_valueOf25 (e : Addr) (w : World) : (ReflectliteValue.unpack (.iface 85 (.pointer (some e)))).run Tryd.prog w
    = .ok (.agg #[.pointer (some ⟨1, 85, none⟩), .pointer (some ⟨w.heap.size, 0, none⟩), .int .u64 150]) (w.alloc (.cells #[.pointer (some e)] 85)) := by kernel_rfl

theorem as_elemOf27 (w : World) : (Rtype.elem? 99).run Tryd.prog w = .ok (some 85) w := by kernel_rfl
theorem as_mk25 (p : Addr) (w : World) : (ReflectliteValue.mk 85 p ReflectliteValue.flagAddr).run Tryd.prog w = .ok (.agg #[.pointer (some ⟨1, 85, none⟩), .pointer (some p), .int .u64 406]) w := by kernel_rfl
theorem as_elemV27 (a p : Addr) (W : World) (ha : W.cell? a = some (.pointer (some p))) :
    (ReflectliteValue.method (ReflectliteValue.valueError "reflectlite.Value.Elem" 0) ReflectliteValue.elem #[.agg #[.pointer (some ⟨1, 99, none⟩), .pointer (some a), .int .u64 150]]).run Tryd.prog W
      = .ok (.agg #[.pointer (some ⟨1, 85, none⟩), .pointer (some p), .int .u64 406]) W := by
  rw [rlm]
  simp only [Sem.run_bind, as_parts27, Result.andThen]
  simp [ReflectliteValue.elem, loadVar, isAgg, underlying, Tryd.underlying99, ha, Result.andThen, as_elemOf27, as_mk25]
theorem rls (v x : Value) : ∃ s1 s2 s3 s4 s5 : String, ReflectliteValue.set #[v, x] = (do
    let (some (dst, a, fl), some (src, b, _)) := (← ReflectliteValue.parts v, ← ReflectliteValue.parts x)
      | unsupported (.noEntry s1)
    if fl / ReflectliteValue.flagAddr % 2 == 0 then unsupported (.noEntry s2)
    let val ← loadVar src b
    if ← Rtype.directlyAssignable dst src then storeVar dst a val
    else if ← Rtype.implements dst src then
      if (← Rtype.kind src) == 20 then
        match val with
        | .nilIface => unsupported (.noEntry s3)
        | _ => storeVar dst a val
      else storeVar dst a (.iface src val)
    else panicString (s4 ++ (← Rtype.spelt src) ++ s5 ++ (← Rtype.spelt dst))
    pure (.tuple #[])) := ⟨_, _, _, _, _, rfl⟩
theorem as_parts25a (a : Addr) (w : World) : (ReflectliteValue.parts (.agg #[.pointer (some ⟨1, 85, none⟩), .pointer (some a), .int .u64 406])).run Tryd.prog w = .ok (some (85, a, 406)) w := by kernel_rfl
theorem as_parts25 (a : Addr) (w : World) : (ReflectliteValue.parts (.agg #[.pointer (some ⟨1, 85, none⟩), .pointer (some a), .int .u64 150])).run Tryd.prog w = .ok (some (85, a, 150)) w := by kernel_rfl
theorem as_direct25 (w : World) : (Rtype.directlyAssignable 85 85).run Tryd.prog w = .ok true w := by kernel_rfl
theorem as_size25 (w : World) : (sizeOf 85).run Tryd.prog w = .ok 1 w := by kernel_rfl
theorem as_set25 (ta b e : Addr) (old : Value) (W : World) (hb : W.cell? b = some (.pointer (some e))) (ht : W.cell? ta = some old) (hf : W.frozen? ta = false) :
    (ReflectliteValue.set #[.agg #[.pointer (some ⟨1, 85, none⟩), .pointer (some ta), .int .u64 406], .agg #[.pointer (some ⟨1, 85, none⟩), .pointer (some b), .int .u64 150]]).run Tryd.prog W
      = .ok (.tuple #[]) (W.setCell ta (.pointer (some e))) := by
  obtain ⟨s1, s2, s3, s4, s5, hs⟩ := rls (.agg #[.pointer (some ⟨1, 85, none⟩), .pointer (some ta), .int .u64 406]) (.agg #[.pointer (some ⟨1, 85, none⟩), .pointer (some b), .int .u64 150])
  rw [hs]
  simp only [Sem.run_bind, as_parts25a, as_parts25, Result.andThen]
  simp [ReflectliteValue.flagAddr, loadVar, isAgg, underlying, Tryd.underlying85, hb, Result.andThen, as_direct25, storeVar, Value.cells, storeCells, Addr.add]
  rw [run_store Tryd.prog W ta _ _ (by rfl)]
  simp [ht, hf]

end Go.Proofs.YtjobijmmjebpaaaDoor
/- errors.As by its contracts: a nil error; an error that is the target's own kind (*api.Fault). After the worked example of the kit (its texts turned to this program's numbers). -/
namespace Go.Proofs.YtjobijmmjebpaaaDoor
open Go.RowKit Go.Extern.Stop Go.Stop Go.Extern
set_option maxHeartbeats 4000000 in
theorem as_hit (e t : Addr) (old : Value) (w : World) (hg : w.cell? ⟨0, 0, none⟩ = some (.iface 129 (.agg #[.pointer (some ⟨1, 55, none⟩)]))) (ht0 : w.cell? t = some old) (hf0 : w.frozen? t = false) :
    Calls Tryd.prog 57 #[.iface 85 (.pointer (some e)), .iface 99 (.pointer (some t))] w fun ev w' => ev = .returned (.bool true) ∧ w' = ((((w.alloc (.cells #[.pointer (some t)] 99)).alloc (.cells #[.pointer (some ⟨1, 99, none⟩), .pointer (some ⟨w.heap.size, 0, none⟩), .int .u64 150] 116)).alloc (.cells #[.pointer (some ⟨1, 99, none⟩), .pointer (some ⟨w.heap.size, 0, none⟩), .int .u64 150] 116)).alloc (.cells #[.pointer (some e)] 85)).setCell t (.pointer (some e)) := by
  have h6 := @run_callFunc_extern Tryd.prog 72 _ (fun args => ReflectliteValue.unpack (args.getD 0 (.tuple #[]))) Tryd.func72 (by kernel_rfl) (by kernel_rfl) (by kernel_rfl) (by kernel_rfl)
  have h7 := @run_callFunc_extern Tryd.prog 73 _ (ReflectliteValue.methodAny (ReflectliteValue.valueError "reflectlite.Value.Type" 0) (fun t _ _ _ => ReflectliteType.toType t)) Tryd.func73 (by kernel_rfl) (by kernel_rfl) (by kernel_rfl) (by kernel_rfl)
  have h8 := @run_callFunc_extern Tryd.prog 74 _ (ReflectliteValue.method (ReflectliteValue.valueError "reflectlite.Value.IsNil" 0) ReflectliteValue.isNil) Tryd.func74 (by kernel_rfl) (by kernel_rfl) (by kernel_rfl) (by kernel_rfl)
  have h27 := @run_callFunc_extern Tryd.prog 97 _ (ReflectliteType.abiMethod fun t => do pure (.int .u8 (← Rtype.kind t))) Tryd.func97 (by kernel_rfl) (by kernel_rfl) (by kernel_rfl) (by kernel_rfl)
  have h37 := @run_callFunc_extern Tryd.prog 112 _ (ReflectliteType.method ReflectliteType.elem) Tryd.func112 (by kernel_rfl) (by kernel_rfl) (by kernel_rfl) (by kernel_rfl)
  have h38 := @run_callFunc_extern Tryd.prog 113 _ (ReflectliteType.relation "Implements" ReflectliteType.implements_) Tryd.func113 (by kernel_rfl) (by kernel_rfl) (by kernel_rfl) (by kernel_rfl)
  have h10 := @run_callFunc_extern Tryd.prog 79 _ ReflectliteType.typeOf Tryd.func79 (by kernel_rfl) (by kernel_rfl) (by kernel_rfl) (by kernel_rfl)
  have h35 := @run_callFunc_extern Tryd.prog 110 _ (ReflectliteType.relation "AssignableTo" ReflectliteType.assignableTo) Tryd.func110 (by kernel_rfl) (by kernel_rfl) (by kernel_rfl) (by kernel_rfl)
  have h11 := @run_callFunc_extern Tryd.prog 80 _ (ReflectliteValue.method (ReflectliteValue.valueError "reflectlite.Value.Elem" 0) ReflectliteValue.elem) Tryd.func80 (by kernel_rfl) (by kernel_rfl) (by kernel_rfl) (by kernel_rfl)
  have h12 := @run_callFunc_extern Tryd.prog 81 _ ReflectliteValue.set Tryd.func81 (by kernel_rfl) (by kernel_rfl) (by kernel_rfl) (by kernel_rfl)
  have tO := as_typeOf25
  have mA := as_methodAssignableTo
  have a25 := as_assignable25
  have v25 := as_valueOf25
  have f6 := as_valueOf27
  have f7 := as_type27
  have mK := as_methodKind
  have mE := as_methodElem
  have mI := as_methodImplements
  have k27 := as_kind27
  have k25 := as_kind25
  have e27 := as_elem27
  have i25 := as_implements25
  have n8 := as_isNil27 ⟨w.heap.size, 0, none⟩ t ((w.alloc (.cells #[.pointer (some t)] 99)).alloc (.cells #[.pointer (some ⟨1, 99, none⟩), .pointer (some ⟨w.heap.size, 0, none⟩), .int .u64 150] 116)) (by simp)
  have hlt : 0 < w.heap.size := by
    rcases Nat.eq_zero_or_pos w.heap.size with h0 | h
    · simp [World.cell?, h0] at hg
    · exact h
  have hg2 : ((w.alloc (.cells #[.pointer (some t)] 99)).alloc (.cells #[.pointer (some ⟨1, 99, none⟩), .pointer (some ⟨w.heap.size, 0, none⟩), .int .u64 150] 116)).cell? ⟨0, 0, none⟩ = some (.iface 129 (.agg #[.pointer (some ⟨1, 55, none⟩)])) := by
    rw [World.cell?_alloc_lt _ _ ⟨0, 0, none⟩ (by simp), World.cell?_alloc_lt _ _ ⟨0, 0, none⟩ hlt]; exact hg
  have htl : t.block < w.heap.size := by
    rcases Nat.lt_or_ge t.block w.heap.size with h | h
    · exact h
    · simp [World.cell?, Array.getElem?_eq_none h] at ht0
  have el := as_elemV27 ⟨w.heap.size, 0, none⟩ t (((w.alloc (.cells #[.pointer (some t)] 99)).alloc (.cells #[.pointer (some ⟨1, 99, none⟩), .pointer (some ⟨w.heap.size, 0, none⟩), .int .u64 150] 116)).alloc (.cells #[.pointer (some ⟨1, 99, none⟩), .pointer (some ⟨w.heap.size, 0, none⟩), .int .u64 150] 116)) (by rw [World.cell?_alloc_lt _ _ ⟨w.heap.size, 0, none⟩ (by simp; omega)]; simp)
  have st := as_set25 t ⟨w.heap.size + 1 + 1 + 1, 0, none⟩ e old ((((w.alloc (.cells #[.pointer (some t)] 99)).alloc (.cells #[.pointer (some ⟨1, 99, none⟩), .pointer (some ⟨w.heap.size, 0, none⟩), .int .u64 150] 116)).alloc (.cells #[.pointer (some ⟨1, 99, none⟩), .pointer (some ⟨w.heap.size, 0, none⟩), .int .u64 150] 116)).alloc (.cells #[.pointer (some e)] 85))
    (by rw [World.cell?_alloc_at _ _ _ _ (by simp)]; rfl)
    (by rw [World.cell?_alloc_lt _ _ t (by simp; omega), World.cell?_alloc_lt _ _ t (by simp; omega), World.cell?_alloc_lt _ _ t (by simp; omega), World.cell?_alloc_lt _ _ t htl]; exact ht0)
    (by rw [World.frozen?_alloc_old _ _ t (by simp; omega), World.frozen?_alloc_old _ _ t (by simp; omega), World.frozen?_alloc_old _ _ t (by simp; omega), World.frozen?_alloc_old _ _ t (Nat.ne_of_lt htl)]; exact hf0)
  go_enter Tryd.func57, Tryd.ntmps57
  go_wp2
  refine wp_loop_rounds 1 ?_
  rw [rounds_succ]
  go_wp2
  go_ret
  exact ⟨rfl, rfl⟩
end Go.Proofs.YtjobijmmjebpaaaDoor
