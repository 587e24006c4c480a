/- graph: what look's five closures hand back: iterators over places. -/
import Derived.Test.YtnkcmlngoeofgaaDoorGrNodes
namespace Go.Proofs.YtnkcmlngoeofgaaDoor
open Go.RowKit Go.Shelf
attribute [local go_sem] Oper.semAt_some FK_round FK_depth Oper.semAt_none
/-- the raw graph's variable -/
structure RawAt (w : World) (Br : Nat) (nodes : Int) (X Y : List Int) (ars : List Ar) : Prop where
  ex : ∃ vx vy va, Blk w Br #[.int .i64 nodes, vx, vy, va] 25 (0, 0) ∧ SlX w vx X ∧ SlX w vy Y ∧ SlA w va ars
theorem RawAt.keep {w w' : World} {Br : Nat} {nodes : Int} {X Y : List Int} {ars : List Ar} (h : RawAt w Br nodes X Y ars) (hk : KpC w w') : RawAt w' Br nodes X Y ars := by
  obtain ⟨vx, vy, va, h1, h2, h3, h4⟩ := h
  exact ⟨vx, vy, va, hk.blk h1, h2.keep hk, h3.keep hk, h4.keep hk⟩
/-- an iterator over places -/
def ItOf (w : World) (gf : Nat) (lb : Array Value) (ps : List Pl) : Prop :=
  (gf = 89 ∧ ∃ Bs v, lb = #[.pointer (some ⟨Bs, 0, none⟩)] ∧ Blk w Bs #[v] 132 (0, 0) ∧ SlP w v ps) ∨
  (gf = 84 ∧ ∃ Br nodes X Y ars, lb = #[.pointer (some ⟨Br, 0, none⟩)] ∧ RawAt w Br nodes X Y ars ∧ X.length = Y.length ∧ ps = nodesP X Y X.length) ∨
  (gf = 85 ∧ ∃ Br nodes X Y ars, lb = #[.pointer (some ⟨Br, 0, none⟩)] ∧ RawAt w Br nodes X Y ars ∧ ps = arcsP nodes ars ars.length)
theorem ItOf.keep {w w' : World} {gf : Nat} {lb : Array Value} {ps : List Pl} (h : ItOf w gf lb ps) (hk : KpC w w') : ItOf w' gf lb ps := by
  rcases h with ⟨e, Bs, v, h1, h2, h3⟩ | ⟨e, Br, nodes, X, Y, ars, h1, h2, h3, h4⟩ | ⟨e, Br, nodes, X, Y, ars, h1, h2, h3⟩
  · exact .inl ⟨e, Bs, v, h1, hk.blk h2, h3.keep hk⟩
  · exact .inr (.inl ⟨e, Br, nodes, X, Y, ars, h1, h2.keep hk, h3, h4⟩)
  · exact .inr (.inr ⟨e, Br, nodes, X, Y, ars, h1, h2.keep hk, h3⟩)
theorem it_in (m : Nat) (L gf : Nat) (lb : Array Value) (ps : List Pl) (J : List Pl → World → Prop) (U : List PanicEntry → List Pl → World → Prop) (hJA : ∀ s W W', J s W → Below W.heap.size W W' → J s W')
    (hY : ∀ pre x W, J pre W → pre.length < ps.length → YieldAt FK (m - 1) Tryd.prog L (encP x) W fun e W' =>
      (e = .returned (.bool true) ∧ J (pre ++ [x]) W' ∧ KpC W W') ∨ (∃ ch, e = .panicked ch ∧ U ch (pre ++ [x]) W'))
    (W : World) (h : ItOf W gf lb ps) (h0 : J [] W) :
    CallsIn FK m Tryd.prog gf (#[.func (.yield L) #[] #[]] ++ lb) W fun e W' => (∃ v, e = .returned v ∧ J ps W') ∨ (∃ ch xs, e = .panicked ch ∧ xs <+: ps ∧ U ch xs W') := by
  rcases h with ⟨rfl, Bs, v, rfl, h2, h3⟩ | ⟨rfl, Br, nodes, X, Y, ars, rfl, ⟨vx, vy, va, hb, hx, hy, ha⟩, h3, rfl⟩ | ⟨rfl, Br, nodes, X, Y, ars, rfl, ⟨vx, vy, va, hb, hx, hy, ha⟩, rfl⟩
  · exact values_in m L Bs ps v J U hJA hY W h2 h3 h0
  · rw [nodesP_len] at hY
    exact nodes_in m L Br nodes vx vy va X Y J U hJA hY W hb hx hy h3 h0
  · rw [arcsP_len] at hY
    exact arcs_in m L Br nodes vx vy va ars J U hJA hY W hb ha h0
set_option maxRecDepth 100000 in
set_option maxHeartbeats 4000000 in
theorem values_new (m : Nat) (sl : Value) (W : World) (ps : List Pl) (h : SlP W sl ps) (hone : sl.oneCell' = true) :
    CallsIn FK m Tryd.prog 83 #[sl] W fun e W' => ∃ gf lb, e = .returned (.func (.func gf) #[] lb) ∧ ItOf W' gf lb ps ∧ Below W.heap.size W W' := by
  have hb := (Below.refl W.heap.size W).alloc (Nat.le_refl _) (.cells #[sl] 132)
  have H : Hid (ItOf (W.alloc (.cells #[sl] 132)) 89 #[.pointer (some ⟨W.heap.size, 0, none⟩)] ps ∧ Below W.heap.size W (W.alloc (.cells #[sl] 132))) := Lib.hid ⟨.inl ⟨rfl, _, _, rfl, Blk.new _ _ _ _, h.keep (KpC.of_below hb)⟩, hb⟩
  obtain ⟨a, cap, rfl, _⟩ := h
  clear hb hone
  have hmf : ∀ (fn : Fn) (first cap : Array Value) (w : World), (Instr.makeFunc fn first cap).run Tryd.prog w = .ok (.func fn first cap) w := fun _ _ _ _ => rfl
  refine callsIn_of_wp Tryd.func83 rfl (by simp [FK, Fence.list]) ?_ rfl
  simp only [Tryd.ntmps83, List.size_toArray, List.length_cons, List.length_nil, Nat.reduceAdd, Nat.reduceSub, Array.replicate_succ, Array.replicate_zero, List.push_toArray, List.append_toArray, List.nil_append, List.cons_append]
  gi_wp2_with fail
  go_ret
  exact ⟨_, _, rfl, H.out⟩
set_option maxRecDepth 100000 in
set_option maxHeartbeats 4000000 in
theorem one_in (m : Nat) (c n lo hi : Int) (W : World) :
    CallsIn FK m Tryd.prog 64 #[.int .i64 c, .int .i64 n, .int .i64 lo, .int .i64 hi] W fun e W' => ∃ gf lb, e = .returned (.func (.func gf) #[] lb) ∧ ItOf W' gf lb [⟨0, 0, c, n, lo, hi⟩] ∧ Below W.heap.size W W' := by
  have hb := (Below.refl W.heap.size W).alloc (Nat.le_refl _) (.cells #[.int .i64 0, .int .i64 0, .int .i64 c, .int .i64 n, .int .i64 lo, .int .i64 hi] 113)
  have hS : SlP (W.alloc (.cells #[.int .i64 0, .int .i64 0, .int .i64 c, .int .i64 n, .int .i64 lo, .int .i64 hi] 113)) (.slice (some ⟨W.heap.size, 0, none⟩) 1 1) [⟨0, 0, c, n, lo, hi⟩] := slP_new (L := [⟨0, 0, c, n, lo, hi⟩]) (Blk.new _ _ _ _) rfl (by show 1 ≤ 1000; omega)
  have C := Lib.hid (values_new (m - 1) _ _ _ hS rfl); have HB := Lib.hid hb
  clear hb hS
  refine callsIn_of_wp Tryd.func64 rfl (by simp [FK, Fence.list]) ?_ rfl
  simp only [Tryd.ntmps64, List.size_toArray, List.length_cons, List.length_nil, Nat.reduceAdd, Nat.reduceSub, Array.replicate_succ, Array.replicate_zero, List.push_toArray, List.append_toArray, List.nil_append, List.cons_append]
  gi_wp2_with fail
  refine ⟨by simp [FK, Fence.list], ?_⟩
  refine C.out.mono ?_
  rintro e W2 ⟨gf, lb, rfl, h1, h2⟩
  have H1 := Lib.hid h1; have H2 := Lib.hid (HB.out.next' h2)
  clear h1 h2
  gi_wp2_with fail
  go_ret
  exact ⟨_, _, rfl, H1.out, H2.out⟩
set_option maxRecDepth 100000 in
set_option maxHeartbeats 4000000 in
theorem look1_in (m Br : Nat) (nodes : Int) (X Y : List Int) (ars : List Ar) (W : World) (h : RawAt W Br nodes X Y ars) :
    CallsIn FK m Tryd.prog 63 #[.pointer (some ⟨Br, 0, none⟩)] W fun e W' => ∃ gf lb, e = .returned (.func (.func gf) #[] lb) ∧ ItOf W' gf lb [⟨0, 0, 5, nodes, 1, 16777217⟩] ∧ Below W.heap.size W W' := by
  obtain ⟨vx, vy, va, hb, _⟩ := h
  have c0 := hb.cell 0
  change W.cell? ⟨Br, 0, none⟩ = some (.int .i64 nodes) at c0
  refine callsIn_of_wp Tryd.func63 rfl (by simp [FK, Fence.list]) ?_ rfl
  simp only [Tryd.ntmps63, List.size_toArray, List.length_cons, List.length_nil, Nat.reduceAdd, Nat.reduceSub, Array.replicate_succ, Array.replicate_zero, List.push_toArray, List.append_toArray, List.nil_append, List.cons_append]
  gi_wp2_with fail
  refine ⟨by simp [FK, Fence.list], ?_⟩
  refine (one_in (m - 1) 5 nodes 1 16777217 W).mono ?_
  rintro e W2 ⟨gf, lb, rfl, h1, h2⟩
  have H1 := Lib.hid h1; have H2 := Lib.hid h2
  clear h1 h2
  gi_wp2_with fail
  go_ret
  exact ⟨_, _, rfl, H1.out, H2.out⟩
set_option maxRecDepth 100000 in
set_option maxHeartbeats 4000000 in
theorem nodes_new (m : Nat) (vx vy va : Value) (nodes : Int) (X Y : List Int) (ars : List Ar) (W : World) (hx : SlX W vx X) (hy : SlX W vy Y) (ha : SlA W va ars) (hl : X.length = Y.length) :
    CallsIn FK m Tryd.prog 68 #[.agg #[.int .i64 nodes, vx, vy, va]] W fun e W' => ∃ gf lb, e = .returned (.func (.func gf) #[] lb) ∧ ItOf W' gf lb (nodesP X Y X.length) ∧ Below W.heap.size W W' := by
  have hb := (Below.refl W.heap.size W).alloc (Nat.le_refl _) (.cells #[.int .i64 nodes, vx, vy, va] 25)
  have hk := KpC.of_below hb
  have H : Hid (ItOf (W.alloc (.cells #[.int .i64 nodes, vx, vy, va] 25)) 84 #[.pointer (some ⟨W.heap.size, 0, none⟩)] (nodesP X Y X.length) ∧ Below W.heap.size W (W.alloc (.cells #[.int .i64 nodes, vx, vy, va] 25))) := Lib.hid ⟨.inr (.inl ⟨rfl, _, nodes, X, Y, ars, rfl, ⟨vx, vy, va, Blk.new _ _ _ _, hx.keep hk, hy.keep hk, ha.keep hk⟩, hl, rfl⟩), hb⟩
  clear hl
  obtain ⟨ax, cx, rfl, _⟩ := hx
  obtain ⟨ay, cy, rfl, _⟩ := hy
  obtain ⟨aa, ca, rfl, _⟩ := ha
  clear hb hk
  have hmf : ∀ (fn : Fn) (first cap : Array Value) (w : World), (Instr.makeFunc fn first cap).run Tryd.prog w = .ok (.func fn first cap) w := fun _ _ _ _ => rfl
  refine callsIn_of_wp Tryd.func68 rfl (by simp [FK, Fence.list]) ?_ rfl
  simp only [Tryd.ntmps68, List.size_toArray, List.length_cons, List.length_nil, Nat.reduceAdd, Nat.reduceSub, Array.replicate_succ, Array.replicate_zero, List.push_toArray, List.append_toArray, List.nil_append, List.cons_append]
  gi_wp2_with fail
  go_ret
  exact ⟨_, _, rfl, H.out⟩
set_option maxRecDepth 100000 in
set_option maxHeartbeats 4000000 in
theorem arcs_new (m : Nat) (vx vy va : Value) (nodes : Int) (X Y : List Int) (ars : List Ar) (W : World) (hx : SlX W vx X) (hy : SlX W vy Y) (ha : SlA W va ars)  :
    CallsIn FK m Tryd.prog 71 #[.agg #[.int .i64 nodes, vx, vy, va]] W fun e W' => ∃ gf lb, e = .returned (.func (.func gf) #[] lb) ∧ ItOf W' gf lb (arcsP nodes ars ars.length) ∧ Below W.heap.size W W' := by
  have hb := (Below.refl W.heap.size W).alloc (Nat.le_refl _) (.cells #[.int .i64 nodes, vx, vy, va] 25)
  have hk := KpC.of_below hb
  have H : Hid (ItOf (W.alloc (.cells #[.int .i64 nodes, vx, vy, va] 25)) 85 #[.pointer (some ⟨W.heap.size, 0, none⟩)] (arcsP nodes ars ars.length) ∧ Below W.heap.size W (W.alloc (.cells #[.int .i64 nodes, vx, vy, va] 25))) := Lib.hid ⟨.inr (.inr ⟨rfl, _, nodes, X, Y, ars, rfl, ⟨vx, vy, va, Blk.new _ _ _ _, hx.keep hk, hy.keep hk, ha.keep hk⟩, rfl⟩), hb⟩
  obtain ⟨ax, cx, rfl, _⟩ := hx
  obtain ⟨ay, cy, rfl, _⟩ := hy
  obtain ⟨aa, ca, rfl, _⟩ := ha
  clear hb hk
  have hmf : ∀ (fn : Fn) (first cap : Array Value) (w : World), (Instr.makeFunc fn first cap).run Tryd.prog w = .ok (.func fn first cap) w := fun _ _ _ _ => rfl
  refine callsIn_of_wp Tryd.func71 rfl (by simp [FK, Fence.list]) ?_ rfl
  simp only [Tryd.ntmps71, List.size_toArray, List.length_cons, List.length_nil, Nat.reduceAdd, Nat.reduceSub, Array.replicate_succ, Array.replicate_zero, List.push_toArray, List.append_toArray, List.nil_append, List.cons_append]
  gi_wp2_with fail
  go_ret
  exact ⟨_, _, rfl, H.out⟩
set_option maxRecDepth 100000 in
set_option maxHeartbeats 4000000 in
theorem shapes_new (m : Nat) (vx vy va : Value) (nodes : Int) (X Y : List Int) (ars : List Ar) (W : World) (hx : SlX W vx X) (hy : SlX W vy Y) (ha : SlA W va ars) (hn : 1 ≤ nodes ∧ nodes ≤ 16777216) :
    CallsIn FK m Tryd.prog 66 #[.agg #[.int .i64 nodes, vx, vy, va]] W fun e W' => ∃ gf lb, e = .returned (.func (.func gf) #[] lb) ∧ ItOf W' gf lb [⟨0, 0, 6, X.length, nodes, nodes + 1⟩, ⟨0, 1, 6, Y.length, nodes, nodes + 1⟩] ∧ Below W.heap.size W W' := by
  have hw : IntKind.i64.wrap (nodes + 1) = nodes + 1 := wrap_small _ (by omega) (by omega)
  obtain ⟨w2, hw2⟩ : ∃ w2, w2 = (W.alloc (.cells #[.int .i64 nodes, vx, vy, va] 25)).alloc (.cells #[.int .i64 0, .int .i64 0, .int .i64 6, .int .i64 X.length, .int .i64 nodes, .int .i64 (nodes + 1), .int .i64 0, .int .i64 1, .int .i64 6, .int .i64 Y.length, .int .i64 nodes, .int .i64 (nodes + 1)] 113) := ⟨_, rfl⟩
  have hb : Below W.heap.size W w2 := by rw [hw2]; exact ((Below.refl W.heap.size W).alloc (Nat.le_refl _) _).alloc (by simp) _
  have hS : SlP w2 (.slice (some ⟨W.heap.size + 1, 0, none⟩) 2 2) [⟨0, 0, 6, X.length, nodes, nodes + 1⟩, ⟨0, 1, 6, Y.length, nodes, nodes + 1⟩] := by
    have h := Blk.new (W.alloc (.cells #[.int .i64 nodes, vx, vy, va] 25)) #[.int .i64 0, .int .i64 0, .int .i64 6, .int .i64 X.length, .int .i64 nodes, .int .i64 (nodes + 1), .int .i64 0, .int .i64 1, .int .i64 6, .int .i64 Y.length, .int .i64 nodes, .int .i64 (nodes + 1)] 113 (0, 0)
    rw [World.size_alloc, ← hw2] at h
    exact slP_new (L := [⟨0, 0, 6, X.length, nodes, nodes + 1⟩, ⟨0, 1, 6, Y.length, nodes, nodes + 1⟩]) h rfl (by show 2 ≤ 1000; omega)
  have C := Lib.hid (values_new (m - 1) _ _ _ hS rfl); have HB := Lib.hid hb; have HW2 := Lib.hid hw2
  obtain ⟨ax, cx, rfl, _⟩ := hx
  obtain ⟨ay, cy, rfl, _⟩ := hy
  obtain ⟨aa, ca, rfl, _⟩ := ha
  clear hb hS hw2
  refine callsIn_of_wp Tryd.func66 rfl (by simp [FK, Fence.list]) ?_ rfl
  simp only [Tryd.ntmps66, List.size_toArray, List.length_cons, List.length_nil, Nat.reduceAdd, Nat.reduceSub, Array.replicate_succ, Array.replicate_zero, List.push_toArray, List.append_toArray, List.nil_append, List.cons_append]
  gi_wp2_with fail
  rw [← HW2.out]
  refine ⟨by simp [FK, Fence.list], ?_⟩
  refine C.out.mono ?_
  rintro e W2 ⟨gf, lb, rfl, h1, h2⟩
  have H1 := Lib.hid h1; have H2 := Lib.hid (HB.out.next' h2)
  clear h1 h2
  gi_wp2_with fail
  go_ret
  exact ⟨_, _, rfl, H1.out, H2.out⟩
set_option maxRecDepth 100000 in
set_option maxHeartbeats 4000000 in
theorem look2_in (m Br : Nat) (nodes : Int) (X Y : List Int) (ars : List Ar) (W : World) (h : RawAt W Br nodes X Y ars) (hn : 1 ≤ nodes ∧ nodes ≤ 16777216) :
    CallsIn FK m Tryd.prog 65 #[.pointer (some ⟨Br, 0, none⟩)] W fun e W' => ∃ gf lb, e = .returned (.func (.func gf) #[] lb) ∧ ItOf W' gf lb [⟨0, 0, 6, X.length, nodes, nodes + 1⟩, ⟨0, 1, 6, Y.length, nodes, nodes + 1⟩] ∧ Below W.heap.size W W' := by
  obtain ⟨vx, vy, va, hb, hx, hy, ha⟩ := h
  have c0 := hb.cell 0; have c1 := hb.cell 1; have c2 := hb.cell 2; have c3 := hb.cell 3
  change W.cell? ⟨Br, 0, none⟩ = some (.int .i64 nodes) at c0
  change W.cell? ⟨Br, 1, none⟩ = some vx at c1
  change W.cell? ⟨Br, 2, none⟩ = some vy at c2
  change W.cell? ⟨Br, 3, none⟩ = some va at c3
  have C := Lib.hid (shapes_new (m - 1) vx vy va nodes X Y ars W hx hy ha hn)
  clear hx hy ha hb
  refine callsIn_of_wp Tryd.func65 rfl (by simp [FK, Fence.list]) ?_ rfl
  simp only [Tryd.ntmps65, List.size_toArray, List.length_cons, List.length_nil, Nat.reduceAdd, Nat.reduceSub, Array.replicate_succ, Array.replicate_zero, List.push_toArray, List.append_toArray, List.nil_append, List.cons_append]
  gi_wp2_with fail
  refine ⟨by simp [FK, Fence.list], ?_⟩
  refine C.out.mono ?_
  rintro e W2 ⟨gf, lb, rfl, h1, h2⟩
  have H1 := Lib.hid h1; have H2 := Lib.hid h2
  clear h1 h2
  gi_wp2_with fail
  go_ret
  exact ⟨_, _, rfl, H1.out, H2.out⟩
set_option maxRecDepth 100000 in
set_option maxHeartbeats 4000000 in
theorem look3_in (m Br : Nat) (nodes : Int) (X Y : List Int) (ars : List Ar) (W : World) (h : RawAt W Br nodes X Y ars) (hl : X.length = Y.length) :
    CallsIn FK m Tryd.prog 67 #[.pointer (some ⟨Br, 0, none⟩)] W fun e W' => ∃ gf lb, e = .returned (.func (.func gf) #[] lb) ∧ ItOf W' gf lb (nodesP X Y X.length) ∧ Below W.heap.size W W' := by
  obtain ⟨vx, vy, va, hb, hx, hy, ha⟩ := h
  have c0 := hb.cell 0; have c1 := hb.cell 1; have c2 := hb.cell 2; have c3 := hb.cell 3
  change W.cell? ⟨Br, 0, none⟩ = some (.int .i64 nodes) at c0
  change W.cell? ⟨Br, 1, none⟩ = some vx at c1
  change W.cell? ⟨Br, 2, none⟩ = some vy at c2
  change W.cell? ⟨Br, 3, none⟩ = some va at c3
  have C := Lib.hid (nodes_new (m - 1) vx vy va nodes X Y ars W hx hy ha hl)
  clear hx hy ha hb hl
  refine callsIn_of_wp Tryd.func67 rfl (by simp [FK, Fence.list]) ?_ rfl
  simp only [Tryd.ntmps67, List.size_toArray, List.length_cons, List.length_nil, Nat.reduceAdd, Nat.reduceSub, Array.replicate_succ, Array.replicate_zero, List.push_toArray, List.append_toArray, List.nil_append, List.cons_append]
  gi_wp2_with fail
  refine ⟨by simp [FK, Fence.list], ?_⟩
  refine C.out.mono ?_
  rintro e W2 ⟨gf, lb, rfl, h1, h2⟩
  have H1 := Lib.hid h1; have H2 := Lib.hid h2
  clear h1 h2
  gi_wp2_with fail
  go_ret
  exact ⟨_, _, rfl, H1.out, H2.out⟩
set_option maxRecDepth 100000 in
set_option maxHeartbeats 4000000 in
theorem look5_in (m Br : Nat) (nodes : Int) (X Y : List Int) (ars : List Ar) (W : World) (h : RawAt W Br nodes X Y ars) :
    CallsIn FK m Tryd.prog 70 #[.pointer (some ⟨Br, 0, none⟩)] W fun e W' => ∃ gf lb, e = .returned (.func (.func gf) #[] lb) ∧ ItOf W' gf lb (arcsP nodes ars ars.length) ∧ Below W.heap.size W W' := by
  obtain ⟨vx, vy, va, hb, hx, hy, ha⟩ := h
  have c0 := hb.cell 0; have c1 := hb.cell 1; have c2 := hb.cell 2; have c3 := hb.cell 3
  change W.cell? ⟨Br, 0, none⟩ = some (.int .i64 nodes) at c0
  change W.cell? ⟨Br, 1, none⟩ = some vx at c1
  change W.cell? ⟨Br, 2, none⟩ = some vy at c2
  change W.cell? ⟨Br, 3, none⟩ = some va at c3
  have C := Lib.hid (arcs_new (m - 1) vx vy va nodes X Y ars W hx hy ha)
  clear hx hy ha hb
  refine callsIn_of_wp Tryd.func70 rfl (by simp [FK, Fence.list]) ?_ rfl
  simp only [Tryd.ntmps70, List.size_toArray, List.length_cons, List.length_nil, Nat.reduceAdd, Nat.reduceSub, Array.replicate_succ, Array.replicate_zero, List.push_toArray, List.append_toArray, List.nil_append, List.cons_append]
  gi_wp2_with fail
  refine ⟨by simp [FK, Fence.list], ?_⟩
  refine C.out.mono ?_
  rintro e W2 ⟨gf, lb, rfl, h1, h2⟩
  have H1 := Lib.hid h1; have H2 := Lib.hid h2
  clear h1 h2
  gi_wp2_with fail
  go_ret
  exact ⟨_, _, rfl, H1.out, H2.out⟩
set_option maxRecDepth 100000 in
set_option maxHeartbeats 4000000 in
theorem look4_in (m Br : Nat) (nodes : Int) (X Y : List Int) (ars : List Ar) (W : World) (h : RawAt W Br nodes X Y ars) :
    CallsIn FK m Tryd.prog 69 #[.pointer (some ⟨Br, 0, none⟩)] W fun e W' => ∃ gf lb, e = .returned (.func (.func gf) #[] lb) ∧ ItOf W' gf lb [⟨0, 0, 8, ars.length, 0, 67108865⟩] ∧ Below W.heap.size W W' := by
  obtain ⟨vx, vy, va, hb, hx, hy, ha⟩ := h
  obtain ⟨aa, ca, rfl, _⟩ := ha
  have c3 := hb.cell 3
  change W.cell? ⟨Br, 3, none⟩ = some (.slice aa ars.length ca) at c3
  have C := Lib.hid (one_in (m - 1) 8 ars.length 0 67108865 W)
  clear hx hy hb
  refine callsIn_of_wp Tryd.func69 rfl (by simp [FK, Fence.list]) ?_ rfl
  simp only [Tryd.ntmps69, List.size_toArray, List.length_cons, List.length_nil, Nat.reduceAdd, Nat.reduceSub, Array.replicate_succ, Array.replicate_zero, List.push_toArray, List.append_toArray, List.nil_append, List.cons_append]
  gi_wp2_with fail
  refine ⟨by simp [FK, Fence.list], ?_⟩
  refine C.out.mono ?_
  rintro e W2 ⟨gf, lb, rfl, h1, h2⟩
  have H1 := Lib.hid h1; have H2 := Lib.hid h2
  clear h1 h2
  gi_wp2_with fail
  go_ret
  exact ⟨_, _, rfl, H1.out, H2.out⟩
end Go.Proofs.YtnkcmlngoeofgaaDoor
