/- Texts of the law CellNorms, merged: GrArcs, GrNodes, Own, GrSl, GrClone, HeldIn. -/
import Derived.Test.YtjobijmmjebpaaaDoorPCellNorms00
import Derived.WalkKit
import Derived.Maps.AppendAt
import Derived.Deep.AppendSrc
import Derived.Deep.AppendLies
import Derived.WalkSpells
import Derived.OrdersIn
import Derived.OrdersHeld
/- graph's iterators, where the body may panic: arcs. -/
namespace Go.Proofs.YtjobijmmjebpaaaDoor
open Go.RowKit Go.Shelf
attribute [local go_sem] Oper.semAt_some FK_round FK_depth Oper.semAt_none
theorem flat_cells : ∀ (L : List Pl) (i : Nat) (hi : i < L.length) (j : Nat) (u : Value), L[i].cells[j]? = some u → (L.flatMap Pl.cells)[i * 6 + j]? = some u
  | x :: L, 0, _, j, u, h => by
    rw [List.flatMap_cons, Nat.zero_mul, Nat.zero_add, List.getElem?_append_left]
    · exact h
    · have := (List.getElem?_eq_some_iff.1 h).1
      exact this
  | x :: L, i + 1, hi, j, u, h => by
    rw [List.flatMap_cons, List.getElem?_append_right (by show 6 ≤ (i + 1) * 6 + j; omega), show (i + 1) * 6 + j - x.cells.length = i * 6 + j by show (i + 1) * 6 + j - 6 = _; omega]
    exact flat_cells L i (by simpa using hi) j u h
theorem slP_new {w : World} {g : Nat} {cs : Array Value} {t : TypeId} {fr : Nat × Nat} {L : List Pl} (hb : Blk w g cs t fr) (hcs : cs = (L.flatMap Pl.cells).toArray) (hl : L.length ≤ 1000) : SlP w (.slice (some ⟨g, 0, none⟩) L.length L.length) L :=
  ⟨_, _, rfl, Nat.le_refl _, by unfold maxLen; omega, fun i hi => ⟨g, 0, cs, t, fr, rfl, hb, fun j u h => by rw [hcs, Nat.zero_add, List.getElem?_toArray]; exact flat_cells L i hi j u h⟩⟩
/-- v is a slice of arcs -/
def SlA (w : World) (v : Value) (L : List Ar) : Prop :=
  ∃ (a : Option Addr) (cap : Nat), v = .slice a L.length cap ∧ L.length ≤ cap ∧ cap ≤ maxLen ∧ ∀ i (h : i < L.length), ∃ b off cs t fr, a = some ⟨b, off, none⟩ ∧ Blk w b cs t fr ∧ cs[off + i * 3]? = some (.int .i64 L[i].1) ∧ cs[off + i * 3 + 1]? = some (.int .i64 L[i].2.1) ∧ cs[off + i * 3 + 2]? = some (.int .i64 L[i].2.2)
theorem SlA.keep {w w' : World} {v : Value} {L : List Ar} (h : SlA w v L) (hk : KpC w w') : SlA w' v L := by
  obtain ⟨a, cap, e, h1, h2, h3⟩ := h
  refine ⟨a, cap, e, h1, h2, fun i hi => ?_⟩
  obtain ⟨b, off, cs, t, fr, ea, hb, hc⟩ := h3 i hi
  exact ⟨b, off, cs, t, fr, ea, hk.blk hb, hc⟩
/-- the places of the first k arcs -/
def arcsP (nodes : Int) (L : List Ar) : Nat → List Pl
  | 0 => []
  | k + 1 => arcsP nodes L k ++ arcP nodes k (L[k]?.getD (0, 0, 0))
theorem arcsP_succ (nodes : Int) (L : List Ar) (k : Nat) (hk : k < L.length) : arcsP nodes L (k + 1) = arcsP nodes L k ++ arcP nodes k L[k] := by
  show _ ++ arcP nodes k (L[k]?.getD (0, 0, 0)) = _
  rw [List.getElem?_eq_getElem hk]; rfl
theorem arcsP_len (nodes : Int) (L : List Ar) (k : Nat) : (arcsP nodes L k).length = 3 * k := by
  induction k with
  | zero => rfl
  | succ k ih => show (arcsP nodes L k ++ arcP nodes k (L[k]?.getD (0, 0, 0))).length = _; rw [List.length_append, ih]; show 3 * k + 3 = _; omega
theorem arcsP_pre (nodes : Int) (L : List Ar) (k d : Nat) : arcsP nodes L k <+: arcsP nodes L (k + d) := by
  induction d with
  | zero => exact List.prefix_refl _
  | succ d ih => exact ih.trans (List.prefix_append _ _)
set_option maxRecDepth 100000 in
set_option maxHeartbeats 4000000 in
theorem arcs_in (m : Nat) (L Br : Nat) (nodes : Int) (vx vy va : Value) (ars : List Ar) (J : List Pl → World → Prop) (U : List PanicEntry → List Pl → World → Prop) (hJA : ∀ s W W', J s W → Below W.heap.size W W' → J s W')
    (hY : ∀ pre x W, J pre W → pre.length < 3 * ars.length → YieldAt FK (m - 1) Tryd.prog L (encP x) W fun e W' =>
      (e = .returned (.bool true) ∧ J (pre ++ [x]) W' ∧ KpC W W') ∨ (∃ ch, e = .panicked ch ∧ U ch (pre ++ [x]) W'))
    (W : World) (hBr : Blk W Br #[.int .i64 nodes, vx, vy, va] 26 (0, 0)) (hsl : SlA W va ars) (h0 : J [] W) :
    CallsIn FK m Tryd.prog 78 #[.func (.yield L) #[] #[], .pointer (some ⟨Br, 0, none⟩)] W fun e W' =>
      (∃ v, e = .returned v ∧ J (arcsP nodes ars ars.length) W') ∨ (∃ ch xs, e = .panicked ch ∧ xs <+: arcsP nodes ars ars.length ∧ U ch xs W') := by
  obtain ⟨a, cap, rfl, hcap, hmx, _⟩ := id hsl
  unfold maxLen at hmx
  have c0 := hBr.cell 0; have c3 := hBr.cell 3
  change W.cell? ⟨Br, 0, none⟩ = some (.int .i64 nodes) at c0
  change W.cell? ⟨Br, 3, none⟩ = some (.slice a ars.length cap) at c3
  refine callsIn_of_wp Tryd.func78 rfl (by simp [FK, Fence.list]) ?_ rfl
  simp only [Tryd.ntmps78, List.size_toArray, List.length_cons, List.length_nil, Nat.reduceAdd, Nat.reduceSub, Array.replicate_succ, Array.replicate_zero, List.push_toArray, List.append_toArray, List.nil_append, List.cons_append]
  gi_wp2_with fail
  gi_loopw [13] (fun i wr => ∃ (k : Nat), k ≤ ars.length ∧ i = .int .i64 k ∧ SlA wr (.slice a ars.length cap) ars ∧ J (arcsP nodes ars k) wr) (fun i _ => ars.length - (intOf i).toNat)
  case atStart => exact ⟨0, Nat.zero_le _, rfl, hsl, h0⟩
  case round =>
    obtain ⟨k, hk, rfl, hsk, hJ⟩ := hrel
    by_cases hlt : k < ars.length
    · obtain ⟨b, off, ha, d0, d1, d2⟩ : ∃ b off, a = some ⟨b, off, none⟩ ∧ wr.cell? ⟨b, off + k * 3, none⟩ = some (.int .i64 ars[k].1) ∧ wr.cell? ⟨b, off + k * 3 + 1, none⟩ = some (.int .i64 ars[k].2.1) ∧ wr.cell? ⟨b, off + k * 3 + 2, none⟩ = some (.int .i64 ars[k].2.2) := by
        obtain ⟨a', cap', e, _, _, h3⟩ := id hsk
        obtain ⟨b, off, cs, t, fr, ea, hb, h0, h1, h2⟩ := h3 k hlt
        have e3 := (Value.slice.inj e).1
        refine ⟨b, off, by rw [e3, ea], ?_, ?_, ?_⟩
        · rw [hb.cell]; exact h0
        · rw [hb.cell]; exact h1
        · rw [hb.cell]; exact h2
      subst ha
      have hsc := arcsP_succ nodes ars k hlt
      have hpf : arcsP nodes ars (k + 1) <+: arcsP nodes ars ars.length := by
        have h := arcsP_pre nodes ars (k + 1) (ars.length - (k + 1))
        rwa [show k + 1 + (ars.length - (k + 1)) = ars.length by omega] at h
      have hlen := arcsP_len nodes ars k
      have i1 : (0 : Int) ≤ (k : Int) := by omega
      have i2 : (k : Int) < (ars.length : Int) := by omega
      obtain ⟨x, hx⟩ : ∃ x, x = ars[k] := ⟨_, rfl⟩
      rw [← hx] at d0 d1 d2 hsc
      obtain ⟨x1, x2, x3⟩ := x
      simp only at d0 d1 d2
      obtain ⟨w2, hw2⟩ : ∃ w2, w2 = (wr.alloc (.cells #[.int .i64 x1, .int .i64 x2, .int .i64 x3] 45)).alloc (.cells ((arcP nodes k (x1, x2, x3)).flatMap Pl.cells).toArray 112) := ⟨_, rfl⟩
      have hb2 : Below wr.heap.size wr w2 := by rw [hw2]; exact ((Below.refl _ _).alloc (Nat.le_refl _) _).alloc (by simp) _
      have hS2 : SlP w2 (.slice (some ⟨wr.heap.size + 1, 0, none⟩) 3 3) (arcP nodes k (x1, x2, x3)) := by
        have hb : Blk w2 (wr.heap.size + 1) ((arcP nodes k (x1, x2, x3)).flatMap Pl.cells).toArray 112 (0, 0) := by
          rw [hw2]
          have h := Blk.new (wr.alloc (.cells #[.int .i64 x1, .int .i64 x2, .int .i64 x3] 45)) ((arcP nodes k (x1, x2, x3)).flatMap Pl.cells).toArray 112 (0, 0)
          rwa [World.size_alloc] at h
        exact slP_new hb rfl (by show 3 ≤ 1000; omega)
      have hJ2 := hJA _ _ _ hJ hb2
      have hA2 := hsk.keep (KpC.of_below hb2)
      have HY := Lib.hid hY; have HJ := Lib.hid hJ2; have HS := Lib.hid hS2; have HA := Lib.hid hA2; have HSc := Lib.hid hsc; have HPf := Lib.hid hpf; have HLen := Lib.hid hlen; have HW2 := Lib.hid hw2; have HJA := Lib.hid hJA
      clear hY hJ2 hS2 hA2 hsc hpf hx hsk hJ hlen hw2 hb2 hJA
      gi_wp2_with fail
      rw [show ((wr.alloc (.cells #[.int .i64 x1, .int .i64 x2, .int .i64 x3] 45)).alloc (.cells #[.int .i64 k, .int .i64 0, .int .i64 9, .int .i64 x1, .int .i64 0, .int .i64 nodes, .int .i64 k, .int .i64 1, .int .i64 9, .int .i64 x2, .int .i64 0, .int .i64 nodes, .int .i64 k, .int .i64 2, .int .i64 10, .int .i64 x3, .int .i64 0, .int .i64 2147483648] 112)) = w2 from by rw [HW2.out]; rfl]
      obtain ⟨g, hg⟩ : ∃ g, g = wr.heap.size := ⟨_, rfl⟩
      obtain ⟨ps, hps⟩ : ∃ ps, ps = arcP nodes k (x1, x2, x3) := ⟨_, rfl⟩
      have hl3 : ps.length = 3 := by rw [hps]; rfl
      rw [← hps] at HS HSc
      rw [← hg] at HS
      rw [← hg]
      clear hps HW2 d0 d1 d2 hg
      gi_loopw [34] (fun i wr => ∃ (j : Nat), j ≤ 3 ∧ i = .int .i64 j ∧ SlP wr (.slice (some ⟨g + 1, 0, none⟩) 3 3) ps ∧ SlA wr (.slice (some ⟨b, off, none⟩) ars.length cap) ars ∧ J (arcsP nodes ars k ++ ps.take j) wr) (fun i _ => 3 - (intOf i).toNat)
      case atStart => exact ⟨0, Nat.zero_le _, rfl, HS.out, HA.out, by rw [List.take_zero, List.append_nil]; exact HJ.out⟩
      case round =>
        clear HS HA HJ
        obtain ⟨j, hj, rfl, hsk, hak, hJ⟩ := hrel
        by_cases hj3 : j < 3
        · have hlj : j < ps.length := by omega
          obtain ⟨d0, d1, d2, d3, d4, d5⟩ : wr.cell? ⟨g + 1, j * 6, none⟩ = some (.int .i64 ps[j].ix) ∧ wr.cell? ⟨g + 1, j * 6 + 1, none⟩ = some (.int .i64 ps[j].fl) ∧ wr.cell? ⟨g + 1, j * 6 + 2, none⟩ = some (.int .i64 ps[j].co) ∧ wr.cell? ⟨g + 1, j * 6 + 3, none⟩ = some (.int .i64 ps[j].n) ∧ wr.cell? ⟨g + 1, j * 6 + 4, none⟩ = some (.int .i64 ps[j].lo) ∧ wr.cell? ⟨g + 1, j * 6 + 5, none⟩ = some (.int .i64 ps[j].hi) := by
            obtain ⟨a', cap', e, _, _, h3⟩ := id hsk
            obtain ⟨b', off', cs, t, fr, ea, hb, hc⟩ := h3 j hlj
            have e3 := (Value.slice.inj e).1
            rw [ea] at e3
            simp only [Option.some.injEq, Addr.mk.injEq] at e3
            obtain ⟨rfl, rfl, _⟩ := e3
            rw [Nat.zero_add] at hc
            refine ⟨?_, ?_, ?_, ?_, ?_, ?_⟩
            · rw [hb.cell]; exact hc 0 _ rfl
            · rw [hb.cell]; exact hc 1 _ rfl
            · rw [hb.cell]; exact hc 2 _ rfl
            · rw [hb.cell]; exact hc 3 _ rfl
            · rw [hb.cell]; exact hc 4 _ rfl
            · rw [hb.cell]; exact hc 5 _ rfl
          have hst : ps.take (j + 1) = ps.take j ++ [ps[j]] := List.take_succ_eq_append_getElem hlj
          have hpl : (arcsP nodes ars k ++ ps.take j).length < 3 * ars.length := by rw [List.length_append, HLen.out, List.length_take]; omega
          have hpx : (arcsP nodes ars k ++ ps.take j) ++ [ps[j]] <+: arcsP nodes ars ars.length := by
            rw [List.append_assoc, ← hst]
            refine List.IsPrefix.trans ?_ HPf.out
            rw [HSc.out]
            exact (List.prefix_append_right_inj _).2 (List.take_prefix _ _)
          have j1 : (0 : Int) ≤ (j : Int) := by omega
          have j2 : (j : Int) < 3 := by omega
          obtain ⟨x, hx⟩ : ∃ x, x = ps[j] := ⟨_, rfl⟩
          rw [← hx] at d0 d1 d2 d3 d4 d5 hst hpx
          have hJx := fun o => HJA.out _ _ (wr.alloc o) hJ ((Below.refl _ _).alloc (Nat.le_refl _) o)
          have hsx := fun o => hsk.keep (KpC.of_below ((Below.refl wr.heap.size wr).alloc (Nat.le_refl _) o))
          have hax := fun o => hak.keep (KpC.of_below ((Below.refl wr.heap.size wr).alloc (Nat.le_refl _) o))
          have HJ := Lib.hid hJx; have HS := Lib.hid hsx; have HA := Lib.hid hax; have HSt := Lib.hid hst; have HPx := Lib.hid hpx
          clear hJx hsx hax hst hpx hx hsk hak hJ
          gi_wp2_with fail
          obtain ⟨fn, tmps, assign, body, hy, hR⟩ := HY.out _ x _ (HJ.out (.cells #[.int .i64 x.ix, .int .i64 x.fl, .int .i64 x.co, .int .i64 x.n, .int .i64 x.lo, .int .i64 x.hi] 112)) hpl
          unfold encP at hy
          rw [hy]
          rw [Oper.uponIn_round]
          refine ⟨fun h => (by cases h), ?_⟩
          refine hR.mono ?_
          rintro e W3 (⟨rfl, hJ3, hk3⟩ | ⟨ch, rfl, hU⟩)
          · have HS3 := Lib.hid ((HS.out _).keep hk3); have HA3 := Lib.hid ((HA.out _).keep hk3); have HJ3 := Lib.hid hJ3
            clear hJ3 hk3 hy hR
            gi_wp2_with fail
            go_roundw
            case rel => exact ⟨j + 1, by omega, by go_num, HS3.out, HA3.out, by rw [HSt.out, ← List.append_assoc]; exact HJ3.out⟩
            case measure => simp [intOf]; omega
          · exact ⟨rfl, .inr ⟨ch, _, rfl, HPx.out, hU⟩⟩
        · obtain rfl : j = 3 := by omega
          have hJ' : J (arcsP nodes ars (k + 1)) wr := by
            rw [HSc.out]
            rw [List.take_of_length_le (by omega)] at hJ
            exact hJ
          have HJ' := Lib.hid hJ'; have HA' := Lib.hid hak
          clear hJ hJ' hak hsk
          gi_wp2_with fail
          go_roundw
          case rel => exact ⟨k + 1, by omega, by go_num, HA'.out, HJ'.out⟩
          case measure => simp [intOf]; omega
    · obtain rfl : k = ars.length := by omega
      gi_wp2_with fail
      go_end0
      exact .inl ⟨_, rfl, hJ⟩
end Go.Proofs.YtjobijmmjebpaaaDoor
/- graph's iterators, where the body may panic: nodes. -/
namespace Go.Proofs.YtjobijmmjebpaaaDoor
open Go.RowKit Go.Shelf
attribute [local go_sem] Oper.semAt_some FK_round FK_depth Oper.semAt_none
/-- v is a slice of numbers, its block known -/
def SlX (w : World) (v : Value) (L : List Int) : Prop :=
  ∃ (a : Option Addr) (cap : Nat), v = .slice a L.length cap ∧ L.length ≤ cap ∧ cap ≤ maxLen ∧ ∀ i (h : i < L.length), ∃ b off cs t fr, a = some ⟨b, off, none⟩ ∧ Blk w b cs t fr ∧ cs[off + i]? = some (.int .i64 L[i])
theorem SlX.keep {w w' : World} {v : Value} {L : List Int} (h : SlX w v L) (hk : KpC w w') : SlX w' v L := by
  obtain ⟨a, cap, e, h1, h2, h3⟩ := h
  refine ⟨a, cap, e, h1, h2, fun i hi => ?_⟩
  obtain ⟨b, off, cs, t, fr, ea, hb, hc⟩ := h3 i hi
  exact ⟨b, off, cs, t, fr, ea, hk.blk hb, hc⟩
theorem SlX.at {w : World} {a : Option Addr} {n cap : Nat} {L : List Int} (h : SlX w (.slice a n cap) L) (k : Nat) (hk : k < L.length) : ∃ b off, a = some ⟨b, off, none⟩ ∧ w.cell? ⟨b, off + k, none⟩ = some (.int .i64 L[k]) := by
  obtain ⟨a', cap', e, _, _, h3⟩ := h
  obtain ⟨b, off, cs, t, fr, ea, hb, hc⟩ := h3 k hk
  have e3 := (Value.slice.inj e).1
  exact ⟨b, off, by rw [e3, ea], by rw [hb.cell]; exact hc⟩
/-- the places of the first k nodes -/
def nodesP (X Y : List Int) : Nat → List Pl
  | 0 => []
  | k + 1 => nodesP X Y k ++ nodeP k (X[k]?.getD 0, Y[k]?.getD 0)
theorem nodesP_succ (X Y : List Int) (k : Nat) (hx : k < X.length) (hy : k < Y.length) : nodesP X Y (k + 1) = nodesP X Y k ++ nodeP k (X[k], Y[k]) := by
  show _ ++ nodeP k (X[k]?.getD 0, Y[k]?.getD 0) = _
  rw [List.getElem?_eq_getElem hx, List.getElem?_eq_getElem hy]; rfl
theorem nodesP_len (X Y : List Int) (k : Nat) : (nodesP X Y k).length = 2 * k := by
  induction k with
  | zero => rfl
  | succ k ih => show (nodesP X Y k ++ nodeP k (X[k]?.getD 0, Y[k]?.getD 0)).length = _; rw [List.length_append, ih]; show 2 * k + 2 = _; omega
theorem nodesP_pre (X Y : List Int) (k d : Nat) : nodesP X Y k <+: nodesP X Y (k + d) := by
  induction d with
  | zero => exact List.prefix_refl _
  | succ d ih => exact ih.trans (List.prefix_append _ _)
set_option maxRecDepth 100000 in
set_option maxHeartbeats 4000000 in
theorem nodes_in (m : Nat) (L Br : Nat) (nodes : Int) (vx vy va : Value) (X Y : List Int) (J : List Pl → World → Prop) (U : List PanicEntry → List Pl → World → Prop) (hJA : ∀ s W W', J s W → Below W.heap.size W W' → J s W')
    (hY : ∀ pre x W, J pre W → pre.length < 2 * X.length → YieldAt FK (m - 1) Tryd.prog L (encP x) W fun e W' =>
      (e = .returned (.bool true) ∧ J (pre ++ [x]) W' ∧ KpC W W') ∨ (∃ ch, e = .panicked ch ∧ U ch (pre ++ [x]) W'))
    (W : World) (hBr : Blk W Br #[.int .i64 nodes, vx, vy, va] 26 (0, 0)) (hxs : SlX W vx X) (hys : SlX W vy Y) (hl : X.length = Y.length) (h0 : J [] W) :
    CallsIn FK m Tryd.prog 77 #[.func (.yield L) #[] #[], .pointer (some ⟨Br, 0, none⟩)] W fun e W' =>
      (∃ v, e = .returned v ∧ J (nodesP X Y X.length) W') ∨ (∃ ch xs, e = .panicked ch ∧ xs <+: nodesP X Y X.length ∧ U ch xs W') := by
  obtain ⟨ax, cx, rfl, hcx, hmx, _⟩ := id hxs
  obtain ⟨ay, cy, rfl, hcy, hmy, _⟩ := id hys
  unfold maxLen at hmx hmy
  have HL := Lib.hid hl
  clear hl
  have c1 := hBr.cell 1
  change W.cell? ⟨Br, 1, none⟩ = some (.slice ax X.length cx) at c1
  refine callsIn_of_wp Tryd.func77 rfl (by simp [FK, Fence.list]) ?_ rfl
  simp only [Tryd.ntmps77, List.size_toArray, List.length_cons, List.length_nil, Nat.reduceAdd, Nat.reduceSub, Array.replicate_succ, Array.replicate_zero, List.push_toArray, List.append_toArray, List.nil_append, List.cons_append]
  gi_wp2_with fail
  gi_loopw [9] (fun i wr => ∃ (k : Nat), k ≤ X.length ∧ i = .int .i64 k ∧ Blk wr Br #[.int .i64 nodes, .slice ax X.length cx, .slice ay Y.length cy, va] 26 (0, 0) ∧ SlX wr (.slice ax X.length cx) X ∧ SlX wr (.slice ay Y.length cy) Y ∧ J (nodesP X Y k) wr) (fun i _ => X.length - (intOf i).toNat)
  case atStart => exact ⟨0, Nat.zero_le _, rfl, hBr, hxs, hys, h0⟩
  case round =>
    obtain ⟨k, hk, rfl, hbk, hxk, hyk, hJ⟩ := hrel
    by_cases hlt : k < X.length
    · have hlt' : k < Y.length := by have := HL.out; omega
      obtain ⟨bx, ox, rfl, dx⟩ := hxk.at k hlt
      obtain ⟨by', oy, rfl, dy⟩ := hyk.at k hlt'
      have e1 := hbk.cell 1; have e2 := hbk.cell 2
      change wr.cell? ⟨Br, 1, none⟩ = some (.slice (some ⟨bx, ox, none⟩) X.length cx) at e1
      change wr.cell? ⟨Br, 2, none⟩ = some (.slice (some ⟨by', oy, none⟩) Y.length cy) at e2
      have hsc := nodesP_succ X Y k hlt hlt'
      have hpf : nodesP X Y (k + 1) <+: nodesP X Y X.length := by
        have h := nodesP_pre X Y (k + 1) (X.length - (k + 1))
        rwa [show k + 1 + (X.length - (k + 1)) = X.length by omega] at h
      have hlen := nodesP_len X Y k
      have i1 : (0 : Int) ≤ (k : Int) := by omega
      have i2 : (k : Int) < (X.length : Int) := by omega
      have i3 : (k : Int) < (Y.length : Int) := by omega
      obtain ⟨x, hx⟩ : ∃ x, x = X[k] := ⟨_, rfl⟩
      obtain ⟨y, hy⟩ : ∃ y, y = Y[k] := ⟨_, rfl⟩
      rw [← hx] at dx hsc
      rw [← hy] at dy hsc
      clear hx hy
      have HBk := Lib.hid hbk; have HXk := Lib.hid hxk; have HYk := Lib.hid hyk; have HJk := Lib.hid hJ; have HSc := Lib.hid hsc; have HPf := Lib.hid hpf; have HLen := Lib.hid hlen; have HY := Lib.hid hY; have HJA := Lib.hid hJA
      clear hbk hxk hyk hJ hsc hpf hlen hY hJA
      gi_wp2_with fail
      gi_region
      obtain ⟨w2, hw2⟩ : ∃ w2, w2 = (wr.alloc (.cells #[.int .i64 x, .int .i64 y] 2)).drew := ⟨_, rfl⟩
      rw [← hw2]
      obtain ⟨g, hg⟩ : ∃ g, g = wr.heap.size := ⟨_, rfl⟩
      rw [← hg]
      have hb2 : Below wr.heap.size wr w2 := by rw [hw2]; exact ((Below.refl _ _).alloc (Nat.le_refl _) _).drew
      have hbg : Blk w2 g #[.int .i64 x, .int .i64 y] 2 (0, 0) := by rw [hw2, hg]; exact (Blk.new _ _ _ _ : Blk (wr.alloc (.cells #[.int .i64 x, .int .i64 y] 2)) wr.heap.size _ _ _)
      have HB := Lib.hid ((KpC.of_below hb2).blk HBk.out); have HX := Lib.hid (HXk.out.keep (KpC.of_below hb2)); have HYY := Lib.hid (HYk.out.keep (KpC.of_below hb2)); have HJ := Lib.hid (HJA.out _ _ _ HJk.out hb2); have HG := Lib.hid hbg
      clear hb2 hbg hw2 hg HBk HXk HYk HJk dx dy e1 e2
      gi_wp2_with fail
      gi_loopw [24] (fun i wr => ∃ (j : Nat), j ≤ 2 ∧ i = .int .i64 j ∧ Blk wr g #[.int .i64 x, .int .i64 y] 2 (0, 0) ∧ Blk wr Br #[.int .i64 nodes, .slice (some ⟨bx, ox, none⟩) X.length cx, .slice (some ⟨by', oy, none⟩) Y.length cy, va] 26 (0, 0) ∧ SlX wr (.slice (some ⟨bx, ox, none⟩) X.length cx) X ∧ SlX wr (.slice (some ⟨by', oy, none⟩) Y.length cy) Y ∧ J (nodesP X Y k ++ (nodeP k (x, y)).take j) wr) (fun i _ => 2 - (intOf i).toNat)
      case atStart => exact ⟨0, Nat.zero_le _, rfl, HG.out, HB.out, HX.out, HYY.out, by rw [List.take_zero, List.append_nil]; exact HJ.out⟩
      case round =>
        clear HG HB HX HYY HJ
        obtain ⟨j, hj, rfl, hgk, hbk, hxk, hyk, hJ⟩ := hrel
        by_cases hj2 : j < 2
        · obtain ⟨z, hz, hst⟩ : ∃ z, wr.cell? ⟨g, j, none⟩ = some (.int .i64 z) ∧ (nodeP k (x, y)).take (j + 1) = (nodeP k (x, y)).take j ++ [(⟨k, j, 7, z, -2147483648, 2147483648⟩ : Pl)] := by
            have h01 : j = 0 ∨ j = 1 := by omega
            rcases h01 with rfl | rfl
            · exact ⟨x, by rw [hgk.cell]; rfl, rfl⟩
            · exact ⟨y, by rw [hgk.cell]; rfl, rfl⟩
          have hpl : (nodesP X Y k ++ (nodeP k (x, y)).take j).length < 2 * X.length := by
            rw [List.length_append, HLen.out, List.length_take]; omega
          have hpx : (nodesP X Y k ++ (nodeP k (x, y)).take j) ++ [(⟨k, j, 7, z, -2147483648, 2147483648⟩ : Pl)] <+: nodesP X Y X.length := by
            rw [List.append_assoc, ← hst]
            refine List.IsPrefix.trans ?_ HPf.out
            rw [HSc.out]
            exact (List.prefix_append_right_inj _).2 (List.take_prefix _ _)
          have j1 : (0 : Int) ≤ (j : Int) := by omega
          have j2 : (j : Int) < 2 := by omega
          have HG := Lib.hid hgk; have HB := Lib.hid hbk; have HX := Lib.hid hxk; have HYY := Lib.hid hyk; have HJ := Lib.hid hJ; have HSt := Lib.hid hst; have HPx := Lib.hid hpx
          clear hgk hbk hxk hyk hJ hst hpx
          gi_wp2_with fail
          obtain ⟨fn, tmps, assign, body, hy, hR⟩ := HY.out _ ⟨k, j, 7, z, -2147483648, 2147483648⟩ _ HJ.out hpl
          unfold encP at hy
          rw [hy]
          rw [Oper.uponIn_round]
          refine ⟨fun h => (by cases h), ?_⟩
          refine hR.mono ?_
          rintro e W3 (⟨rfl, hJ3, hk3⟩ | ⟨ch, rfl, hU⟩)
          · have HG3 := Lib.hid (hk3.blk HG.out); have HB3 := Lib.hid (hk3.blk HB.out); have HX3 := Lib.hid (HX.out.keep hk3); have HY3 := Lib.hid (HYY.out.keep hk3); have HJ3 := Lib.hid hJ3
            clear hJ3 hk3 hy hR hz
            gi_wp2_with fail
            go_roundw
            case rel => exact ⟨j + 1, by omega, by go_num, HG3.out, HB3.out, HX3.out, HY3.out, by rw [HSt.out, ← List.append_assoc]; exact HJ3.out⟩
            case measure => simp [intOf]; omega
          · exact ⟨rfl, .inr ⟨ch, _, rfl, HPx.out, hU⟩⟩
        · obtain rfl : j = 2 := by omega
          have hJ' : J (nodesP X Y (k + 1)) wr := by
            rw [HSc.out]
            exact hJ
          have HJ' := Lib.hid hJ'; have HB' := Lib.hid hbk; have HX' := Lib.hid hxk; have HY' := Lib.hid hyk
          clear hJ hJ' hgk hbk hxk hyk
          gi_wp2_with fail
          go_roundw
          case rel => exact ⟨k + 1, by omega, by go_num, HB'.out, HX'.out, HY'.out, HJ'.out⟩
          case measure => simp [intOf]; omega
    · obtain rfl : k = X.length := by omega
      gi_wp2_with fail
      go_end0
      exact .inl ⟨_, rfl, hJ⟩
end Go.Proofs.YtjobijmmjebpaaaDoor
/-
  SLICES OF NUMBERS THAT THE CALL ITSELF HAS MADE, from their block's head on: read, written, appended to.
-/
namespace Go.Proofs.YtjobijmmjebpaaaDoor
open Go.RowKit

/-- v is a slice of the numbers l, from the head of block g on, which is ours -/
def OwnI (w : World) (v : Value) (g : Nat) (e : TypeId) (k : IntKind) (l : List Int) : Prop :=
  ∃ (cap : Nat) (ex : Array Value), v = .slice (some ⟨g, 0, none⟩) l.length cap ∧ Blk w g (icells k l ++ ex) e (0, 0) ∧ l.length + ex.size = cap ∧ cap ≤ maxLen
theorem icells_get' (k : IntKind) (l : List Int) (ex : Array Value) (i : Nat) (hi : i < l.length) : (icells k l ++ ex)[i]? = some (.int k l[i]) := by
  rw [Array.getElem?_append_left (by rw [icells_size]; exact hi)]; exact icells_get k l i hi
theorem icells_set' (k : IntKind) (l : List Int) (ex : Array Value) (i : Nat) (hi : i < l.length) (x : Int) : (icells k l ++ ex).setIfInBounds i (.int k x) = icells k (l.set i x) ++ ex := by
  rw [Array.setIfInBounds_append_left (by rw [icells_size]; exact hi), icells_set]
theorem OwnI.sl {w : World} {v : Value} {g : Nat} {e : TypeId} {k : IntKind} {l : List Int} (h : OwnI w v g e k l) : SlI w v k l := by
  obtain ⟨cap, ex, rfl, hb, h1, h2⟩ := h
  exact ⟨_, cap, rfl, by omega, h2, fun i hi => ⟨g, 0, rfl, by rw [Nat.zero_add, hb.cell, icells_get' _ _ _ _ hi]⟩⟩
theorem OwnI.lt {w : World} {v : Value} {g : Nat} {e : TypeId} {k : IntKind} {l : List Int} (h : OwnI w v g e k l) : g < w.heap.size := by
  obtain ⟨cap, ex, rfl, hb, h1, h2⟩ := h; exact hb.lt
theorem OwnI.block {w : World} {v : Value} {g : Nat} {e : TypeId} {k : IntKind} {l : List Int} (h : OwnI w v g e k l) : v.ownBlock = some g := by
  obtain ⟨cap, ex, rfl, hb, h1, h2⟩ := h; rfl
theorem OwnI.agree {w w' : World} {v : Value} {g : Nat} {e : TypeId} {k : IntKind} {l : List Int} (h : OwnI w v g e k l) (hb : w'.heap[g]? = w.heap[g]?) : OwnI w' v g e k l := by
  obtain ⟨cap, ex, rfl, h0, h1, h2⟩ := h
  exact ⟨cap, ex, rfl, hb.trans h0, h1, h2⟩
theorem OwnI.later {w w' : World} {v : Value} {g : Nat} {e : TypeId} {k : IntKind} {l : List Int} (h : OwnI w v g e k l) (hb : Below w.heap.size w w') : OwnI w' v g e k l := h.agree (hb.block g h.lt)
/-- a literal, a make: new -/
theorem OwnI.new (w : World) (e : TypeId) (k : IntKind) (l : List Int) (hl : l.length ≤ maxLen) : OwnI (w.alloc (.cells (icells k l) e)) (.slice (some ⟨w.heap.size, 0, none⟩) l.length l.length) w.heap.size e k l :=
  ⟨l.length, #[], rfl, by rw [Array.append_empty]; exact Blk.new _ _ _ _, by simp, hl⟩
/-- one store -/
theorem OwnI.set {w : World} {g n cap : Nat} {e : TypeId} {k : IntKind} {l : List Int} (h : OwnI w (.slice (some ⟨g, 0, none⟩) n cap) g e k l) (i : Nat) (hi : i < l.length) (x : Int) :
    OwnI (w.setCell ⟨g, i, none⟩ (.int k x)) (.slice (some ⟨g, 0, none⟩) n cap) g e k (l.set i x) := by
  obtain ⟨cap', ex, e1, h0, h1, h2⟩ := h
  refine ⟨cap', ex, by rw [List.length_set]; exact e1, ?_, by rw [List.length_set]; exact h1, h2⟩
  have := h0.set i (.int k x)
  rwa [icells_set' _ _ _ _ hi] at this
theorem OwnI.cell {w : World} {g n cap : Nat} {e : TypeId} {k : IntKind} {l : List Int} (h : OwnI w (.slice (some ⟨g, 0, none⟩) n cap) g e k l) (i : Nat) (hi : i < l.length) : w.cell? ⟨g, i, none⟩ = some (.int k l[i]) := by
  obtain ⟨cap', ex, e1, h0, h1, h2⟩ := h
  rw [h0.cell, icells_get' _ _ _ _ hi]
theorem OwnI.free {w : World} {g n cap : Nat} {e : TypeId} {k : IntKind} {l : List Int} (h : OwnI w (.slice (some ⟨g, 0, none⟩) n cap) g e k l) (i : Nat) : w.frozen? ⟨g, i, none⟩ = false := by
  obtain ⟨cap', ex, e1, h0, h1, h2⟩ := h
  exact h0.free i (.inr (Nat.zero_le _))

theorem ownsRow_of {w : World} {v : Value} {g : Nat} {e : TypeId} {k : IntKind} {l : List Int} (h : OwnI w v g e k l) : w.ownsRow g e 1 v l.length (l.map (Value.int k)) := by
  obtain ⟨cap, ex, rfl, h0, h1, h2⟩ := h
  refine ⟨by simp, .inr ⟨g, cap, _, rfl, Nat.le_refl _, h0, by omega, h2, by simp [icells_size]; omega, ?_⟩⟩
  simp [icells]
theorem ownI_of {w : World} {v : Value} {base n : Nat} {e : TypeId} {k : IntKind} {l : List Int} (h : w.ownsRow base e 1 v n (l.map (Value.int k))) (hv : v ≠ .slice none 0 0) : ∃ g, base ≤ g ∧ OwnI w v g e k l := by
  have hn : n = l.length := by have := h.1; simp at this; omega
  subst hn
  rcases h.2 with ⟨h0, _⟩ | ⟨g, cap, cur, rfl, hb, hg, hl, hm, hs, ht⟩
  · exact absurd h0 hv
  · refine ⟨g, hb, cap, (cur.toList.drop l.length).toArray, rfl, ?_, by simp; omega, hm⟩
    have e : icells k l ++ (cur.toList.drop l.length).toArray = cur := by
      apply Array.ext'
      rw [Nat.mul_one] at ht
      simp only [icells, Array.toList_append]
      rw [← ht]
      exact List.take_append_drop _ _
    rw [e]; exact hg
theorem run_append_none_any {P : Program} (w : World) (t ty e : TypeId) (i : TypeInfo) (v : Value) (c : Nat) (ht : P.underlying t = some (.slice e)) (hi : P.info? e = some i) {g : Nat} {k : IntKind} {l : List Int} (h : OwnI w v g e k l) :
    (Builtin.append_ #[t, t] ty #[v, .slice none 0 c]).run P w = .ok v w := by
  obtain ⟨cap, ex, rfl, h0, h1, h2⟩ := h
  have hle : l.length ≤ cap := by omega
  simp [Builtin.append_, run_underlying ht, sizeOf, typeInfo, hi, Builtin.lenOf, Builtin.firstCells, hle, storeCells]
/-- s[:m], whatever s starts at -/
theorem run_slice_to {P : Program} (t e : TypeId) (a : Option Addr) (n cap m : Nat) (ht : P.underlying t = some (.slice e)) (hs : (P.info? e).isSome = true) (hm : m ≤ cap) (u : World) :
    (Instr.slice t (.slice a n cap) none (some (.int .i64 m)) none).run P u = .ok (.slice a m cap) u := by
  have he : P.elem t = e := by unfold Program.elem; rw [ht]
  have ht' : P.underlying t = some (.slice (P.elem t)) := by rw [he]; exact ht
  rw [run_slice_h u t a n cap ht' .i64 (m : Int) (by omega) (by omega)]
  rw [he]
  cases hq : P.info? e with
  | none => simp [hq] at hs
  | some i =>
    cases a <;> simp [sizeOf, typeInfo, hq, sliced, Addr.add]
/-- append(v, s...) of a slice that is ours and a slice of numbers -/
theorem run_append_ints {P : Program} {w : World} {v s : Value} {g : Nat} {t e ty : TypeId} {k : IntKind} {l m : List Int} (bytes : Nat) (ht : P.underlying t = some (.slice e)) (hi : (P.info? e).map (fun i => (i.zero, i.size, i.bytes)) = some (some (.int k 0), 1, bytes))
    (h : OwnI w v g e k l) (hs : SlI w s k m) (hlen : l.length + m.length ≤ maxLen) (hby : (l.length + m.length) * bytes ≤ 140737488355328) :
    ∃ v' w' g', (Builtin.append_ #[t, t] ty #[v, s]).run P w = .ok v' w' ∧ OwnI w' v' g' e k (l ++ m) ∧ g ≤ g' ∧ w.grownBy w' (some g) := by
  obtain ⟨i0, hi, hz0, hz1, hz2⟩ := info_parts hi
  have hv : v ≠ .slice none 0 0 := by obtain ⟨cap, ex, rfl, _⟩ := h; simp
  have hb := h.block
  have hlt := h.lt
  obtain ⟨a, c, rfl, h1, h2, h3⟩ := hs
  cases a with
  | none =>
    have hm : m = [] := by
      cases m with
      | nil => rfl
      | cons x r => obtain ⟨b, off, e, _⟩ := h3 0 (by simp); cases e
    subst hm
    have hr := run_append_none_any (P := P) w t ty e i0 v c ht hi h
    exact ⟨v, w, g, hr, by simpa using h, Nat.le_refl _, ⟨rfl, rfl, rfl, Nat.le_refl _, fun _ _ _ => rfl⟩⟩
  | some a =>
    obtain ⟨v', w', hr, ho, hg, hn⟩ := run_append_own (P := P) w g t ty e i0 (.int k 0) 1 bytes ht hi hz0 hz1 hz2 rfl (by decide) v l.length (l.map (Value.int k)) (ownsRow_of h) a m.length c (m.map (Value.int k)) (by simp)
      (fun j u hj => by
        have hj' : j < m.length := by simpa using (List.getElem?_eq_some_iff.1 hj).1
        obtain ⟨b, off, e1, hc⟩ := h3 j hj'
        obtain rfl : a = ⟨b, off, none⟩ := by simpa using e1
        have ea : (⟨b, off, none⟩ : Addr).add j = ⟨b, off + j, none⟩ := by unfold Addr.add; split <;> simp_all
        rw [ea, hc]
        simpa [List.getElem?_eq_getElem hj'] using hj)
      (fun u hu => by obtain ⟨x, _, rfl⟩ := List.mem_map.1 hu; rfl) hlen hby (by omega)
    have hv' : v' ≠ .slice none 0 0 := fun e => hv (hn.1 e).1
    rw [← List.map_append] at ho
    obtain ⟨g', hg', hown⟩ := ownI_of ho hv'
    rw [hb] at hg
    exact ⟨v', w', g', hr, hown, hg', hg⟩
/-- an append whose run is known -/
theorem wpList_append_run {P : Program} {w : World} {ops : Array Oper} {rest : List Oper} {o : Oper} {a : Act} {Q : Exit → Act → World → Prop} (hgd : o.guard = none) (s x : Operand) (t u : TypeId)
    (ho : o.op = .call { callee := .builtin .append, args := #[s, x], argTypes := #[t, u] }) {v' : Value} {w' : World} (hrun : (Builtin.append_ #[t, u] o.type #[a.eval s, a.eval x]).run P w = .ok v' w')
    (h : wpList P ops Q rest (a.put o.dst v') w') : wpList P ops Q (o :: rest) a w := by
  refine wpList_plain hgd fun K hK => ?_
  unfold Oper.wp execOp
  simp only [ho, resolve, invoke, builtin, Sem.run_bind, Sem.run_pure, Result.andThen_ok, List.map_toArray, List.map_cons, List.map_nil, hrun]
  exact hK _ _ h
end Go.Proofs.YtjobijmmjebpaaaDoor
/- slices of numbers and of arcs, as rows of cells: what reads, what is ours; append of a whole row onto ours. -/
namespace Go.Proofs.YtjobijmmjebpaaaDoor
open Go.RowKit
/-- an arc's cells -/
def arC (a : Ar) : List Value := [.int .i64 a.1, .int .i64 a.2.1, .int .i64 a.2.2]
def inC (x : Int) : List Value := [.int .i64 x]
theorem flatN_get {α : Type} (m : Nat) (f : α → List Value) (hf : ∀ x, (f x).length = m) : ∀ (l : List α) (i d : Nat), d < m → (l.flatMap f)[i * m + d]? = (l[i]?).bind fun x => (f x)[d]? := by
  intro l
  induction l with
  | nil => intro i d _; simp
  | cons x l ih =>
    intro i d hd
    rw [List.flatMap_cons]
    cases i with
    | zero => rw [Nat.zero_mul, Nat.zero_add, List.getElem?_append_left (by rw [hf]; exact hd)]; rfl
    | succ i =>
      rw [List.getElem?_append_right (by rw [hf, Nat.succ_mul]; omega), hf, show (i + 1) * m + d - m = i * m + d by rw [Nat.succ_mul]; omega, ih i d hd]
      simp
theorem flatN_len {α : Type} (m : Nat) (f : α → List Value) (hf : ∀ x, (f x).length = m) (l : List α) : (l.flatMap f).length = l.length * m := by
  induction l with
  | nil => simp
  | cons x l ih => rw [List.flatMap_cons, List.length_append, hf, ih, List.length_cons, Nat.succ_mul]; omega
theorem inC_len (x : Int) : (inC x).length = 1 := rfl
theorem arC_len (x : Ar) : (arC x).length = 3 := rfl
/-- v is a slice whose cells are xs, k to an element -/
def SlF (k : Nat) (w : World) (v : Value) (n : Nat) (xs : List Value) : Prop :=
  xs.length = n * k ∧ (∀ u ∈ xs, u.oneCell' = true) ∧ ∃ a cap, v = .slice a n cap ∧ n ≤ cap ∧ cap ≤ maxLen ∧ ∀ j u, xs[j]? = some u → ∃ b off, a = some ⟨b, off, none⟩ ∧ w.cell? ⟨b, off + j, none⟩ = some u
theorem SlX.row {w : World} {v : Value} {L : List Int} (h : SlX w v L) : SlF 1 w v L.length (L.flatMap inC) := by
  obtain ⟨a, cap, rfl, h1, h2, h3⟩ := h
  refine ⟨flatN_len 1 inC inC_len L, fun u hu => ?_, a, cap, rfl, h1, h2, fun j u hu => ?_⟩
  · obtain ⟨x, _, hx⟩ := List.mem_flatMap.1 hu
    obtain rfl := List.mem_singleton.1 hx
    rfl
  · have e := flatN_get 1 inC inC_len L j 0 (by omega)
    rw [Nat.mul_one, Nat.add_zero, hu] at e
    have hj : j < L.length := by
      rcases Nat.lt_or_ge j L.length with h | h
      · exact h
      · rw [List.getElem?_eq_none h] at e; cases e
    rw [List.getElem?_eq_getElem hj] at e
    obtain rfl : u = .int .i64 L[j] := Option.some.inj e
    obtain ⟨b, off, cs, t, fr, ea, hb, hc⟩ := h3 j hj
    exact ⟨b, off, ea, by rw [hb.cell]; exact hc⟩
theorem SlA.row {w : World} {v : Value} {L : List Ar} (h : SlA w v L) : SlF 3 w v L.length (L.flatMap arC) := by
  obtain ⟨a, cap, rfl, h1, h2, h3⟩ := h
  refine ⟨flatN_len 3 arC arC_len L, fun u hu => ?_, a, cap, rfl, h1, h2, fun j u hu => ?_⟩
  · obtain ⟨x, _, hx⟩ := List.mem_flatMap.1 hu
    simp only [arC, List.mem_cons, List.not_mem_nil, or_false] at hx
    rcases hx with rfl | rfl | rfl <;> rfl
  · have hjl := (List.getElem?_eq_some_iff.1 hu).1
    rw [flatN_len 3 arC arC_len L] at hjl
    obtain ⟨i, d, rfl, hd⟩ : ∃ i d, j = i * 3 + d ∧ d < 3 := ⟨j / 3, j % 3, by omega, by omega⟩
    have hi : i < L.length := by omega
    rw [flatN_get 3 arC arC_len L i d hd, List.getElem?_eq_getElem hi] at hu
    obtain ⟨b, off, cs, t, fr, ea, hb, c0, c1, c2⟩ := h3 i hi
    refine ⟨b, off, ea, ?_⟩
    rw [hb.cell, ← hu]
    match d, hd with
    | 0, _ => exact c0
    | 1, _ => exact c1
    | 2, _ => exact c2
theorem slX_own {w : World} {base : Nat} {e : TypeId} {v : Value} {n : Nat} {L : List Int} (hn : L.length = n) (h : w.ownsRow base e 1 v n (L.flatMap inC)) : SlX w v L := by
  subst hn
  rcases id h.2 with ⟨hv, h0⟩ | ⟨g, cap, cur, hv, h1, h2, h3, h4, _⟩
  · exact ⟨none, 0, by rw [hv, h0], by omega, Nat.zero_le _, fun i hi => by omega⟩
  · subst hv
    refine ⟨_, cap, rfl, h3, h4, fun i hi => ⟨g, 0, cur, _, _, rfl, h2, ?_⟩⟩
    have h5 := h.cellAt i (by have := h.1; omega)
    have e := flatN_get 1 inC inC_len L i 0 (by omega)
    rw [Nat.mul_one, Nat.add_zero] at e
    rw [e, List.getElem?_eq_getElem hi, (show Blk w g cur _ _ from h2).cell] at h5
    rw [Nat.zero_add]; exact h5
theorem slA_own {w : World} {base : Nat} {e : TypeId} {v : Value} {n : Nat} {L : List Ar} (hn : L.length = n) (h : w.ownsRow base e 3 v n (L.flatMap arC)) : SlA w v L := by
  subst hn
  rcases id h.2 with ⟨hv, h0⟩ | ⟨g, cap, cur, hv, h1, h2, h3, h4, _⟩
  · exact ⟨none, 0, by rw [hv, h0], by omega, Nat.zero_le _, fun i hi => by omega⟩
  · subst hv
    have hc : ∀ i (hi : i < L.length) d, d < 3 → cur[0 + i * 3 + d]? = (arC L[i])[d]? := fun i hi d hd => by
      have h5 := h.cellAt (i * 3 + d) (by have := h.1; omega)
      rw [flatN_get 3 arC arC_len L i d hd, List.getElem?_eq_getElem hi, (show Blk w g cur _ _ from h2).cell] at h5
      rw [Nat.zero_add]; exact h5
    exact ⟨_, cap, rfl, h3, h4, fun i hi => ⟨g, 0, cur, _, _, rfl, h2, hc i hi 0 (by omega), hc i hi 1 (by omega), hc i hi 2 (by omega)⟩⟩
/-- append of a whole row onto ours -/
theorem run_append_row {P : Program} {w : World} (base : Nat) (t ty e : TypeId) (i : TypeInfo) (z : Value) (size bytes : Nat) (ht : P.underlying t = some (.slice e)) (hi : P.info? e = some i) (hz : i.zero = some z)
    (hsize : i.size = size) (hby : i.bytes = bytes) (hzs : z.cells.size = size) (hsz : 0 < size) (v : Value) (n : Nat) (xs : List Value) (hown : w.ownsRow base e size v n xs)
    (src : Value) (m : Nat) (news : List Value) (hs : SlF size w src m news) (h63 : n + m ≤ maxLen) (hbytes : (n + m) * bytes ≤ 140737488355328) (hbase : base ≤ w.heap.size) :
    ∃ v' w', (Builtin.append_ #[t, t] ty #[v, src]).run P w = .ok v' w' ∧ w'.ownsRow base e size v' (n + m) (xs ++ news) ∧ w.grownBy w' v.ownBlock ∧ (v'.ownBlock = v.ownBlock ∨ v'.ownBlock = some w.heap.size) ∧ (v ≠ .slice none 0 0 → v' ≠ .slice none 0 0) := by
  obtain ⟨hl, h1, a, cap, rfl, hc1, hc2, hcell⟩ := hs
  cases a with
  | some ad =>
    obtain ⟨v', w', hr, h2, h3, h4, h5⟩ := run_append_own_at (P := P) w base t ty e i z size bytes ht hi hz hsize hby hzs hsz v n xs hown ad m cap news hl (fun j u hu => by
      obtain ⟨b, off, ea, hc⟩ := hcell j u hu
      obtain rfl := Option.some.inj ea
      have : (⟨b, off, none⟩ : Addr).add j = ⟨b, off + j, none⟩ := by unfold Addr.add; split <;> simp_all
      rw [this]; exact hc) h1 h63 hbytes hbase
    exact ⟨v', w', hr, h2, h3, h5, fun hv hv' => hv (h4.1 hv').1⟩
  | none =>
    have hn0 : news = [] := by
      cases news with
      | nil => rfl
      | cons u us => obtain ⟨b, off, e, _⟩ := hcell 0 u rfl; cases e
    subst hn0
    have hm : m = 0 := by
      rcases Nat.eq_zero_or_pos m with h | h
      · exact h
      · have := Nat.mul_pos h hsz; simp at hl; omega
    subst hm
    rcases id hown.2 with ⟨hv, h0⟩ | ⟨g, c, cur, hv, hbg, hg, hnc, hcm, hcs, htake⟩
    · subst hv h0
      refine ⟨.slice none 0 0, w, ?_, by simpa using hown, ⟨rfl, rfl, rfl, Nat.le_refl _, fun _ _ _ => rfl⟩, .inl rfl, fun h => (h rfl).elim⟩
      have hs := Src.ofNil (P := P) w (size := i.size) (tx := t) ht cap
      simp [Builtin.append_, run_underlying ht, sizeOf, typeInfo, hi, hs.len, hs.cells]
    · subst hv
      have hr := run_append_room_src (P := P) w t t ty e i ht hi g 0 n c (.slice none 0 cap) 0 [] (Src.ofNil w ht cap) (by omega) (fun j hj => by simp at hj) (fun j hj => by simp at hj)
      exact ⟨_, _, hr, by simpa [World.setCells] using hown, ⟨rfl, rfl, rfl, Nat.le_refl _, fun _ _ _ => rfl⟩, .inl rfl, fun _ h => by cases h⟩
/-- a slice just built, without elements -/
theorem ownsRow_zero (w : World) (base : Nat) (e : TypeId) (size : Nat) (h : base ≤ w.heap.size) : (w.alloc (.cells #[] e)).ownsRow base e size (.slice (some ⟨w.heap.size, 0, none⟩) 0 0) 0 [] :=
  ⟨by simp, .inr ⟨_, 0, _, rfl, h, heap_alloc_new w _, Nat.le_refl _, Nat.zero_le _, by simp, by simp⟩⟩
end Go.Proofs.YtjobijmmjebpaaaDoor
/- slices.Clone at numbers, at arcs. -/
namespace Go.Proofs.YtjobijmmjebpaaaDoor
open Go.RowKit
theorem infoI : (Tryd.prog.info? 2).map (fun i => (i.zero, i.size, i.bytes)) = some (some (.int .i64 0), 1, 8) := by kernel_rfl
theorem infoA : (Tryd.prog.info? 45).map (fun i => (i.zero, i.size, i.bytes)) = some (some (.agg #[.int .i64 0, .int .i64 0, .int .i64 0]), 3, 24) := by kernel_rfl

theorem cloneX (v : Value) (L : List Int) (w : World) (h : SlX w v L) (hl : L.length ≤ 1000000000000) : Calls Tryd.prog 61 #[v] w fun e w' => ∃ v', e = .returned v' ∧ w'.ownsRow w.heap.size 2 1 v' L.length (L.flatMap inC) ∧ Below w.heap.size w w' := by
  obtain ⟨i0, hi, hz0, hz1, hz2⟩ := info_parts infoI
  have hs := h.row
  obtain ⟨a, cap, rfl, hc1, hc2, h3⟩ := h
  cases a with
  | none =>
    have h0 : L = [] := by
      cases L with
      | nil => rfl
      | cons x L => obtain ⟨_, _, _, _, _, e, _⟩ := h3 0 (by simp); cases e
    subst h0
    have hn := fun w => Lib.run_eql_slice_nil (P := Tryd.prog) w 23 2 none 0 cap 0 0 Tryd.underlying23
    simp only [List.length_nil]
    clear hs h3
    go_enter Tryd.func61, Tryd.ntmps61
    go_wp2
    go_ret
    exact ⟨_, rfl, World.ownsRow_nil _ _ _ _, Below.refl _ _⟩
  | some ad =>
    have hn := fun w => Lib.run_eql_slice_nil (P := Tryd.prog) w 23 2 (some ad) L.length cap 0 0 Tryd.underlying23
    have hb := (Below.refl w.heap.size w).alloc (Nat.le_refl _) (.cells #[] 2)
    have hs1 : SlF 1 (w.alloc (.cells #[] 2)) (.slice (some ad) L.length cap) L.length (L.flatMap inC) := by
      obtain ⟨q1, q2, a, c, e, q3, q4, q5⟩ := hs
      refine ⟨q1, q2, a, c, e, q3, q4, fun j u hu => ?_⟩
      obtain ⟨b, off, ea, hc⟩ := q5 j u hu
      exact ⟨b, off, ea, cell_later hb hc⟩
    obtain ⟨v', w', hr, hown, hg, _⟩ := run_append_row (P := Tryd.prog) w.heap.size 23 23 2 i0 _ 1 8 Tryd.underlying23 hi hz0 hz1 hz2 rfl (by omega) _ 0 [] (ownsRow_zero w w.heap.size 2 1 (Nat.le_refl _)) _ L.length _ hs1 (by unfold maxLen; omega) (by omega) (by simp)
    have hb' : Below w.heap.size w w' := ⟨hg.os, hg.tape, hg.output, by have := hg.size; simp at this; omega, fun k hk => (hg.block k (by simp; omega) (by simp [Value.ownBlock]; omega)).trans (Below.heap_alloc w _ k hk)⟩
    have HB := Lib.hid hb'; have HO := Lib.hid hown; have HR := Lib.hid hr
    clear hs h3 hb hs1 hown hg hb' hr
    go_enter Tryd.func61, Tryd.ntmps61
    go_wp2_with (at_builtin; refine wpList_append_run rfl _ _ _ _ rfl HR.out ?_)
    go_ret
    exact ⟨_, rfl, by simpa using HO.out, HB.out⟩

theorem cloneA (v : Value) (L : List Ar) (w : World) (h : SlA w v L) (hl : L.length ≤ 1000000000000) : Calls Tryd.prog 62 #[v] w fun e w' => ∃ v', e = .returned v' ∧ w'.ownsRow w.heap.size 45 3 v' L.length (L.flatMap arC) ∧ Below w.heap.size w w' := by
  obtain ⟨i0, hi, hz0, hz1, hz2⟩ := info_parts infoA
  have hs := h.row
  obtain ⟨a, cap, rfl, hc1, hc2, h3⟩ := h
  cases a with
  | none =>
    have h0 : L = [] := by
      cases L with
      | nil => rfl
      | cons x L => obtain ⟨_, _, _, _, _, e, _⟩ := h3 0 (by simp); cases e
    subst h0
    have hn := fun w => Lib.run_eql_slice_nil (P := Tryd.prog) w 24 45 none 0 cap 0 0 Tryd.underlying24
    simp only [List.length_nil]
    clear hs h3
    go_enter Tryd.func62, Tryd.ntmps62
    go_wp2
    go_ret
    exact ⟨_, rfl, World.ownsRow_nil _ _ _ _, Below.refl _ _⟩
  | some ad =>
    have hn := fun w => Lib.run_eql_slice_nil (P := Tryd.prog) w 24 45 (some ad) L.length cap 0 0 Tryd.underlying24
    have hb := (Below.refl w.heap.size w).alloc (Nat.le_refl _) (.cells #[] 45)
    have hs1 : SlF 3 (w.alloc (.cells #[] 45)) (.slice (some ad) L.length cap) L.length (L.flatMap arC) := by
      obtain ⟨q1, q2, a, c, e, q3, q4, q5⟩ := hs
      refine ⟨q1, q2, a, c, e, q3, q4, fun j u hu => ?_⟩
      obtain ⟨b, off, ea, hc⟩ := q5 j u hu
      exact ⟨b, off, ea, cell_later hb hc⟩
    obtain ⟨v', w', hr, hown, hg, _⟩ := run_append_row (P := Tryd.prog) w.heap.size 24 24 45 i0 _ 3 24 Tryd.underlying24 hi hz0 hz1 hz2 rfl (by omega) _ 0 [] (ownsRow_zero w w.heap.size 45 3 (Nat.le_refl _)) _ L.length _ hs1 (by unfold maxLen; omega) (by omega) (by simp)
    have hb' : Below w.heap.size w w' := ⟨hg.os, hg.tape, hg.output, by have := hg.size; simp at this; omega, fun k hk => (hg.block k (by simp; omega) (by simp [Value.ownBlock]; omega)).trans (Below.heap_alloc w _ k hk)⟩
    have HB := Lib.hid hb'; have HO := Lib.hid hown; have HR := Lib.hid hr
    clear hs h3 hb hs1 hown hg hb' hr
    go_enter Tryd.func62, Tryd.ntmps62
    go_wp2_with (at_builtin; refine wpList_append_run rfl _ _ _ _ rfl HR.out ?_)
    go_ret
    exact ⟨_, rfl, by simpa using HO.out, HB.out⟩
end Go.Proofs.YtjobijmmjebpaaaDoor
/-
  INSIDE A FENCE: a region that draws its order, its reads taken first where a condition on the world (S: these cells hold these values) holds behind every operation that is carried out. After the kit's OrdersIn and OrdersHeld.
-/
namespace Go.Proofs.YtjobijmmjebpaaaDoor
section
variable {F : Fence} {n : Nat} {P : Program} {ops : Array Oper} {Q : Exit → Act → World → Prop} {S : World → Prop}
/-- in every world of S the operation leaves v, and makes no call -/
def ReadsIn (P : Program) (ops : Array Oper) (S : World → Prop) (o : Oper) (v : Value) (a : Act) : Prop :=
  Region.wanted o (yielded ops a.tmps) = true ∧ ∀ w, S w → o.about P w a.eval = none ∧ (execOp a.eval o).run P w = .ok (.value v) w
theorem ReadsIn.op {i : Nat} {o : Oper} {v : Value} {a : Act} (hro : F.round = none) (hi : ops[i]? = some o) (hy : ReadsIn P ops S o v a) {K : Act → World → Prop} {w : World} (hS : S w) (h : K (a.put o.dst v) w) :
    wpOpIn F n P ops Q i K a w := by
  obtain ⟨hw, hv⟩ := hy
  obtain ⟨h1, h2⟩ := hv w hS
  unfold wpOpIn
  simp only [hi, hw, if_true, Oper.wpIn, hro, Oper.semAt_none, h2, Oper.uponIn]
  exact ⟨fun f hf => (by rw [h1] at hf; cases hf), h⟩
theorem ReadsIn.turn {o : Oper} {v : Value} {a a' : Act} (hy : ReadsIn P ops S o v a) (he : execOp a'.eval o = execOp a.eval o) (hw : Region.wanted o (yielded ops a'.tmps) = Region.wanted o (yielded ops a.tmps)) (hb : ∀ w, o.about P w a'.eval = o.about P w a.eval) : ReadsIn P ops S o v a' := by
  unfold ReadsIn at *; rw [hw]; exact ⟨hy.1, fun w hS => ⟨by rw [hb]; exact (hy.2 w hS).1, by rw [he]; exact (hy.2 w hS).2⟩⟩
/-- another operation, apart from the read, ahead of it or behind it -/
theorem swapIn {j : Nat} {oi oj : Oper} {v : Value} (hro : F.round = none) (hj : ops[j]? = some oj) (hap : oi.apart ops oj = true) (hsi : ∀ cs b, oi.op ≠ .select cs b) (hsj : ∀ cs b, oj.op ≠ .select cs b)
    (hQ : ∀ c a w, Q (.panic c) (a.put oi.dst v) w → Q (.panic c) a w) {K : Act → World → Prop} {a : Act} {w : World} (hy : ReadsIn P ops S oi v a) (h : wpOpIn F n P ops Q j K (a.put oi.dst v) w) :
    wpOpIn F n P ops Q j (fun a' w' => ReadsIn P ops S oi v a' ∧ K (a'.put oi.dst v) w') a w := by
  obtain ⟨h1, h2, h3⟩ := Oper.apart_spec hap
  have keep : ∀ b : Act, ReadsIn P ops S oi v b → ∀ u, ReadsIn P ops S oi v (b.put oj.dst u) := fun b hb u => hb.turn (execOp_put oi hsi b oj.dst u h3) (wanted_put oi b oj.dst u h3) (fun w => about_put oi w b oj.dst u h3)
  have put1 : ∀ (b : Act) u, K ((b.put oi.dst v).put oj.dst u) = K ((b.put oj.dst u).put oi.dst v) := fun b u => by rw [Act.put_comm b v u h2]
  unfold wpOpIn at *
  simp only [hj] at *
  rw [wanted_put oj a oi.dst v h1, about_put oj w a oi.dst v h1] at h
  by_cases hw : Region.wanted oj (yielded ops a.tmps) = true
  · rw [if_pos hw] at h ⊢
    unfold Oper.wpIn at *
    rw [about_put oj w a oi.dst v h1, hro, Oper.semAt_none, execOp_put oj hsj a oi.dst v h1] at h
    rw [hro, Oper.semAt_none]
    refine ⟨h.1, ?_⟩
    replace h := h.2
    cases hr : (execOp a.eval oj).run P w with
    | halt x w' =>
      rw [hr] at h
      cases x <;> simp only [Oper.uponIn] at h ⊢
      exact hQ _ _ _ h
    | ok x w' =>
      rw [hr] at h
      cases x with
      | value u => exact ⟨keep a hy u, by have := h; simp only [Oper.uponIn] at this; rwa [put1] at this⟩
      | skip => exact ⟨keep a hy _, by have := h; simp only [Oper.uponIn] at this; rwa [put1] at this⟩
      | defer d =>
        simp only [Oper.uponIn] at h ⊢
        refine ⟨keep { a with defers := d :: a.defers } (hy.turn rfl rfl (fun _ => rfl)) _, ?_⟩
        rw [← put1, ← Act.put_defers]; exact h
      | enter f args =>
        refine ⟨h.1, CallsIn.mono h.2 fun e w'' he => ?_⟩
        cases e with
        | returned u => exact ⟨keep a hy u, by have := he; (try simp only at this); rwa [put1] at this⟩
        | panicked c => exact hQ _ _ _ he
        | outgrown => exact he
      | row r args => exact ⟨h.1, RowsIn.mono h.2 fun u w'' he => ⟨keep a hy u, by have := he; (try simp only at this); rwa [put1] at this⟩⟩
      | round l f tmps assign body =>
        refine ⟨h.1, RoundIn.mono h.2 fun e w'' he => ?_⟩
        cases e with
        | returned u => exact ⟨keep a hy u, by have := he; (try simp only at this); rwa [put1] at this⟩
        | panicked c => exact hQ _ _ _ he
        | outgrown => exact he
      | _ => simp only [Oper.uponIn] at h
  · rw [if_neg hw] at h ⊢
    exact ⟨h.1, keep a hy _, by have := h.2; rwa [put1] at this⟩
/-- whatever order is picked from here on; S holds behind each operation -/
def heldIn (F : Fence) (n : Nat) (P : Program) (ops : Array Oper) (Q : Exit → Act → World → Prop) (S : World → Prop) : Nat → Array Bool → Act → World → Prop
  | 0, listed, a, w => Region.ready .any ops listed = [] ∧ Q .normal a w
  | fuel + 1, listed, a, w => (Region.ready .any ops listed = [] → Q .normal a w) ∧ ∀ i ∈ Region.ready .any ops listed, wpOpIn F n P ops Q i (fun a' w' => S w' ∧ heldIn F n P ops Q S fuel (listed.setIfInBounds i true) a' w') a w
theorem any_of_heldIn : ∀ (fuel : Nat) (listed : Array Bool) (a : Act) (w : World), heldIn F n P ops Q S fuel listed a w → wpAnyIn F n P .any ops Q fuel listed a w
  | 0, _, _, _, h => h
  | fuel + 1, _, _, _, h => ⟨h.1, fun i hi => wpOpIn_mono (fun a' w' h' => any_of_heldIn fuel _ a' w' h'.2) (h.2 i hi)⟩
theorem heldIn_first {i : Nat} {oi : Oper} {v : Value} (hro : F.round = none) (hi : ops[i]? = some oi) (hsel : ∀ (j : Nat) (o : Oper) cs b, ops[j]? = some o → o.op ≠ .select cs b) (hQ : ∀ c a w, Q (.panic c) (a.put oi.dst v) w → Q (.panic c) a w) :
    ∀ (fuel : Nat) (listed : Array Bool) (a : Act) (w : World), (∀ j oj, ops[j]? = some oj → j ≠ i → listed.getD j true = false → (∀ e ∈ oj.after, Region.binds .any e = true → e.on ≠ i) → oi.apart ops oj = true) →
      i ∈ Region.ready .any ops listed → ReadsIn P ops S oi v a → S w → heldIn F n P ops Q S fuel (listed.setIfInBounds i true) (a.put oi.dst v) w → heldIn F n P ops Q S (fuel + 1) listed a w := by
  intro fuel
  induction fuel with
  | zero =>
    intro listed a w _ hr hy hS H
    refine ⟨fun h => (by rw [h] at hr; cases hr), fun j hj => ?_⟩
    by_cases hji : j = i
    · subst hji; exact hy.op hro hi hS ⟨hS, H⟩
    · have := ready_mono hj hji
      rw [H.1] at this; cases this
  | succ fuel ih =>
    intro listed a w hfree hr hy hS H
    refine ⟨fun h => (by rw [h] at hr; cases hr), fun j hj => ?_⟩
    by_cases hji : j = i
    · subst hji; exact hy.op hro hi hS ⟨hS, H⟩
    obtain ⟨hjun, oj, hoj, hall⟩ := mem_ready.1 hj
    have hnot : ∀ e ∈ oj.after, Region.binds .any e = true → e.on ≠ i := fun e he hb heq => by
      have h1 := hall e he hb
      have h0 := (mem_ready.1 hr).1
      rw [heq] at h1
      rcases Nat.lt_or_ge i listed.size with h' | h'
      · simp [h'] at h0 h1; rw [h0] at h1; cases h1
      · simp [Array.getElem?_eq_none h'] at h1
    refine wpOpIn_mono (fun a' w' h3 => ⟨h3.2.1, ih _ a' w' (fun k ok hk hki hun hno => hfree k ok hk hki ?_ hno) (ready_mono hr (Ne.symm hji)) h3.1 h3.2.1 ?_⟩)
      (swapIn hro hoj (hfree j oj hoj hji hjun hnot) (fun cs b => hsel i oi cs b hi) (fun cs b => hsel j oj cs b hoj) hQ hy (H.2 j (ready_mono hj hji)))
    · by_cases hjk : j = k
      · subst hjk; exact hjun
      · rwa [getD_set_ne true hjk] at hun
    · rw [Array.setIfInBounds_comm _ _ hji]; exact h3.2.2
/-- take the read i -/
theorem heldIn_take {i : Nat} {oi : Oper} {v : Value} {fuel : Nat} {listed : Array Bool} {a : Act} {w : World} (hro : F.round = none) (hi : ops[i]? = some oi) (hs : Region.noSelect ops = true) (hf : Region.free .any ops listed i = true)
    (hr : (Region.ready .any ops listed).contains i = true) (hQ : ∀ c a w, Q (.panic c) (a.put oi.dst v) w → Q (.panic c) a w) (hy : ReadsIn P ops S oi v a) (hS : S w)
    (h : heldIn F n P ops Q S fuel (listed.setIfInBounds i true) (a.put oi.dst v) w) : heldIn F n P ops Q S (fuel + 1) listed a w :=
  heldIn_first hro hi (Region.noSelect_spec hs) hQ fuel listed a w (Region.free_spec hi hf) (by simpa using hr) hy hS h
theorem heldIn_takeD {i d : Nat} {oi : Oper} {v : Value} {fuel : Nat} {listed : Array Bool} {tmps : Array Value} {ds : List Deferred} {w : World} (hro : F.round = none) (hi : ops[i]? = some oi) (hd : oi.dst = some d) (hs : Region.noSelect ops = true) (hf : Region.free .any ops listed i = true)
    (hr : (Region.ready .any ops listed).contains i = true) (hQ : ∀ c a w, Q (.panic c) (a.put oi.dst v) w → Q (.panic c) a w) (hy : ReadsIn P ops S oi v { tmps := tmps, defers := ds }) (hS : S w)
    (h : heldIn F n P ops Q S fuel (listed.setIfInBounds i true) { tmps := tmps.setIfInBounds d v, defers := ds } w) : heldIn F n P ops Q S (fuel + 1) listed { tmps := tmps, defers := ds } w :=
  heldIn_take hro hi hs hf hr hQ hy hS (by rw [hd]; exact h)
/-- the one that may come up -/
theorem heldIn_one {i : Nat} {fuel : Nat} {listed : Array Bool} {a : Act} {w : World} (hr : Region.ready .any ops listed = [i])
    (h : wpOpIn F n P ops Q i (fun a' w' => S w' ∧ heldIn F n P ops Q S fuel (listed.setIfInBounds i true) a' w') a w) : heldIn F n P ops Q S (fuel + 1) listed a w :=
  ⟨fun h0 => (by rw [hr] at h0; cases h0), fun j hj => by rw [hr] at hj; obtain rfl : j = i := by simpa using hj
                                                          exact h⟩
theorem heldIn_done {listed : Array Bool} {a : Act} {w : World} (hr : Region.ready .any ops listed = []) (h : Q .normal a w) : ∀ fuel, heldIn F n P ops Q S fuel listed a w
  | 0 => ⟨hr, h⟩
  | _ + 1 => ⟨fun _ => h, by rw [hr]; simp⟩
theorem region_heldIn {id : Nat} {a : Act} {w : World} (hm : P.follows .mixedOrders = true) (h : heldIn F n P ops Q S ops.size (Array.replicate ops.size false) a { w with drawn := w.drawn + 1 }) : (Code.region id ops true).wpIn F n P Q a w :=
  wpIn_region_any hm (any_of_heldIn _ _ _ _ h)
/-- a call of a Go function that comes back -/
theorem wpOpIn_calls {i : Nat} {o : Oper} {d : Nat} {tmps : Array Value} {ds : List Deferred} {w w' : World} {f : FuncId} {args : Array Value} {K : Act → World → Prop} {R : Ending → World → Prop} (hi : ops[i]? = some o) (hd : o.dst = some d) (hw : Region.wanted o (yielded ops tmps) = true)
    (he : (execOp (Act.eval { tmps := tmps, defers := ds }) o).run P w = .ok (.enter f args) w') (h1 : 1 ≤ n) (hc : CallsIn Fence.wide (n - 1) P f args w' R) (hk : ∀ v w'', R (.returned v) w'' → K { tmps := tmps.setIfInBounds d v, defers := ds } w'') (hp : ∀ ch w'', R (.panicked ch) w'' → Q (.panic ch) { tmps := tmps, defers := ds } w'') (ho : ∀ w'', R .outgrown w'' → False) :
    wpOpIn Fence.wide n P ops Q i K { tmps := tmps, defers := ds } w := by
  unfold wpOpIn
  have hro : Fence.wide.round = none := rfl
  simp only [hi, hw, if_true, Oper.wpIn, hro, Oper.semAt_none, he, Oper.uponIn]
  refine ⟨fun _ _ => trivial, fun _ => h1, CallsIn.mono hc fun e w'' hr => ?_⟩
  cases e with
  | returned v => dsimp only; rw [hd]; exact hk v w'' hr
  | panicked ch => exact hp ch w'' hr
  | outgrown => exact (ho w'' hr).elim
/-- an operation that leaves a value, and another world -/
theorem wpOpIn_value {i : Nat} {o : Oper} {d : Nat} {tmps : Array Value} {ds : List Deferred} {w w' : World} {v : Value} {K : Act → World → Prop} (hro : F.round = none) (hi : ops[i]? = some o) (hd : o.dst = some d) (hw : Region.wanted o (yielded ops tmps) = true)
    (hb : o.about P w (Act.eval { tmps := tmps, defers := ds }) = none) (he : (execOp (Act.eval { tmps := tmps, defers := ds }) o).run P w = .ok (.value v) w') (hk : K { tmps := tmps.setIfInBounds d v, defers := ds } w') : wpOpIn F n P ops Q i K { tmps := tmps, defers := ds } w := by
  unfold wpOpIn
  simp only [hi, hw, if_true, Oper.wpIn, hro, Oper.semAt_none, he, Oper.uponIn]
  refine ⟨fun f hf => (by rw [hb] at hf; cases hf), ?_⟩
  rw [hd]; exact hk
/-- an append -/
theorem wpOpIn_append {i : Nat} {o : Oper} {d : Nat} {tmps : Array Value} {ds : List Deferred} {w w' : World} {v' : Value} {K : Act → World → Prop} (hro : F.round = none) (hi : ops[i]? = some o) (hd : o.dst = some d) (hw : Region.wanted o (yielded ops tmps) = true)
    (s x : Operand) (t tx : TypeId) (ho : o.op = .call { callee := .builtin .append, args := #[s, x], argTypes := #[t, tx] }) (hrun : (Builtin.append_ #[t, tx] o.type #[Act.eval { tmps := tmps, defers := ds } s, Act.eval { tmps := tmps, defers := ds } x]).run P w = .ok v' w')
    (hk : K { tmps := tmps.setIfInBounds d v', defers := ds } w') : wpOpIn F n P ops Q i K { tmps := tmps, defers := ds } w := by
  refine wpOpIn_value hro hi hd hw (by simp [Oper.about, ho, resolve, Target.leads, Sem.run_pure]) ?_ hk
  unfold execOp
  simp only [ho, resolve, invoke, builtin, Sem.run_bind, Sem.run_pure, Result.andThen_ok, List.map_toArray, List.map_cons, List.map_nil, hrun]
/-- a round of the caller's loop that comes back -/
theorem wpOpIn_round {i : Nat} {o : Oper} {d : Nat} {tmps : Array Value} {ds : List Deferred} {w w' : World} {l : Nat} {f : FuncId} {ts : Array Value} {assign body : Code} {K : Act → World → Prop} {R : Ending → World → Prop} (hi : ops[i]? = some o) (hd : o.dst = some d) (hw : Region.wanted o (yielded ops tmps) = true)
    (he : (execOp (Act.eval { tmps := tmps, defers := ds }) o).run P w = .ok (  .round l f ts assign body) w') (h1 : 1 ≤ n) (hc : RoundIn Fence.wide (n - 1) P l f ts assign body w' R) (hk : ∀ v w'', R (.returned v) w'' → K { tmps := tmps.setIfInBounds d v, defers := ds } w'') (hp : ∀ ch w'', R (.panicked ch) w'' → Q (.panic ch) { tmps := tmps, defers := ds } w'') (ho : ∀ w'', R .outgrown w'' → False) :
    wpOpIn Fence.wide n P ops Q i K { tmps := tmps, defers := ds } w := by
  unfold wpOpIn
  have hro : Fence.wide.round = none := rfl
  simp only [hi, hw, if_true, Oper.wpIn, hro, Oper.semAt_none, he, Oper.uponIn]
  refine ⟨fun _ _ => trivial, fun _ => h1, RoundIn.mono hc fun e w'' hr => ?_⟩
  cases e with
  | returned v => dsimp only; rw [hd]; exact hk v w'' hr
  | panicked ch => exact hp ch w'' hr
  | outgrown => exact (ho w'' hr).elim
/-- Q, but at a panic what does not hang on the frame -/
def PanTo (ds : List Deferred) (A : List PanicEntry → World → Prop) (Q : Exit → Act → World → Prop) : Exit → Act → World → Prop
  | .panic c, a, w => a.defers = ds ∧ A c w
  | e, a, w => Q e a w
theorem PanTo.normal {ds : List Deferred} {A : List PanicEntry → World → Prop} {Q : Exit → Act → World → Prop} {a : Act} {w : World} (h : Q .normal a w) : PanTo ds A Q .normal a w := h
theorem region_panTo {c : Code} {a : Act} {w : World} (ds : List Deferred) (A : List PanicEntry → World → Prop) (hA : ∀ ch a w, a.defers = ds → A ch w → Q (.panic ch) a w) (h : c.wpIn F n P (PanTo ds A Q) a w) : c.wpIn F n P Q a w := by
  refine wpIn_mono h fun e a w hp => ?_
  cases e with
  | panic ch => exact hA ch a w hp.1 hp.2
  | normal => exact hp
  | ret => exact hp
  | exit _ => exact hp
  | goto _ => exact hp
  | outgrown => exact hp
end
end Go.Proofs.YtjobijmmjebpaaaDoor
