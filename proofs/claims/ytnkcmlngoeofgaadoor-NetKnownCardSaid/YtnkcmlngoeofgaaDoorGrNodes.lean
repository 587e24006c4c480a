/- graph's iterators, where the body may panic: nodes. -/
import Derived.Test.YtnkcmlngoeofgaaDoorGrArcs
namespace Go.Proofs.YtnkcmlngoeofgaaDoor
open Go.RowKit Go.Shelf
attribute [local go_sem] Oper.semAt_some FK_round FK_depth Oper.semAt_none
/-- v is a slice of numbers, its block known -/
def SlX (w : World) (v : Value) (L : List Int) : Prop :=
  ∃ (a : Option Addr) (cap : Nat), v = .slice a L.length cap ∧ L.length ≤ cap ∧ cap ≤ maxLen ∧ ∀ i (h : i < L.length), ∃ b off cs t fr, a = some ⟨b, off, none⟩ ∧ Blk w b cs t fr ∧ cs[off + i]? = some (.int .i64 L[i])
theorem SlX.keep {w w' : World} {v : Value} {L : List Int} (h : SlX w v L) (hk : KpC w w') : SlX w' v L := by
  obtain ⟨a, cap, e, h1, h2, h3⟩ := h
  refine ⟨a, cap, e, h1, h2, fun i hi => ?_⟩
  obtain ⟨b, off, cs, t, fr, ea, hb, hc⟩ := h3 i hi
  exact ⟨b, off, cs, t, fr, ea, hk.blk hb, hc⟩
theorem SlX.at {w : World} {a : Option Addr} {n cap : Nat} {L : List Int} (h : SlX w (.slice a n cap) L) (k : Nat) (hk : k < L.length) : ∃ b off, a = some ⟨b, off, none⟩ ∧ w.cell? ⟨b, off + k, none⟩ = some (.int .i64 L[k]) := by
  obtain ⟨a', cap', e, _, _, h3⟩ := h
  obtain ⟨b, off, cs, t, fr, ea, hb, hc⟩ := h3 k hk
  have e3 := (Value.slice.inj e).1
  exact ⟨b, off, by rw [e3, ea], by rw [hb.cell]; exact hc⟩
/-- the places of the first k nodes -/
def nodesP (X Y : List Int) : Nat → List Pl
  | 0 => []
  | k + 1 => nodesP X Y k ++ nodeP k (X[k]?.getD 0, Y[k]?.getD 0)
theorem nodesP_succ (X Y : List Int) (k : Nat) (hx : k < X.length) (hy : k < Y.length) : nodesP X Y (k + 1) = nodesP X Y k ++ nodeP k (X[k], Y[k]) := by
  show _ ++ nodeP k (X[k]?.getD 0, Y[k]?.getD 0) = _
  rw [List.getElem?_eq_getElem hx, List.getElem?_eq_getElem hy]; rfl
theorem nodesP_len (X Y : List Int) (k : Nat) : (nodesP X Y k).length = 2 * k := by
  induction k with
  | zero => rfl
  | succ k ih => show (nodesP X Y k ++ nodeP k (X[k]?.getD 0, Y[k]?.getD 0)).length = _; rw [List.length_append, ih]; show 2 * k + 2 = _; omega
theorem nodesP_pre (X Y : List Int) (k d : Nat) : nodesP X Y k <+: nodesP X Y (k + d) := by
  induction d with
  | zero => exact List.prefix_refl _
  | succ d ih => exact ih.trans (List.prefix_append _ _)
set_option maxRecDepth 100000 in
set_option maxHeartbeats 4000000 in
theorem nodes_in (m : Nat) (L Br : Nat) (nodes : Int) (vx vy va : Value) (X Y : List Int) (J : List Pl → World → Prop) (U : List PanicEntry → List Pl → World → Prop) (hJA : ∀ s W W', J s W → Below W.heap.size W W' → J s W')
    (hY : ∀ pre x W, J pre W → pre.length < 2 * X.length → YieldAt FK (m - 1) Tryd.prog L (encP x) W fun e W' =>
      (e = .returned (.bool true) ∧ J (pre ++ [x]) W' ∧ KpC W W') ∨ (∃ ch, e = .panicked ch ∧ U ch (pre ++ [x]) W'))
    (W : World) (hBr : Blk W Br #[.int .i64 nodes, vx, vy, va] 25 (0, 0)) (hxs : SlX W vx X) (hys : SlX W vy Y) (hl : X.length = Y.length) (h0 : J [] W) :
    CallsIn FK m Tryd.prog 84 #[.func (.yield L) #[] #[], .pointer (some ⟨Br, 0, none⟩)] W fun e W' =>
      (∃ v, e = .returned v ∧ J (nodesP X Y X.length) W') ∨ (∃ ch xs, e = .panicked ch ∧ xs <+: nodesP X Y X.length ∧ U ch xs W') := by
  obtain ⟨ax, cx, rfl, hcx, hmx, _⟩ := id hxs
  obtain ⟨ay, cy, rfl, hcy, hmy, _⟩ := id hys
  unfold maxLen at hmx hmy
  have HL := Lib.hid hl
  clear hl
  have c1 := hBr.cell 1
  change W.cell? ⟨Br, 1, none⟩ = some (.slice ax X.length cx) at c1
  refine callsIn_of_wp Tryd.func84 rfl (by simp [FK, Fence.list]) ?_ rfl
  simp only [Tryd.ntmps84, List.size_toArray, List.length_cons, List.length_nil, Nat.reduceAdd, Nat.reduceSub, Array.replicate_succ, Array.replicate_zero, List.push_toArray, List.append_toArray, List.nil_append, List.cons_append]
  gi_wp2_with fail
  gi_loopw [9] (fun i wr => ∃ (k : Nat), k ≤ X.length ∧ i = .int .i64 k ∧ Blk wr Br #[.int .i64 nodes, .slice ax X.length cx, .slice ay Y.length cy, va] 25 (0, 0) ∧ SlX wr (.slice ax X.length cx) X ∧ SlX wr (.slice ay Y.length cy) Y ∧ J (nodesP X Y k) wr) (fun i _ => X.length - (intOf i).toNat)
  case atStart => exact ⟨0, Nat.zero_le _, rfl, hBr, hxs, hys, h0⟩
  case round =>
    obtain ⟨k, hk, rfl, hbk, hxk, hyk, hJ⟩ := hrel
    by_cases hlt : k < X.length
    · have hlt' : k < Y.length := by have := HL.out; omega
      obtain ⟨bx, ox, rfl, dx⟩ := hxk.at k hlt
      obtain ⟨by', oy, rfl, dy⟩ := hyk.at k hlt'
      have e1 := hbk.cell 1; have e2 := hbk.cell 2
      change wr.cell? ⟨Br, 1, none⟩ = some (.slice (some ⟨bx, ox, none⟩) X.length cx) at e1
      change wr.cell? ⟨Br, 2, none⟩ = some (.slice (some ⟨by', oy, none⟩) Y.length cy) at e2
      have hsc := nodesP_succ X Y k hlt hlt'
      have hpf : nodesP X Y (k + 1) <+: nodesP X Y X.length := by
        have h := nodesP_pre X Y (k + 1) (X.length - (k + 1))
        rwa [show k + 1 + (X.length - (k + 1)) = X.length by omega] at h
      have hlen := nodesP_len X Y k
      have i1 : (0 : Int) ≤ (k : Int) := by omega
      have i2 : (k : Int) < (X.length : Int) := by omega
      have i3 : (k : Int) < (Y.length : Int) := by omega
      obtain ⟨x, hx⟩ : ∃ x, x = X[k] := ⟨_, rfl⟩
      obtain ⟨y, hy⟩ : ∃ y, y = Y[k] := ⟨_, rfl⟩
      rw [← hx] at dx hsc
      rw [← hy] at dy hsc
      clear hx hy
      have HBk := Lib.hid hbk; have HXk := Lib.hid hxk; have HYk := Lib.hid hyk; have HJk := Lib.hid hJ; have HSc := Lib.hid hsc; have HPf := Lib.hid hpf; have HLen := Lib.hid hlen; have HY := Lib.hid hY; have HJA := Lib.hid hJA
      clear hbk hxk hyk hJ hsc hpf hlen hY hJA
      gi_wp2_with fail
      gi_region
      obtain ⟨w2, hw2⟩ : ∃ w2, w2 = (wr.alloc (.cells #[.int .i64 x, .int .i64 y] 2)).drew := ⟨_, rfl⟩
      rw [← hw2]
      obtain ⟨g, hg⟩ : ∃ g, g = wr.heap.size := ⟨_, rfl⟩
      rw [← hg]
      have hb2 : Below wr.heap.size wr w2 := by rw [hw2]; exact ((Below.refl _ _).alloc (Nat.le_refl _) _).drew
      have hbg : Blk w2 g #[.int .i64 x, .int .i64 y] 2 (0, 0) := by rw [hw2, hg]; exact (Blk.new _ _ _ _ : Blk (wr.alloc (.cells #[.int .i64 x, .int .i64 y] 2)) wr.heap.size _ _ _)
      have HB := Lib.hid ((KpC.of_below hb2).blk HBk.out); have HX := Lib.hid (HXk.out.keep (KpC.of_below hb2)); have HYY := Lib.hid (HYk.out.keep (KpC.of_below hb2)); have HJ := Lib.hid (HJA.out _ _ _ HJk.out hb2); have HG := Lib.hid hbg
      clear hb2 hbg hw2 hg HBk HXk HYk HJk dx dy e1 e2
      gi_wp2_with fail
      gi_loopw [24] (fun i wr => ∃ (j : Nat), j ≤ 2 ∧ i = .int .i64 j ∧ Blk wr g #[.int .i64 x, .int .i64 y] 2 (0, 0) ∧ Blk wr Br #[.int .i64 nodes, .slice (some ⟨bx, ox, none⟩) X.length cx, .slice (some ⟨by', oy, none⟩) Y.length cy, va] 25 (0, 0) ∧ SlX wr (.slice (some ⟨bx, ox, none⟩) X.length cx) X ∧ SlX wr (.slice (some ⟨by', oy, none⟩) Y.length cy) Y ∧ J (nodesP X Y k ++ (nodeP k (x, y)).take j) wr) (fun i _ => 2 - (intOf i).toNat)
      case atStart => exact ⟨0, Nat.zero_le _, rfl, HG.out, HB.out, HX.out, HYY.out, by rw [List.take_zero, List.append_nil]; exact HJ.out⟩
      case round =>
        clear HG HB HX HYY HJ
        obtain ⟨j, hj, rfl, hgk, hbk, hxk, hyk, hJ⟩ := hrel
        by_cases hj2 : j < 2
        · obtain ⟨z, hz, hst⟩ : ∃ z, wr.cell? ⟨g, j, none⟩ = some (.int .i64 z) ∧ (nodeP k (x, y)).take (j + 1) = (nodeP k (x, y)).take j ++ [(⟨k, j, 7, z, -2147483648, 2147483648⟩ : Pl)] := by
            have h01 : j = 0 ∨ j = 1 := by omega
            rcases h01 with rfl | rfl
            · exact ⟨x, by rw [hgk.cell]; rfl, rfl⟩
            · exact ⟨y, by rw [hgk.cell]; rfl, rfl⟩
          have hpl : (nodesP X Y k ++ (nodeP k (x, y)).take j).length < 2 * X.length := by
            rw [List.length_append, HLen.out, List.length_take]; omega
          have hpx : (nodesP X Y k ++ (nodeP k (x, y)).take j) ++ [(⟨k, j, 7, z, -2147483648, 2147483648⟩ : Pl)] <+: nodesP X Y X.length := by
            rw [List.append_assoc, ← hst]
            refine List.IsPrefix.trans ?_ HPf.out
            rw [HSc.out]
            exact (List.prefix_append_right_inj _).2 (List.take_prefix _ _)
          have j1 : (0 : Int) ≤ (j : Int) := by omega
          have j2 : (j : Int) < 2 := by omega
          have HG := Lib.hid hgk; have HB := Lib.hid hbk; have HX := Lib.hid hxk; have HYY := Lib.hid hyk; have HJ := Lib.hid hJ; have HSt := Lib.hid hst; have HPx := Lib.hid hpx
          clear hgk hbk hxk hyk hJ hst hpx
          gi_wp2_with fail
          obtain ⟨fn, tmps, assign, body, hy, hR⟩ := HY.out _ ⟨k, j, 7, z, -2147483648, 2147483648⟩ _ HJ.out hpl
          unfold encP at hy
          rw [hy]
          rw [Oper.uponIn_round]
          refine ⟨fun h => (by cases h), ?_⟩
          refine hR.mono ?_
          rintro e W3 (⟨rfl, hJ3, hk3⟩ | ⟨ch, rfl, hU⟩)
          · have HG3 := Lib.hid (hk3.blk HG.out); have HB3 := Lib.hid (hk3.blk HB.out); have HX3 := Lib.hid (HX.out.keep hk3); have HY3 := Lib.hid (HYY.out.keep hk3); have HJ3 := Lib.hid hJ3
            clear hJ3 hk3 hy hR hz
            gi_wp2_with fail
            go_roundw
            case rel => exact ⟨j + 1, by omega, by go_num, HG3.out, HB3.out, HX3.out, HY3.out, by rw [HSt.out, ← List.append_assoc]; exact HJ3.out⟩
            case measure => simp [intOf]; omega
          · exact ⟨rfl, .inr ⟨ch, _, rfl, HPx.out, hU⟩⟩
        · obtain rfl : j = 2 := by omega
          have hJ' : J (nodesP X Y (k + 1)) wr := by
            rw [HSc.out]
            exact hJ
          have HJ' := Lib.hid hJ'; have HB' := Lib.hid hbk; have HX' := Lib.hid hxk; have HY' := Lib.hid hyk
          clear hJ hJ' hgk hbk hxk hyk
          gi_wp2_with fail
          go_roundw
          case rel => exact ⟨k + 1, by omega, by go_num, HB'.out, HX'.out, HY'.out, HJ'.out⟩
          case measure => simp [intOf]; omega
    · obtain rfl : k = X.length := by omega
      gi_wp2_with fail
      go_end0
      exact .inl ⟨_, rfl, hJ⟩
end Go.Proofs.YtnkcmlngoeofgaaDoor
