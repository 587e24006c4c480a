/- graph's iterators, where the body may panic: arcs. -/
import Derived.Test.YtnkcmlngoeofgaaDoorGrIt
namespace Go.Proofs.YtnkcmlngoeofgaaDoor
open Go.RowKit Go.Shelf
attribute [local go_sem] Oper.semAt_some FK_round FK_depth Oper.semAt_none
theorem flat_cells : ∀ (L : List Pl) (i : Nat) (hi : i < L.length) (j : Nat) (u : Value), L[i].cells[j]? = some u → (L.flatMap Pl.cells)[i * 6 + j]? = some u
  | x :: L, 0, _, j, u, h => by
    rw [List.flatMap_cons, Nat.zero_mul, Nat.zero_add, List.getElem?_append_left]
    · exact h
    · have := (List.getElem?_eq_some_iff.1 h).1
      exact this
  | x :: L, i + 1, hi, j, u, h => by
    rw [List.flatMap_cons, List.getElem?_append_right (by show 6 ≤ (i + 1) * 6 + j; omega), show (i + 1) * 6 + j - x.cells.length = i * 6 + j by show (i + 1) * 6 + j - 6 = _; omega]
    exact flat_cells L i (by simpa using hi) j u h
theorem slP_new {w : World} {g : Nat} {cs : Array Value} {t : TypeId} {fr : Nat × Nat} {L : List Pl} (hb : Blk w g cs t fr) (hcs : cs = (L.flatMap Pl.cells).toArray) (hl : L.length ≤ 1000) : SlP w (.slice (some ⟨g, 0, none⟩) L.length L.length) L :=
  ⟨_, _, rfl, Nat.le_refl _, by unfold maxLen; omega, fun i hi => ⟨g, 0, cs, t, fr, rfl, hb, fun j u h => by rw [hcs, Nat.zero_add, List.getElem?_toArray]; exact flat_cells L i hi j u h⟩⟩
/-- v is a slice of arcs -/
def SlA (w : World) (v : Value) (L : List Ar) : Prop :=
  ∃ (a : Option Addr) (cap : Nat), v = .slice a L.length cap ∧ L.length ≤ cap ∧ cap ≤ maxLen ∧ ∀ i (h : i < L.length), ∃ b off cs t fr, a = some ⟨b, off, none⟩ ∧ Blk w b cs t fr ∧ cs[off + i * 3]? = some (.int .i64 L[i].1) ∧ cs[off + i * 3 + 1]? = some (.int .i64 L[i].2.1) ∧ cs[off + i * 3 + 2]? = some (.int .i64 L[i].2.2)
theorem SlA.keep {w w' : World} {v : Value} {L : List Ar} (h : SlA w v L) (hk : KpC w w') : SlA w' v L := by
  obtain ⟨a, cap, e, h1, h2, h3⟩ := h
  refine ⟨a, cap, e, h1, h2, fun i hi => ?_⟩
  obtain ⟨b, off, cs, t, fr, ea, hb, hc⟩ := h3 i hi
  exact ⟨b, off, cs, t, fr, ea, hk.blk hb, hc⟩
/-- the places of the first k arcs -/
def arcsP (nodes : Int) (L : List Ar) : Nat → List Pl
  | 0 => []
  | k + 1 => arcsP nodes L k ++ arcP nodes k (L[k]?.getD (0, 0, 0))
theorem arcsP_succ (nodes : Int) (L : List Ar) (k : Nat) (hk : k < L.length) : arcsP nodes L (k + 1) = arcsP nodes L k ++ arcP nodes k L[k] := by
  show _ ++ arcP nodes k (L[k]?.getD (0, 0, 0)) = _
  rw [List.getElem?_eq_getElem hk]; rfl
theorem arcsP_len (nodes : Int) (L : List Ar) (k : Nat) : (arcsP nodes L k).length = 3 * k := by
  induction k with
  | zero => rfl
  | succ k ih => show (arcsP nodes L k ++ arcP nodes k (L[k]?.getD (0, 0, 0))).length = _; rw [List.length_append, ih]; show 3 * k + 3 = _; omega
theorem arcsP_pre (nodes : Int) (L : List Ar) (k d : Nat) : arcsP nodes L k <+: arcsP nodes L (k + d) := by
  induction d with
  | zero => exact List.prefix_refl _
  | succ d ih => exact ih.trans (List.prefix_append _ _)
set_option maxRecDepth 100000 in
set_option maxHeartbeats 4000000 in
theorem arcs_in (m : Nat) (L Br : Nat) (nodes : Int) (vx vy va : Value) (ars : List Ar) (J : List Pl → World → Prop) (U : List PanicEntry → List Pl → World → Prop) (hJA : ∀ s W W', J s W → Below W.heap.size W W' → J s W')
    (hY : ∀ pre x W, J pre W → pre.length < 3 * ars.length → YieldAt FK (m - 1) Tryd.prog L (encP x) W fun e W' =>
      (e = .returned (.bool true) ∧ J (pre ++ [x]) W' ∧ KpC W W') ∨ (∃ ch, e = .panicked ch ∧ U ch (pre ++ [x]) W'))
    (W : World) (hBr : Blk W Br #[.int .i64 nodes, vx, vy, va] 25 (0, 0)) (hsl : SlA W va ars) (h0 : J [] W) :
    CallsIn FK m Tryd.prog 85 #[.func (.yield L) #[] #[], .pointer (some ⟨Br, 0, none⟩)] W fun e W' =>
      (∃ v, e = .returned v ∧ J (arcsP nodes ars ars.length) W') ∨ (∃ ch xs, e = .panicked ch ∧ xs <+: arcsP nodes ars ars.length ∧ U ch xs W') := by
  obtain ⟨a, cap, rfl, hcap, hmx, _⟩ := id hsl
  unfold maxLen at hmx
  have c0 := hBr.cell 0; have c3 := hBr.cell 3
  change W.cell? ⟨Br, 0, none⟩ = some (.int .i64 nodes) at c0
  change W.cell? ⟨Br, 3, none⟩ = some (.slice a ars.length cap) at c3
  refine callsIn_of_wp Tryd.func85 rfl (by simp [FK, Fence.list]) ?_ rfl
  simp only [Tryd.ntmps85, List.size_toArray, List.length_cons, List.length_nil, Nat.reduceAdd, Nat.reduceSub, Array.replicate_succ, Array.replicate_zero, List.push_toArray, List.append_toArray, List.nil_append, List.cons_append]
  gi_wp2_with fail
  gi_loopw [13] (fun i wr => ∃ (k : Nat), k ≤ ars.length ∧ i = .int .i64 k ∧ SlA wr (.slice a ars.length cap) ars ∧ J (arcsP nodes ars k) wr) (fun i _ => ars.length - (intOf i).toNat)
  case atStart => exact ⟨0, Nat.zero_le _, rfl, hsl, h0⟩
  case round =>
    obtain ⟨k, hk, rfl, hsk, hJ⟩ := hrel
    by_cases hlt : k < ars.length
    · obtain ⟨b, off, ha, d0, d1, d2⟩ : ∃ b off, a = some ⟨b, off, none⟩ ∧ wr.cell? ⟨b, off + k * 3, none⟩ = some (.int .i64 ars[k].1) ∧ wr.cell? ⟨b, off + k * 3 + 1, none⟩ = some (.int .i64 ars[k].2.1) ∧ wr.cell? ⟨b, off + k * 3 + 2, none⟩ = some (.int .i64 ars[k].2.2) := by
        obtain ⟨a', cap', e, _, _, h3⟩ := id hsk
        obtain ⟨b, off, cs, t, fr, ea, hb, h0, h1, h2⟩ := h3 k hlt
        have e3 := (Value.slice.inj e).1
        refine ⟨b, off, by rw [e3, ea], ?_, ?_, ?_⟩
        · rw [hb.cell]; exact h0
        · rw [hb.cell]; exact h1
        · rw [hb.cell]; exact h2
      subst ha
      have hsc := arcsP_succ nodes ars k hlt
      have hpf : arcsP nodes ars (k + 1) <+: arcsP nodes ars ars.length := by
        have h := arcsP_pre nodes ars (k + 1) (ars.length - (k + 1))
        rwa [show k + 1 + (ars.length - (k + 1)) = ars.length by omega] at h
      have hlen := arcsP_len nodes ars k
      have i1 : (0 : Int) ≤ (k : Int) := by omega
      have i2 : (k : Int) < (ars.length : Int) := by omega
      obtain ⟨x, hx⟩ : ∃ x, x = ars[k] := ⟨_, rfl⟩
      rw [← hx] at d0 d1 d2 hsc
      obtain ⟨x1, x2, x3⟩ := x
      simp only at d0 d1 d2
      obtain ⟨w2, hw2⟩ : ∃ w2, w2 = (wr.alloc (.cells #[.int .i64 x1, .int .i64 x2, .int .i64 x3] 54)).alloc (.cells ((arcP nodes k (x1, x2, x3)).flatMap Pl.cells).toArray 113) := ⟨_, rfl⟩
      have hb2 : Below wr.heap.size wr w2 := by rw [hw2]; exact ((Below.refl _ _).alloc (Nat.le_refl _) _).alloc (by simp) _
      have hS2 : SlP w2 (.slice (some ⟨wr.heap.size + 1, 0, none⟩) 3 3) (arcP nodes k (x1, x2, x3)) := by
        have hb : Blk w2 (wr.heap.size + 1) ((arcP nodes k (x1, x2, x3)).flatMap Pl.cells).toArray 113 (0, 0) := by
          rw [hw2]
          have h := Blk.new (wr.alloc (.cells #[.int .i64 x1, .int .i64 x2, .int .i64 x3] 54)) ((arcP nodes k (x1, x2, x3)).flatMap Pl.cells).toArray 113 (0, 0)
          rwa [World.size_alloc] at h
        exact slP_new hb rfl (by show 3 ≤ 1000; omega)
      have hJ2 := hJA _ _ _ hJ hb2
      have hA2 := hsk.keep (KpC.of_below hb2)
      have HY := Lib.hid hY; have HJ := Lib.hid hJ2; have HS := Lib.hid hS2; have HA := Lib.hid hA2; have HSc := Lib.hid hsc; have HPf := Lib.hid hpf; have HLen := Lib.hid hlen; have HW2 := Lib.hid hw2; have HJA := Lib.hid hJA
      clear hY hJ2 hS2 hA2 hsc hpf hx hsk hJ hlen hw2 hb2 hJA
      gi_wp2_with fail
      rw [show ((wr.alloc (.cells #[.int .i64 x1, .int .i64 x2, .int .i64 x3] 54)).alloc (.cells #[.int .i64 k, .int .i64 0, .int .i64 9, .int .i64 x1, .int .i64 0, .int .i64 nodes, .int .i64 k, .int .i64 1, .int .i64 9, .int .i64 x2, .int .i64 0, .int .i64 nodes, .int .i64 k, .int .i64 2, .int .i64 10, .int .i64 x3, .int .i64 0, .int .i64 2147483648] 113)) = w2 from by rw [HW2.out]; rfl]
      obtain ⟨g, hg⟩ : ∃ g, g = wr.heap.size := ⟨_, rfl⟩
      obtain ⟨ps, hps⟩ : ∃ ps, ps = arcP nodes k (x1, x2, x3) := ⟨_, rfl⟩
      have hl3 : ps.length = 3 := by rw [hps]; rfl
      rw [← hps] at HS HSc
      rw [← hg] at HS
      rw [← hg]
      clear hps HW2 d0 d1 d2 hg
      gi_loopw [34] (fun i wr => ∃ (j : Nat), j ≤ 3 ∧ i = .int .i64 j ∧ SlP wr (.slice (some ⟨g + 1, 0, none⟩) 3 3) ps ∧ SlA wr (.slice (some ⟨b, off, none⟩) ars.length cap) ars ∧ J (arcsP nodes ars k ++ ps.take j) wr) (fun i _ => 3 - (intOf i).toNat)
      case atStart => exact ⟨0, Nat.zero_le _, rfl, HS.out, HA.out, by rw [List.take_zero, List.append_nil]; exact HJ.out⟩
      case round =>
        clear HS HA HJ
        obtain ⟨j, hj, rfl, hsk, hak, hJ⟩ := hrel
        by_cases hj3 : j < 3
        · have hlj : j < ps.length := by omega
          obtain ⟨d0, d1, d2, d3, d4, d5⟩ : wr.cell? ⟨g + 1, j * 6, none⟩ = some (.int .i64 ps[j].ix) ∧ wr.cell? ⟨g + 1, j * 6 + 1, none⟩ = some (.int .i64 ps[j].fl) ∧ wr.cell? ⟨g + 1, j * 6 + 2, none⟩ = some (.int .i64 ps[j].co) ∧ wr.cell? ⟨g + 1, j * 6 + 3, none⟩ = some (.int .i64 ps[j].n) ∧ wr.cell? ⟨g + 1, j * 6 + 4, none⟩ = some (.int .i64 ps[j].lo) ∧ wr.cell? ⟨g + 1, j * 6 + 5, none⟩ = some (.int .i64 ps[j].hi) := by
            obtain ⟨a', cap', e, _, _, h3⟩ := id hsk
            obtain ⟨b', off', cs, t, fr, ea, hb, hc⟩ := h3 j hlj
            have e3 := (Value.slice.inj e).1
            rw [ea] at e3
            simp only [Option.some.injEq, Addr.mk.injEq] at e3
            obtain ⟨rfl, rfl, _⟩ := e3
            rw [Nat.zero_add] at hc
            refine ⟨?_, ?_, ?_, ?_, ?_, ?_⟩
            · rw [hb.cell]; exact hc 0 _ rfl
            · rw [hb.cell]; exact hc 1 _ rfl
            · rw [hb.cell]; exact hc 2 _ rfl
            · rw [hb.cell]; exact hc 3 _ rfl
            · rw [hb.cell]; exact hc 4 _ rfl
            · rw [hb.cell]; exact hc 5 _ rfl
          have hst : ps.take (j + 1) = ps.take j ++ [ps[j]] := List.take_succ_eq_append_getElem hlj
          have hpl : (arcsP nodes ars k ++ ps.take j).length < 3 * ars.length := by rw [List.length_append, HLen.out, List.length_take]; omega
          have hpx : (arcsP nodes ars k ++ ps.take j) ++ [ps[j]] <+: arcsP nodes ars ars.length := by
            rw [List.append_assoc, ← hst]
            refine List.IsPrefix.trans ?_ HPf.out
            rw [HSc.out]
            exact (List.prefix_append_right_inj _).2 (List.take_prefix _ _)
          have j1 : (0 : Int) ≤ (j : Int) := by omega
          have j2 : (j : Int) < 3 := by omega
          obtain ⟨x, hx⟩ : ∃ x, x = ps[j] := ⟨_, rfl⟩
          rw [← hx] at d0 d1 d2 d3 d4 d5 hst hpx
          have hJx := fun o => HJA.out _ _ (wr.alloc o) hJ ((Below.refl _ _).alloc (Nat.le_refl _) o)
          have hsx := fun o => hsk.keep (KpC.of_below ((Below.refl wr.heap.size wr).alloc (Nat.le_refl _) o))
          have hax := fun o => hak.keep (KpC.of_below ((Below.refl wr.heap.size wr).alloc (Nat.le_refl _) o))
          have HJ := Lib.hid hJx; have HS := Lib.hid hsx; have HA := Lib.hid hax; have HSt := Lib.hid hst; have HPx := Lib.hid hpx
          clear hJx hsx hax hst hpx hx hsk hak hJ
          gi_wp2_with fail
          obtain ⟨fn, tmps, assign, body, hy, hR⟩ := HY.out _ x _ (HJ.out (.cells #[.int .i64 x.ix, .int .i64 x.fl, .int .i64 x.co, .int .i64 x.n, .int .i64 x.lo, .int .i64 x.hi] 113)) hpl
          unfold encP at hy
          rw [hy]
          rw [Oper.uponIn_round]
          refine ⟨fun h => (by cases h), ?_⟩
          refine hR.mono ?_
          rintro e W3 (⟨rfl, hJ3, hk3⟩ | ⟨ch, rfl, hU⟩)
          · have HS3 := Lib.hid ((HS.out _).keep hk3); have HA3 := Lib.hid ((HA.out _).keep hk3); have HJ3 := Lib.hid hJ3
            clear hJ3 hk3 hy hR
            gi_wp2_with fail
            go_roundw
            case rel => exact ⟨j + 1, by omega, by go_num, HS3.out, HA3.out, by rw [HSt.out, ← List.append_assoc]; exact HJ3.out⟩
            case measure => simp [intOf]; omega
          · exact ⟨rfl, .inr ⟨ch, _, rfl, HPx.out, hU⟩⟩
        · obtain rfl : j = 3 := by omega
          have hJ' : J (arcsP nodes ars (k + 1)) wr := by
            rw [HSc.out]
            rw [List.take_of_length_le (by omega)] at hJ
            exact hJ
          have HJ' := Lib.hid hJ'; have HA' := Lib.hid hak
          clear hJ hJ' hak hsk
          gi_wp2_with fail
          go_roundw
          case rel => exact ⟨k + 1, by omega, by go_num, HA'.out, HJ'.out⟩
          case measure => simp [intOf]; omega
    · obtain rfl : k = ars.length := by omega
      gi_wp2_with fail
      go_end0
      exact .inl ⟨_, rfl, hJ⟩
end Go.Proofs.YtnkcmlngoeofgaaDoor
