/- graph's iterators, where the body may panic: slices.Values of places. -/
import Derived.Test.YtnkcmlngoeofgaaDoorRangeDies
import Derived.Test.YtnkcmlngoeofgaaDoorGrPl
import Derived.Test.YtnkcmlngoeofgaaDoorRows
import Derived.WalkKit
import Derived.WalkSpells
import Derived.ChangeAlike
import Derived.RangeFuncSeq
import Derived.Lib.Hide
import Derived.RegionIn
namespace Go.Proofs.YtnkcmlngoeofgaaDoor
open Go.RowKit Go.Shelf
attribute [local go_sem] Oper.semAt_some
/-- the functions that look comes to -/
def FK : Fence := Fence.list [46, 63, 64, 65, 66, 67, 68, 69, 70, 71, 83, 84, 85, 89] none
theorem FK_round : FK.round = none := rfl
theorem FK_depth : FK.depth = none := rfl
attribute [local go_sem] FK_round FK_depth Oper.semAt_none
theorem SlP.keep {w w' : World} {v : Value} {L : List Pl} (h : SlP w v L) (hk : KpC w w') : SlP w' v L := by
  obtain ⟨a, cap, e, h1, h2, h3⟩ := h
  refine ⟨a, cap, e, h1, h2, fun i hi => ?_⟩
  obtain ⟨b, off, cs, t, fr, ea, hb, hc⟩ := h3 i hi
  exact ⟨b, off, cs, t, fr, ea, hk.blk hb, hc⟩
set_option maxRecDepth 100000 in
set_option maxHeartbeats 2000000 in
theorem values_in (m : Nat) (L Bs : Nat) (ps : List Pl) (v : Value) (J : List Pl → World → Prop) (U : List PanicEntry → List Pl → World → Prop) (hJA : ∀ s W W', J s W → Below W.heap.size W W' → J s W')
    (hY : ∀ pre x W, J pre W → pre.length < ps.length → YieldAt FK (m - 1) Tryd.prog L (encP x) W fun e W' =>
      (e = .returned (.bool true) ∧ J (pre ++ [x]) W' ∧ KpC W W') ∨ (∃ ch, e = .panicked ch ∧ U ch (pre ++ [x]) W'))
    (W : World) (hBs : Blk W Bs #[v] 132 (0, 0)) (hsl : SlP W v ps) (h0 : J [] W) :
    CallsIn FK m Tryd.prog 89 #[.func (.yield L) #[] #[], .pointer (some ⟨Bs, 0, none⟩)] W fun e W' =>
      (∃ v, e = .returned v ∧ J ps W') ∨ (∃ ch xs, e = .panicked ch ∧ xs <+: ps ∧ U ch xs W') := by
  obtain ⟨a, cap, rfl, hcap, hmx, _⟩ := id hsl
  unfold maxLen at hmx
  have c1 := hBs.cell 0
  change W.cell? ⟨Bs, 0, none⟩ = some (.slice a ps.length cap) at c1
  refine callsIn_of_wp Tryd.func89 rfl (by simp [FK, Fence.list]) ?_ rfl
  simp only [Tryd.ntmps89, List.size_toArray, List.length_cons, List.length_nil, Nat.reduceAdd, Nat.reduceSub, Array.replicate_succ, Array.replicate_zero, List.push_toArray, List.append_toArray, List.nil_append, List.cons_append]
  gi_wp2_with fail
  gi_loopw [7] (fun i wr => ∃ (k : Nat), k ≤ ps.length ∧ i = .int .i64 k ∧ SlP wr (.slice a ps.length cap) ps ∧ J (ps.take k) wr) (fun i _ => ps.length - (intOf i).toNat)
  case atStart => exact ⟨0, Nat.zero_le _, rfl, hsl, h0⟩
  case round =>
    obtain ⟨k, hk, rfl, hsk, hJ⟩ := hrel
    by_cases hlt : k < ps.length
    · obtain ⟨b, off, ha, d0, d1, d2, d3, d4, d5⟩ : ∃ b off, a = some ⟨b, off, none⟩ ∧ wr.cell? ⟨b, off + k * 6, none⟩ = some (.int .i64 ps[k].ix) ∧ wr.cell? ⟨b, off + k * 6 + 1, none⟩ = some (.int .i64 ps[k].fl) ∧ wr.cell? ⟨b, off + k * 6 + 2, none⟩ = some (.int .i64 ps[k].co) ∧ wr.cell? ⟨b, off + k * 6 + 3, none⟩ = some (.int .i64 ps[k].n) ∧ wr.cell? ⟨b, off + k * 6 + 4, none⟩ = some (.int .i64 ps[k].lo) ∧ wr.cell? ⟨b, off + k * 6 + 5, none⟩ = some (.int .i64 ps[k].hi) := by
        obtain ⟨a', cap', e, _, _, h3⟩ := id hsk
        obtain ⟨b, off, cs, t, fr, ea, hb, hc⟩ := h3 k hlt
        have e3 := (Value.slice.inj e).1
        refine ⟨b, off, by rw [e3, ea], ?_, ?_, ?_, ?_, ?_, ?_⟩
        · rw [hb.cell]; exact hc 0 _ rfl
        · rw [hb.cell]; exact hc 1 _ rfl
        · rw [hb.cell]; exact hc 2 _ rfl
        · rw [hb.cell]; exact hc 3 _ rfl
        · rw [hb.cell]; exact hc 4 _ rfl
        · rw [hb.cell]; exact hc 5 _ rfl
      subst ha
      have hsc : ps.take (k + 1) = ps.take k ++ [ps[k]] := List.take_succ_eq_append_getElem hlt
      have hpl : (ps.take k).length < ps.length := by rw [List.length_take]; omega
      have hpf : ps.take k ++ [ps[k]] <+: ps := by rw [← hsc]; exact List.take_prefix _ _
      have i1 : (0 : Int) ≤ (k : Int) := by omega
      have i2 : (k : Int) < (ps.length : Int) := by omega
      obtain ⟨x, hx⟩ : ∃ x, x = ps[k] := ⟨_, rfl⟩
      rw [← hx] at d0 d1 d2 d3 d4 d5 hsc hpf
      have hJx := fun o => hJA _ _ (wr.alloc o) hJ ((Below.refl _ _).alloc (Nat.le_refl _) o)
      have hsx := fun o => hsk.keep (KpC.of_below ((Below.refl wr.heap.size wr).alloc (Nat.le_refl _) o))
      have HY := Lib.hid hY; have HJ := Lib.hid hJx; have HS := Lib.hid hsx; have HSc := Lib.hid hsc; have HPf := Lib.hid hpf
      clear hY hJx hsx hsc hpf hx hsk hJ
      gi_wp2_with fail
      obtain ⟨fn, tmps, assign, body, hy, hR⟩ := HY.out _ x _ (HJ.out (.cells #[.int .i64 x.ix, .int .i64 x.fl, .int .i64 x.co, .int .i64 x.n, .int .i64 x.lo, .int .i64 x.hi] 113)) hpl
      unfold encP at hy
      rw [hy]
      rw [Oper.uponIn_round]
      refine ⟨fun h => (by cases h), ?_⟩
      refine hR.mono ?_
      rintro e W3 (⟨rfl, hJ3, hk3⟩ | ⟨ch, rfl, hU⟩)
      · have hS3 := (HS.out _).keep hk3
        have HS3 := Lib.hid hS3; have HJ3 := Lib.hid hJ3
        clear hS3 hJ3 hk3 hy hR
        gi_wp2_with fail
        go_roundw
        case rel => exact ⟨k + 1, by omega, by go_num, HS3.out, by rw [HSc.out]; exact HJ3.out⟩
        case measure => simp [intOf]; omega
      · exact ⟨rfl, .inr ⟨ch, _, rfl, HPf.out, hU⟩⟩
    · obtain rfl : k = ps.length := by omega
      rw [List.take_length] at hJ
      gi_wp2_with fail
      go_end0
      exact .inl ⟨_, rfl, hJ⟩
end Go.Proofs.YtnkcmlngoeofgaaDoor
