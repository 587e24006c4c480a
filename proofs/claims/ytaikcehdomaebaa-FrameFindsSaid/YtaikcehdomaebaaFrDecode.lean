/- THE WALKS over frame: Decode, its deferred closure. -/
import Derived.Test.YtaikcehdomaebaaFrDec
import Derived.Recover
namespace Go.Proofs.Ytaikcehdomaebaa
open Go.RowKit
/-- nothing to recover -/
theorem catch_idle (p r : Nat) (w : World) : CallsD Try.prog 29 #[.pointer (some ⟨p, 0, none⟩), .pointer (some ⟨r, 0, none⟩)] .returning w fun e u' w' => e = .returned (.tuple #[]) ∧ u' = .returning ∧ w' = w := by
  refine callsD_of_wpS Try.func29 rfl fun c₀ cs hu => ?_
  apply wpS_seq
  apply wpS_region
  simp [wpOpsS, go_sem, recoverD, hu, Try.ntmps29, Exit.thenS]
  refine wpS_of_wp ?_
  simp only [Array.replicate_succ, Array.replicate_zero, List.push_toArray, List.setIfInBounds_toArray, List.set_cons_succ, List.set_cons_zero, List.append_toArray, List.cons_append, List.nil_append]
  go_wp2
  cases c₀
  simp_all [bodyPostS, results, Try.results29]
set_option maxRecDepth 100000 in
/-- a panic of ours -/
theorem catch_err (p r : Nat) (hpr : p ≠ r) (c : Int) (w : World) (v1 v2 : Value) (h1 : w.cell? ⟨p, 0, none⟩ = some v1) (h2 : w.cell? ⟨r, 0, none⟩ = some v2) (f1 : w.frozen? ⟨p, 0, none⟩ = false) (f2 : w.frozen? ⟨r, 0, none⟩ = false) :
    CallsD Try.prog 29 #[.pointer (some ⟨p, 0, none⟩), .pointer (some ⟨r, 0, none⟩)] (.panicking [{ v := .iface 24 (.int .i64 c), recovered := false }]) w fun e u' w' =>
      e = .returned (.tuple #[]) ∧ u' = .panicking [{ v := .iface 24 (.int .i64 c), recovered := true }] ∧ w' = (w.setCell ⟨p, 0, none⟩ (.slice none 0 0)).setCell ⟨r, 0, none⟩ (.int .i64 c) := by
  have hta : ∀ w : World, (Instr.typeAssert (.iface 24 (.int .i64 c)) 20 24 true).run Try.prog w = .ok (.tuple #[.int .i64 c, .bool true]) w := fun _ => by rfl
  refine callsD_of_wpS Try.func29 rfl fun c₀ cs hu => ?_
  apply wpS_seq
  apply wpS_region
  simp [wpOpsS, go_sem, recoverD, hu, Try.ntmps29, Exit.thenS]
  refine wpS_of_wp ?_
  simp only [Array.replicate_succ, Array.replicate_zero, List.push_toArray, List.setIfInBounds_toArray, List.set_cons_succ, List.set_cons_zero, List.append_toArray, List.cons_append, List.nil_append]
  go_wp2
  cases c₀
  simp_all [bodyPostS, results, Try.results29]
theorem SlS.setOne {w : World} {v : Value} {L : List (Int × ByteArray)} {p : Nat} {x : Value} {t : TypeId} {fr : Nat × Nat} (h : SlS w v L) (hb : Blk w p #[x] t fr) (y : Value) : SlS (w.setCell ⟨p, 0, none⟩ y) v L := by
  obtain ⟨a, cap, rfl, h1, h2, h3⟩ := h
  refine ⟨a, cap, rfl, h1, h2, fun i hi => ?_⟩
  obtain ⟨b, off, rfl, c0, c1⟩ := h3 i hi
  have hne : b ≠ p := fun e => by
    subst e
    rw [hb.cell, Array.getElem?_eq_none (by simp)] at c1; cases c1
  have e := heap_setCell_other w ⟨p, 0, none⟩ b y hne
  exact ⟨b, off, rfl, (World.cell?_of_block e).trans c0, (World.cell?_of_block e).trans c1⟩
theorem dec_end {fn : Func} {tmps : Array Value} {R : Ending → World → Prop} {w : World} {v : Value} (h : (results fn tmps).run Try.prog w = .ok v w) (hR : R (.returned v) w) : Leaves Try.prog fn tmps R [] .returning w := ⟨v, h, hR⟩
set_option maxHeartbeats 1000000 in
theorem dec_any (s : ByteArray) (w : World) (hs : s.size ≤ 1000000) : Calls Try.prog 15 #[.string s] w fun e w' => ∃ v, e = .returned (.tuple #[v, .int .i64 (decV s).1]) ∧ SlS w' v (decV s).2 ∧ Below w.heap.size w w' := by
  have hmf : ∀ (fn : Fn) (first cap : Array Value) (w : World), (Instr.makeFunc fn first cap).run Try.prog w = .ok (.func fn first cap) w := fun _ _ _ _ => rfl
  go_enter_defers Try.func15, Try.ntmps15
  go_wp2_with fail
  refine (read_any true s _ (by omega)).mono ?_
  rintro e w1 ⟨q, rfl, hr1, hq1, hb1⟩
  have hB0 : Below w.heap.size w w1 := (((Below.refl w.heap.size w).alloc (Nat.le_refl _) _).alloc (by simp) _).trans (hb1.mono (by simp; omega))
  have hp1 : Blk w1 w.heap.size #[.slice none 0 0] 22 (0, 0) := ((Blk.new w _ _ _).alloc _).below hb1 (by simp; omega)
  have hp2 : Blk w1 (w.heap.size + 1) #[.int .i64 0] 24 (0, 0) := by
    have h := Blk.new (w.alloc (.cells #[.slice none 0 0] 22)) #[.int .i64 0] 24 (0, 0)
    rw [World.size_alloc] at h
    exact h.below hb1 (by simp)
  have hql := hr1.lt
  have hsq : w.heap.size + 1 + 1 ≤ q := by simpa using hq1
  have CD := decode_any s w1.heap.size q (w1.alloc (.cells #[.pointer (some ⟨q, 0, none⟩), .string s] 63)) hs (hr1.later ((Below.refl _ _).alloc (Nat.le_refl _) _)) (Blk.new _ _ _ _) (by omega)
  have hB1 := hB0.trans (((Below.refl w1.heap.size w1).alloc (Nat.le_refl _) (.cells #[.pointer (some ⟨q, 0, none⟩), .string s] 63)).mono hB0.size)
  have hp1' := hp1.alloc (.cells #[.pointer (some ⟨q, 0, none⟩), .string s] 63)
  have hp2' := hp2.alloc (.cells #[.pointer (some ⟨q, 0, none⟩), .string s] 63)
  have HCD := Lib.hid CD; have HB1 := Lib.hid hB1; have Hp1 := Lib.hid hp1'; have Hp2 := Lib.hid hp2'
  clear CD hB1 hp1' hp2' hp1 hp2 hB0 hb1 hr1 hq1
  go_wp2_with fail
  refine HCD.out.mono ?_
  rintro e w2 ⟨(⟨v, L, rfl, hd, hsl⟩ | ⟨c, rfl, hc0, hd⟩), hk⟩
  · obtain ⟨va, vcap, rfl, _⟩ := id hsl
    have P1 := hk.blk Hp1.out (show ¬ w.heap.size = q by omega)
    have P2 := hk.blk Hp2.out (show ¬ w.heap.size + 1 = q by omega)
    have c1 := P1.cell 0; have c2 := P2.cell 0; have f1 := P1.free 0 (Or.inr (Nat.zero_le _)); have f2 := P2.free 0 (Or.inr (Nat.zero_le _))
    change w2.cell? ⟨w.heap.size, 0, none⟩ = some (.slice none 0 0) at c1
    change w2.cell? ⟨w.heap.size + 1, 0, none⟩ = some (.int .i64 0) at c2
    have Hsl := Lib.hid hsl; have Hk := Lib.hid hk; have Hd := Lib.hid hd; have HP1 := Lib.hid P1; have HP2 := Lib.hid P2
    clear hsl hk hd P1 P2
    go_wp2_with fail
    have Q1 := (HP1.out.set 0 (.slice va L.length vcap)).setOther ⟨w.heap.size + 1, 0, none⟩ (.int .i64 0) (by simp)
    have Q2 := (HP2.out.setOther ⟨w.heap.size, 0, none⟩ (.slice va L.length vcap) (by simp)).set 0 (.int .i64 0)
    have d1 := Q1.cell 0; have d2 := Q2.cell 0
    have hsl2 := ((Hsl.out.setOne HP1.out (.slice va L.length vcap)).setOne (HP2.out.setOther ⟨w.heap.size, 0, none⟩ (.slice va L.length vcap) (by simp)) (.int .i64 0))
    have hbz := ((Kept.next HB1.out HB1.out.size (by omega) Hk.out).setCell (p := ⟨w.heap.size, 0, none⟩) (Nat.le_refl _) (.slice va L.length vcap)).setCell (p := ⟨w.heap.size + 1, 0, none⟩) (Nat.le_succ _) (.int .i64 0)
    generalize ((w2.setCell ⟨w.heap.size, 0, none⟩ (.slice va L.length vcap)).setCell ⟨w.heap.size + 1, 0, none⟩ (.int .i64 0)) = wz at *
    change wz.cell? ⟨w.heap.size, 0, none⟩ = some (.slice va L.length vcap) at d1
    change wz.cell? ⟨w.heap.size + 1, 0, none⟩ = some (.int .i64 0) at d2
    refine leaves_cons (f := 29) (args := #[.pointer (some ⟨w.heap.size, 0, none⟩), .pointer (some ⟨w.heap.size + 1, 0, none⟩)]) (by simp) (by simp [go_sem]) ?_
    refine (catch_idle w.heap.size (w.heap.size + 1) wz).mono ?_
    rintro e u' w'' ⟨rfl, rfl, rfl⟩
    refine dec_end (v := .tuple #[.slice va L.length vcap, .int .i64 0]) (by simp [results, Try.results15, go_sem, d1, d2]) ⟨_, by rw [Hd.out], by rw [Hd.out]; exact hsl2, hbz⟩
  · have P1 := hk.blk Hp1.out (show ¬ w.heap.size = q by omega)
    have P2 := hk.blk Hp2.out (show ¬ w.heap.size + 1 = q by omega)
    have c1 := P1.cell 0; have c2 := P2.cell 0; have f1 := P1.free 0 (Or.inr (Nat.zero_le _)); have f2 := P2.free 0 (Or.inr (Nat.zero_le _))
    change w2.cell? ⟨w.heap.size, 0, none⟩ = some (.slice none 0 0) at c1
    change w2.cell? ⟨w.heap.size + 1, 0, none⟩ = some (.int .i64 0) at c2
    refine leaves_cons (f := 29) (args := #[.pointer (some ⟨w.heap.size, 0, none⟩), .pointer (some ⟨w.heap.size + 1, 0, none⟩)]) (by simp) (by simp [go_sem]) ?_
    refine (catch_err w.heap.size (w.heap.size + 1) (by omega) c w2 _ _ c1 c2 f1 f2).mono ?_
    rintro e u' w'' ⟨rfl, rfl, rfl⟩
    have Q1 := (P1.set 0 (.slice none 0 0)).setOther ⟨w.heap.size + 1, 0, none⟩ (.int .i64 c) (by simp)
    have Q2 := (P2.setOther ⟨w.heap.size, 0, none⟩ (.slice none 0 0) (by simp)).set 0 (.int .i64 c)
    have d1 := Q1.cell 0; have d2 := Q2.cell 0
    have hbz := ((Kept.next HB1.out HB1.out.size (by omega) hk).setCell (p := ⟨w.heap.size, 0, none⟩) (Nat.le_refl _) (.slice none 0 0)).setCell (p := ⟨w.heap.size + 1, 0, none⟩) (Nat.le_succ _) (.int .i64 c)
    generalize ((w2.setCell ⟨w.heap.size, 0, none⟩ (.slice none 0 0)).setCell ⟨w.heap.size + 1, 0, none⟩ (.int .i64 c)) = wz at *
    change wz.cell? ⟨w.heap.size, 0, none⟩ = some (.slice none 0 0) at d1
    change wz.cell? ⟨w.heap.size + 1, 0, none⟩ = some (.int .i64 c) at d2
    refine dec_end (v := .tuple #[.slice none 0 0, .int .i64 c]) (by simp [results, Try.results15, go_sem, d1, d2]) ⟨_, by rw [hd], by rw [hd]; exact ⟨none, 0, rfl, Nat.le_refl _, Nat.zero_le _, fun i hi => by cases hi⟩, hbz⟩
end Go.Proofs.Ytaikcehdomaebaa
