/- net.New. -/
import Derived.Test.YtnkcmlngoeofgaaDoorNetOf
import Derived.Test.YtnkcmlngoeofgaaDoorErrWrapN
namespace Go.Proofs.YtnkcmlngoeofgaaDoor
open Go.RowKit
set_option maxRecDepth 100000 in
set_option maxHeartbeats 4000000 in
theorem new_any (v : Value) (r : Raw) (w : World) (hg : HG w) (h : RawV w v r) (hl : r.few) : Calls Tryd.prog 29 #[v] w fun e w' =>
    ((¬ r.ok ∧ ∃ u, e = .returned (.tuple #[.pointer none, u]) ∧ ErrIs w' u r.wrong.1 r.wrong.2.1 r.wrong.2.2.1 r.wrong.2.2.2) ∨ (r.ok ∧ ∃ p, e = .returned (.tuple #[.pointer (some ⟨p, 0, none⟩), .nilIface]) ∧ NetB w.heap.size w' p r)) ∧ Below w.heap.size w w' := by
  have hV := h
  obtain ⟨vx, vy, va, rfl, hx, hy, ha⟩ := h
  have fx := hx.form; have fy := hy.form; have fa := ha.form
  obtain ⟨w1, hw1⟩ : ∃ w1, w1 = w.alloc (.cells #[.int .i64 r.nodes, vx, vy, va] 25) := ⟨_, rfl⟩
  obtain ⟨B1, hB1⟩ : ∃ b, b = w.heap.size := ⟨_, rfl⟩
  have hb1 : Below w.heap.size w w1 := by rw [hw1]; exact (Below.refl _ _).alloc (Nat.le_refl _) _
  have K1 : Blk w1 B1 #[.int .i64 r.nodes, vx, vy, va] 25 (0, 0) := by rw [hw1, hB1]; exact Blk.new _ _ _ _
  have C := Lib.hid (check_raw _ _ _ (hV.below hb1))
  have CO := Lib.hid (fun u (hu : Below w1.heap.size w1 u) => own_any _ r u ((hV.below hb1).below hu) hl)
  have HG1 := Lib.hid (hg.later hb1)
  have HB := Lib.hid hb1; have HK1 := Lib.hid K1; have HW1 := Lib.hid hw1; have HB1 := Lib.hid hB1
  have hw := r.wrong_zero
  clear hV hx hy ha hb1 K1 hw1 hg hl
  obtain ⟨_, _, _, rfl⟩ := fx
  obtain ⟨_, _, _, rfl⟩ := fy
  obtain ⟨_, _, _, rfl⟩ := fa
  go_enter Tryd.func29, Tryd.ntmps29
  go_wp2_with fail
  rw [← HW1.out, ← hB1]
  clear hB1
  refine C.out.mono ?_
  rintro e w2 ⟨u, rfl, hi, hb2⟩
  have HB2 := Lib.hid (HB.out.next' hb2); have Hb2 := Lib.hid hb2
  rcases hi.form with ⟨rfl, hz⟩ | ⟨⟨ty, xv, rfl⟩, hz⟩
  · have hok := hw.1 hz
    have Hok := Lib.hid hok
    have k2 := HK1.out.below hb2 HK1.out.lt
    have c0 := k2.cell 0; have c1 := k2.cell 1; have c2 := k2.cell 2; have c3 := k2.cell 3
    simp only [List.getElem?_toArray, List.getElem?_cons_succ, List.getElem?_cons_zero] at c0 c1 c2 c3
    have C3 := Lib.hid (CO.out w2 hb2)
    clear hi hb2 hok hz k2 hw
    go_wp2_with fail
    refine C3.out.mono ?_
    rintro e w3 ⟨v3, rfl, ho, hb3⟩
    have HB3 := Lib.hid (HB2.out.next' hb3)
    have C4 := Lib.hid (of_any v3 r w2.heap.size w3 ho (r.ok_iff.1 Hok.out) hb3.size)
    have hv3 : ∃ a b c d, v3 = .agg #[a, b, c, d] := by obtain ⟨a, b, c, e, _⟩ := ho; exact ⟨_, _, _, _, e⟩
    obtain ⟨_, _, _, _, rfl⟩ := hv3
    clear ho hb3 c0 c1 c2 c3
    go_wp2_with fail
    refine C4.out.mono ?_
    rintro e w4 ⟨p, rfl, hn, hb4⟩
    have HN : Hid (NetB w.heap.size w4 p r) := Lib.hid (fun w'' hs hk => hn w'' hs fun k h1 h2 => hk k (Nat.le_trans HB2.out.size h1) h2)
    have HB4 := Lib.hid (HB3.out.next' hb4)
    clear hn hb4
    go_wp2_with fail
    go_ret2
    exact ⟨.inr ⟨Hok.out, _, rfl, HN.out⟩, HB4.out⟩
  · have hnok : ¬ r.ok := fun h => hz (hw.2 h)
    have Hnok := Lib.hid hnok
    have C3 := Lib.hid (told_is w2 _ _ _ _ _ (HG1.out.later hb2) hi)
    have Hz := Lib.hid hz
    clear hi hb2 hnok hz hw
    obtain ⟨c, hc⟩ : ∃ c, c = r.wrong := ⟨_, rfl⟩
    rw [← hc] at C3 Hz
    obtain ⟨c0, c1, c2, c3⟩ := c
    have Hc := Lib.hid hc
    clear hc
    go_wp2_with fail
    refine C3.out.mono ?_
    rintro e w3 ⟨rfl, hb3⟩
    have HB3 := Lib.hid (HB2.out.next' hb3)
    have hal := (Below.refl w3.heap.size w3).alloc (Nat.le_refl _) (.cells #[.int .i64 c0, .int .i64 c1, .int .i64 c2, .int .i64 c3] 47)
    have HB4 := Lib.hid (HB3.out.next' hal)
    have HBl := Lib.hid (Blk.new w3 #[.int .i64 c0, .int .i64 c1, .int .i64 c2, .int .i64 c3] 47 (0, 0))
    clear hb3 hal
    go_wp2_with fail
    go_ret2
    exact ⟨.inl ⟨Hnok.out, _, rfl, by rw [← Hc.out]; exact .inr ⟨Hz.out, _, asTo_netTrouble _ _, HBl.out⟩⟩, HB4.out⟩
end Go.Proofs.YtnkcmlngoeofgaaDoor
