/- DrawTells: the walk: whatever is asked, the numbers that are handed out are as the document says. -/
import Derived.Test.YtcnpldeehbleeaaDrawRef
import Derived.Test.YtcnpldeehbleeaaOwn
import Derived.Deep.RegionHeld3
namespace Go.Proofs.Ytcnpldeehbleeaa
open Go.RowKit
theorem cellsU32 : Try.prog.cellsOf 30 = 1 := by kernel_rfl
theorem cellsInt : Try.prog.cellsOf 3 = 1 := by kernel_rfl
theorem cellsU8 : Try.prog.cellsOf 5 = 1 := by kernel_rfl
theorem cellsInts : Try.prog.cellsOf 31 = 1 := by kernel_rfl
theorem cellsAct : Try.prog.cellsOf 33 = 3 := by kernel_rfl
theorem wf_u32 {x : Int} (h : (Lit.int .u32 x).wf = true) : 0 ≤ x ∧ x < 4294967296 := by
  have : 0 ≤ x ∧ x ≤ 4294967295 := by simpa [Lit.wf, IntKind.min, IntKind.max, IntKind.signed, IntKind.bits] using h
  omega
theorem wf_u8 {x : Int} (h : (Lit.int .u8 x).wf = true) : 0 ≤ x ∧ x < 256 := by
  have : 0 ≤ x ∧ x ≤ 255 := by simpa [Lit.wf, IntKind.min, IntKind.max, IntKind.signed, IntKind.bits] using h
  omega
theorem wf_i64 {x : Int} (h : (Lit.int .i64 x).wf = true) : -9223372036854775808 ≤ x ∧ x ≤ 9223372036854775807 := by
  simpa [Lit.wf, IntKind.min, IntKind.max, IntKind.signed, IntKind.bits] using h
/-- an act, read -/
theorem act_of {w : World} {es : List Value} (h : Rd Try.prog w 33 es) :
    ∃ x n lv row, es = [.int .u8 x, .int .i64 n, lv] ∧ (0 ≤ x ∧ x < 256) ∧ (-9223372036854775808 ≤ n ∧ n ≤ 9223372036854775807) ∧ SlI w lv .i64 row := by
  obtain ⟨hl, hf⟩ := h.struct Try.underlying33
  rw [cellsAct] at hl
  obtain ⟨c0, c1, c2, rfl⟩ : ∃ c0 c1 c2, es = [c0, c1, c2] := by
    match es, hl with
    | [c0, c1, c2], _ => exact ⟨c0, c1, c2, rfl⟩
  have f0 : Rd Try.prog w 5 (([c0, c1, c2].drop 0).take (Try.prog.cellsOf 5)) := hf 0 _ rfl
  have f1 : Rd Try.prog w 3 (([c0, c1, c2].drop 1).take (Try.prog.cellsOf 3)) := hf 1 _ rfl
  have f2 : Rd Try.prog w 31 (([c0, c1, c2].drop 2).take (Try.prog.cellsOf 31)) := hf 2 _ rfl
  rw [cellsU8] at f0; rw [cellsInt] at f1; rw [cellsInts] at f2
  obtain ⟨x, e0, hx⟩ := Rd.int Try.underlying5 f0
  obtain ⟨n, e1, hn⟩ := Rd.int Try.underlying3 f1
  obtain ⟨row, hr, _⟩ := Rd.ints Try.underlying31 Try.underlying3 cellsInt (v := c2) (by simpa using f2)
  have e0' : c0 = .int .u8 x := by simpa using e0
  have e1' : c1 = .int .i64 n := by simpa using e1
  subst e0' e1'
  exact ⟨x, n, c2, row, rfl, wf_u8 hx, wf_i64 hn, hr⟩
theorem SlI.take {w : World} {a : Option Addr} {n cap : Nat} {k : IntKind} {l : List Int} (h : SlI w (.slice a n cap) k l) (m : Nat) (hm : m ≤ n) : ∃ L : List Int, L = l.take m ∧ L.length = m ∧ SlI w (.slice a m cap) k L := by
  obtain ⟨a', cap', e, h1, h2, h3⟩ := h
  simp only [Value.slice.injEq] at e
  obtain ⟨rfl, rfl, rfl⟩ := e
  have hl : (l.take m).length = m := by simp; omega
  refine ⟨_, rfl, hl, a, cap, by rw [hl], by omega, h2, fun i hi => ?_⟩
  obtain ⟨b, off, rfl, hc⟩ := h3 i (by omega)
  exact ⟨b, off, rfl, by simpa using hc⟩
theorem run_min2 {P : Program} (x y : Int) (u : World) (ts : Array TypeId) (t : TypeId) (m : Int) (hm : m = min x y) : (Builtin.min_ ts t #[.int .i64 x, .int .i64 y]).run P u = .ok (.int .i64 m) u := by
  rw [run_min_int2, hm]; congr 2; simp only [Int.min_def]; repeat' split
  all_goals omega
theorem below_grown {w w1 : World} (e : TypeId) (h : (w.alloc (.cells #[] e)).grownBy w1 (some w.heap.size)) : Below w.heap.size w w1 :=
  ((Below.refl _ _).alloc (Nat.le_refl _) _).trans ⟨h.os, h.tape, h.output, h.size, fun k hk => h.block k (by simp; omega) (by simp; omega)⟩
/-- append([]uint32{}, s...): numbers that are the law's own -/
theorem copied (w : World) (a0 : Option Addr) (cap0 : Nat) (L : List Int) (hs : SlI w (.slice a0 L.length cap0) .u32 L) (hL : L.length ≤ 1000) :
    ∃ g1 cap1 w1, (Builtin.append_ #[22, 22] 22 #[.slice (some ⟨w.heap.size, 0, none⟩) 0 0, .slice a0 L.length cap0]).run Try.prog (w.alloc (.cells #[] 30)) = .ok (.slice (some ⟨g1, 0, none⟩) L.length cap1) w1 ∧
      OwnI w1 (.slice (some ⟨g1, 0, none⟩) L.length cap1) g1 30 .u32 L ∧ w.heap.size ≤ g1 ∧ g1 < w1.heap.size ∧ Below w.heap.size w w1 := by
  have o0 : OwnI (w.alloc (.cells #[] 30)) (.slice (some ⟨w.heap.size, 0, none⟩) 0 0) w.heap.size 30 .u32 [] := OwnI.new w 30 .u32 [] (Nat.zero_le _)
  obtain ⟨v1, w1, g1, hr, ho, hge, hgr⟩ := run_append_ints (P := Try.prog) (ty := 22) 4 Try.underlying22 infoU32 o0 (hs.alloc _) (by unfold maxLen; simp; omega) (by simp; omega)
  rw [List.nil_append] at ho
  have hlt := ho.lt
  have ho' := ho
  obtain ⟨cap1, ex, rfl, _⟩ := ho'
  exact ⟨g1, cap1, w1, hr, ho, hge, hlt, below_grown _ hgr⟩
theorem nextL_bd (l : List Int) (n : Int) (h : ∀ x ∈ l, 0 ≤ x ∧ x < 4294967296) : ∀ x ∈ nextL l n, 0 ≤ x ∧ x < 4294967296 := by
  intro x hx
  unfold nextL at hx
  split at hx
  · exact h x hx
  · exact h x (List.mem_of_mem_tail hx)
theorem pickL_bd (l row : List Int) (h : ∀ x ∈ l, 0 ≤ x ∧ x < 4294967296) : ∀ x ∈ pickL l row, 0 ≤ x ∧ x < 4294967296 := by
  intro x hx
  unfold pickL at hx
  split at hx
  · exact h x hx
  · exact nextL_bd _ _ h x hx
theorem Picked.det {row l : List Int} {x y : Int} {a b : Bool} (h : Picked row l x a) (k : Picked row l y b) : x = y ∧ a = b := by
  rcases h with ⟨h0, rfl, rfl⟩ | ⟨rfl, h1, rfl⟩ <;> rcases k with ⟨k0, rfl, rfl⟩ | ⟨rfl, k1, rfl⟩
  · exact ⟨rfl, rfl⟩
  · subst h0; exact absurd k1 (Nat.not_lt_zero _)
  · subst k0; exact absurd h1 (Nat.not_lt_zero _)
  · exact ⟨rfl, rfl⟩
set_option maxRecDepth 100000 in
set_option maxHeartbeats 2000000 in
theorem lawDrawTells_any (v u : Value) (w : World) (hv : Rd Try.prog w 22 [v]) (hu : Rd Try.prog w 23 [u]) :
    Calls Try.prog 3 #[v, u] w fun e w' => e = .returned (.bool true) ∧ Below w.heap.size w w' := by
  obtain ⟨l, hl, hx⟩ := hv.ints Try.underlying22 Try.underlying30 cellsU32
  obtain ⟨a, len, cap, hu1, h1, h2, h3⟩ := hu.slice Try.underlying23 (by rw [cellsAct]; decide)
  obtain rfl : u = .slice a len cap := by simpa using hu1
  rw [cellsAct] at h3
  obtain ⟨a0, cap0, rfl, g1, g2, g3⟩ := id hl
  obtain ⟨m, hm⟩ : ∃ m : Nat, m = min l.length 40 := ⟨_, rfl⟩
  have hmin := fun u => run_min2 (P := Try.prog) l.length 40 u #[3, 3] 3 (m : Int) (by omega)
  obtain ⟨L, hLl, rfl, hs⟩ := hl.take m (by omega)
  have hL : L.length ≤ 40 := by omega
  have hLe : L.length ≤ l.length := by omega
  have hxL : ∀ x ∈ L, 0 ≤ x ∧ x < 4294967296 := fun x hx' => wf_u32 (hx x (by rw [hLl] at hx'; exact List.mem_of_mem_take hx'))
  obtain ⟨c1, k1, w1, hr1, ho1, hc1, hc1', hb1⟩ := copied w a0 cap0 L hs (by omega)
  obtain ⟨c2, k2, w2, hr2, ho2, hc2, hc2', hb2⟩ := copied w1 (some ⟨c1, 0, none⟩) k1 L ho1.sl (by omega)
  have hsl := run_slice_to (P := Try.prog) 22 30 a0 l.length cap0 L.length Try.underlying22 (by kernel_rfl) (by omega)
  have H3 := Lib.hid h3; have HxL := Lib.hid hxL; have HO1 := Lib.hid (ho1.later hb2); have HO2 := Lib.hid ho2
  have HB := Lib.hid (hb1.next' hb2)
  clear h3 g3 hx hu hv hu1 hl hs hm hLl hxL ho1 ho2 hb1 hb2
  unfold maxLen at g2 h2
  go_enter Try.func3, Try.ntmps3
  go_wp2_with (first | (at_builtin; refine wpList_append_run rfl (.tmp 15) (.tmp 20) _ _ rfl hr1 ?_) | (at_builtin; refine wpList_append_run rfl (.tmp 22) (.tmp 23) _ _ rfl hr2 ?_))
  have hR : RDr (w2.alloc (.cells #[.slice (some ⟨c2, 0, none⟩) L.length k2, .int .i64 0] 26)) w2.heap.size c2 L :=
    ⟨_, L, 0, Blk.new _ _ _ _, HO2.out.sl.alloc _, rfl, by omega, by simp; omega, Nat.zero_le _, rfl, HxL.out⟩
  have ho := HO1.out.later (later_lit w2 #[.slice (some ⟨c2, 0, none⟩) L.length k2, .int .i64 0] 26)
  have hB := HB.out.next' (later_lit w2 #[.slice (some ⟨c2, 0, none⟩) L.length k2, .int .i64 0] 26)
  have hp : w.heap.size ≤ w2.heap.size ∧ w2.heap.size ≠ c1 ∧ c2 ≠ c1 := ⟨HB.out.size, by have := HO1.out.lt; omega, by omega⟩
  clear HB HO1 HO2 hr1 hr2 hmin hsl
  have hw3 : w2.heap.size < (w2.alloc (.cells #[.slice (some ⟨c2, 0, none⟩) L.length k2, .int .i64 0] 26)).heap.size := by simp
  generalize (w2.alloc (.cells #[.slice (some ⟨c2, 0, none⟩) L.length k2, .int .i64 0] 26)) = w3 at *
  generalize w2.heap.size = p at *
  clear hc1' hc2' hc2
  refine (new_ex _ L (by omega) HxL.out _ ho.sl).mono ?_
  rintro e w4 ⟨p', q', rfl, d4, hp', hq', hpl', hql', b4⟩
  have R4 := hR.later b4
  have o4 := ho.later b4
  have B4 := hB.next' b4
  have hlt := ho.lt
  have hRl := hR.lt
  have Hsz := Lib.hid hB.size
  clear hR ho hB b4
  have R4' := Lib.hid R4; have O4 := Lib.hid o4; have B4' := Lib.hid B4; have D4 := Lib.hid d4
  clear R4 o4 B4 d4
  go_wp2_with fail
  refine (drawWorks_any _).mono ?_
  rintro e w5 ⟨rfl, b5⟩
  have R5 := Lib.hid (R4'.out.later b5); have O5 := Lib.hid (O4.out.later b5); have D5 := Lib.hid (D4.out.later b5)
  have B5 := Lib.hid (B4'.out.next' b5)
  clear R4' O4 D4 B4' b5
  go_wp2_with fail
  go_loopw [8] (fun i wr => ∃ (k : Nat) (L' : List Int), k ≤ L.length ∧ i = .int .i64 k ∧ L'.length = L.length ∧ (∀ x ∈ L', 0 ≤ x ∧ x < 4294967296) ∧ OwnI wr (.slice (some ⟨c1, 0, none⟩) L.length k1) c1 30 .u32 L' ∧ RDr wr p c2 L ∧ Dr wr p' q' L ∧ Below w.heap.size w wr) (fun i _ => L.length - (intOf i).toNat)
  case atStart => exact ⟨0, L, Nat.zero_le _, rfl, rfl, HxL.out, O5.out, R5.out, D5.out, B5.out⟩
  case round =>
    obtain ⟨k, L', hk, rfl, hL', hx', ho, hr, hd, hb⟩ := hrel
    have HL' := Lib.hid hL'; have HX := Lib.hid hx'; have HO := Lib.hid ho; have HR := Lib.hid hr; have HD := Lib.hid hd; have HB := Lib.hid hb
    clear hL' hx' ho hr hd hb O5 R5 D5 B5
    by_cases hlt : k < L.length
    · have hlt' : k < L'.length := by rw [HL'.out]; exact hlt
      have hcell := HO.out.cell k hlt'
      have hfz := HO.out.free k
      have hxk := HX.out _ (List.getElem_mem hlt')
      generalize L'[k] = y at *
      go_wp2
      go_roundw
      case rel =>
        refine ⟨k + 1, L'.set k ((y + 1) % 4294967296), by omega, by go_num, by rw [List.length_set]; exact HL'.out, ?_, HO.out.set k hlt' _, HR.out.kept ((Kept.refl (· = c1) wr).setCell (p := ⟨c1, k, none⟩) rfl _) hp.2.1 hp.2.2, HD.out.kept ((Kept.refl (· = c1) wr).setCell (p := ⟨c1, k, none⟩) rfl _) (by show ¬ p' = c1; omega) (by show ¬ q' = c1; omega), HB.out.setCell (p := ⟨c1, k, none⟩) hc1 _⟩
        intro x hx
        rcases List.mem_or_eq_of_mem_set hx with h | h
        · exact HX.out x h
        · omega
      case measure => simp [intOf]; omega
    · go_wp2_with fail
      clear HO HX HL' hlt hk
      go_loopw [9] (fun i wr => ∃ (k : Nat) (left : List Int), k ≤ 50 ∧ i = .int .i64 k ∧ (∀ x ∈ left, 0 ≤ x ∧ x < 4294967296) ∧ RDr wr p c2 left ∧ Dr wr p' q' left ∧ Below w.heap.size w wr) (fun i _ => 50 - (intOf i).toNat)
      case atStart => exact ⟨0, L, by omega, rfl, HxL.out, HR.out, HD.out, HB.out⟩
      case round =>
        obtain ⟨k, left, hk, rfl, hx', hr, hd, hb⟩ := hrel
        have HX := Lib.hid hx'
        clear HR HD HB hx'
        have HR := Lib.hid hr; have HD := Lib.hid hd; have HB := Lib.hid hb
        clear hr hd hb
        by_cases hkl : k < len ∧ k < 50
        · obtain ⟨hkl, hk5⟩ := hkl
          obtain ⟨b, off, rfl, es, hes, hcs, hrd⟩ := H3.out k hkl
          obtain ⟨x, n, lv, row, rfl, hxb, hnb, hrow⟩ := act_of hrd
          have q0 := hcs 0 (by omega)
          have q1 := hcs 1 (by omega)
          have q2 := hcs 2 (by omega)
          have hbl := block_lt_of_cell q0
          have hbb := HB.out.block b hbl
          have c0 : _ = some _ := (World.cell?_of_block (a := ⟨b, off + (k * 3 + 0), none⟩) hbb).trans q0
          have c1' : _ = some _ := (World.cell?_of_block (a := ⟨b, off + (k * 3 + 1), none⟩) hbb).trans q1
          have c2' : _ = some _ := (World.cell?_of_block (a := ⟨b, off + (k * 3 + 2), none⟩) hbb).trans q2
          simp only [Nat.add_zero] at c0
          rw [← Nat.add_assoc] at c1' c2'
          have HRow := Lib.hid hrow
          clear hcs hrd q0 q1 q2 hes hbb
          obtain ⟨ra, rcap, rfl, _⟩ := id hrow
          clear hrow
          have hlat := later_lit wr #[.int .u8 x, .int .i64 n, .slice ra row.length rcap] 33
          have HRb := Lib.hid (HR.out.later hlat); have HDb := Lib.hid (HD.out.later hlat)
          have HBb := Lib.hid (HB.out.trans (hlat.mono HB.out.size))
          have hbox := Blk.new wr #[.int .u8 x, .int .i64 n, .slice ra row.length rcap] 33 (0, 0)
          have hpl := HR.out.lt
          have hdl := HD.out.lt
          have hwr := HB.out.size
          clear hlat HR HD HB
          have hrb := HRow.out.below HBb.out
          have HRow' := Lib.hid hrb
          have hne : ∀ z, w.heap.size ≤ z → row ≠ [] → (Value.slice ra row.length rcap).ownBlock ≠ some z := fun z hz hr e => by
            have := HRow.out.lt (List.length_pos_iff.2 hr) z e; omega
          have Hne := Lib.hid hne
          have Hbox := Lib.hid hbox
          clear hbox hne hrb
          have hnL := nextL_bd left n HX.out
          have hpL := pickL_bd left row HX.out
          have HnL := Lib.hid hnL; have HpL := Lib.hid hpL; clear hnL hpL
          by_cases hx3 : x % 3 < 2
          · go_wp2_with fail
            have g1 := Hbox.out.cell 1
            clear c0 c1' c2'
            generalize (wr.alloc (.cells #[.int .u8 x, .int .i64 n, .slice ra row.length rcap] 33)) = wb at *
            change wb.cell? ⟨wr.heap.size, 1, none⟩ = some (.int .i64 n) at g1
            have HN := Lib.hid (Eq.refl (nextV left n))
            have C1 := Lib.hid (fun W h => next_any p' q' left n hnb W h)
            have C2 := Lib.hid (fun W h => refNext_any p c2 left n hnb W h)
            generalize nextV left n = y at *
            clear HN
            go_region_held3 (fun w' => w'.cell? ⟨wr.heap.size, 1, none⟩ = some (.int .i64 n)) (first | exact g1 | exact (hk'.blk Hbox.out (by show ¬ _ = p'; omega)).cell 1 | exact (hk''.blk (hk'.blk Hbox.out (by show ¬ _ = p'; omega)) (by show ¬ _ = p; omega)).cell 1)
              (first
                | (go_at_call 13; refine (C1.out _ ?_).mono ?_; exact HDb.out; rintro e w' ⟨rfl, hd', hk'⟩)
                | (go_at_call 14; refine (C2.out _ ?_).mono ?_; exact (RDr.kept (w := World.drew _) HRb.out hk' (by show ¬ p = p'; omega) (by show ¬ c2 = p'; omega)); rintro e w'' ⟨rfl, hr', hk''⟩))
            have HDt := Lib.hid (hd'.kept hk'' (by show ¬ p' = p; omega) (by show ¬ q' = p; omega))
            have HRt := Lib.hid (hr')
            have HBt := Lib.hid ((HBb.out.drew.trans (hk'.below (B := w.heap.size) (Nat.le_trans hwr (Nat.le_of_lt Hbox.out.lt)) (fun z hz => by have := Hsz.out; omega))).trans (hk''.below (B := w.heap.size) (Nat.le_trans (Nat.le_trans hwr (Nat.le_of_lt Hbox.out.lt)) hk'.size) (fun z hz => by omega)))
            clear hd' hk' hr' hk'' C1 C2 g1 HDb HRb HBb HRow' Hbox
            go_wp2_with fail
            ((with_reducible refine (left_any p' q' _ _ HDt.out).mono ?_); rintro e w' ⟨rfl, rfl⟩)
            go_wp2_with fail
            ((with_reducible refine (refLeft_any p c2 _ _ HRt.out).mono ?_); rintro e w' ⟨rfl, hbt⟩)
            have HDu := Lib.hid (HDt.out.later hbt)
            have HRu := Lib.hid (HRt.out.later hbt)
            have HBu := Lib.hid (HBt.out.trans (hbt.mono HBt.out.size))
            clear hbt HDt HRt HBt
            go_wp2_with fail
            go_roundw
            case rel => exact ⟨k + 1, _, by omega, by go_num, HnL.out, HRu.out, HDu.out, HBu.out⟩
            case measure => simp [intOf]; omega
          · go_wp2_with fail
            clear c0 c1' c2'
            have g2 := Hbox.out.cell 2
            generalize (wr.alloc (.cells #[.int .u8 x, .int .i64 n, .slice ra row.length rcap] 33)) = wb at *
            change wb.cell? ⟨wr.heap.size, 2, none⟩ = some (.slice ra row.length rcap) at g2
            refine (pick_any p' q' left row _ _ HDb.out HRow'.out (Hne.out p' (by have := Hsz.out; omega))).mono ?_
            rintro e w' ⟨x1, ok1, rfl, hp1, hd', hk'⟩
            have g3 := (hk'.blk Hbox.out (by show ¬ _ = p'; omega)).cell 2
            change w'.cell? ⟨wr.heap.size, 2, none⟩ = some (.slice ra row.length rcap) at g3
            have Hp1 := Lib.hid hp1
            have HB' := Lib.hid (HBb.out.trans (hk'.below (B := w.heap.size) (Nat.le_trans hwr (Nat.le_of_lt Hbox.out.lt)) (fun z hz => by have := Hsz.out; omega)))
            have Hrow2 := Lib.hid (HRow.out.below HB'.out)
            have HR' := Lib.hid (HRb.out.kept hk' (by show ¬ p = p'; omega) (by show ¬ c2 = p'; omega))
            have Hd' := Lib.hid hd'
            clear hp1 g2 hd' hk'
            go_wp2_with fail
            refine (refPick_any p c2 left row _ _ HR'.out HX.out Hrow2.out (Hne.out p (by omega))).mono ?_
            rintro e w'' ⟨x2, ok2, rfl, hp2, hr', hk''⟩
            obtain ⟨rfl, rfl⟩ := Hp1.out.det hp2
            clear g3 hp2
            have HDt := Lib.hid (Hd'.out.kept hk'' (by show ¬ p' = p; omega) (by show ¬ q' = p; omega))
            have HRt := Lib.hid (hr')
            have HBt := Lib.hid (HB'.out.trans (hk''.below (B := w.heap.size) HB'.out.size (fun z hz => by omega)))
            clear hr' hk'' Hp1 HB' Hrow2 HR' Hd' HDb HRb HBb HRow' Hbox
            go_wp2_with fail
            ((with_reducible refine (left_any p' q' _ _ HDt.out).mono ?_); rintro e w' ⟨rfl, rfl⟩)
            go_wp2_with fail
            ((with_reducible refine (refLeft_any p c2 _ _ HRt.out).mono ?_); rintro e w' ⟨rfl, hbt⟩)
            have HDu := Lib.hid (HDt.out.later hbt)
            have HRu := Lib.hid (HRt.out.later hbt)
            have HBu := Lib.hid (HBt.out.trans (hbt.mono HBt.out.size))
            clear hbt HDt HRt HBt
            go_wp2_with fail
            go_roundw
            case rel => exact ⟨k + 1, _, by omega, by go_num, HpL.out, HRu.out, HDu.out, HBu.out⟩
            case measure => simp [intOf]; omega
        · have HRt := Lib.hid hk
          clear hk HR HD HX
          by_cases hkl2 : k < len
          · have hk50 : k = 50 := by have := HRt.out; omega
            subst hk50
            go_wp2_with fail
            go_ret
            exact ⟨rfl, HB.out⟩
          · go_wp2_with fail
            go_ret
            exact ⟨rfl, HB.out⟩
end Go.Proofs.Ytcnpldeehbleeaa
