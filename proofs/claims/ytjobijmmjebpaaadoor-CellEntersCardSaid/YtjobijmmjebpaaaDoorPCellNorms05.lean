/- Texts of the law CellNorms, merged: NetBy. -/
import Derived.Test.YtjobijmmjebpaaaDoorPCellNorms04
import Derived.Test.YtjobijmmjebpaaaDoorPCellNorms02
import Derived.Deep.Cut
/- net.of's closure: the rows of arcs by an end. -/
namespace Go.Proofs.YtjobijmmjebpaaaDoor
open Go.RowKit
/-- v is a slice of slices of numbers -/
def SlR (w : World) (v : Value) (rows : List (List Int)) : Prop :=
  ∃ (a : Option Addr) (cap : Nat), v = .slice a rows.length cap ∧ rows.length ≤ cap ∧ cap ≤ maxLen ∧ ∀ i (h : i < rows.length), ∃ b off cs t fr rv, a = some ⟨b, off, none⟩ ∧ Blk w b cs t fr ∧ cs[off + i]? = some rv ∧ SlX w rv rows[i]
theorem SlR.keep {w w' : World} {v : Value} {L : List (List Int)} (h : SlR w v L) (hk : KpC w w') : SlR w' v L := by
  obtain ⟨a, cap, e, h1, h2, h3⟩ := h
  refine ⟨a, cap, e, h1, h2, fun i hi => ?_⟩
  obtain ⟨b, off, cs, t, fr, rv, ea, hb, hc, hr⟩ := h3 i hi
  exact ⟨b, off, cs, t, fr, rv, ea, hk.blk hb, hc, hr.keep hk⟩
theorem blk_type {w : World} {b : Nat} {cs cs' : Array Value} {t t' : TypeId} {fr fr' : Nat × Nat} (h : Blk w b cs t fr) (h' : Blk w b cs' t' fr') : t = t' := by
  have e := (show w.heap[b]? = some _ from h).symm.trans (show w.heap[b]? = some _ from h')
  have e2 := Option.some.inj e
  injection e2
theorem infoInt : (Tryd.prog.info? 3).map (fun i => (i.zero, i.size, i.bytes)) = some (some (.int .i64 0), 1, 8) := by kernel_rfl
theorem infoRow : (Tryd.prog.info? 30).map (fun i => (i.zero, i.size, i.bytes)) = some (some (.slice none 0 0), 1, 24) := by kernel_rfl
theorem run_make_rows (n : Nat) (hn : n ≤ 10000000000) (u : World) :
    (Instr.makeSlice 72 (.int .i64 n) (.int .i64 n)).run Tryd.prog u = .ok (.slice (some ⟨u.heap.size, 0, none⟩) n n) (u.alloc (.cells (List.replicate n (Value.slice none 0 0)).toArray 30)) := by
  obtain ⟨i0, hi, hz0, hz1, hz2⟩ := info_parts infoRow
  have h := run_make (P := Tryd.prog) u 72 30 i0 (.slice none 0 0) Tryd.underlying72 hi hz0 .i64 .i64 (n : Int) (n : Int) (by omega) (Int.le_refl _) (by rw [hz2]; omega) (by omega)
  have e2 : madeCells #[Value.slice none 0 0] n = (List.replicate n (Value.slice none 0 0)).toArray := by
    apply Array.ext'; rw [toList_madeCells_one]
  simpa [hz1, Value.cells, e2] using h
theorem icells_at (L : List Int) (i : Nat) : (icells .i64 L)[i]? = (L[i]?).map (Value.int .i64) := by
  unfold icells; rw [List.getElem?_toArray, List.getElem?_map]
/-- what an end's function does -/
def EndFn (f : Nat) (E : Ar → Int) : Prop := (∀ args w, (callFunc f args).run Tryd.prog w = .ok (.enter f args) w) ∧ ∀ (a : Ar) (u : World), Calls Tryd.prog f #[.agg #[.int .i64 a.1, .int .i64 a.2.1, .int .i64 a.2.2]] u fun e w' => e = .returned (.int .i64 (E a)) ∧ Below u.heap.size u w'
/-- the rows as the second loop lays them -/
def rowCut (Ba : Nat) (L : List Ar) (E : Ar → Int) (v : Nat) (len : Nat) (rv : Value) : Prop := ∃ o, rv = .slice (some ⟨Ba, o, none⟩) len (rowK E L v L.length).length ∧ (0 < (rowK E L v L.length).length → o = atK E L L.length v)
/-- the rows while the third loop fills them -/
structure Row3 (w : World) (Ba Bw : Nat) (L : List Ar) (E : Ar → Int) (N k : Nat) (u : World) : Prop where
  bel : Below w.heap.size w u
  ex : ∃ csA csW, Blk u Ba csA 3 (0, 0) ∧ csA.size = L.length ∧ Blk u Bw csW 30 (0, 0) ∧ csW.size = N ∧ (∀ v, v < N → ∃ rv, csW[v]? = some rv ∧ rowCut Ba L E v (rowK E L v k).length rv) ∧
    (∀ v, v < N → ∀ (j : Nat) (x : Int), (rowK E L v k)[j]? = some x → csA[atK E L L.length v + j]? = some (.int .i64 x))
theorem Row3.below {w : World} {Ba Bw : Nat} {L : List Ar} {E : Ar → Int} {N k : Nat} {u u' : World} (h : Row3 w Ba Bw L E N k u) (hb : Below u.heap.size u u') : Row3 w Ba Bw L E N k u' := by
  obtain ⟨h1, csA, csW, h2, h3, h4, h5, h6, h7⟩ := h
  exact ⟨h1.next' hb, csA, csW, h2.below hb h2.lt, h3, h4.below hb h4.lt, h5, h6, h7⟩
theorem Row3.step {w : World} {Ba Bw : Nat} {L : List Ar} {E : Ar → Int} {N k v : Nat} {u : World} {o : Nat} (h : Row3 w Ba Bw L E N k u) (hok : EndsOk E L N) (hk : k < L.length) (hv : v < N) (hE : E (L[k]?.getD (0, 0, 0)) = (v : Int)) (hBa : w.heap.size ≤ Ba) (hBw : w.heap.size ≤ Bw)
    (ho : o = atK E L L.length v) :
    Row3 w Ba Bw L E N (k + 1) ((u.setCell ⟨Ba, o + (rowK E L v k).length, none⟩ (.int .i64 (k : Nat))).setCell ⟨Bw, v, none⟩ (.slice (some ⟨Ba, o, none⟩) ((rowK E L v k).length + 1) (rowK E L v L.length).length)) := by
  subst ho
  obtain ⟨h1, csA, csW, h2, h3, h4, h5, h6, h7⟩ := h
  have hne : Ba ≠ Bw := fun e => by subst e; exact absurd (blk_type h2 h4) (by decide)
  have hhit := rowK_hit hE
  have hcap : (rowK E L v k).length + 1 ≤ (rowK E L v L.length).length := by
    have h := rowK_mono E L v (k + 1) (L.length - (k + 1))
    rw [hhit, List.length_append, List.length_singleton, show k + 1 + (L.length - (k + 1)) = L.length by omega] at h
    exact h
  have hin := atK_in hok hv
  refine ⟨(h1.setCell (p := ⟨Ba, _, none⟩) hBa _).setCell (p := ⟨Bw, _, none⟩) hBw _, csA.setIfInBounds (atK E L L.length v + (rowK E L v k).length) (.int .i64 (k : Nat)), csW.setIfInBounds v (.slice (some ⟨Ba, atK E L L.length v, none⟩) ((rowK E L v k).length + 1) (rowK E L v L.length).length), (h2.set _ _).setOther ⟨Bw, v, none⟩ _ hne, by simpa using h3, (h4.setOther ⟨Ba, _, none⟩ _ (fun e => hne e.symm)).set v _, by simpa using h5, fun z hz => ?_, fun z hz j x hj => ?_⟩
  · by_cases e : z = v
    · subst e
      refine ⟨.slice (some ⟨Ba, atK E L L.length z, none⟩) ((rowK E L z k).length + 1) (rowK E L z L.length).length, by simp [h5, hv], atK E L L.length z, ?_, fun _ => rfl⟩
      rw [hhit, List.length_append, List.length_singleton]
    · rw [Array.getElem?_setIfInBounds_ne (Ne.symm e), rowK_miss (by omega)]
      exact h6 z hz
  · by_cases e : z = v
    · subst e
      rw [hhit] at hj
      by_cases hjl : j < (rowK E L z k).length
      · rw [List.getElem?_append_left hjl] at hj
        rw [Array.getElem?_setIfInBounds_ne (by omega)]
        exact h7 z hz j x hj
      · rw [List.getElem?_append_right (by omega)] at hj
        have hj0 : j - (rowK E L z k).length = 0 := by
          rcases Nat.eq_zero_or_pos (j - (rowK E L z k).length) with h | h
          · exact h
          · rw [List.getElem?_eq_none (by simp; omega)] at hj; cases hj
        rw [hj0] at hj
        obtain rfl : (k : Int) = x := by simpa using hj
        have hjj : j = (rowK E L z k).length := by omega
        subst hjj
        simp only [Array.getElem?_setIfInBounds_self]
        rw [if_pos (by omega)]
    · rw [rowK_miss (by omega)] at hj
      have hjl := (List.getElem?_eq_some_iff.1 hj).1
      have hm := rowK_mono E L z k (L.length - k)
      rw [show k + (L.length - k) = L.length by omega] at hm
      rw [Array.getElem?_setIfInBounds_ne]
      · exact h7 z hz j x hj
      · rcases Nat.lt_or_ge z v with hlt | hge
        · have := atK_apart E L L.length hlt
          omega
        · have := atK_apart E L L.length (show v < z by omega)
          omega
theorem app_room {Ba g o len cap : Nat} {csA : Array Value} {u : World} {x : Int} (hA : Blk u Ba csA 3 (0, 0)) (hg : Blk u g #[.int .i64 x] 3 (0, 0)) (hin : o + len < csA.size) (hroom : len + 1 ≤ cap) :
    (Builtin.append_ #[30, 30] 30 #[.slice (some ⟨Ba, o, none⟩) len cap, .slice (some ⟨g, 0, none⟩) 1 1]).run Tryd.prog u = .ok (.slice (some ⟨Ba, o, none⟩) (len + 1) cap) (u.setCell ⟨Ba, o + len, none⟩ (.int .i64 x)) := by
  obtain ⟨i0, hi, _, hz1, _⟩ := info_parts infoInt
  have hs : Src Tryd.prog i0.size 30 (.slice (some ⟨g, 0, none⟩) 1 1) 1 [.int .i64 x] u := by
    refine Src.ofSlice u Tryd.underlying30 ⟨g, 0, none⟩ 1 1 [.int .i64 x] (by rw [hz1]; rfl) (World.news_of_block (cs := #[.int .i64 x]) hg) (by simp [Value.oneCell'])
  have hr := run_append_room_src (P := Tryd.prog) u 30 30 30 3 i0 Tryd.underlying30 hi Ba o len cap _ 1 _ hs hroom
    (fun j hj => by
      have hj0 : j = 0 := by simpa using hj
      subst hj0
      rw [hA.cell, hz1, Nat.mul_one, Nat.add_zero, Array.getElem?_eq_getElem hin]; rfl)
    (fun j _ => hA.free _ (Or.inr (Nat.zero_le _)))
  rw [hz1, Nat.mul_one] at hr
  exact hr
set_option maxRecDepth 100000 in
set_option maxHeartbeats 8000000 in
theorem by_any (f : Nat) (E : Ar → Int) (hE : EndFn f E) (nodes : Int) (vx vy va : Value) (L : List Ar) (N : Nat) (hN : (N : Int) = nodes) (hNb : N ≤ 16777216) (hLb : L.length ≤ 67108864) (hok : EndsOk E L N) (Br : Nat) (w : World) (hBr : Blk w Br #[.int .i64 nodes, vx, vy, va] 26 (0, 0)) (ha : SlA w va L) :
    Calls Tryd.prog 58 #[.func (.func f) #[] #[], .pointer (some ⟨Br, 0, none⟩)] w fun e w' => ∃ v, e = .returned v ∧
      (∀ w'', w'.heap.size ≤ w''.heap.size → (∀ k, w.heap.size ≤ k → k < w'.heap.size → w''.heap[k]? = w'.heap[k]?) → SlR w'' v (rowsOf E L N)) ∧ Below w.heap.size w w' := by
  subst hN
  obtain ⟨aa, ca, rfl, hca, hma, _⟩ := id ha
  unfold maxLen at hma
  obtain ⟨eg, hEc⟩ := hE
  have mk1 := fun u => run_make_ints (P := Tryd.prog) 30 3 .i64 8 Tryd.underlying30 infoInt N (by omega) (by omega) u
  have mk2 := fun u => run_make_ints (P := Tryd.prog) 30 3 .i64 8 Tryd.underlying30 infoInt L.length (by omega) (by omega) u
  have mk3 := fun u => run_make_rows N (by omega) u
  obtain ⟨Bm, hBm⟩ : ∃ b, b = w.heap.size := ⟨_, rfl⟩
  obtain ⟨w1, hw1⟩ : ∃ w1, w1 = w.alloc (.cells (icells .i64 (List.replicate N 0)) 3) := ⟨_, rfl⟩
  have hb1 : Below w.heap.size w w1 := by rw [hw1]; exact (Below.refl _ _).alloc (Nat.le_refl _) _
  have K1 : Blk w1 Bm (icells .i64 (manyL E L N 0)) 3 (0, 0) := by rw [hw1, hBm, manyL_zero]; exact Blk.new _ _ _ _
  have c0 := hBr.cell 0; have c3 := hBr.cell 3
  change w.cell? ⟨Br, 0, none⟩ = some (.int .i64 (N : Nat)) at c0
  change w.cell? ⟨Br, 3, none⟩ = some (.slice aa L.length ca) at c3
  have e3 := cell_later hb1 c3
  rw [hw1] at e3
  have HA := Lib.hid ha; have HBr := Lib.hid hBr; have HB1 := Lib.hid hb1; have HK1 := Lib.hid K1; have HW1 := Lib.hid hw1; have HBm := Lib.hid hBm; have HOk := Lib.hid hok; have HE := Lib.hid hEc
  have hlen : (0 : Int) ≤ (L.length : Int) := by omega
  clear ha hBr hb1 K1 hw1 hok hEc
  go_enter Tryd.func58, Tryd.ntmps58
  go_wp2_with fail
  rw [← HW1.out, ← hBm]
  clear hBm e3 c3 c0
  go_loopw [20] (fun i wr => ∃ (k : Nat), k ≤ L.length ∧ i = .int .i64 k ∧ Hid (Below w.heap.size w wr ∧ Blk wr Bm (icells .i64 (manyL E L N k)) 3 (0, 0))) (fun i _ => L.length - (intOf i).toNat)
  case atStart => exact ⟨0, by omega, rfl, Lib.hid ⟨HB1.out, HK1.out⟩⟩
  case round =>
    obtain ⟨k, hk, rfl, hrel⟩ := hrel
    by_cases hlt : k < L.length
    · have hltI : (k : Int) < (L.length : Int) := by omega
      have i0 : (0 : Int) ≤ (k : Int) := by omega
      obtain ⟨ba, oa, epa, d0, d1, d2⟩ := (HA.out.keep (KpC.of_below hrel.out.1)).at k hlt
      subst epa
      have hends := HOk.out k hlt
      have hgd : L[k]?.getD (0, 0, 0) = L[k] := by rw [List.getElem?_eq_getElem hlt]; rfl
      rw [hgd] at hends
      obtain ⟨v, hv⟩ : ∃ v, v = (E L[k]).toNat := ⟨_, rfl⟩
      have hvE : E L[k] = (v : Int) := by omega
      have hvN : v < N := by omega
      have hst := manyL_step E L N k v hvN (by rw [hgd]; exact hvE)
      obtain ⟨c, hc⟩ : ∃ c, c = (rowK E L v k).length := ⟨_, rfl⟩
      have hcb : c ≤ k := by rw [hc]; exact rowK_le E L v k
      rw [← hc] at hst
      obtain ⟨x, hx⟩ : ∃ x, x = L[k] := ⟨_, rfl⟩
      rw [← hx] at d0 d1 d2 hvE
      obtain ⟨Ba, hBa⟩ : ∃ b, b = wr.heap.size := ⟨_, rfl⟩
      obtain ⟨wc, hwc⟩ : ∃ wc, wc = wr.alloc (.cells #[.int .i64 x.1, .int .i64 x.2.1, .int .i64 x.2.2] 45) := ⟨_, rfl⟩
      have hbc : Below wr.heap.size wr wc := by rw [hwc]; exact (Below.refl _ _).alloc (Nat.le_refl _) _
      have C := HE.out x wc
      rw [hvE] at C
      have hgm := manyL_get E L N k v hvN
      rw [← hc] at hgm
      have hB2 := hrel.out.1.next' hbc
      have hM2 := hrel.out.2.below hbc hrel.out.2.lt
      have i1 : (0 : Int) ≤ (v : Int) := by omega
      have i2 : (v : Int) < (N : Int) := by omega
      have w2 : IntKind.i64.wrap ((c : Int) + 1) = (c : Int) + 1 := wrap_small _ (by omega) (by omega)
      have HC := Lib.hid C; have HB2 := Lib.hid hB2; have HM2 := Lib.hid hM2; have HSt := Lib.hid hst; have HGm := Lib.hid hgm; have HWc := Lib.hid hwc; have HBa := Lib.hid hBa
      clear hrel C hB2 hM2 hst hgm hwc hBa hends hgd hv hvE hc hx hbc
      go_wp2_with fail
      rw [← HWc.out]
      refine HC.out.mono ?_
      rintro e w5 ⟨rfl, hb5⟩
      have hM5 := HM2.out.below hb5 HM2.out.lt
      have hB5 := HB2.out.next' hb5
      have q := hM5.cell v
      rw [icells_at, HGm.out] at q
      change w5.cell? ⟨Bm, v, none⟩ = some (.int .i64 (c : Nat)) at q
      have qf := hM5.free v (Or.inr (Nat.zero_le _))
      have hM6 := hM5.set v (.int .i64 ((c : Int) + 1))
      rw [icells_set, ← HSt.out] at hM6
      have hB6 := hB5.setCell (p := ⟨Bm, v, none⟩) (by rw [HBm.out]; exact Nat.le_refl _) (.int .i64 ((c : Int) + 1))
      have HM6 := Lib.hid hM6; have HB6 := Lib.hid hB6
      clear hM5 hB5 hM6 hB6 hb5 d0 d1 d2
      go_wp2_with fail
      go_roundw
      case rel => exact ⟨k + 1, by omega, by go_num, Lib.hid ⟨HB6.out, HM6.out⟩⟩
      case measure => simp [intOf]; omega
    · obtain rfl : k = L.length := by omega
      have HB2 := Lib.hid hrel.out.1; have HM2 := Lib.hid hrel.out.2
      have bR := HBr.out.below hrel.out.1 HBr.out.lt
      have c0 := bR.cell 0; have c3 := bR.cell 3
      change wr.cell? ⟨Br, 0, none⟩ = some (.int .i64 (N : Nat)) at c0
      change wr.cell? ⟨Br, 3, none⟩ = some (.slice aa L.length ca) at c3
      clear hrel bR HK1 HB1
      have hRf : ∀ u, Below wr.heap.size wr u → (u.cell? ⟨Br, 3, none⟩ = some (.slice aa L.length ca) ∧ u.cell? ⟨Br, 0, none⟩ = some (.int .i64 (N : Nat))) := fun u hu => ⟨cell_later hu c3, cell_later hu c0⟩
      have HRf := Lib.hid hRf
      clear hRf c0 c3
      go_upto_region 7 with fail
      go_cut [7, 8] from 33 (fun s7 s8 wx => ∃ Ba Bw, s7 = .slice (some ⟨Ba, 0, none⟩) L.length L.length ∧ s8 = .slice (some ⟨Bw, 0, none⟩) N N ∧ Hid (Below wr.heap.size wr wx ∧ Blk wx Ba (icells .i64 (List.replicate L.length 0)) 3 (0, 0) ∧ Blk wx Bw (List.replicate N (Value.slice none 0 0)).toArray 30 (0, 0) ∧ wr.heap.size ≤ Ba ∧ wr.heap.size ≤ Bw))
      case first =>
        go_wp2_with fail
        refine wp_region_heldD (fun w' => w'.cell? ⟨Br, 3, none⟩ = some (.slice aa L.length ca) ∧ w'.cell? ⟨Br, 0, none⟩ = some (.int .i64 (N : Nat))) 8 rfl ?_
        change heldD _ _ _ _ _ _ _ 9 _ _ wr.drew
        have hd0 : Below wr.heap.size wr wr.drew := (Below.refl _ _).drew
        have hS0 : wr.drew.cell? ⟨Br, 3, none⟩ = some (.slice aa L.length ca) ∧ wr.drew.cell? ⟨Br, 0, none⟩ = some (.int .i64 (N : Nat)) := HRf.out _ hd0
        refine heldD_takeF (i := 0) (v := .pointer (some ⟨Br, 3, none⟩)) rfl rfl rfl (by kernel_rfl) (by kernel_rfl) (by kernel_rfl) (by kernel_rfl) (fun _ _ _ h => h) (by rfl) (fun w => ⟨by rfl, by go_simp⟩) (fun _ => hS0) ?_
        simp only [List.setIfInBounds_toArray, List.set_cons_zero, List.set_cons_succ]
        refine heldD_take (i := 1) (v := .slice aa L.length ca) rfl rfl rfl (by kernel_rfl) (by kernel_rfl) (by kernel_rfl) (by kernel_rfl) (by kernel_rfl) (by kernel_rfl) (fun _ _ _ h => h) (by rfl) (fun w hS => ⟨by rfl, by obtain ⟨hS1, hS2⟩ := hS; go_simp⟩) hS0 ?_
        simp only [List.setIfInBounds_toArray, List.set_cons_zero, List.set_cons_succ]
        refine heldD_takeF (i := 2) (v := .int .i64 (L.length : Nat)) rfl rfl rfl (by kernel_rfl) (by kernel_rfl) (by kernel_rfl) (by kernel_rfl) (fun _ _ _ h => h) (by rfl) (fun w => ⟨by rfl, by go_simp⟩) (fun _ => hS0) ?_
        simp only [List.setIfInBounds_toArray, List.set_cons_zero, List.set_cons_succ]
        refine heldD_takeF (i := 4) (v := .pointer (some ⟨Br, 0, none⟩)) rfl rfl rfl (by kernel_rfl) (by kernel_rfl) (by kernel_rfl) (by kernel_rfl) (fun _ _ _ h => h) (by rfl) (fun w => ⟨by rfl, by go_simp⟩) (fun _ => hS0) ?_
        simp only [List.setIfInBounds_toArray, List.set_cons_zero, List.set_cons_succ]
        refine heldD_take (i := 5) (v := .int .i64 (N : Nat)) rfl rfl rfl (by kernel_rfl) (by kernel_rfl) (by kernel_rfl) (by kernel_rfl) (by kernel_rfl) (by kernel_rfl) (fun _ _ _ h => h) (by rfl) (fun w hS => ⟨by rfl, by obtain ⟨hS1, hS2⟩ := hS; go_simp⟩) hS0 ?_
        simp only [List.setIfInBounds_toArray, List.set_cons_zero, List.set_cons_succ]
        clear hS0
        refine heldD_two (i := 3) (k := 6) (by kernel_rfl) ?_ ?_
        · obtain ⟨u1, hu1⟩ : ∃ u, u = wr.drew.alloc (.cells (icells .i64 (List.replicate L.length 0)) 3) := ⟨_, rfl⟩
          have hb1 : Below wr.heap.size wr u1 := by rw [hu1]; exact hd0.alloc (Nat.le_refl _) _
          have k1 : Blk u1 wr.heap.size (icells .i64 (List.replicate L.length 0)) 3 (0, 0) := by rw [hu1]; exact Blk.new wr.drew _ _ _
          have hs1 : u1.heap.size = wr.heap.size + 1 := by rw [hu1]; simp
          obtain ⟨u2, hu2⟩ : ∃ u, u = u1.alloc (.cells (List.replicate N (Value.slice none 0 0)).toArray 30) := ⟨_, rfl⟩
          have hb2 : Below u1.heap.size u1 u2 := by rw [hu2]; exact (Below.refl _ _).alloc (Nat.le_refl _) _
          have k2 : Blk u2 (wr.heap.size + 1) (List.replicate N (Value.slice none 0 0)).toArray 30 (0, 0) := by rw [hu2, ← hs1]; exact Blk.new _ _ _ _
          have k1' := k1.below hb2 k1.lt
          have HRel := Lib.hid (And.intro (hb1.next' hb2) (And.intro k1' k2))
          have hmA : (Instr.makeSlice 30 (.int .i64 L.length) (.int .i64 L.length)).run Tryd.prog wr.drew = .ok (.slice (some ⟨wr.heap.size, 0, none⟩) L.length L.length) u1 := by rw [hu1]; exact mk2 wr.drew
          have hmW : (Instr.makeSlice 72 (.int .i64 N) (.int .i64 N)).run Tryd.prog u1 = .ok (.slice (some ⟨wr.heap.size + 1, 0, none⟩) N N) u2 := by rw [hu2, ← hs1]; exact mk3 u1
          have HR1 := HRf.out _ hb1
          have HR2 := HRf.out _ (hb1.next' hb2)
          clear mk1 mk2 mk3 hu1 hu2 hb1 hb2 k1 k1' k2 hs1
          refine wpOpIn_value (v := .slice (some ⟨wr.heap.size, 0, none⟩) L.length L.length) (w' := u1) rfl rfl rfl (by rfl) (by rfl) (by go_simp) ?_
          refine ⟨fun _ => HR1, ?_⟩
          simp only [List.setIfInBounds_toArray, List.set_cons_zero, List.set_cons_succ]
          refine heldD_takeF (i := 7) (v := .slice (some ⟨wr.heap.size, 0, none⟩) L.length L.length) rfl rfl rfl (by kernel_rfl) (by kernel_rfl) (by kernel_rfl) (by kernel_rfl) (fun _ _ _ h => h) (by rfl) (fun w => ⟨by rfl, by go_simp⟩) (fun _ => HR1) ?_
          simp only [List.setIfInBounds_toArray, List.set_cons_zero, List.set_cons_succ]
          refine heldD_one (i := 6) (by kernel_rfl) ?_
          refine wpOpIn_value (v := .slice (some ⟨wr.heap.size + 1, 0, none⟩) N N) (w' := u2) rfl rfl rfl (by rfl) (by rfl) (by go_simp) ?_
          refine ⟨fun _ => HR2, ?_⟩
          simp only [List.setIfInBounds_toArray, List.set_cons_zero, List.set_cons_succ]
          refine heldD_one (i := 8) (by kernel_rfl) ?_
          refine wpOpIn_value (v := .slice (some ⟨wr.heap.size + 1, 0, none⟩) N N) (w' := u2) rfl rfl rfl (by rfl) (by rfl) (by go_simp) ?_
          refine ⟨fun h => (by cases h), ?_⟩
          simp only [List.setIfInBounds_toArray, List.set_cons_zero, List.set_cons_succ]
          refine heldD_done (by kernel_rfl) ?_ _
          go_wp2_with fail
          go_meet
          exact ⟨_, _, rfl, rfl, Lib.hid ⟨HRel.out.1, HRel.out.2.1, HRel.out.2.2, Nat.le_refl _, Nat.le_succ _⟩⟩
        · obtain ⟨u1, hu1⟩ : ∃ u, u = wr.drew.alloc (.cells (List.replicate N (Value.slice none 0 0)).toArray 30) := ⟨_, rfl⟩
          have hb1 : Below wr.heap.size wr u1 := by rw [hu1]; exact hd0.alloc (Nat.le_refl _) _
          have k1 : Blk u1 wr.heap.size (List.replicate N (Value.slice none 0 0)).toArray 30 (0, 0) := by rw [hu1]; exact Blk.new wr.drew _ _ _
          have hs1 : u1.heap.size = wr.heap.size + 1 := by rw [hu1]; simp
          obtain ⟨u2, hu2⟩ : ∃ u, u = u1.alloc (.cells (icells .i64 (List.replicate L.length 0)) 3) := ⟨_, rfl⟩
          have hb2 : Below u1.heap.size u1 u2 := by rw [hu2]; exact (Below.refl _ _).alloc (Nat.le_refl _) _
          have k2 : Blk u2 (wr.heap.size + 1) (icells .i64 (List.replicate L.length 0)) 3 (0, 0) := by rw [hu2, ← hs1]; exact Blk.new _ _ _ _
          have k1' := k1.below hb2 k1.lt
          have HRel := Lib.hid (And.intro (hb1.next' hb2) (And.intro k1' k2))
          have hmW : (Instr.makeSlice 72 (.int .i64 N) (.int .i64 N)).run Tryd.prog wr.drew = .ok (.slice (some ⟨wr.heap.size, 0, none⟩) N N) u1 := by rw [hu1]; exact mk3 wr.drew
          have hmA : (Instr.makeSlice 30 (.int .i64 L.length) (.int .i64 L.length)).run Tryd.prog u1 = .ok (.slice (some ⟨wr.heap.size + 1, 0, none⟩) L.length L.length) u2 := by rw [hu2, ← hs1]; exact mk2 u1
          have HR1 := HRf.out _ hb1
          have HR2 := HRf.out _ (hb1.next' hb2)
          clear mk1 mk2 mk3 hu1 hu2 hb1 hb2 k1 k1' k2 hs1
          refine wpOpIn_value (v := .slice (some ⟨wr.heap.size, 0, none⟩) N N) (w' := u1) rfl rfl rfl (by rfl) (by rfl) (by go_simp) ?_
          refine ⟨fun _ => HR1, ?_⟩
          simp only [List.setIfInBounds_toArray, List.set_cons_zero, List.set_cons_succ]
          refine heldD_one (i := 3) (by kernel_rfl) ?_
          refine wpOpIn_value (v := .slice (some ⟨wr.heap.size + 1, 0, none⟩) L.length L.length) (w' := u2) rfl rfl rfl (by rfl) (by rfl) (by go_simp) ?_
          refine ⟨fun _ => HR2, ?_⟩
          simp only [List.setIfInBounds_toArray, List.set_cons_zero, List.set_cons_succ]
          refine heldD_takeF (i := 7) (v := .slice (some ⟨wr.heap.size + 1, 0, none⟩) L.length L.length) rfl rfl rfl (by kernel_rfl) (by kernel_rfl) (by kernel_rfl) (by kernel_rfl) (fun _ _ _ h => h) (by rfl) (fun w => ⟨by rfl, by go_simp⟩) (fun _ => HR2) ?_
          simp only [List.setIfInBounds_toArray, List.set_cons_zero, List.set_cons_succ]
          refine heldD_one (i := 8) (by kernel_rfl) ?_
          refine wpOpIn_value (v := .slice (some ⟨wr.heap.size, 0, none⟩) N N) (w' := u2) rfl rfl rfl (by rfl) (by rfl) (by go_simp) ?_
          refine ⟨fun h => (by cases h), ?_⟩
          simp only [List.setIfInBounds_toArray, List.set_cons_zero, List.set_cons_succ]
          refine heldD_done (by kernel_rfl) ?_ _
          go_wp2_with fail
          go_meet
          exact ⟨_, _, rfl, rfl, Lib.hid ⟨HRel.out.1, HRel.out.2.2, HRel.out.2.1, Nat.le_succ _, Nat.le_refl _⟩⟩
      case rest =>
        obtain ⟨Ba, Bw, rfl, rfl, hcut⟩ := hcut
        have hB0 := HB2.out.trans (hcut.out.1.mono HB2.out.size)
        have hM0 := HM2.out.below hcut.out.1 HM2.out.lt
        have hle := HB2.out.size
        have hwr1 : Bm < wr.heap.size := HM2.out.lt
        have hBaw : w.heap.size ≤ Ba := Nat.le_trans hle hcut.out.2.2.2.1
        have hBww : w.heap.size ≤ Bw := Nat.le_trans hle hcut.out.2.2.2.2
        have hBm1 : Ba ≠ Bm := by have := hcut.out.2.2.2.1; omega
        have hBm2 : Bw ≠ Bm := by have := hcut.out.2.2.2.2; omega
        have hBawn : Ba ≠ Bw := fun e => by
          subst e
          exact absurd (blk_type hcut.out.2.1 hcut.out.2.2.1) (by decide)
        have HB3 := Lib.hid hB0; have HM3 := Lib.hid hM0; have HA3 := Lib.hid hcut.out.2.1; have HW3 := Lib.hid hcut.out.2.2.1
        have HNe := Lib.hid (And.intro hBaw (And.intro hBww (And.intro hBm1 (And.intro hBm2 hBawn))))
        clear hB0 hM0 hcut hle hwr1 hBaw hBww hBm1 hBm2 hBawn HB2 HM2 HRf hk hlt mk1 mk2 mk3
        go_wp2_with fail
        go_loopw [9, 42] (fun at_ i wr => ∃ (v p : Nat), v ≤ N ∧ i = .int .i64 v ∧ at_ = .int .i64 (p : Nat) ∧ Hid (p = atK E L L.length v) ∧ Hid (Below w.heap.size w wr ∧ Blk wr Bm (icells .i64 (manyL E L N L.length)) 3 (0, 0) ∧ Blk wr Ba (icells .i64 (List.replicate L.length 0)) 3 (0, 0) ∧ ∃ csW, Blk wr Bw csW 30 (0, 0) ∧ csW.size = N ∧ ∀ u, u < v → ∃ rv, csW[u]? = some rv ∧ rowCut Ba L E u 0 rv)) (fun _ i _ => N - (intOf i).toNat)
        case atStart => exact ⟨0, 0, by omega, rfl, rfl, Lib.hid rfl, Lib.hid ⟨HB3.out, HM3.out, HA3.out, _, HW3.out, by simp, fun u hu => by omega⟩⟩
        case round =>
          clear HB3 HM3 HA3 HW3
          obtain ⟨v, p, hv, rfl, rfl, hp, hrel⟩ := hrel
          obtain ⟨hb, hm, ha3, csW, hw3, hsw, hrows⟩ := hrel.out
          by_cases hlt : v < N
          · have hltI : (v : Int) < (N : Int) := by omega
            have i0 : (0 : Int) ≤ (v : Int) := by omega
            obtain ⟨c, hc⟩ : ∃ c, c = (rowK E L v L.length).length := ⟨_, rfl⟩
            replace hp := hp.out
            have hpc := atK_in HOk.out hlt
            have hsc := atK_succ E L L.length v
            rw [← hc, ← hp] at hpc hsc
            have q := hm.cell v
            rw [icells_at, manyL_get E L N L.length v hlt, ← hc] at q
            change wr.cell? ⟨Bm, v, none⟩ = some (.int .i64 (c : Nat)) at q
            obtain ⟨o, ho⟩ : ∃ o, o = if c = 0 then 0 else p := ⟨_, rfl⟩
            have hsl : ∀ u, (Instr.slice 30 (.slice (some ⟨Ba, 0, none⟩) L.length L.length) (some (.int .i64 (p : Nat))) (some (.int .i64 (p : Nat))) (some (.int .i64 ((p : Int) + (c : Int))))).run Tryd.prog u = .ok (.slice (some ⟨Ba, o, none⟩) 0 c) u := fun u => by
              rw [run_slice_lhm (P := Tryd.prog) u 30 (some ⟨Ba, 0, none⟩) L.length L.length Tryd.underlying30 .i64 .i64 .i64 p p ((p : Int) + (c : Int)) (by omega) (Int.le_refl _) (by omega) (by omega)]
              have hs : (sizeOf (Tryd.prog.elem 30)).run Tryd.prog u = .ok 1 u := by kernel_rfl
              rw [hs]
              have e1 : ((p : Int) + (c : Int)).toNat = p + c := by omega
              simp only [Result.andThen, sliced, e1, Int.toNat_natCast, Nat.sub_self, Nat.add_sub_cancel_left, ho]
              by_cases h0 : c = 0
              · simp [h0]
              · rw [if_neg (by omega), if_neg h0]; simp [Addr.add]; intro h; exact h.symm
            have w1' : IntKind.i64.wrap ((p : Int) + (c : Int)) = (p : Int) + (c : Int) := wrap_small _ (by omega) (by omega)
            have hx : ∃ x, csW[v]? = some x := ⟨_, Array.getElem?_eq_getElem (by omega)⟩
            obtain ⟨ox, hox⟩ := hx
            have q2 := hw3.cell v
            rw [hox] at q2
            change wr.cell? ⟨Bw, v, none⟩ = some ox at q2
            have q2f := hw3.free v (Or.inr (Nat.zero_le _))
            have hcut1 : rowCut Ba L E v 0 (.slice (some ⟨Ba, o, none⟩) 0 c) := ⟨o, by rw [hc], fun h => by rw [ho, if_neg (by omega), hp]⟩
            have hnew : ∀ u, u < v + 1 → ∃ rv, (csW.setIfInBounds v (.slice (some ⟨Ba, o, none⟩) 0 c))[u]? = some rv ∧ rowCut Ba L E u 0 rv := fun u hu => by
              by_cases e : u = v
              · subst e; exact ⟨_, by simp [hsw, hlt], hcut1⟩
              · rw [Array.getElem?_setIfInBounds_ne (Ne.symm e)]; exact hrows u (by omega)
            have hrel2 : Below w.heap.size w (wr.setCell ⟨Bw, v, none⟩ (.slice (some ⟨Ba, o, none⟩) 0 c)) ∧ Blk (wr.setCell ⟨Bw, v, none⟩ (.slice (some ⟨Ba, o, none⟩) 0 c)) Bm (icells .i64 (manyL E L N L.length)) 3 (0, 0) ∧ Blk (wr.setCell ⟨Bw, v, none⟩ (.slice (some ⟨Ba, o, none⟩) 0 c)) Ba (icells .i64 (List.replicate L.length 0)) 3 (0, 0) ∧ ∃ csW, Blk (wr.setCell ⟨Bw, v, none⟩ (.slice (some ⟨Ba, o, none⟩) 0 c)) Bw csW 30 (0, 0) ∧ csW.size = N ∧ ∀ u, u < v + 1 → ∃ rv, csW[u]? = some rv ∧ rowCut Ba L E u 0 rv :=
              ⟨hb.setCell (p := ⟨Bw, v, none⟩) HNe.out.2.1 _, hm.setOther ⟨Bw, v, none⟩ _ (fun e => HNe.out.2.2.2.1 e.symm), ha3.setOther ⟨Bw, v, none⟩ _ HNe.out.2.2.2.2, _, hw3.set v _, by simpa using hsw, hnew⟩
            have HRel2 := Lib.hid hrel2; have HSc := Lib.hid hsc
            have hpI : (0 : Int) ≤ (p : Int) := by omega
            clear hrel hb hm ha3 hw3 hsw hrows hc hp hpc hsc ho hox hcut1 hnew hrel2
            go_wp2_with fail
            go_roundw
            case rel => exact ⟨v + 1, p + c, by omega, by go_num, by go_num, Lib.hid HSc.out.symm, Lib.hid HRel2.out⟩
            case measure => simp [intOf]; omega
          · obtain rfl : N = v := by omega
            have hR0 : Row3 w Ba Bw L E N 0 wr := ⟨hrel.out.1, _, _, hrel.out.2.2.1, by rw [icells_size, List.length_replicate], hw3, hsw, fun v hv => hrows v hv, fun v _ j x hj => by simp [rowK] at hj⟩
            have HR0 := Lib.hid hR0
            have bR := HBr.out.below hb HBr.out.lt
            have c3 := bR.cell 3
            change wr.cell? ⟨Br, 3, none⟩ = some (.slice aa L.length ca) at c3
            clear hrel hb hm ha3 hw3 hsw hrows bR
            go_wp2_with fail
            go_loopw [64] (fun i wr => ∃ (k : Nat), k ≤ L.length ∧ i = .int .i64 k ∧ Hid (Row3 w Ba Bw L E N k wr)) (fun i _ => L.length - (intOf i).toNat)
            case atStart => exact ⟨0, by omega, rfl, HR0⟩
            case round =>
              clear c3 HR0
              obtain ⟨k, hk, rfl, hrel⟩ := hrel
              by_cases hlt : k < L.length
              · have hltI : (k : Int) < (L.length : Int) := by omega
                have i0 : (0 : Int) ≤ (k : Int) := by omega
                obtain ⟨ba, oa, epa, d0, d1, d2⟩ := (HA.out.keep (KpC.of_below hrel.out.bel)).at k hlt
                subst epa
                have hends := HOk.out k hlt
                have hgd : L[k]?.getD (0, 0, 0) = L[k] := by rw [List.getElem?_eq_getElem hlt]; rfl
                obtain ⟨v, hv⟩ : ∃ v, v = (E (L[k]?.getD (0, 0, 0))).toNat := ⟨_, rfl⟩
                have hvE : E (L[k]?.getD (0, 0, 0)) = (v : Int) := by omega
                have hvN : v < N := by omega
                obtain ⟨csA, csW, hA, hAs, hWb, hWs, hrs, _⟩ := hrel.out.ex
                obtain ⟨rv, hrv, o, hrvE, hoE⟩ := hrs v hvN
                have hcap : (rowK E L v k).length + 1 ≤ (rowK E L v L.length).length := by
                  have h := rowK_mono E L v (k + 1) (L.length - (k + 1))
                  rw [rowK_hit hvE, List.length_append, List.length_singleton, show k + 1 + (L.length - (k + 1)) = L.length by omega] at h
                  exact h
                have ho := hoE (by omega)
                have hin := atK_in HOk.out hvN
                obtain ⟨x, hx⟩ : ∃ x, x = L[k] := ⟨_, rfl⟩
                rw [← hx] at d0 d1 d2
                rw [hgd, ← hx] at hvE
                have hstep : ∀ u, Below wr.heap.size wr u → Row3 w Ba Bw L E N (k + 1) ((u.setCell ⟨Ba, o + (rowK E L v k).length, none⟩ (.int .i64 (k : Nat))).setCell ⟨Bw, v, none⟩ (.slice (some ⟨Ba, o, none⟩) ((rowK E L v k).length + 1) (rowK E L v L.length).length)) := fun u hu =>
                  (hrel.out.below hu).step HOk.out hlt hvN (by rw [hgd, ← hx]; exact hvE) HNe.out.1 HNe.out.2.1 ho
                obtain ⟨len, hlen2⟩ : ∃ n, n = (rowK E L v k).length := ⟨_, rfl⟩
                obtain ⟨cap, hcap2⟩ : ∃ n, n = (rowK E L v L.length).length := ⟨_, rfl⟩
                rw [← hlen2, ← hcap2] at hcap hrvE hstep
                rw [← hcap2, ← ho] at hin
                subst hrvE
                have happ : ∀ u g, Below wr.heap.size wr u → Blk u g #[.int .i64 (k : Nat)] 3 (0, 0) → (Builtin.append_ #[30, 30] 30 #[.slice (some ⟨Ba, o, none⟩) len cap, .slice (some ⟨g, 0, none⟩) 1 1]).run Tryd.prog u = .ok (.slice (some ⟨Ba, o, none⟩) (len + 1) cap) (u.setCell ⟨Ba, o + len, none⟩ (.int .i64 (k : Nat))) := fun u g hu hg =>
                  app_room (hA.below hu hA.lt) hg (by rw [hAs]; omega) hcap
                obtain ⟨Bx, hBx⟩ : ∃ b, b = wr.heap.size := ⟨_, rfl⟩
                obtain ⟨wc, hwc⟩ : ∃ wc, wc = wr.alloc (.cells #[.int .i64 x.1, .int .i64 x.2.1, .int .i64 x.2.2] 45) := ⟨_, rfl⟩
                have hbc : Below wr.heap.size wr wc := by rw [hwc]; exact (Below.refl _ _).alloc (Nat.le_refl _) _
                have hBc : Blk wc Bx #[.int .i64 x.1, .int .i64 x.2.1, .int .i64 x.2.2] 45 (0, 0) := by rw [hwc, hBx]; exact Blk.new _ _ _ _
                have hcW : wr.cell? ⟨Bw, v, none⟩ = some (.slice (some ⟨Ba, o, none⟩) len cap) := by rw [hWb.cell]; exact hrv
                have hSf : ∀ u, Below wc.heap.size wc u → (u.cell? ⟨Bx, 0, none⟩ = some (.int .i64 x.1) ∧ u.cell? ⟨Bx, 1, none⟩ = some (.int .i64 x.2.1) ∧ u.cell? ⟨Bx, 2, none⟩ = some (.int .i64 x.2.2) ∧ u.cell? ⟨Bw, v, none⟩ = some (.slice (some ⟨Ba, o, none⟩) len cap)) := fun u hu => by
                  have b := hBc.below hu hBc.lt
                  exact ⟨b.cell 0, b.cell 1, b.cell 2, cell_later (hbc.next' hu) hcW⟩
                have hBaL : Ba < wr.heap.size := hA.lt
                have hBwL : Bw < wr.heap.size := hWb.lt
                have hSg : ∀ u, Below wc.heap.size wc u → ((u.setCell ⟨Ba, o + len, none⟩ (.int .i64 (k : Nat))).cell? ⟨Bx, 0, none⟩ = some (.int .i64 x.1) ∧ (u.setCell ⟨Ba, o + len, none⟩ (.int .i64 (k : Nat))).cell? ⟨Bx, 1, none⟩ = some (.int .i64 x.2.1) ∧ (u.setCell ⟨Ba, o + len, none⟩ (.int .i64 (k : Nat))).cell? ⟨Bx, 2, none⟩ = some (.int .i64 x.2.2) ∧ (u.setCell ⟨Ba, o + len, none⟩ (.int .i64 (k : Nat))).cell? ⟨Bw, v, none⟩ = some (.slice (some ⟨Ba, o, none⟩) len cap)) := fun u hu => by
                  have b := hSf u hu
                  exact ⟨(World.cell?_of_block (heap_setCell_other _ _ _ _ (show Bx ≠ Ba by omega))).trans b.1, (World.cell?_of_block (heap_setCell_other _ _ _ _ (show Bx ≠ Ba by omega))).trans b.2.1, (World.cell?_of_block (heap_setCell_other _ _ _ _ (show Bx ≠ Ba by omega))).trans b.2.2.1, (World.cell?_of_block (heap_setCell_other _ _ _ _ (fun e => HNe.out.2.2.2.2 e.symm))).trans b.2.2.2⟩
                have hWf : ∀ u, Below wc.heap.size wc u → u.frozen? ⟨Bw, v, none⟩ = false := fun u hu => (hWb.below (hbc.next' hu) hWb.lt).free v (Or.inr (Nat.zero_le _))
                have C : ∀ u, Calls Tryd.prog f #[.agg #[.int .i64 x.1, .int .i64 x.2.1, .int .i64 x.2.2]] u fun e w' => e = .returned (.int .i64 (v : Nat)) ∧ Below u.heap.size u w' := fun u => by
                  have h := HE.out x u
                  rw [hvE] at h
                  exact h
                have happ2 : ∀ u g, Below wc.heap.size wc u → _ := fun u g hu => happ u g (hbc.next' hu)
                have hstep2 : ∀ u, Below wc.heap.size wc u → _ := fun u hu => hstep u (hbc.next' hu)
                have hBwBa : Bw ≠ Ba := fun e => HNe.out.2.2.2.2 e.symm
                have i1 : (0 : Int) ≤ (v : Int) := by omega
                have i2 : (v : Int) < (N : Int) := by omega
                have HSf := Lib.hid hSf; have HSg := Lib.hid hSg; have HWf := Lib.hid hWf; have HC := Lib.hid C; have HAp := Lib.hid happ2; have HSt := Lib.hid hstep2; have HWc := Lib.hid hwc; have HBx := Lib.hid hBx
                clear hrel hends hgd hv hvE hA hAs hWb hWs hrs hrv hoE hcap ho hin hx hstep hlen2 hcap2 happ hwc hbc hBc hcW hSf hBaL hBwL hSg hWf C happ2 hstep2
                go_wp2_with fail
                rw [← HWc.out, ← HBx.out]
                clear hBx
                refine wp_region_heldD (fun w' => w'.cell? ⟨Bx, 0, none⟩ = some (.int .i64 x.1) ∧ w'.cell? ⟨Bx, 1, none⟩ = some (.int .i64 x.2.1) ∧ w'.cell? ⟨Bx, 2, none⟩ = some (.int .i64 x.2.2) ∧ w'.cell? ⟨Bw, v, none⟩ = some (.slice (some ⟨Ba, o, none⟩) len cap)) 14 rfl ?_
                change heldD _ _ _ _ _ _ _ 15 _ _ wc.drew
                have hd0 : Below wc.heap.size wc wc.drew := (Below.refl _ _).drew
                have hS0 : wc.drew.cell? ⟨Bx, 0, none⟩ = some (.int .i64 x.1) ∧ wc.drew.cell? ⟨Bx, 1, none⟩ = some (.int .i64 x.2.1) ∧ wc.drew.cell? ⟨Bx, 2, none⟩ = some (.int .i64 x.2.2) ∧ wc.drew.cell? ⟨Bw, v, none⟩ = some (.slice (some ⟨Ba, o, none⟩) len cap) := HSf.out _ hd0
                refine heldD_takeF (i := 0) (v := .slice (some ⟨Bw, 0, none⟩) N N) rfl rfl rfl (by kernel_rfl) (by kernel_rfl) (by kernel_rfl) (by kernel_rfl) (fun _ _ _ h => h) (by rfl) (fun w => ⟨by rfl, by go_simp⟩) (fun _ => hS0) ?_
                simp only [List.setIfInBounds_toArray, List.set_cons_zero, List.set_cons_succ]
                refine heldD_takeF (i := 1) (v := .func (.func f) #[] #[]) rfl rfl rfl (by kernel_rfl) (by kernel_rfl) (by kernel_rfl) (by kernel_rfl) (fun _ _ _ h => h) (by rfl) (fun w => ⟨by rfl, by go_simp⟩) (fun _ => hS0) ?_
                simp only [List.setIfInBounds_toArray, List.set_cons_zero, List.set_cons_succ]
                refine heldD_take (i := 2) (v := .agg #[.int .i64 x.1, .int .i64 x.2.1, .int .i64 x.2.2]) rfl rfl rfl (by kernel_rfl) (by kernel_rfl) (by kernel_rfl) (by kernel_rfl) (by kernel_rfl) (by kernel_rfl) (fun _ _ _ h => h) (by rfl) (fun w hS => ⟨by rfl, by obtain ⟨hS1, hS2, hS3, hS4⟩ := hS; go_simp⟩) hS0 ?_
                simp only [List.setIfInBounds_toArray, List.set_cons_zero, List.set_cons_succ]
                refine heldD_takeF (i := 4) (v := .slice (some ⟨Bw, 0, none⟩) N N) rfl rfl rfl (by kernel_rfl) (by kernel_rfl) (by kernel_rfl) (by kernel_rfl) (fun _ _ _ h => h) (by rfl) (fun w => ⟨by rfl, by go_simp⟩) (fun _ => hS0) ?_
                simp only [List.setIfInBounds_toArray, List.set_cons_zero, List.set_cons_succ]
                refine heldD_takeF (i := 5) (v := .func (.func f) #[] #[]) rfl rfl rfl (by kernel_rfl) (by kernel_rfl) (by kernel_rfl) (by kernel_rfl) (fun _ _ _ h => h) (by rfl) (fun w => ⟨by rfl, by go_simp⟩) (fun _ => hS0) ?_
                simp only [List.setIfInBounds_toArray, List.set_cons_zero, List.set_cons_succ]
                refine heldD_take (i := 6) (v := .agg #[.int .i64 x.1, .int .i64 x.2.1, .int .i64 x.2.2]) rfl rfl rfl (by kernel_rfl) (by kernel_rfl) (by kernel_rfl) (by kernel_rfl) (by kernel_rfl) (by kernel_rfl) (fun _ _ _ h => h) (by rfl) (fun w hS => ⟨by rfl, by obtain ⟨hS1, hS2, hS3, hS4⟩ := hS; go_simp⟩) hS0 ?_
                simp only [List.setIfInBounds_toArray, List.set_cons_zero, List.set_cons_succ]
                refine heldD_takeF (i := 10) (v := .int .i64 (k : Nat)) rfl rfl rfl (by kernel_rfl) (by kernel_rfl) (by kernel_rfl) (by kernel_rfl) (fun _ _ _ h => h) (by rfl) (fun w => ⟨by rfl, by go_simp⟩) (fun _ => hS0) ?_
                simp only [List.setIfInBounds_toArray, List.set_cons_zero, List.set_cons_succ]
                refine heldD_two (i := 3) (k := 11) (by kernel_rfl) ?_ ?_
                · skip
                  refine wpOpIn_calls' (f := f) (args := #[.agg #[.int .i64 x.1, .int .i64 x.2.1, .int .i64 x.2.2]]) rfl rfl (by rfl) (by go_simp) (HC.out wc.drew) ?_
                  rintro e w5 ⟨rfl, hb_w5⟩
                  refine ⟨_, rfl, ?_⟩
                  have hd1 := hd0.next' hb_w5
                  clear hS0
                  have hS0 := HSf.out _ hd1
                  refine ⟨fun _ => hS0, ?_⟩
                  simp only [List.setIfInBounds_toArray, List.set_cons_zero, List.set_cons_succ]
                  refine heldD_two (i := 7) (k := 11) (by kernel_rfl) ?_ ?_
                  · skip
                    refine wpOpIn_calls' (f := f) (args := #[.agg #[.int .i64 x.1, .int .i64 x.2.1, .int .i64 x.2.2]]) rfl rfl (by rfl) (by go_simp) (HC.out w5) ?_
                    rintro e w6 ⟨rfl, hb_w6⟩
                    refine ⟨_, rfl, ?_⟩
                    have hd2 := hd1.next' hb_w6
                    clear hS0
                    have hS0 := HSf.out _ hd2
                    refine ⟨fun _ => hS0, ?_⟩
                    simp only [List.setIfInBounds_toArray, List.set_cons_zero, List.set_cons_succ]
                    refine heldD_takeF (i := 8) (v := .pointer (some ⟨Bw, v, none⟩)) rfl rfl rfl (by kernel_rfl) (by kernel_rfl) (by kernel_rfl) (by kernel_rfl) (fun _ _ _ h => h) (by rfl) (fun w => ⟨by rfl, by go_simp⟩) (fun _ => hS0) ?_
                    simp only [List.setIfInBounds_toArray, List.set_cons_zero, List.set_cons_succ]
                    refine heldD_take (i := 9) (v := .slice (some ⟨Ba, o, none⟩) len cap) rfl rfl rfl (by kernel_rfl) (by kernel_rfl) (by kernel_rfl) (by kernel_rfl) (by kernel_rfl) (by kernel_rfl) (fun _ _ _ h => h) (by rfl) (fun w hS => ⟨by rfl, by obtain ⟨hS1, hS2, hS3, hS4⟩ := hS; go_simp⟩) hS0 ?_
                    simp only [List.setIfInBounds_toArray, List.set_cons_zero, List.set_cons_succ]
                    refine heldD_one (i := 11) (by kernel_rfl) ?_
                    obtain ⟨w7, h_w7⟩ : ∃ u, u = w6.alloc (.cells #[.int .i64 (k : Nat)] 3) := ⟨_, rfl⟩
                    have hb_w7 : Below w6.heap.size w6 w7 := by rw [h_w7]; exact (Below.refl _ _).alloc (Nat.le_refl _) _
                    have hg : Blk w7 w6.heap.size #[.int .i64 (k : Nat)] 3 (0, 0) := by rw [h_w7]; exact Blk.new _ _ _ _
                    have hbs : ∀ (i : Nat), True := fun _ => trivial
                    refine wpOpIn_value (v := .slice (some ⟨w6.heap.size, 0, none⟩) 1 1) (w' := w7) rfl rfl rfl (by rfl) (by rfl) (by rw [h_w7]; clear hg hb_w7 hbs; go_simp) ?_
                    have hd3 := hd2.next' hb_w7
                    clear hS0
                    have hS0 := HSf.out _ hd3
                    refine ⟨fun _ => hS0, ?_⟩
                    simp only [List.setIfInBounds_toArray, List.set_cons_zero, List.set_cons_succ]
                    obtain ⟨g, hgE⟩ : ∃ g, g = w6.heap.size := ⟨_, rfl⟩
                    rw [← hgE] at hg ⊢
                    clear h_w7 hbs
                    have hAp := HAp.out w7 g hd3 hg
                    have hsg := HSg.out _ hd3
                    have hwf := HWf.out _ hd3
                    refine heldD_one (i := 12) (by kernel_rfl) ?_
                    refine wpOpIn_append rfl rfl rfl (by rfl) _ _ _ _ rfl hAp ?_
                    refine ⟨fun _ => hsg, ?_⟩
                    clear hS0
                    have hS0 := hsg
                    simp only [List.setIfInBounds_toArray, List.set_cons_zero, List.set_cons_succ]
                    refine heldD_takeF (i := 13) (v := .pointer (some ⟨Bw, v, none⟩)) rfl rfl rfl (by kernel_rfl) (by kernel_rfl) (by kernel_rfl) (by kernel_rfl) (fun _ _ _ h => h) (by rfl) (fun w => ⟨by rfl, by go_simp⟩) (fun _ => hS0) ?_
                    simp only [List.setIfInBounds_toArray, List.set_cons_zero, List.set_cons_succ]
                    have hcz := (HSf.out _ hd3).2.2.2
                    refine heldD_one (i := 14) (by kernel_rfl) ?_
                    refine wpOpIn_skip (w' := (w7.setCell ⟨Ba, o + len, none⟩ (.int .i64 (k : Nat))).setCell ⟨Bw, v, none⟩ (.slice (some ⟨Ba, o, none⟩) (len + 1) cap)) rfl rfl rfl (by rfl) (by rfl) (by go_simp) ?_
                    refine ⟨fun h => (by cases h), ?_⟩
                    refine heldD_done (by kernel_rfl) ?_ _
                    have HF := Lib.hid (HSt.out _ hd3)
                    clear hsg hS0 hcz hAp hwf hg d0 d1 d2
                    go_wp2_with fail
                    go_roundw
                    case rel => exact ⟨k + 1, by omega, by go_num, Lib.hid HF.out⟩
                    case measure => simp [intOf]; omega
                  · skip
                    obtain ⟨w6, h_w6⟩ : ∃ u, u = w5.alloc (.cells #[.int .i64 (k : Nat)] 3) := ⟨_, rfl⟩
                    have hb_w6 : Below w5.heap.size w5 w6 := by rw [h_w6]; exact (Below.refl _ _).alloc (Nat.le_refl _) _
                    have hg : Blk w6 w5.heap.size #[.int .i64 (k : Nat)] 3 (0, 0) := by rw [h_w6]; exact Blk.new _ _ _ _
                    have hbs : ∀ (i : Nat), True := fun _ => trivial
                    refine wpOpIn_value (v := .slice (some ⟨w5.heap.size, 0, none⟩) 1 1) (w' := w6) rfl rfl rfl (by rfl) (by rfl) (by rw [h_w6]; clear hg hb_w6 hbs; go_simp) ?_
                    have hd2 := hd1.next' hb_w6
                    clear hS0
                    have hS0 := HSf.out _ hd2
                    refine ⟨fun _ => hS0, ?_⟩
                    simp only [List.setIfInBounds_toArray, List.set_cons_zero, List.set_cons_succ]
                    obtain ⟨g, hgE⟩ : ∃ g, g = w5.heap.size := ⟨_, rfl⟩
                    rw [← hgE] at hg ⊢
                    clear h_w6 hbs
                    refine heldD_one (i := 7) (by kernel_rfl) ?_
                    refine wpOpIn_calls' (f := f) (args := #[.agg #[.int .i64 x.1, .int .i64 x.2.1, .int .i64 x.2.2]]) rfl rfl (by rfl) (by go_simp) (HC.out w6) ?_
                    rintro e w7 ⟨rfl, hb_w7⟩
                    refine ⟨_, rfl, ?_⟩
                    have hd3 := hd2.next' hb_w7
                    clear hS0
                    have hS0 := HSf.out _ hd3
                    refine ⟨fun _ => hS0, ?_⟩
                    simp only [List.setIfInBounds_toArray, List.set_cons_zero, List.set_cons_succ]
                    replace hg := hg.below hb_w7 hg.lt
                    refine heldD_takeF (i := 8) (v := .pointer (some ⟨Bw, v, none⟩)) rfl rfl rfl (by kernel_rfl) (by kernel_rfl) (by kernel_rfl) (by kernel_rfl) (fun _ _ _ h => h) (by rfl) (fun w => ⟨by rfl, by go_simp⟩) (fun _ => hS0) ?_
                    simp only [List.setIfInBounds_toArray, List.set_cons_zero, List.set_cons_succ]
                    refine heldD_take (i := 9) (v := .slice (some ⟨Ba, o, none⟩) len cap) rfl rfl rfl (by kernel_rfl) (by kernel_rfl) (by kernel_rfl) (by kernel_rfl) (by kernel_rfl) (by kernel_rfl) (fun _ _ _ h => h) (by rfl) (fun w hS => ⟨by rfl, by obtain ⟨hS1, hS2, hS3, hS4⟩ := hS; go_simp⟩) hS0 ?_
                    simp only [List.setIfInBounds_toArray, List.set_cons_zero, List.set_cons_succ]
                    have hAp := HAp.out w7 g hd3 hg
                    have hsg := HSg.out _ hd3
                    have hwf := HWf.out _ hd3
                    refine heldD_one (i := 12) (by kernel_rfl) ?_
                    refine wpOpIn_append rfl rfl rfl (by rfl) _ _ _ _ rfl hAp ?_
                    refine ⟨fun _ => hsg, ?_⟩
                    clear hS0
                    have hS0 := hsg
                    simp only [List.setIfInBounds_toArray, List.set_cons_zero, List.set_cons_succ]
                    refine heldD_takeF (i := 13) (v := .pointer (some ⟨Bw, v, none⟩)) rfl rfl rfl (by kernel_rfl) (by kernel_rfl) (by kernel_rfl) (by kernel_rfl) (fun _ _ _ h => h) (by rfl) (fun w => ⟨by rfl, by go_simp⟩) (fun _ => hS0) ?_
                    simp only [List.setIfInBounds_toArray, List.set_cons_zero, List.set_cons_succ]
                    have hcz := (HSf.out _ hd3).2.2.2
                    refine heldD_one (i := 14) (by kernel_rfl) ?_
                    refine wpOpIn_skip (w' := (w7.setCell ⟨Ba, o + len, none⟩ (.int .i64 (k : Nat))).setCell ⟨Bw, v, none⟩ (.slice (some ⟨Ba, o, none⟩) (len + 1) cap)) rfl rfl rfl (by rfl) (by rfl) (by go_simp) ?_
                    refine ⟨fun h => (by cases h), ?_⟩
                    refine heldD_done (by kernel_rfl) ?_ _
                    have HF := Lib.hid (HSt.out _ hd3)
                    clear hsg hS0 hcz hAp hwf hg d0 d1 d2
                    go_wp2_with fail
                    go_roundw
                    case rel => exact ⟨k + 1, by omega, by go_num, Lib.hid HF.out⟩
                    case measure => simp [intOf]; omega
                · skip
                  obtain ⟨w5, h_w5⟩ : ∃ u, u = wc.drew.alloc (.cells #[.int .i64 (k : Nat)] 3) := ⟨_, rfl⟩
                  have hb_w5 : Below wc.drew.heap.size wc.drew w5 := by rw [h_w5]; exact (Below.refl _ _).alloc (Nat.le_refl _) _
                  have hg : Blk w5 wc.drew.heap.size #[.int .i64 (k : Nat)] 3 (0, 0) := by rw [h_w5]; exact Blk.new _ _ _ _
                  have hbs : ∀ (i : Nat), True := fun _ => trivial
                  refine wpOpIn_value (v := .slice (some ⟨wc.drew.heap.size, 0, none⟩) 1 1) (w' := w5) rfl rfl rfl (by rfl) (by rfl) (by rw [h_w5]; clear hg hb_w5 hbs; go_simp) ?_
                  have hd1 := hd0.next' hb_w5
                  clear hS0
                  have hS0 := HSf.out _ hd1
                  refine ⟨fun _ => hS0, ?_⟩
                  simp only [List.setIfInBounds_toArray, List.set_cons_zero, List.set_cons_succ]
                  obtain ⟨g, hgE⟩ : ∃ g, g = wc.drew.heap.size := ⟨_, rfl⟩
                  rw [← hgE] at hg ⊢
                  clear h_w5 hbs
                  refine heldD_one (i := 3) (by kernel_rfl) ?_
                  refine wpOpIn_calls' (f := f) (args := #[.agg #[.int .i64 x.1, .int .i64 x.2.1, .int .i64 x.2.2]]) rfl rfl (by rfl) (by go_simp) (HC.out w5) ?_
                  rintro e w6 ⟨rfl, hb_w6⟩
                  refine ⟨_, rfl, ?_⟩
                  have hd2 := hd1.next' hb_w6
                  clear hS0
                  have hS0 := HSf.out _ hd2
                  refine ⟨fun _ => hS0, ?_⟩
                  simp only [List.setIfInBounds_toArray, List.set_cons_zero, List.set_cons_succ]
                  replace hg := hg.below hb_w6 hg.lt
                  refine heldD_one (i := 7) (by kernel_rfl) ?_
                  refine wpOpIn_calls' (f := f) (args := #[.agg #[.int .i64 x.1, .int .i64 x.2.1, .int .i64 x.2.2]]) rfl rfl (by rfl) (by go_simp) (HC.out w6) ?_
                  rintro e w7 ⟨rfl, hb_w7⟩
                  refine ⟨_, rfl, ?_⟩
                  have hd3 := hd2.next' hb_w7
                  clear hS0
                  have hS0 := HSf.out _ hd3
                  refine ⟨fun _ => hS0, ?_⟩
                  simp only [List.setIfInBounds_toArray, List.set_cons_zero, List.set_cons_succ]
                  replace hg := hg.below hb_w7 hg.lt
                  refine heldD_takeF (i := 8) (v := .pointer (some ⟨Bw, v, none⟩)) rfl rfl rfl (by kernel_rfl) (by kernel_rfl) (by kernel_rfl) (by kernel_rfl) (fun _ _ _ h => h) (by rfl) (fun w => ⟨by rfl, by go_simp⟩) (fun _ => hS0) ?_
                  simp only [List.setIfInBounds_toArray, List.set_cons_zero, List.set_cons_succ]
                  refine heldD_take (i := 9) (v := .slice (some ⟨Ba, o, none⟩) len cap) rfl rfl rfl (by kernel_rfl) (by kernel_rfl) (by kernel_rfl) (by kernel_rfl) (by kernel_rfl) (by kernel_rfl) (fun _ _ _ h => h) (by rfl) (fun w hS => ⟨by rfl, by obtain ⟨hS1, hS2, hS3, hS4⟩ := hS; go_simp⟩) hS0 ?_
                  simp only [List.setIfInBounds_toArray, List.set_cons_zero, List.set_cons_succ]
                  have hAp := HAp.out w7 g hd3 hg
                  have hsg := HSg.out _ hd3
                  have hwf := HWf.out _ hd3
                  refine heldD_one (i := 12) (by kernel_rfl) ?_
                  refine wpOpIn_append rfl rfl rfl (by rfl) _ _ _ _ rfl hAp ?_
                  refine ⟨fun _ => hsg, ?_⟩
                  clear hS0
                  have hS0 := hsg
                  simp only [List.setIfInBounds_toArray, List.set_cons_zero, List.set_cons_succ]
                  refine heldD_takeF (i := 13) (v := .pointer (some ⟨Bw, v, none⟩)) rfl rfl rfl (by kernel_rfl) (by kernel_rfl) (by kernel_rfl) (by kernel_rfl) (fun _ _ _ h => h) (by rfl) (fun w => ⟨by rfl, by go_simp⟩) (fun _ => hS0) ?_
                  simp only [List.setIfInBounds_toArray, List.set_cons_zero, List.set_cons_succ]
                  have hcz := (HSf.out _ hd3).2.2.2
                  refine heldD_one (i := 14) (by kernel_rfl) ?_
                  refine wpOpIn_skip (w' := (w7.setCell ⟨Ba, o + len, none⟩ (.int .i64 (k : Nat))).setCell ⟨Bw, v, none⟩ (.slice (some ⟨Ba, o, none⟩) (len + 1) cap)) rfl rfl rfl (by rfl) (by rfl) (by go_simp) ?_
                  refine ⟨fun h => (by cases h), ?_⟩
                  refine heldD_done (by kernel_rfl) ?_ _
                  have HF := Lib.hid (HSt.out _ hd3)
                  clear hsg hS0 hcz hAp hwf hg d0 d1 d2
                  go_wp2_with fail
                  go_roundw
                  case rel => exact ⟨k + 1, by omega, by go_num, Lib.hid HF.out⟩
                  case measure => simp [intOf]; omega
              · obtain rfl : k = L.length := by omega
                have HF := Lib.hid hrel.out
                clear hrel
                go_wp2_with fail
                go_ret
                refine ⟨_, rfl, fun w'' hs hw => ?_, HF.out.bel⟩
                obtain ⟨csA, csW, hA, hAs, hWb, hWs, hrs, hxs⟩ := HF.out.ex
                have hA2 : Blk w'' Ba csA 3 (0, 0) := (hw Ba HNe.out.1 hA.lt).trans hA
                have hW2 : Blk w'' Bw csW 30 (0, 0) := (hw Bw HNe.out.2.1 hWb.lt).trans hWb
                refine ⟨some ⟨Bw, 0, none⟩, N, by rw [rowsOf_len]; first | done | rfl, by rw [rowsOf_len]; exact Nat.le_refl _, by unfold maxLen; omega, fun i hi => ?_⟩
                have hiN : i < N := by rw [rowsOf_len] at hi; exact hi
                obtain ⟨rv, hrv, o, hrvE, hoE⟩ := hrs i hiN
                have hrow : (rowsOf E L N)[i] = rowK E L i L.length := by
                  have h := rowsOf_get E L N i hiN
                  rw [List.getElem?_eq_getElem hi] at h
                  exact Option.some.inj h
                refine ⟨Bw, 0, csW, _, _, rv, rfl, hW2, by rw [Nat.zero_add]; exact hrv, ?_⟩
                rw [hrow]
                refine ⟨_, _, hrvE, Nat.le_refl _, ?_, fun j hj => ⟨Ba, o, csA, _, _, rfl, hA2, ?_⟩⟩
                · have := rowK_le E L i L.length; unfold maxLen; omega
                · rw [hoE (by omega)]
                  exact hxs i hiN j _ (List.getElem?_eq_getElem hj)
end Go.Proofs.YtjobijmmjebpaaaDoor
