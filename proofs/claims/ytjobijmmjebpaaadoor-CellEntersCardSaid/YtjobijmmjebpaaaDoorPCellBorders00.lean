/- Texts of the law CellBorders, merged: CellRef, CellRefB, NetDraft, NetWeight, NetDrI. -/
import Derived.Test.YtjobijmmjebpaaaDoorPCellNorms11
import Derived.Test.YtjobijmmjebpaaaDoorPCellNorms00
import Derived.BigQuiet
import Derived.Deep.QuietTactic
import Derived.Test.YtjobijmmjebpaaaDoorPCellNorms02
import Derived.WalkSmall
/- the cell laws' maps, drawn; the document's Norm. -/
namespace Go.Proofs.YtjobijmmjebpaaaDoor
open Go.RowKit
/-- a node's cell, by bytes -/
def pvx (ds : List Int) (k : Nat) : Int := (ds[k % ds.length]?.getD 0) % 5
def partedV (N : Nat) (ds : List Int) : List Int := (List.range N).map (pvx ds)
theorem partedV_succ (N : Nat) (ds : List Int) : partedV (N + 1) ds = partedV N ds ++ [pvx ds N] := by unfold partedV; rw [List.range_succ, List.map_append]; rfl
theorem partedV_len (N : Nat) (ds : List Int) : (partedV N ds).length = N := by unfold partedV; simp
theorem pvx_range (ds : List Int) (k : Nat) : 0 ≤ pvx ds k ∧ pvx ds k < 5 := by unfold pvx; omega
theorem partedV_range {N : Nat} {ds : List Int} : ∀ x ∈ partedV N ds, 0 ≤ x ∧ x < 5 := fun x hx => by
  unfold partedV at hx
  obtain ⟨k, _, rfl⟩ := List.mem_map.1 hx
  exact pvx_range ds k
set_option maxRecDepth 100000 in
set_option maxHeartbeats 8000000 in
theorem parted_any (va : Value) (g : Raw) (N : Nat) (hN : (N : Int) = g.nodes) (hNl : N ≤ 100000) (v : Value) (ds : List Int) (hds : ∀ b ∈ ds, 0 ≤ b ∧ b < 256) (w : World) (h : RawV w va g) (hl : SlI w v .u8 ds) :
    Calls Tryd.prog 10 #[va, v] w fun e w' => ∃ x, e = .returned x ∧ w'.ownsRow w.heap.size 3 1 x (partedV N ds).length ((partedV N ds).flatMap inC) ∧ Below w.heap.size w w' := by
  obtain ⟨vx, vy, vz, rfl, hx, hy, hz⟩ := h
  obtain ⟨xa, xn, xc, rfl⟩ := hx.form
  obtain ⟨ya, yn, yc, rfl⟩ := hy.form
  obtain ⟨za, zc, rfl, _⟩ := hz
  obtain ⟨ba, bc, rfl, hc1, hc2, hdc⟩ := hl
  rw [← hN]
  obtain ⟨w1, hw1⟩ : ∃ w1, w1 = w.alloc (.cells #[.int .i64 (N : Nat), .slice xa xn xc, .slice ya yn yc, .slice za g.arcs.length zc] 26) := ⟨_, rfl⟩
  obtain ⟨B, hB⟩ : ∃ b, b = w.heap.size := ⟨_, rfl⟩
  have hb1 : Below w.heap.size w w1 := by rw [hw1]; exact (Below.refl _ _).alloc (Nat.le_refl _) _
  have hk2 : Blk w1 B #[.int .i64 (N : Nat), .slice xa xn xc, .slice ya yn yc, .slice za g.arcs.length zc] 26 (0, 0) := by rw [hw1, hB]; exact Blk.new _ _ _ _
  have HB1 := Lib.hid hb1; have HW1 := Lib.hid hw1; have HK2 := Lib.hid hk2; have HD := Lib.hid hdc; have HDs := Lib.hid hds
  clear hx hy hb1 hw1 hk2 hdc hds hN hc1 hc2
  go_enter Tryd.func10, Tryd.ntmps10
  go_wp2_with fail
  rw [← HW1.out, ← hB]
  clear hB
  go_loopw [5, 6] (fun o i wr => ∃ (k : Nat) (vo : Value), vo = o ∧ i = .int .i64 k ∧ Hid (k ≤ N ∧ Below w1.heap.size w1 wr ∧ wr.ownsRow w1.heap.size 3 1 vo (partedV k ds).length ((partedV k ds).flatMap inC))) (fun _ i _ => N - (intOf i).toNat)
  case atStart => exact ⟨0, _, rfl, rfl, Lib.hid ⟨Nat.zero_le _, Below.refl _ _, World.ownsRow_nil _ _ _ _⟩⟩
  case round =>
    obtain ⟨k, vo, rfl, rfl, HI⟩ := hrel
    have c0 := (HK2.out.below HI.out.2.1 HK2.out.lt).cell 0
    simp only [List.getElem?_toArray, List.getElem?_cons_zero] at c0
    by_cases hlt : k < N
    · have hltI : (k : Int) < (N : Int) := by omega
      obtain ⟨y, hy⟩ : ∃ y, y = pvx ds k := ⟨_, rfl⟩
      obtain ⟨wc, hwc⟩ : ∃ wc, wc = wr.alloc (.cells #[.int .i64 y] 3) := ⟨_, rfl⟩
      have hbc : Below wr.heap.size wr wc := by rw [hwc]; exact (Below.refl _ _).alloc (Nat.le_refl _) _
      obtain ⟨a2, n2, c2, w', hr, ho, hgr, hat⟩ := push_intG w1.heap.size vo (partedV k ds) y wc wr.heap.size (ownsRow_below HI.out.2.2 hbc) (by rw [hwc]; exact Blk.new _ _ _ _) (by rw [partedV_len]; omega) (Nat.le_trans HI.out.2.1.size hbc.size)
      have hb' : Below w1.heap.size w1 w' := (HI.out.2.1.next' hbc).grown hgr (Nat.le_trans HI.out.2.1.size hbc.size) (fun j ej => (ownsRow_blk' HI.out.2.2 ej).1)
      rw [hwc] at hr
      obtain ⟨oa, on, oc, rfl⟩ := HI.out.2.2.one'
      have HR := Lib.hid hr
      have HNew := Lib.hid (show k + 1 ≤ N ∧ Below w1.heap.size w1 w' ∧ w'.ownsRow w1.heap.size 3 1 (.slice a2 n2 c2) (partedV (k + 1) ds).length ((partedV (k + 1) ds).flatMap inC) from ⟨hlt, hb', by rw [partedV_succ, ← hy]; exact ho⟩)
      clear hwc hbc hr ho hgr hat hb'
      by_cases h0 : ds.length = 0
      · have hd0 : ds = [] := List.eq_nil_of_length_eq_zero h0
        have hy0 : y = 0 := by rw [hy, hd0]; rfl
        have h0I : ¬ (0 : Int) < (ds.length : Int) := by omega
        subst hy0
        clear hy hd0 h0
        go_wp2_with (at_builtin; refine wpList_append_run rfl _ _ _ _ rfl HR.out ?_)
        go_roundw
        case rel => exact ⟨k + 1, _, rfl, by go_num, HNew⟩
        case measure => simp [intOf]; omega
      · have h0I : (0 : Int) < (ds.length : Int) := by omega
        obtain ⟨j, hj⟩ : ∃ j, j = k % ds.length := ⟨_, rfl⟩
        have hjl : j < ds.length := by rw [hj]; exact Nat.mod_lt _ (by omega)
        have hmod : (k : Int).tmod (ds.length : Int) = (j : Int) := by rw [hj]; rfl
        have hnz : ((ds.length : Int) == 0) = false := by rw [beq_eq_false_iff_ne]; omega
        obtain ⟨bb, ob, rfl, dc⟩ := HD.out j hjl
        have dc2 := cell_later (HB1.out.next' HI.out.2.1) dc
        obtain ⟨x, hx⟩ : ∃ x, x = ds[j] := ⟨_, rfl⟩
        rw [← hx] at dc2
        have hxr := HDs.out x (by rw [hx]; exact List.getElem_mem hjl)
        have hyx : x.tmod 5 = y := by
          rw [hy]; unfold pvx
          rw [← hj, List.getElem?_eq_getElem hjl, ← hx, Int.tmod_eq_emod_of_nonneg hxr.1]; rfl
        have hyr : 0 ≤ y ∧ y < 5 := by rw [hy]; exact pvx_range ds k
        have hj0 : (0 : Int) ≤ (j : Int) := by omega
        have hjI : (j : Int) < (ds.length : Int) := by omega
        have hdn : ¬ ds = [] := fun e => h0 (by rw [e]; rfl)
        clear hy hj dc hx h0
        go_wp2_with (at_builtin; refine wpList_append_run rfl _ _ _ _ rfl HR.out ?_)
        go_roundw
        case rel => exact ⟨k + 1, _, rfl, by go_num, HNew⟩
        case measure => simp [intOf]; omega
    · obtain rfl : k = N := by have := HI.out.1; omega
      go_wp2_with fail
      go_ret
      exact ⟨_, rfl, ownsRow_le HI.out.2.2 HB1.out.size, HB1.out.next' HI.out.2.1⟩
/-- two rows of ours -/
structure Pair (W0 w : World) (t o : Value) (T O : List Int) : Prop where
  below : Below W0.heap.size W0 w
  one : w.ownsRow W0.heap.size 3 1 t T.length (T.flatMap inC)
  two : w.ownsRow W0.heap.size 3 1 o O.length (O.flatMap inC)
  apart : ∀ k, t.ownBlock = some k → o.ownBlock ≠ some k
theorem Pair.symm {W0 w : World} {t o : Value} {T O : List Int} (h : Pair W0 w t o T O) : Pair W0 w o t O T := ⟨h.below, h.two, h.one, fun k hk e => h.apart k e hk⟩
theorem Pair.drewN {W0 w : World} {t o : Value} {T O : List Int} (h : Pair W0 w t o T O) (n : Nat) : Pair W0 (w.drewN n) t o T O := ⟨below_drewN h.below n, h.one, h.two, h.apart⟩
theorem Pair.push {W0 w : World} {t o : Value} {T O : List Int} (h : Pair W0 w t o T O) (x : Int) (hT : T.length ≤ 1000000) :
    ∃ a n c w', (Builtin.append_ #[30, 30] 30 #[t, .slice (some ⟨w.heap.size, 0, none⟩) 1 1]).run Tryd.prog (w.alloc (.cells #[.int .i64 x] 3)) = .ok (.slice a n c) w' ∧ Pair W0 w' (.slice a n c) o (T ++ [x]) O := by
  obtain ⟨wc, hwc⟩ : ∃ wc, wc = w.alloc (.cells #[.int .i64 x] 3) := ⟨_, rfl⟩
  have hbc : Below w.heap.size w wc := by rw [hwc]; exact (Below.refl _ _).alloc (Nat.le_refl _) _
  have hsc : wc.heap.size = w.heap.size + 1 := by rw [hwc]; simp
  obtain ⟨a, n, c, w', hr, ho, hg, hat⟩ := push_intG W0.heap.size t T x wc w.heap.size (ownsRow_below h.one hbc) (by rw [hwc]; exact Blk.new _ _ _ _) hT (Nat.le_trans h.below.size hbc.size)
  refine ⟨a, n, c, w', by rw [← hwc]; exact hr, (h.below.next' hbc).grown hg (Nat.le_trans h.below.size hbc.size) (fun j ej => (ownsRow_blk' h.one ej).1), ho, ?_, fun k hk => ?_⟩
  · exact ownsRow_agree' (ownsRow_below h.two hbc) fun k hk => by
      obtain ⟨_, _, hq⟩ := ownsRow_blk' (ownsRow_below h.two hbc) hk
      exact hg.block k hq.lt (fun e => h.apart k e.symm hk)
  · rcases hat with e | e
    · exact h.apart k (e ▸ hk)
    · intro he
      rw [e] at hk
      have hk := Option.some.inj hk
      obtain ⟨_, _, hq⟩ := ownsRow_blk' h.two he
      have := hq.lt
      omega
set_option maxRecDepth 100000 in
set_option maxHeartbeats 8000000 in
theorem refNorm_any (va : Value) (L : List Int) (hL : L.length ≤ 100000) (w : World) (ha : SlX w va L) :
    Calls Tryd.prog 9 #[va] w fun e w' => ∃ v, e = .returned v ∧ w'.ownsRow w.heap.size 3 1 v (normV L).length ((normV L).flatMap inC) ∧ Below w.heap.size w w' := by
  have HA := Lib.hid ha
  obtain ⟨a, ca, rfl, _⟩ := ha
  go_enter Tryd.func9, Tryd.ntmps9
  go_wp2_with fail
  go_loopw [3, 4, 5] (fun o t i wr => ∃ (k : Nat) (vo vt : Value), vo = o ∧ vt = t ∧ i = .int .i64 k ∧ Hid (k ≤ L.length ∧ Pair w wr vt vo (seenS [] (L.take k)) (normS [] (L.take k)))) (fun _ _ i _ => L.length - (intOf i).toNat)
  case atStart => exact ⟨0, _, _, rfl, rfl, rfl, Lib.hid ⟨Nat.zero_le _, Below.refl _ _, World.ownsRow_nil _ _ _ _, World.ownsRow_nil _ _ _ _, fun k hk => by cases hk⟩⟩
  case round =>
    obtain ⟨k, vo, vt, rfl, rfl, rfl, HI⟩ := hrel
    obtain ⟨wo, hwo⟩ : ∃ u, u = wr := ⟨_, rfl⟩
    subst hwo
    by_cases hlt : k < L.length
    · have hltI : (k : Int) < (L.length : Int) := by omega
      have k0 : (0 : Int) ≤ (k : Int) := by omega
      obtain ⟨x, hx⟩ : ∃ x, x = L[k] := ⟨_, rfl⟩
      obtain ⟨T, hT⟩ : ∃ T, T = seenS [] (L.take k) := ⟨_, rfl⟩
      obtain ⟨R, hR⟩ : ∃ R, R = normS [] (L.take k) := ⟨_, rfl⟩
      have htk : L.take (k + 1) = L.take k ++ [x] := by rw [hx]; exact List.take_succ_eq_append_getElem hlt
      have hTl : T.length ≤ k := by
        have := seenS_len (L.take k) []
        rw [← hT, List.length_take] at this
        simp at this; omega
      have hRl : R.length ≤ k := by rw [hR, normS_len, List.length_take]; omega
      have HE := Lib.hid (show normS [] (L.take (k + 1)) = R ++ [nameS T x] ∧ seenS [] (L.take (k + 1)) = seenT T x from ⟨by rw [htk, normS_snoc, hT, hR], by rw [htk, seenS_snoc, hT]⟩)
      rw [← hT, ← hR] at HI
      have HCa := Lib.hid (show ∃ b o, a = some ⟨b, o, none⟩ ∧ ∀ u : World, Below w.heap.size w u → u.cell? ⟨b, o + k, none⟩ = some (.int .i64 x) from by
        obtain ⟨b, o, e, _⟩ := HA.out.at k hlt
        subst e
        refine ⟨b, o, rfl, fun u hu => ?_⟩
        obtain ⟨b2, o2, e2, hc⟩ := (HA.out.keep (KpC.of_below hu)).at k hlt
        obtain ⟨rfl, rfl⟩ : b = b2 ∧ o = o2 := by simpa using e2
        rw [hc, hx])
      obtain ⟨ba, oa, rfl, hca⟩ := HCa.out
      have HCb := Lib.hid hca
      obtain ⟨ta, tn, tc, rfl⟩ := HI.out.2.one.one'
      obtain ⟨ra, rn, rc, rfl⟩ := HI.out.2.two.one'
      obtain ⟨_, _, et, _⟩ := id (slX_own rfl HI.out.2.one)
      obtain ⟨rfl, rfl, rfl⟩ : ta = _ ∧ tn = T.length ∧ tc = _ := by simpa using et
      clear et hx hT hR htk hca HCa
      go_wp2_with fail
      go_loopw [6] (fun i wr => ∃ q : Nat, i = .int .i64 q ∧ Hid (q ≤ T.length ∧ (∀ j, j < q → T[j]? ≠ some x) ∧ Pair w wr (.slice ta T.length tc) (.slice ra rn rc) T R)) (fun i _ => T.length - (intOf i).toNat)
      case atStart => exact ⟨0, rfl, Lib.hid ⟨Nat.zero_le _, fun j hj => absurd hj (Nat.not_lt_zero j), HI.out.2⟩⟩
      case round =>
        obtain ⟨q, rfl, HJ⟩ := hrel
        have HPr := Lib.hid HJ.out.2.2
        by_cases hq : q < T.length
        · have hqI : (q : Int) < (T.length : Int) := by omega
          have q0 : (0 : Int) ≤ (q : Int) := by omega
          obtain ⟨bt, ot, rfl, d1⟩ := (slX_own rfl HPr.out.one).at q hq
          obtain ⟨y, hy⟩ : ∃ y, y = T[q] := ⟨_, rfl⟩
          rw [← hy] at d1
          have d2 := HCb.out wr HPr.out.below
          by_cases hyx : y = x
          · have hb : (y == x) = true := by simpa using hyx
            have hfirst := idx_first (L := T) (v := x) (k := q) (by rw [List.getElem?_eq_getElem hq, ← hy, hyx]) HJ.out.2.1
            have HF := Lib.hid hfirst
            have hnq : ¬ (q : Int) = (T.length : Int) := by omega
            have hnm : nameS T x = (q : Int) := by unfold nameS; rw [if_pos hfirst.1, hfirst.2]
            have hsn : seenT T x = T := by unfold seenT; rw [if_pos hfirst.1]
            clear hyx hy hfirst
            go_wp2_with fail
            go_quiet (fail)
            generalize hwd : wr.drewN _ = wd at *
            have hPd : Pair w wd (.slice (some ⟨bt, ot, none⟩) T.length tc) (.slice ra rn rc) T R := by rw [← hwd]; exact HPr.out.drewN _
            obtain ⟨a3, n3, c3, w3, hr3, hP3⟩ := hPd.symm.push (q : Int) (by omega)
            have HR3 := Lib.hid hr3
            have HNew := Lib.hid (show k + 1 ≤ L.length ∧ Pair w w3 (.slice (some ⟨bt, ot, none⟩) T.length tc) (.slice a3 n3 c3) (seenS [] (L.take (k + 1))) (normS [] (L.take (k + 1))) from ⟨hlt, by rw [HE.out.1, HE.out.2, hnm, hsn]; exact hP3.symm⟩)
            clear hwd hPd hr3 hP3 hnm hsn d1 d2
            go_wp2_with (at_builtin; refine wpList_append_run rfl _ _ _ _ rfl HR3.out ?_)
            go_roundw
            case rel => exact ⟨k + 1, _, _, rfl, rfl, by go_num, HNew⟩
            case measure => simp [intOf]; omega
          · have hb : (y == x) = false := by simpa using hyx
            have HNx := Lib.hid (show ∀ j, j < q + 1 → T[j]? ≠ some x from fun j hj => by
              by_cases e : j = q
              · subst e
                rw [List.getElem?_eq_getElem hq, ← hy]
                exact fun h => hyx (Option.some.inj h)
              · exact HJ.out.2.1 j (by omega))
            clear hyx hy
            go_wp2_with fail
            go_quiet (fail)
            go_wp2_with fail
            go_roundw
            case rel => exact ⟨q + 1, by go_num, Lib.hid ⟨hq, HNx.out, HPr.out.drewN _⟩⟩
            case measure => simp [intOf]; omega
        · obtain rfl : q = T.length := by have := HJ.out.1; omega
          have hno := idx_none (L := T) (v := x) HJ.out.2.1
          have hnm : nameS T x = (T.length : Int) := by unfold nameS; rw [if_neg hno]
          have hsn : seenT T x = T ++ [x] := by unfold seenT; rw [if_neg hno]
          have HNm := Lib.hid (And.intro hnm hsn)
          clear hno hnm hsn
          have hca0 := HCb.out wr HPr.out.below
          go_wp2_with fail
          go_quiet (fail)
          generalize hwd : wr.drewN _ = wd at *
          have hPd : Pair w wd (.slice ta T.length tc) (.slice ra rn rc) T R := by rw [← hwd]; exact HPr.out.drewN _
          have hcad := HCb.out wd hPd.below
          obtain ⟨a3, n3, c3, w3, hr3, hP3⟩ := hPd.push x (by omega)
          obtain ⟨a4, n4, c4, w4, hr4, hP4⟩ := hP3.symm.push (T.length : Int) (by omega)
          have HR3 := Lib.hid hr3; have HR4 := Lib.hid hr4
          have HNew := Lib.hid (show k + 1 ≤ L.length ∧ Pair w w4 (.slice a3 n3 c3) (.slice a4 n4 c4) (seenS [] (L.take (k + 1))) (normS [] (L.take (k + 1))) from ⟨hlt, by rw [HE.out.1, HE.out.2, HNm.out.1, HNm.out.2]; exact hP4.symm⟩)
          clear hwd hPd hr3 hr4 hP3 hP4 hca0
          go_wp2_with (first | (at_builtin; refine wpList_append_run rfl _ _ _ _ rfl HR3.out ?_) | (at_builtin; refine wpList_append_run rfl _ _ _ _ rfl HR4.out ?_))
          go_roundw
          case rel => exact ⟨k + 1, _, _, rfl, rfl, by go_num, HNew⟩
          case measure => simp [intOf]; omega
    · obtain rfl : k = L.length := by have := HI.out.1; omega
      go_wp2_with fail
      go_ret
      have h := HI.out.2
      rw [List.take_length] at h
      exact ⟨_, rfl, h.two, h.below⟩
end Go.Proofs.YtjobijmmjebpaaaDoor
/- the document's Border. -/
namespace Go.Proofs.YtjobijmmjebpaaaDoor
open Go.RowKit
/-- does an arc come into a node of a cell, from beyond? -/
def comesH (L : List Int) (c : Int) (v : Nat) (a : Ar) : Bool := decide (a.2.1 = (v : Int)) && decide (L[v]? = some c) && decide (ofV L a.1 ≠ c)
theorem comes_border {g : Raw} {L : List Int} {c : Int} {v : Nat} (hv : (v : Int) < g.nodes) : g.arcs.any (comesH L c v) = borderH g L c v := by
  unfold borderH
  by_cases hc : L[v]? = some c
  · rw [decide_eq_true hc, Bool.true_and, Bool.eq_iff_iff, List.any_eq_true, List.any_eq_true]
    have ha : ∀ n (hn : n < g.arcs.length), (arcI g (n : Nat)).getD (0, 0, 0) = g.arcs[n] := fun n hn => by
      unfold arcI; rw [if_pos ⟨by omega, by omega⟩, Int.toNat_natCast, List.getElem?_eq_getElem hn]; rfl
    constructor
    · rintro ⟨a, hm, h⟩
      obtain ⟨n, hn, rfl⟩ := List.mem_iff_getElem.1 hm
      unfold comesH at h
      simp only [Bool.and_eq_true, decide_eq_true_eq] at h
      refine ⟨(n : Int), (rowV_mem endT hv).2 ⟨n, rfl, hn, h.1.1⟩, ?_⟩
      unfold beyondH
      rw [ha n hn]; exact decide_eq_true h.2
    · rintro ⟨i, hm, h⟩
      obtain ⟨n, rfl, hn, he⟩ := (rowV_mem endT hv).1 hm
      unfold beyondH at h
      rw [ha n hn] at h
      refine ⟨g.arcs[n], List.getElem_mem hn, ?_⟩
      unfold comesH
      simp only [Bool.and_eq_true]
      exact ⟨⟨decide_eq_true he, decide_eq_true hc⟩, h⟩
  · rw [decide_eq_false hc, Bool.false_and, List.any_eq_false]
    intro a _
    unfold comesH
    rw [decide_eq_false hc]; simp
theorem upH_congr {h h' : Nat → Bool} : ∀ {k : Nat}, (∀ j, j < k → h j = h' j) → upH h k = upH h' k
  | 0, _ => rfl
  | k + 1, he => by rw [upH_succ, upH_succ, upH_congr (fun j hj => he j (by omega)), he k (by omega)]
set_option maxRecDepth 100000 in
set_option maxHeartbeats 8000000 in
theorem refBorder_any (va : Value) (g : Raw) (hok : g.Ok) (hgn : g.nodes ≤ 100000) (v : Value) (L : List Int) (c : Int) (w : World) (h : RawV w va g) (hl : SlX w v L) (hL : (L.length : Int) = g.nodes) :
    Calls Tryd.prog 15 #[va, v, .int .i64 c] w fun e w' => ∃ x, e = .returned x ∧ w'.ownsRow w.heap.size 3 1 x (borderV g L c).length ((borderV g L c).flatMap inC) ∧ Below w.heap.size w w' := by
  have hBV : borderV g L c = upH (fun v => g.arcs.any (comesH L c v)) L.length := upH_congr fun j hj => (comes_border (by omega)).symm
  rw [hBV]
  clear hBV
  obtain ⟨vx, vy, vz, rfl, hx, hy, ha⟩ := h
  obtain ⟨xa, xn, xc, rfl⟩ := hx.form
  obtain ⟨ya, yn, yc, rfl⟩ := hy.form
  obtain ⟨aa, ac, rfl, hac, hmc, _⟩ := id ha
  unfold maxLen at hmc
  obtain ⟨la, lc, rfl, _⟩ := id hl
  rw [← hL]
  have hLl : L.length ≤ 100000 := by omega
  have hFr := fun (n : Nat) (hn : n < g.arcs.length) => (hok.arc _ (List.getElem_mem hn)).1
  rw [← hL] at hFr
  obtain ⟨w1, hw1⟩ : ∃ w1, w1 = w.alloc (.cells #[.int .i64 (L.length : Nat), .slice xa xn xc, .slice ya yn yc, .slice aa g.arcs.length ac] 26) := ⟨_, rfl⟩
  obtain ⟨B, hB⟩ : ∃ b, b = w.heap.size := ⟨_, rfl⟩
  have hb1 : Below w.heap.size w w1 := by rw [hw1]; exact (Below.refl _ _).alloc (Nat.le_refl _) _
  have hk3 : Blk w1 B #[.int .i64 (L.length : Nat), .slice xa xn xc, .slice ya yn yc, .slice aa g.arcs.length ac] 26 (0, 0) := by rw [hw1, hB]; exact Blk.new _ _ _ _
  have HA := Lib.hid (ha.keep (KpC.of_below hb1)); have HL := Lib.hid (hl.keep (KpC.of_below hb1)); have HB1 := Lib.hid hb1; have HW1 := Lib.hid hw1; have HK3 := Lib.hid hk3; have HFr := Lib.hid hFr
  clear hx hy ha hb1 hw1 hk3 hl hL hFr hok
  go_enter Tryd.func15, Tryd.ntmps15
  go_wp2_with fail
  rw [← HW1.out, ← hB]
  clear hB
  go_loopw [7, 8] (fun o i wr => ∃ (k : Nat) (vo : Value), vo = o ∧ i = .int .i64 k ∧ Hid (k ≤ L.length ∧ Below w1.heap.size w1 wr ∧ wr.ownsRow w1.heap.size 3 1 vo (upH (fun v => g.arcs.any (comesH L c v)) k).length ((upH (fun v => g.arcs.any (comesH L c v)) k).flatMap inC))) (fun _ i _ => L.length - (intOf i).toNat)
  case atStart => exact ⟨0, _, rfl, rfl, Lib.hid ⟨Nat.zero_le _, Below.refl _ _, World.ownsRow_nil _ _ _ _⟩⟩
  case round =>
    obtain ⟨k, vo, rfl, rfl, HI⟩ := hrel
    obtain ⟨wo, hwo⟩ : ∃ u, u = wr := ⟨_, rfl⟩
    subst hwo
    have c0 := (HK3.out.below HI.out.2.1 HK3.out.lt).cell 0
    simp only [List.getElem?_toArray, List.getElem?_cons_zero] at c0
    by_cases hlt : k < L.length
    · have hltI : (k : Int) < (L.length : Int) := by omega
      have k0 : (0 : Int) ≤ (k : Int) := by omega
      obtain ⟨bl, ol, rfl, _⟩ := HL.out.at k hlt
      have HCl := Lib.hid (show ∀ (j : Nat) (hj : j < L.length) (u : World), Below w1.heap.size w1 u → u.cell? ⟨bl, ol + j, none⟩ = some (.int .i64 L[j]) from fun j hj u hu => by
        obtain ⟨b2, o2, e2, hc⟩ := (HL.out.keep (KpC.of_below hu)).at j hj
        obtain ⟨rfl, rfl⟩ : bl = b2 ∧ ol = o2 := by simpa using e2
        exact hc)
      obtain ⟨x, hx⟩ : ∃ x, x = L[k] := ⟨_, rfl⟩
      have hLk : L[k]? = some x := by rw [List.getElem?_eq_getElem hlt, hx]
      have HLk := Lib.hid hLk
      have HCk := Lib.hid (show ∀ u : World, Below w1.heap.size w1 u → u.cell? ⟨bl, ol + k, none⟩ = some (.int .i64 x) from fun u hu => by rw [hx]; exact HCl.out k hlt u hu)
      clear hx hLk
      go_wp2_with fail
      clear c0
      go_loopw [9, 10] (fun cm i wr => ∃ (q : Nat) (b : Bool), cm = .bool b ∧ i = .int .i64 q ∧ Hid (q ≤ g.arcs.length ∧ b = (g.arcs.take q).any (comesH L c k) ∧ Below wo.heap.size wo wr)) (fun _ i _ => g.arcs.length - (intOf i).toNat)
      case atStart => exact ⟨0, false, rfl, rfl, Lib.hid ⟨Nat.zero_le _, rfl, Below.refl _ _⟩⟩
      case round =>
        obtain ⟨q, b, rfl, rfl, HJ⟩ := hrel
        have hbw : Below w1.heap.size w1 wr := HI.out.2.1.next' HJ.out.2.2
        have c3 := (HK3.out.below hbw HK3.out.lt).cell 3
        simp only [List.getElem?_toArray, List.getElem?_cons_succ, List.getElem?_cons_zero] at c3
        by_cases hq : q < g.arcs.length
        · have hqI : (q : Int) < (g.arcs.length : Int) := by omega
          have q0 : (0 : Int) ≤ (q : Int) := by omega
          obtain ⟨bz, oz, rfl, z0, z1, z2⟩ := (HA.out.keep (KpC.of_below hbw)).at q hq
          obtain ⟨ar, har⟩ : ∃ ar, ar = g.arcs[q] := ⟨_, rfl⟩
          have hfr := HFr.out q hq
          have htk : (g.arcs.take (q + 1)).any (comesH L c k) = (b || comesH L c k ar) := by
            rw [List.take_succ_eq_append_getElem hq, List.any_append, ← HJ.out.2.1, har]; simp
          rw [← har] at z0 z1 z2 hfr
          obtain ⟨f, t, wgt⟩ := ar
          dsimp only at z0 z1 z2 hfr
          obtain ⟨wn, hwn⟩ : ∃ u, u = wr.alloc (.cells #[.int .i64 f, .int .i64 t, .int .i64 wgt] 45) := ⟨_, rfl⟩
          have hbn : Below wr.heap.size wr wn := by rw [hwn]; exact (Below.refl _ _).alloc (Nat.le_refl _) _
          have ka : Blk wn wr.heap.size #[.int .i64 f, .int .i64 t, .int .i64 wgt] 45 (0, 0) := by rw [hwn]; exact Blk.new _ _ _ _
          have a0 := ka.cell 0; have a1 := ka.cell 1
          simp only [List.getElem?_toArray, List.getElem?_cons_succ, List.getElem?_cons_zero] at a0 a1
          obtain ⟨fn, rfl⟩ := Int.eq_ofNat_of_zero_le hfr.1
          have hfl : fn < L.length := by omega
          have l1 := HCk.out wn (hbw.next' hbn)
          have l2 := HCl.out fn hfl wn (hbw.next' hbn)
          obtain ⟨y, hy⟩ : ∃ y, y = L[fn] := ⟨_, rfl⟩
          rw [← hy] at l2
          have hof : ofV L (fn : Nat) = y := by unfold ofV; rw [if_pos ⟨by omega, by omega⟩, Int.toNat_natCast, List.getElem?_eq_getElem hfl, hy]; rfl
          have hcm : comesH L c k ((fn : Int), t, wgt) = (t == (k : Int) && x == c && !(y == c)) := by
            unfold comesH
            dsimp only
            rw [hof, HLk.out]
            by_cases h1 : t = (k : Int) <;> by_cases h2 : x = c <;> by_cases h3 : y = c <;> simp [h1, h2, h3]
          rw [hcm] at htk
          have HNx := Lib.hid htk
          have HBn := Lib.hid (HJ.out.2.2.next' hbn)
          rw [hwn] at a0 a1 l1 l2
          have HWn := Lib.hid hwn
          have fn0 : (0 : Int) ≤ (fn : Int) := by omega
          have fnl : (fn : Int) < (L.length : Int) := by omega
          clear hwn hbn ka har hy hof hcm htk hfr
          cases b with
          | true =>
            have HNew := Lib.hid (show q + 1 ≤ g.arcs.length ∧ true = (g.arcs.take (q + 1)).any (comesH L c k) ∧ Below wo.heap.size wo wn from ⟨hq, by rw [HNx.out]; simp, HBn.out⟩)
            go_wp2_with fail
            go_roundw
            case rel => exact ⟨q + 1, true, rfl, by go_num, by rw [← HWn.out]; exact HNew⟩
            case measure => simp [intOf]; omega
          | false =>
            by_cases h1 : t = (k : Int)
            · have e1 : (t == (k : Int)) = true := by simpa using h1
              by_cases h2 : x = c
              · have e2 : (x == c) = true := by simpa using h2
                obtain ⟨b3, hb3⟩ : ∃ b, b = !(y == c) := ⟨_, rfl⟩
                have HNew := Lib.hid (show q + 1 ≤ g.arcs.length ∧ (!(y == c)) = (g.arcs.take (q + 1)).any (comesH L c k) ∧ Below wo.heap.size wo wn from ⟨hq, by rw [HNx.out, e1, e2]; simp, HBn.out⟩)
                clear h1 h2 hb3
                go_wp2_with fail
                go_roundw
                case rel => exact ⟨q + 1, _, rfl, by go_num, by rw [← HWn.out]; exact HNew⟩
                case measure => simp [intOf]; omega
              · have e2 : (x == c) = false := by simpa using h2
                have HNew := Lib.hid (show q + 1 ≤ g.arcs.length ∧ false = (g.arcs.take (q + 1)).any (comesH L c k) ∧ Below wo.heap.size wo wn from ⟨hq, by rw [HNx.out, e2]; simp, HBn.out⟩)
                clear h1 h2
                go_wp2_with fail
                go_roundw
                case rel => exact ⟨q + 1, false, rfl, by go_num, by rw [← HWn.out]; exact HNew⟩
                case measure => simp [intOf]; omega
            · have e1 : (t == (k : Int)) = false := by simpa using h1
              have HNew := Lib.hid (show q + 1 ≤ g.arcs.length ∧ false = (g.arcs.take (q + 1)).any (comesH L c k) ∧ Below wo.heap.size wo wn from ⟨hq, by rw [HNx.out, e1]; simp, HBn.out⟩)
              clear h1
              go_wp2_with fail
              go_roundw
              case rel => exact ⟨q + 1, false, rfl, by go_num, by rw [← HWn.out]; exact HNew⟩
              case measure => simp [intOf]; omega
        · obtain rfl : q = g.arcs.length := by have := HJ.out.1; omega
          have hall := HJ.out.2.1
          rw [List.take_length] at hall
          have hup : upH (fun v => g.arcs.any (comesH L c v)) (k + 1) = upH (fun v => g.arcs.any (comesH L c v)) k ++ (if b then [(k : Int)] else []) := by rw [upH_succ, hall]
          have hrow := ownsRow_below HI.out.2.2 HJ.out.2.2
          have hul := upH_len (fun v => g.arcs.any (comesH L c v)) k
          cases b with
          | true =>
            obtain ⟨wc, hwc⟩ : ∃ wc, wc = wr.alloc (.cells #[.int .i64 (k : Nat)] 3) := ⟨_, rfl⟩
            have hbc : Below wr.heap.size wr wc := by rw [hwc]; exact (Below.refl _ _).alloc (Nat.le_refl _) _
            obtain ⟨a2, n2, c2, w', hr, ho, hg, hat⟩ := push_intG w1.heap.size vo (upH (fun v => g.arcs.any (comesH L c v)) k) (k : Nat) wc wr.heap.size (ownsRow_below hrow hbc) (by rw [hwc]; exact Blk.new _ _ _ _) (by omega) (Nat.le_trans hbw.size hbc.size)
            have hb' : Below w1.heap.size w1 w' := (hbw.next' hbc).grown hg (Nat.le_trans hbw.size hbc.size) (fun j ej => (ownsRow_blk' hrow ej).1)
            rw [hwc] at hr
            obtain ⟨oa, on, oc, rfl⟩ := HI.out.2.2.one'
            have HR := Lib.hid hr
            have HNew := Lib.hid (show k + 1 ≤ L.length ∧ Below w1.heap.size w1 w' ∧ w'.ownsRow w1.heap.size 3 1 (.slice a2 n2 c2) (upH (fun v => g.arcs.any (comesH L c v)) (k + 1)).length ((upH (fun v => g.arcs.any (comesH L c v)) (k + 1)).flatMap inC) from ⟨hlt, hb', by rw [hup]; exact ho⟩)
            clear hwc hbc hr ho hg hat hb' hall hup hrow hul
            go_wp2_with (at_builtin; refine wpList_append_run rfl _ _ _ _ rfl HR.out ?_)
            go_roundw
            case rel => exact ⟨k + 1, _, rfl, by go_num, HNew⟩
            case measure => simp [intOf]; omega
          | false =>
            have HNew := Lib.hid (show k + 1 ≤ L.length ∧ Below w1.heap.size w1 wr ∧ wr.ownsRow w1.heap.size 3 1 vo (upH (fun v => g.arcs.any (comesH L c v)) (k + 1)).length ((upH (fun v => g.arcs.any (comesH L c v)) (k + 1)).flatMap inC) from ⟨hlt, hbw, by rw [hup]; simpa using hrow⟩)
            clear hall hup hrow hul
            go_wp2_with fail
            go_roundw
            case rel => exact ⟨k + 1, _, rfl, by go_num, HNew⟩
            case measure => simp [intOf]; omega
    · obtain rfl : k = L.length := by have := HI.out.1; omega
      go_wp2_with fail
      go_ret
      exact ⟨_, rfl, ownsRow_le HI.out.2.2 HB1.out.size, HB1.out.next' HI.out.2.1⟩
set_option maxHeartbeats 4000000 in
theorem refBorder_size (va : Value) (g : Raw) (v : Value) (L : List Int) (c : Int) (w : World) (hgn : 1 ≤ g.nodes) (h : RawV w va g) (hl : SlX w v L) (hL : ¬ (L.length : Int) = g.nodes) :
    Calls Tryd.prog 15 #[va, v, .int .i64 c] w fun e w' => e = .returned (.slice none 0 0) ∧ Below w.heap.size w w' := by
  obtain ⟨vx, vy, vz, rfl, hx, hy, ha⟩ := h
  obtain ⟨xa, xn, xc, rfl⟩ := hx.form
  obtain ⟨ya, yn, yc, rfl⟩ := hy.form
  obtain ⟨aa, ac, rfl, _⟩ := id ha
  obtain ⟨la, lc, rfl, _⟩ := id hl
  have hb1 : Below w.heap.size w (w.alloc (.cells #[.int .i64 g.nodes, .slice xa xn xc, .slice ya yn yc, .slice aa g.arcs.length ac] 26)) := (Below.refl _ _).alloc (Nat.le_refl _) _
  have HB1 := Lib.hid hb1
  have h0 : (0 : Int) < g.nodes := by omega
  clear hx hy ha hl hb1
  go_enter Tryd.func15, Tryd.ntmps15
  go_wp2_with fail
  go_loop [7, 8] (fun o i => o = .slice none 0 0 ∧ i = .int .i64 0) (fun _ _ => 0)
  case atStart => exact ⟨rfl, rfl⟩
  case round =>
    obtain ⟨rfl, rfl⟩ := hrel
    go_wp2_with fail
    go_ret
    exact ⟨rfl, HB1.out⟩
end Go.Proofs.YtjobijmmjebpaaaDoor
/- milestoneref07.Draft: what it draws. -/
namespace Go.Proofs.YtjobijmmjebpaaaDoor
open Go.RowKit
/-- what a draft is made of: bytes, that lie below lo -/
structure Dft where
  lo : Nat
  a : Option Addr
  cap : Nat
  l : List Int
/-- a draft lies at p: its bytes, and how many were drawn -/
def DrS (w : World) (p : Nat) (L : Dft) (at' : Nat) : Prop :=
  Blk w p #[.slice L.a L.l.length L.cap, .int .i64 at'] 52 (0, 0) ∧ L.l.length ≤ 1000 ∧ at' ≤ 1000000 ∧ ∀ i (h : i < L.l.length), ∃ b off, L.a = some ⟨b, off, none⟩ ∧ b ≠ p ∧ b < L.lo ∧ w.cell? ⟨b, off + i, none⟩ = some (.int .u8 L.l[i])
theorem DrS.kept {S : Nat → Prop} {w w' : World} {p : Nat} {L : Dft} {k : Nat} (h : DrS w p L k) (hk : Kept S w w') (hp : ¬ S p) (hS : ∀ b, b < L.lo → b ≠ p → ¬ S b) : DrS w' p L k := by
  obtain ⟨h1, h2, h3, h4⟩ := h
  refine ⟨hk.blk h1 hp, h2, h3, fun i hi => ?_⟩
  obtain ⟨b, off, ha, hb, hl, hc⟩ := h4 i hi
  exact ⟨b, off, ha, hb, hl, (World.cell?_of_block (hk.block b (block_lt_of_cell hc) (hS b hl hb))).trans hc⟩
theorem DrS.below {w w' : World} {p : Nat} {L : Dft} {k : Nat} (h : DrS w p L k) (hb : Below w.heap.size w w') : DrS w' p L k :=
  h.kept (S := fun _ => False) ⟨hb.os, hb.tape, hb.output, hb.size, fun k hk _ => hb.block k hk⟩ id (fun _ _ _ => id)
set_option maxHeartbeats 4000000 in
theorem next7_any (p : Nat) (L : Dft) (k : Nat) (n : Int) (w : World) (h : DrS w p L k) (hk : k < 1000000) (hn : n ≤ 1000000) :
    Calls Tryd.prog 43 #[.pointer (some ⟨p, 0, none⟩), .int .i64 n] w fun e w' => ∃ x k', e = .returned (.int .i64 x) ∧ (0 ≤ x ∧ (x < n ∨ x = 0) ∧ x ≤ 1000000) ∧ k' ≤ k + 1 ∧ DrS w' p L k' ∧ Kept (· = p) w w' := by
  have hd := h
  obtain ⟨lo, a, cap, L⟩ := L
  obtain ⟨h1, h2, h3, h4⟩ := h
  dsimp only at h1 h2 h3 h4
  have c0 := h1.cell 0; have c1 := h1.cell 1
  simp only [List.getElem?_toArray, List.getElem?_cons_succ, List.getElem?_cons_zero] at c0 c1
  have HD := Lib.hid hd
  clear hd
  by_cases hL : L.length = 0
  · have hz : (L.length : Int) = 0 := by omega
    rw [hL] at c0
    clear h1 h4 hL h2 h3 hz
    go_enter Tryd.func43, Tryd.ntmps43
    go_wp2_with fail
    go_ret
    exact ⟨0, k, rfl, ⟨by omega, .inr rfl, by omega⟩, by omega, HD.out, ⟨rfl, rfl, rfl, Nat.le_refl _, fun _ _ _ => rfl⟩⟩
  · by_cases hn1 : n < 1
    · have hz : ¬ (L.length : Int) = 0 := by omega
      clear h1 h4 h2 h3
      go_enter Tryd.func43, Tryd.ntmps43
      go_wp2_with fail
      go_ret
      exact ⟨0, k, rfl, ⟨by omega, .inr rfl, by omega⟩, by omega, HD.out, ⟨rfl, rfl, rfl, Nat.le_refl _, fun _ _ _ => rfl⟩⟩
    · have hz : ¬ (L.length : Int) = 0 := by omega
      have hnz : ¬ n = 0 := by omega
      have f1 := h1.free 1 (Or.inr (Nat.zero_le _))
      have hB1 := h1.set 1 (.int .i64 ((k : Int) + 1))
      have d0 := hB1.cell 0; have d1 := hB1.cell 1
      change (w.setCell ⟨p, 1, none⟩ (.int .i64 ((k : Int) + 1))).cell? ⟨p, 0, none⟩ = some (.slice a L.length cap) at d0
      change (w.setCell ⟨p, 1, none⟩ (.int .i64 ((k : Int) + 1))).cell? ⟨p, 1, none⟩ = some (.int .i64 ((k : Int) + 1)) at d1
      obtain ⟨j, hj⟩ : ∃ j : Nat, (k : Int).tmod L.length = (j : Int) := ⟨k % L.length, by simp [Int.tmod]⟩
      have hjl : j < L.length := by
        have := Int.tmod_lt_of_pos (k : Int) (show (0 : Int) < L.length by omega)
        omega
      obtain ⟨b, off, rfl, hbp, hbl, hc⟩ := h4 j hjl
      have d2 : (w.setCell ⟨p, 1, none⟩ (.int .i64 ((k : Int) + 1))).cell? ⟨b, off + j, none⟩ = some (.int .u8 L[j]) := (World.cell?_of_block (heap_setCell_other _ _ _ _ hbp)).trans hc
      obtain ⟨x, hx⟩ : ∃ x, x = L[j] := ⟨_, rfl⟩
      rw [← hx] at d2
      have hji : (j : Int) < (L.length : Int) := by omega
      have hj0 : (0 : Int) ≤ (j : Int) := by omega
      have HK : Hid (Kept (· = p) w (w.setCell ⟨p, 1, none⟩ (.int .i64 ((k : Int) + 1)))) := Lib.hid ((⟨rfl, rfl, rfl, Nat.le_refl _, fun _ _ _ => rfl⟩ : Kept (· = p) w w).setCell (p := ⟨p, 1, none⟩) rfl _)
      have HD1 : Hid (DrS (w.setCell ⟨p, 1, none⟩ (.int .i64 ((k : Int) + 1))) p ⟨lo, some ⟨b, off, none⟩, cap, L⟩ (k + 1)) := Lib.hid (by
        refine ⟨hB1, h2, by omega, fun i hi => ?_⟩
        obtain ⟨b', off', e', hb', hl', hc'⟩ := h4 i hi
        exact ⟨b', off', e', hb', hl', (World.cell?_of_block (heap_setCell_other _ _ _ _ hb')).trans hc'⟩)
      clear h1 h4 hc hx hB1 hbl HD
      go_enter Tryd.func43, Tryd.ntmps43
      go_wp2_with fail
      generalize w.setCell ⟨p, 1, none⟩ (.int .i64 ((k : Int) + 1)) = w1 at *
      clear c0 c1 f1
      go_quiet (fail)
      go_wp2
      go_ret
      exact ⟨_, k + 1, rfl, ⟨Int.emod_nonneg _ hnz, .inl (Int.emod_lt_of_pos _ (by omega)), Int.le_trans (Int.le_of_lt (Int.emod_lt_of_pos _ (by omega))) hn⟩, Nat.le_refl _, HD1.out.below ⟨rfl, rfl, rfl, Nat.le_refl _, fun _ _ => rfl⟩, ⟨HK.out.os, HK.out.tape, HK.out.output, HK.out.size, HK.out.block⟩⟩
end Go.Proofs.YtjobijmmjebpaaaDoor
/- milestoneref07.Draft.Weight. -/
namespace Go.Proofs.YtjobijmmjebpaaaDoor
open Go.RowKit
set_option maxHeartbeats 4000000 in
theorem weight7_any (p : Nat) (L : Dft) (k : Nat) (w : World) (h : DrS w p L k) (hk : k + 1 < 1000000) :
    Calls Tryd.prog 44 #[.pointer (some ⟨p, 0, none⟩)] w fun e w' => ∃ x k', e = .returned (.int .i64 x) ∧ (0 ≤ x ∧ x < 2147483648) ∧ k' ≤ k + 2 ∧ DrS w' p L k' ∧ Kept (· = p) w w' := by
  have HD := Lib.hid h
  have HNx := Lib.hid (fun n (hn : n ≤ 1000000) (u : World) (k' : Nat) (hd : DrS u p L k') (hk' : k' < 1000000) => next7_any p L k' n u hd hk' hn)
  clear h
  go_enter Tryd.func44, Tryd.ntmps44
  go_wp2_with fail
  refine (HNx.out 12 (by decide) w k HD.out (by omega)).mono ?_
  rintro e w1 ⟨x, k1, rfl, ⟨hx0, hx1, _⟩, hk1, hd1, hkk1⟩
  have hx : x < 12 := by rcases hx1 with h | h <;> omega
  have HD1 := Lib.hid hd1; have HK1 := Lib.hid hkk1
  clear hd1 hkk1 hx1 HD
  by_cases c3 : x < 3
  · go_wp2_with fail
    go_ret
    exact ⟨0, k1, rfl, ⟨by omega, by omega⟩, by omega, HD1.out, HK1.out⟩
  · by_cases c10 : x < 10
    · go_wp2_with fail
      refine (HNx.out 9 (by decide) w1 k1 HD1.out (by omega)).mono ?_
      rintro e w2 ⟨y, k2, rfl, ⟨hy0, hy1, _⟩, hk2, hd2, hkk2⟩
      have hy : y < 9 := by rcases hy1 with h | h <;> omega
      have HD2 := Lib.hid hd2; have HK2 := Lib.hid (HK1.out.trans hkk2)
      clear hd2 hkk2 hy1
      go_wp2_with fail
      go_ret
      exact ⟨1 + y, k2, rfl, ⟨by omega, by omega⟩, by omega, HD2.out, HK2.out⟩
    · by_cases c11 : x < 11
      · go_wp2_with fail
        refine (HNx.out 20 (by decide) w1 k1 HD1.out (by omega)).mono ?_
        rintro e w2 ⟨y, k2, rfl, ⟨hy0, hy1, _⟩, hk2, hd2, hkk2⟩
        have hy : y < 20 := by rcases hy1 with h | h <;> omega
        have HD2 := Lib.hid hd2; have HK2 := Lib.hid (HK1.out.trans hkk2)
        clear hd2 hkk2 hy1
        go_wp2_with fail
        go_ret
        exact ⟨100 * y, k2, rfl, ⟨by omega, by omega⟩, by omega, HD2.out, HK2.out⟩
      · go_wp2_with fail
        refine (HNx.out 2 (by decide) w1 k1 HD1.out (by omega)).mono ?_
        rintro e w2 ⟨y, k2, rfl, ⟨hy0, hy1, _⟩, hk2, hd2, hkk2⟩
        have hy : y < 2 := by rcases hy1 with h | h <;> omega
        have HD2 := Lib.hid hd2; have HK2 := Lib.hid (HK1.out.trans hkk2)
        clear hd2 hkk2 hy1
        go_wp2_with fail
        go_ret
        exact ⟨2147483647 - y, k2, rfl, ⟨by omega, by omega⟩, by omega, HD2.out, HK2.out⟩
end Go.Proofs.YtjobijmmjebpaaaDoor
/- a draft at p, and a graph in a variable of ours beside it: what numbers drawn, and elements more, leave of both. -/
namespace Go.Proofs.YtjobijmmjebpaaaDoor
open Go.RowKit
/-- where things lie -/
structure DrC (w0 : World) (B2 Bo p N1 : Nat) (L : Dft) : Prop where
  p : p < w0.heap.size
  lo : L.lo ≤ w0.heap.size
  b2 : w0.heap.size ≤ B2
  bo : B2 < Bo
  n1 : Bo < N1
/-- the draft at p, the graph g in Bo, its lists ours -/
def DrI (w0 : World) (B2 Bo p N1 : Nat) (L : Dft) (vx vy va : Value) (g : Raw) (k : Nat) (W : World) : Prop :=
  ∃ u, (u.heap.size = N1 ∧ Kept (· = p) w0 u ∧ DrS u p L k ∧ Blk u B2 #[.int .i64 0, .slice none 0 0, .slice none 0 0, .slice none 0 0] 26 (0, 0)) ∧ OutI u Bo vx vy va g W
section
variable {w0 W W' : World} {B2 Bo p N1 k k' : Nat} {L : Dft} {vx vy va : Value} {g : Raw}
theorem DrI.dr (hC : DrC w0 B2 Bo p N1 L) (h : DrI w0 B2 Bo p N1 L vx vy va g k W) : DrS W p L k := by
  obtain ⟨u, ⟨_, _, hd, _⟩, ho⟩ := h
  have := hC.p; have := hC.lo; have := hC.b2; have := hC.bo
  exact hd.kept ho.kept (by omega) (fun b hb _ => by omega)
theorem DrI.kept (hC : DrC w0 B2 Bo p N1 L) (h : DrI w0 B2 Bo p N1 L vx vy va g k W) : Kept (· = p) w0 W := by
  obtain ⟨u, ⟨_, hk, _, _⟩, ho⟩ := h
  have := hC.p; have := hC.b2; have := hC.bo
  have h2 := ho.kept
  exact ⟨h2.os.trans hk.os, h2.tape.trans hk.tape, h2.output.trans hk.output, Nat.le_trans hk.size h2.size, fun b hb hs => (h2.block b (Nat.lt_of_lt_of_le hb hk.size) (by omega)).trans (hk.block b hb hs)⟩
theorem DrI.b2 (hC : DrC w0 B2 Bo p N1 L) (h : DrI w0 B2 Bo p N1 L vx vy va g k W) : Blk W B2 #[.int .i64 0, .slice none 0 0, .slice none 0 0, .slice none 0 0] 26 (0, 0) := by
  obtain ⟨u, ⟨_, _, _, hb⟩, ho⟩ := h
  have := hC.bo
  exact ho.kept.blk hb (by omega)
theorem DrI.blk (h : DrI w0 B2 Bo p N1 L vx vy va g k W) : Blk W Bo #[.int .i64 g.nodes, vx, vy, va] 26 (0, 0) := by
  obtain ⟨u, _, ho⟩ := h
  exact ho.blk
theorem DrI.raw (h : DrI w0 B2 Bo p N1 L vx vy va g k W) : RawO N1 W (.agg #[.int .i64 g.nodes, vx, vy, va]) g := by
  obtain ⟨u, ⟨hs, _⟩, ho⟩ := h
  rw [← hs]; exact ho.raw
/-- a number drawn -/
theorem DrI.next (hC : DrC w0 B2 Bo p N1 L) (h : DrI w0 B2 Bo p N1 L vx vy va g k W) (hW : Kept (· = p) W W') (hd' : DrS W' p L k') : DrI w0 B2 Bo p N1 L vx vy va g k' W' := by
  obtain ⟨u, ⟨hs, hk, hd, hb⟩, ho⟩ := h
  have c1 := hC.p; have c2 := hC.lo; have c3 := hC.b2; have c4 := hC.bo; have c5 := hC.n1
  have c6 := hk.size
  obtain ⟨hd1, hd2, hd3, hd4⟩ := hd'
  obtain ⟨cs, hcs⟩ : ∃ cs, cs = Obj.cells #[.slice L.a L.l.length L.cap, .int .i64 (k' : Int)] 52 (0, 0) := ⟨_, rfl⟩
  obtain ⟨u', hu'⟩ : ∃ u' : World, u' = { u with heap := u.heap.setIfInBounds p cs } := ⟨_, rfl⟩
  have hne : ∀ b, b ≠ p → u'.heap[b]? = u.heap[b]? := fun b hb => by
    rw [hu']; exact Array.getElem?_setIfInBounds_ne (Ne.symm hb)
  have hpp : u'.heap[p]? = some cs := by
    rw [hu']; exact Array.getElem?_setIfInBounds_self_of_lt (by omega)
  have hsz : u'.heap.size = u.heap.size := by rw [hu']; simp
  have hWp : W'.heap[p]? = some cs := by rw [hcs]; exact hd1
  have hm := ho.kept.size
  refine ⟨u', ⟨hsz.trans hs, ⟨by rw [hu']; exact hk.os, by rw [hu']; exact hk.tape, by rw [hu']; exact hk.output, by rw [hsz]; exact hk.size, fun b hb hp => (hne b hp).trans (hk.block b hb hp)⟩, ⟨by show u'.heap[p]? = _; rw [hpp, hcs], hd2, hd3, fun i hi => ?_⟩, ?_⟩, ⟨?_, ?_, ?_⟩⟩
  · obtain ⟨b, off, ha, hbp, hl, hc⟩ := hd4 i hi
    refine ⟨b, off, ha, hbp, hl, (World.cell?_of_block ?_).trans hc⟩
    rw [hne b hbp, hW.block b (by omega) hbp, ho.kept.block b (by omega) (by omega)]
  · show u'.heap[B2]? = _
    rw [hne B2 (by omega)]; exact hb
  · exact (hW.block Bo ho.blk.lt (by omega)).trans ho.blk
  · have agr : ∀ {e : TypeId} {size : Nat} {v : Value} {n : Nat} {xs : List Value}, W.ownsRow u.heap.size e size v n xs → W'.ownsRow u'.heap.size e size v n xs := fun hr => by
      rw [hsz]
      exact ownsRow_agree' hr fun b hb => by
        obtain ⟨h1, _, h2⟩ := ownsRow_blk' hr hb
        exact hW.block b h2.lt (by omega)
    exact ⟨agr ho.own.1, agr ho.own.2.1, agr ho.own.2.2.1, ho.own.2.2.2⟩
  · have k2 := ho.kept
    refine ⟨by rw [hu']; exact hW.os.trans k2.os, by rw [hu']; exact hW.tape.trans k2.tape, by rw [hu']; exact hW.output.trans k2.output, by rw [hsz]; exact Nat.le_trans k2.size hW.size, fun b hb hne' => ?_⟩
    by_cases e : b = p
    · subst e; rw [hpp, hWp]
    · rw [hne b e, hW.block b (by omega) e]
      exact k2.block b (by omega) hne'
theorem DrI.below (h : DrI w0 B2 Bo p N1 L vx vy va g k W) (hb : Below W.heap.size W W') : DrI w0 B2 Bo p N1 L vx vy va g k W' := by
  obtain ⟨u, hu, ho⟩ := h
  exact ⟨u, hu, ho.below hb⟩
/-- block b is none of the rows', nor p, Bo, B2 -/
structure DrA (B2 Bo p N1 b : Nat) (vx vy va : Value) : Prop where
  n1 : N1 ≤ b
  x : some b ≠ vx.ownBlock
  y : some b ≠ vy.ownBlock
  a : some b ≠ va.ownBlock
  p : b ≠ p
  bo : b ≠ Bo
theorem DrI.apart (hC : DrC w0 B2 Bo p N1 L) (h : DrI w0 B2 Bo p N1 L vx vy va g k W) : DrA B2 Bo p N1 W.heap.size vx vy va := by
  have hp := (h.dr hC).1.lt
  have hb := h.blk.lt
  obtain ⟨u, ⟨hs, _, _, _⟩, ho⟩ := h
  have := ho.kept.size
  have nn : ∀ {e : TypeId} {size : Nat} {v : Value} {n : Nat} {xs : List Value}, W.ownsRow u.heap.size e size v n xs → some W.heap.size ≠ v.ownBlock := fun hr e => by
    have := (ownsRow_blk' hr e.symm).2.choose_spec.lt
    omega
  exact ⟨by omega, nn ho.own.1, nn ho.own.2.1, nn ho.own.2.2.1, by omega, by omega⟩
theorem DrI.setNew {b i : Nat} {v : Value} (h : DrI w0 B2 Bo p N1 L vx vy va g k W) (ha : DrA B2 Bo p N1 b vx vy va) : DrI w0 B2 Bo p N1 L vx vy va g k (W.setCell ⟨b, i, none⟩ v) := by
  obtain ⟨u, hu, ho⟩ := h
  have hs := hu.1
  have h1 := ha.n1
  have agr : ∀ {e : TypeId} {size : Nat} {x : Value} {n : Nat} {xs : List Value}, W.ownsRow u.heap.size e size x n xs → some b ≠ x.ownBlock → (W.setCell ⟨b, i, none⟩ v).ownsRow u.heap.size e size x n xs := fun hr hx =>
    ownsRow_agree' hr fun c hc => heap_setCell_other _ _ _ _ (fun e => hx (by rw [hc]; exact congrArg some e.symm))
  have hk := ho.kept
  refine ⟨u, hu, ⟨ho.blk.setOther ⟨b, i, none⟩ v (Ne.symm ha.bo), ⟨agr ho.own.1 ha.x, agr ho.own.2.1 ha.y, agr ho.own.2.2.1 ha.a, ho.own.2.2.2⟩, ⟨hk.os, hk.tape, hk.output, by simpa [World.setCell] using hk.size, fun c hc hne => (heap_setCell_other _ _ _ _ (fun e : c = b => by omega)).trans (hk.block c hc hne)⟩⟩⟩
/-- the beginning: a variable just made -/
theorem DrI.new {nodes : Int} {w2 : World} (hk : Kept (· = p) w0 w2) (hd : DrS w2 p L k) (hb : Blk w2 B2 #[.int .i64 0, .slice none 0 0, .slice none 0 0, .slice none 0 0] 26 (0, 0)) :
    DrI w0 B2 w2.heap.size p (w2.heap.size + 1) L (.slice none 0 0) (.slice none 0 0) (.slice none 0 0) ⟨nodes, [], [], []⟩ k (w2.alloc (.cells #[.int .i64 nodes, .slice none 0 0, .slice none 0 0, .slice none 0 0] 26)) := by
  have hbl : Below w2.heap.size w2 (w2.alloc (.cells #[.int .i64 nodes, .slice none 0 0, .slice none 0 0, .slice none 0 0] 26)) := (Below.refl _ _).alloc (Nat.le_refl _) _
  refine ⟨_, ⟨by simp, hk.alloc _, hd.below hbl, hb.alloc _⟩, ⟨Blk.new _ _ _ _, ⟨World.ownsRow_nil _ _ _ _, World.ownsRow_nil _ _ _ _, World.ownsRow_nil _ _ _ _, fun b hb => by cases hb⟩, Kept.refl _ _⟩⟩
end
end Go.Proofs.YtjobijmmjebpaaaDoor
