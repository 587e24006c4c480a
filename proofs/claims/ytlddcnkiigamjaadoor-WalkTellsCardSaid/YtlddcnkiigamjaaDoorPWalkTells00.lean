/- Texts of the law WalkTells, merged: WalkTellsP, WalkRefBare, WalkTells, WalkTellsL. -/
import Derived.Test.YtlddcnkiigamjaaDoorPWalkJoins00
import Derived.Test.YtlddcnkiigamjaaDoorPWalkTurned02
import Derived.Test.YtlddcnkiigamjaaDoorPWalkTurned17
import Derived.Test.YtlddcnkiigamjaaDoorPWalkTurned15
import Derived.Deep.Cut
import Derived.Deep.CutRange
import Derived.Deep.CutBlock
import Derived.Test.YtlddcnkiigamjaaDoorPWalkTurned18
/- a row of numbers, copied onto a literal; one of them set. -/
namespace Go.Proofs.YtlddcnkiigamjaaDoor
open Go.RowKit
/-- append([]int{}, v...) -/
theorem copy_int (w : World) (v : Value) (L : List Int) (hL : L.length ≤ 1000000) (h : SlX w v L) :
    ∃ a c W', (Builtin.append_ #[35, 35] 35 #[.slice (some ⟨w.heap.size, 0, none⟩) 0 0, v]).run Tryd.prog (w.alloc (.cells #[] 3)) = .ok (.slice a L.length c) W' ∧ W'.ownsRow w.heap.size 3 1 (.slice a L.length c) L.length (L.flatMap inC) ∧ Below w.heap.size w W' := by
  obtain ⟨wB, hwB⟩ : ∃ wB, wB = w.alloc (.cells #[] 3) := ⟨_, rfl⟩
  have hbB : Below w.heap.size w wB := by rw [hwB]; exact (Below.refl _ _).alloc (Nat.le_refl _) _
  have hz : wB.ownsRow w.heap.size 3 1 (.slice (some ⟨w.heap.size, 0, none⟩) 0 0) 0 [] := by rw [hwB]; exact ownsRow_zero _ _ _ _ (Nat.le_refl _)
  obtain ⟨i0, hi, hz0, hz1, hz2⟩ := info_parts infoInt
  obtain ⟨v', W', hr, ho, hgr, hat, _⟩ := run_append_row (P := Tryd.prog) w.heap.size 35 35 3 i0 _ 1 8 Tryd.underlying35 hi hz0 hz1 hz2 rfl (by omega) _ 0 [] hz v L.length _ (h.keep (KpC.of_below hbB)).row (by unfold maxLen; omega) (by omega) hbB.size
  rw [Nat.zero_add, List.nil_append] at ho
  obtain ⟨a, c, rfl, _⟩ := ownForm ho
  exact ⟨a, c, W', by rw [← hwB]; exact hr, ho, ⟨hgr.os.trans hbB.os, hgr.tape.trans hbB.tape, hgr.output.trans hbB.output, Nat.le_trans hbB.size hgr.size, fun k hk => (hgr.block k (Nat.lt_of_lt_of_le hk hbB.size) (fun e => by have : k = w.heap.size := Option.some.inj e; omega)).trans (hbB.block k hk)⟩⟩
/-- v[j] = x -/
theorem set_int {w : World} {base g c n : Nat} {L : List Int} (hn : n = L.length) (h : w.ownsRow base 3 1 (.slice (some ⟨g, 0, none⟩) n c) n (L.flatMap inC)) (j : Nat) (hj : j < L.length) (x : Int) :
    (w.setCell ⟨g, j, none⟩ (.int .i64 x)).ownsRow base 3 1 (.slice (some ⟨g, 0, none⟩) n c) n ((L.set j x).flatMap inC) ∧ base ≤ g ∧ w.frozen? ⟨g, j, none⟩ = false := by
  subst hn
  obtain ⟨hb, cur, hB⟩ := ownsRow_blk' h (g := g) rfl
  refine ⟨?_, hb, hB.free j (.inr (Nat.zero_le _))⟩
  have := ownsRow_setAt h j (.int .i64 x)
  rwa [show (L.flatMap inC).set j (.int .i64 x) = (L.set j x).flatMap inC by
    have := flat_set 1 inC (fun _ => rfl) L j 0 x (.int .i64 x) hj (by omega) (fun y _ => rfl)
    rwa [Nat.mul_one, Nat.add_zero] at this] at this
end Go.Proofs.YtlddcnkiigamjaaDoor
/- walks as they are written first: Bare. -/
namespace Go.Proofs.YtlddcnkiigamjaaDoor
open Go.RowKit Go.Shelf
attribute [local go_sem] Oper.semAt_some
theorem wk_at {g : Raw} : ∀ {L l : List Int} {s : Int} (k : Nat) {i : Int}, wk g s L = some l → L[k]? = some i → ∃ n : Nat, i = (n : Nat) ∧ ∃ h : n < g.arcs.length, l[k]? = some g.arcs[n].2.1
  | [], _, _, k, i, h, hi => by simp at hi
  | j :: L, l, s, 0, i, h, hi => by
    obtain ⟨a, l', h1, h2, h3, rfl⟩ := wk_cons h
    obtain rfl : j = i := by simpa using hi
    obtain ⟨n, rfl, hn⟩ := wk_arcs h j List.mem_cons_self
    rw [arcI_in hn] at h1
    obtain rfl := Option.some.inj h1
    exact ⟨n, rfl, hn, rfl⟩
  | j :: L, l, s, k + 1, i, h, hi => by
    obtain ⟨a, l', h1, h2, h3, rfl⟩ := wk_cons h
    exact wk_at k h3 (by simpa using hi)
/-- what a round keeps -/
structure BareR (w0 w : World) (t o : Value) (T O : List Int) : Prop where
  below : Below w0.heap.size w0 w
  trail : w.ownsRow w0.heap.size 3 1 t T.length (T.flatMap inC)
  out : w.ownsRow w0.heap.size 3 1 o O.length (O.flatMap inC)
  apart : ∀ k, t.ownBlock = some k → o.ownBlock ≠ some k
theorem BareR.drewN {w0 w : World} {t o : Value} {T O : List Int} (h : BareR w0 w t o T O) (n : Nat) : BareR w0 (w.drewN n) t o T O := ⟨below_drewN h.below n, h.trail, h.out, h.apart⟩
theorem BareR.cut {w0 w : World} {at_ ao : Option Addr} {n m ct co : Nat} {T O : List Int} (h : BareR w0 w (.slice at_ n ct) (.slice ao m co) T O) (hn : n = T.length) (hm : m = O.length) (a b : Nat) (ha : a ≤ T.length) (hb : b ≤ O.length) : BareR w0 w (.slice at_ a ct) (.slice ao b co) (T.take a) (O.take b) := by
  subst hn hm
  exact ⟨h.below, row_cut h.trail a ha, row_cut h.out b hb, fun k hk e => h.apart k (by cases at_ <;> exact hk) (by cases ao <;> exact e)⟩
theorem own_ne {w : World} {base : Nat} {e : TypeId} {v : Value} {n : Nat} {xs : List Value} (h : w.ownsRow base e 1 v n xs) {j : Nat} (hj : v.ownBlock = some j) : j < w.heap.size ∧ base ≤ j := by
  obtain ⟨h1, _, h2⟩ := ownsRow_blk' h hj
  exact ⟨h2.lt, h1⟩
/-- one onto each of them -/
theorem BareR.both {w0 w : World} {t o : Value} {T O : List Int} (h : BareR w0 w t o T O) (x v : Int) (hT : T.length ≤ 1000000) (hO : O.length ≤ 1000000) :
    ∃ gO cO w5 gT cT w6, (Builtin.append_ #[35, 35] 35 #[o, .slice (some ⟨w.heap.size, 0, none⟩) 1 1]).run Tryd.prog (w.alloc (.cells #[.int .i64 x] 3)) = .ok (.slice (some ⟨gO, 0, none⟩) (O.length + 1) cO) w5 ∧
      (Builtin.append_ #[35, 35] 35 #[t, .slice (some ⟨w5.heap.size, 0, none⟩) 1 1]).run Tryd.prog (w5.alloc (.cells #[.int .i64 v] 3)) = .ok (.slice (some ⟨gT, 0, none⟩) (T.length + 1) cT) w6 ∧
      BareR w0 w6 (.slice (some ⟨gT, 0, none⟩) (T.length + 1) cT) (.slice (some ⟨gO, 0, none⟩) (O.length + 1) cO) (T ++ [v]) (O ++ [x]) := by
  have hsz := h.below.size
  obtain ⟨a1, n1, c1, w5, r1, o1, g1, t1⟩ := push_intG w0.heap.size o O x (w.alloc (.cells #[.int .i64 x] 3)) w.heap.size (h.out.alloc _) (Blk.new _ _ _ _) hO (by simp; omega)
  have o1' := o1
  rw [List.length_append] at o1'
  obtain ⟨gO, cO, e1⟩ := ownsRow_succ o1'
  rw [e1] at r1 o1 t1
  have k1 : ∀ j, j < w.heap.size → o.ownBlock ≠ some j → w5.heap[j]? = w.heap[j]? := fun j hj hn => (g1.block j (by simp; omega) (fun e => hn e.symm)).trans (Below.heap_alloc w _ j hj)
  have hT5 : w5.ownsRow w0.heap.size 3 1 t T.length (T.flatMap inC) := ownsRow_agree' h.trail (fun j hj => k1 j (own_ne h.trail hj).1 (h.apart j hj))
  have hs5 : w.heap.size + 1 ≤ w5.heap.size := by have := g1.size; simpa using this
  obtain ⟨a2, n2, c2, w6, r2, o2, g2, t2⟩ := push_intG w0.heap.size t T v (w5.alloc (.cells #[.int .i64 v] 3)) w5.heap.size (hT5.alloc _) (Blk.new _ _ _ _) hT (by simp; omega)
  have o2' := o2
  rw [List.length_append] at o2'
  obtain ⟨gT, cT, e2⟩ := ownsRow_succ o2'
  rw [e2] at r2 o2 t2
  have k2 : ∀ j, j < w5.heap.size → t.ownBlock ≠ some j → w6.heap[j]? = w5.heap[j]? := fun j hj hn => (g2.block j (by simp; omega) (fun e => hn e.symm)).trans (Below.heap_alloc w5 _ j hj)
  have hOT : ∀ j, (Value.slice (some ⟨gO, 0, none⟩) (O.length + 1) cO).ownBlock = some j → t.ownBlock ≠ some j := fun j hj e => by
    rcases t1 with q | q
    · exact h.apart j e (q ▸ hj)
    · rw [q] at hj
      have := (own_ne h.trail e).1
      simp at hj; omega
  refine ⟨gO, cO, w5, gT, cT, w6, r1, r2, ⟨?_, o2, ownsRow_agree' o1 (fun j hj => k2 j (own_ne o1 hj).1 (hOT j hj)), fun j hj e => ?_⟩⟩
  · have b1 := ((h.below.alloc hsz (.cells #[.int .i64 x] 3)).grown g1 (by simp; omega) (fun j ej => (own_ne h.out ej).2))
    exact (b1.alloc b1.size (.cells #[.int .i64 v] 3)).grown g2 (by have := b1.size; simp; omega) (fun j ej => (own_ne h.trail ej).2)
  · rcases t2 with q | q
    · exact hOT j e (q ▸ hj)
    · rw [q] at hj
      have := (own_ne o1 e).1
      simp at hj; omega
set_option maxRecDepth 100000 in
set_option maxHeartbeats 8000000 in
theorem refBare_any (va : Value) (g : Raw) (s : Int) (v : Value) (L : List Int) (hL : L.length ≤ 100000) (w : World) (h : RawV w va g) (hl : SlX w v L) :
    Calls Tryd.prog 26 #[va, .int .i64 s, v] w fun e w' => ∃ x, e = .returned (.tuple #[x, .bool (bareO g s L).isSome]) ∧ w'.ownsRow w.heap.size 3 1 x ((bareO g s L).getD []).length (((bareO g s L).getD []).flatMap inC) ∧ Below w.heap.size w w' := by
  have hRaw := h
  obtain ⟨vx, vy, vz, rfl, hx, hy, ha⟩ := h
  have fx := hx.form; have fy := hy.form
  obtain ⟨aa, ac, rfl, hac, hmc, _⟩ := id ha
  unfold maxLen at hmc
  obtain ⟨xa, xn, xc, rfl⟩ := fx
  obtain ⟨ya, yn, yc, rfl⟩ := fy
  obtain ⟨va, ca, rfl, hca, hmca, _⟩ := id hl
  unfold maxLen at hmca
  obtain ⟨w1, hw1⟩ : ∃ w1, w1 = w.alloc (.cells #[.int .i64 g.nodes, .slice xa xn xc, .slice ya yn yc, .slice aa g.arcs.length ac] 26) := ⟨_, rfl⟩
  obtain ⟨B, hB⟩ : ∃ b, b = w.heap.size := ⟨_, rfl⟩
  have hb1 : Below w.heap.size w w1 := by rw [hw1]; exact (Below.refl _ _).alloc (Nat.le_refl _) _
  have hlt : B < w1.heap.size := by rw [hw1, hB]; simp
  have hk3 : Blk w1 B #[.int .i64 g.nodes, .slice xa xn xc, .slice ya yn yc, .slice aa g.arcs.length ac] 26 (0, 0) := by rw [hw1, hB]; exact Blk.new _ _ _ _
  have hkp := KpC.of_below hb1
  have HNo := Lib.hid (refNodes_any _ g s _ L hL w1 (⟨_, _, _, rfl, hx.keep hkp, hy.keep hkp, ha.keep hkp⟩) (hl.keep hkp))
  have HA := Lib.hid (ha.keep hkp); have HLs := Lib.hid (hl.keep hkp); have HB1 := Lib.hid hb1; have HW1 := Lib.hid hw1; have HK3 := Lib.hid hk3; have HLt := Lib.hid hlt
  have c30 : (w.alloc (.cells #[.int .i64 g.nodes, .slice xa xn xc, .slice ya yn yc, .slice aa g.arcs.length ac] 26)).cell? ⟨w.heap.size, 0, none⟩ = some (.int .i64 g.nodes) := (Blk.new _ _ _ _).cell 0
  clear hx hy ha hb1 hw1 hk3 hlt hl hkp hRaw c30
  rw [HW1.out] at HNo
  rcases bareO_form g s L with ⟨e1, e2⟩ | ⟨l, hw, hs, e1, e2⟩
  · rw [e2]
    rw [e1] at HNo
    clear e1 e2
    go_enter Tryd.func26, Tryd.ntmps26
    go_wp2_with fail
    refine HNo.out.mono ?_
    rintro _ w2 ⟨x, rfl, hrow, hb⟩
    go_wp2_with fail
    go_ret2
    rw [HW1.out] at HB1
    exact ⟨_, rfl, World.ownsRow_nil _ _ _ _, HB1.out.next' hb⟩
  · rw [e2]
    rw [e1] at HNo
    clear e1 e2
    go_enter Tryd.func26, Tryd.ntmps26
    go_wp2_with fail
    refine HNo.out.mono ?_
    rintro _ w2 ⟨x, rfl, hrow, hb⟩
    clear hrow HNo
    rw [← HW1.out] at hb
    rw [← hB]
    have k4 := HK3.out.below hb HK3.out.lt
    have HB := Lib.hid hB; have HWb := Lib.hid hb; have HK4 := Lib.hid k4
    clear hB hb k4
    have hll := wk_len hw
    have HLl := Lib.hid hll
    have hI0 : BareR w2 (w2.alloc (.cells #[.int .i64 s] 3)) (.slice (some ⟨w2.heap.size, 0, none⟩) 1 1) (.slice none 0 0) [s] [] :=
      ⟨(Below.refl _ _).alloc (Nat.le_refl _) _, ⟨rfl, .inr ⟨w2.heap.size, 1, _, rfl, Nat.le_refl _, Blk.new _ _ _ _, Nat.le_refl _, by unfold maxLen; omega, rfl, rfl⟩⟩, World.ownsRow_nil _ _ _ _, fun k _ => by simp [Value.ownBlock]⟩
    have HI0 := Lib.hid hI0
    clear hI0 hll
    go_wp2_with fail
    go_loopw [10, 11, 12] (fun o t i wr => ∃ (k : Nat) (vt vo : Value), vo = o ∧ vt = t ∧ k ≤ L.length ∧ i = .int .i64 k ∧ Hid (BareR w2 wr vt vo (bareK s L l k).1 (bareK s L l k).2)) (fun _ _ i _ => L.length - (intOf i).toNat)
    case atStart => exact ⟨0, _, _, rfl, rfl, Nat.zero_le _, rfl, HI0⟩
    case round =>
      obtain ⟨k, vt, vo, rfl, rfl, hk, rfl, HI⟩ := hrel
      obtain ⟨hBI, hln1, hln2⟩ := bareK_inv hw k
      by_cases hlt : k < L.length
      · have hltI : (k : Int) < (L.length : Int) := by omega
        have i1 : (0 : Int) ≤ (k : Int) := by omega
        obtain ⟨v, hv⟩ : ∃ v, l[k]? = some v := ⟨_, List.getElem?_eq_getElem (by have := HLl.out; omega)⟩
        obtain ⟨x, hx⟩ : ∃ x, L[k]? = some x := ⟨_, List.getElem?_eq_getElem hlt⟩
        have hst := bareK_step s hx hv
        obtain ⟨TL, hT⟩ : ∃ T, T = (bareK s L l k).1 := ⟨_, rfl⟩
        obtain ⟨OL, hO⟩ : ∃ O, O = (bareK s L l k).2 := ⟨_, rfl⟩
        have hbk : bareK s L l k = (TL, OL) := by rw [hT, hO]
        rw [hbk] at hst hBI
        rw [← hT, ← hO] at HI
        rw [← hT, ← hO] at hln1
        rw [← hO] at hln2
        clear hT hO
        obtain ⟨n, rfl, hn, hv2⟩ := wk_at k hw hx
        obtain rfl : v = g.arcs[n].2.1 := Option.some.inj (hv.symm.trans hv2)
        have hbr1 : Below w1.heap.size w1 _ := HWb.out.next' HI.out.below
        obtain ⟨ba, oa, rfl, d0⟩ := (HLs.out.keep (KpC.of_below hbr1)).at k hlt
        rw [(List.getElem?_eq_some_iff.1 hx).2] at d0
        obtain ⟨bz, oz, rfl, z0, z1, z2⟩ := (HA.out.keep (KpC.of_below hbr1)).at n hn
        obtain ⟨v, hvv⟩ : ∃ v, v = g.arcs[n].2.1 := ⟨_, rfl⟩
        rw [← hvv] at z1 hst
        have c3 := (HK4.out.below HI.out.below HK4.out.lt).cell 3
        simp only [List.getElem?_toArray, List.getElem?_cons_succ, List.getElem?_cons_zero] at c3
        have hnI : (n : Int) < (g.arcs.length : Int) := by omega
        have hTl : TL.length ≤ 100001 := by omega
        have hOl : OL.length ≤ 100000 := by omega
        have hkl : k ≤ 100000 := by omega
        have HLn := Lib.hid (And.intro hln1 hln2); have HSt := Lib.hid hst
        clear hv hv2 hvv hx hbr1 z0 z2 hln1 hln2 hst hbk hBI
        go_upto_region 9 with fail
        go_quiet (fail)
        have HI2 := Lib.hid (HI.out.drewN nq)
        have e0 : (wr.drewN nq).cell? ⟨ba, oa + k, none⟩ = some (.int .i64 (n : Nat)) := d0
        generalize wr.drewN nq = wq at *
        obtain ⟨gO, cO, w5, gT, cT, w6, hr1, hr2, hB6⟩ := HI2.out.both (n : Nat) v (by omega) (by omega)
        have hXT : SlX w6 (.slice (some ⟨gT, 0, none⟩) (TL.length + 1) cT) (TL ++ [v]) := slX_own (n := (TL ++ [v]).length) rfl hB6.trail
        have hcT : TL.length + 1 ≤ cT := by
          rcases hB6.trail.2 with ⟨e, _⟩ | ⟨_, _, _, e, _, _, h, _⟩
          · cases e
          · simp at e; obtain ⟨_, rfl⟩ := e; simpa using h
        have hcO : OL.length + 1 ≤ cO := by
          rcases hB6.out.2 with ⟨e, h0⟩ | ⟨_, _, _, e, _, _, h, _⟩
          · cases e
          · simp at e; obtain ⟨_, rfl⟩ := e; simpa using h
        have hcells : ∀ j, j < TL.length → ∃ y, TL[j]? = some y ∧ w6.cell? ⟨gT, j, none⟩ = some (.int .i64 y) := fun j hj => by
          obtain ⟨b', o', e', c'⟩ := hXT.at j (by simp; omega)
          obtain ⟨rfl, rfl⟩ : gT = b' ∧ 0 = o' := by simpa using e'
          rw [Nat.zero_add, List.getElem_append_left hj] at c'
          exact ⟨_, List.getElem?_eq_getElem hj, c'⟩
        have HR1 := Lib.hid hr1; have HR2 := Lib.hid hr2; have HB6 := Lib.hid hB6; have HCe := Lib.hid hcells
        have g1 : (TL.length : Int) + 1 ≤ (cT : Int) := by omega
        have g2 : (OL.length : Int) + 1 ≤ (cO : Int) := by omega
        clear hr1 hr2 hB6 hXT hcells hcT hcO d0 c3 z1
        go_wp2_with (first | (at_builtin; refine wpList_append_run rfl _ _ _ _ rfl HR1.out ?_) | (at_builtin; refine wpList_append_run rfl _ _ _ _ rfl HR2.out ?_))
        go_loopw [10, 11, 14] (fun o t i wr2 => ∃ (j : Nat), o = .slice (some ⟨gO, 0, none⟩) (OL.length + 1) cO ∧ t = .slice (some ⟨gT, 0, none⟩) (TL.length + 1) cT ∧ j ≤ TL.length ∧ i = .int .i64 j ∧ Hid (wr2 = w6 ∧ ∀ q, q < j → TL[q]? ≠ some v)) (fun _ _ i _ => TL.length - (intOf i).toNat)
        case atStart => exact ⟨0, rfl, rfl, Nat.zero_le _, rfl, Lib.hid ⟨rfl, fun q hq => by omega⟩⟩
        case round =>
          obtain ⟨j, rfl, rfl, hj, rfl, HJ⟩ := hrel
          have hw := HJ.out.1
          subst hw
          by_cases hjl : j < TL.length
          · have hjI : (j : Int) < (TL.length : Int) := by omega
            have j1 : (0 : Int) ≤ (j : Int) := by omega
            obtain ⟨y, hy, cy⟩ := HCe.out j hjl
            by_cases hyv : y = v
            · subst hyv
              obtain ⟨q1, q2⟩ := idx_first hy HJ.out.2
              have hst2 : bareK s L l (k + 1) = ((TL ++ [y]).take (j + 1), (OL ++ [(n : Int)]).take j) := by
                have := HLn.out.1
                rw [HSt.out, List.take_append_of_le_length (by omega), List.take_append_of_le_length (by omega)]
                unfold bstep
                rw [if_pos q1, q2]
              have hcut := HB6.out.cut (by simp) (by simp) (j + 1) j (by simp; omega) (by have := HLn.out.1; simp; omega)
              have g3 : ((j + 1 : Nat) : Int) ≤ (cT : Int) := by omega
              have g4 : ((j : Nat) : Int) ≤ (cO : Int) := by have := HLn.out.1; omega
              have HSt2 := Lib.hid hst2; have HCut := Lib.hid hcut
              clear q1 q2 hst2 hcut hy
              go_wp2_with fail
              go_roundw
              case rel => exact ⟨k + 1, _, _, rfl, rfl, by omega, by go_num, by rw [HSt2.out]; exact HCut⟩
              case measure => simp [intOf]; omega
            · have hyb : (y == v) = false := by simpa using hyv
              have HNx := Lib.hid (show ∀ q, q < j + 1 → TL[q]? ≠ some v from fun q hq e => by
                rcases Nat.lt_or_ge q j with h | h
                · exact HJ.out.2 q h e
                · obtain rfl : q = j := by omega
                  rw [hy] at e
                  exact hyv (Option.some.inj e))
              clear hy
              go_wp2_with fail
              go_roundw
              case rel => exact ⟨j + 1, rfl, rfl, by omega, by go_num, Lib.hid ⟨by trivial, HNx.out⟩⟩
              case measure => simp [intOf]; omega
          · obtain rfl : j = TL.length := by omega
            have hst2 : bareK s L l (k + 1) = (TL ++ [v], OL ++ [(n : Int)]) := by
              rw [HSt.out]
              unfold bstep
              rw [if_neg (idx_none HJ.out.2)]
            have HSt2 := Lib.hid hst2
            clear hst2
            go_wp2_with fail
            go_roundw
            case rel => exact ⟨k + 1, _, _, rfl, rfl, by omega, by go_num, by rw [HSt2.out]; exact HB6⟩
            case measure => simp [intOf]; omega
      · obtain rfl : k = L.length := by omega
        go_wp2_with fail
        go_ret2
        have hB := HI.out
        rw [← HLl.out, bareK_end s HLl.out] at hB
        have hsz := HWb.out.size
        exact ⟨_, rfl, ownsRow_le hB.out (Nat.le_trans HB1.out.size hsz), HB1.out.next' (HWb.out.next' hB.below)⟩
end Go.Proofs.YtlddcnkiigamjaaDoor
/- WalkTells, its walk. -/
namespace Go.Proofs.YtlddcnkiigamjaaDoor
open Go.RowKit Go.Shelf
attribute [local go_sem] Oper.semAt_some
theorem RawV.kept {w w' : World} {v : Value} {g : Raw} (h : RawV w v g) (hk : KpC w w') : RawV w' v g := by
  obtain ⟨_, _, _, e, q1, q2, q3⟩ := h
  exact ⟨_, _, _, e, q1.keep hk, q2.keep hk, q3.keep hk⟩
set_option maxRecDepth 100000 in
set_option maxHeartbeats 8000000 in
theorem walkTells_any (vb vw vr : Value) (lb lw lr : List Int) (x0 x1 : Nat) (w : World) (hB : SlI w vb .u8 lb) (hW : SlI w vw .u8 lw) (hR : SlX w vr lr) (hx0 : x0 < 256) (hx1 : x1 < 256) (hlw : ∀ b ∈ lw, 0 ≤ b ∧ b < 256) (hg : HG w) :
    Calls Tryd.prog 5 #[.agg #[vb, vw, .int .u8 (x0 : Nat), .int .u8 (x1 : Nat)], vr] w fun e w' => e = .returned (.bool true) ∧ Below w.heap.size w w' := by
  obtain ⟨ba, bc, rfl, hb1, hb2, hb3⟩ := id hB
  obtain ⟨wa, wc, rfl, hw1, hw2, hw3⟩ := id hW
  obtain ⟨va, vc, rfl, hr1, hr2, hr3⟩ := id hR
  obtain ⟨w0, hw0⟩ : ∃ u, u = w.alloc (.cells #[.slice ba lb.length bc, .slice wa lw.length wc, .int .u8 (x0 : Nat), .int .u8 (x1 : Nat)] 44) := ⟨_, rfl⟩
  have hb0 : Below w.heap.size w w0 := by rw [hw0]; exact (Below.refl _ _).alloc (Nat.le_refl _) _
  have k1 : Blk w0 w.heap.size #[.slice ba lb.length bc, .slice wa lw.length wc, .int .u8 (x0 : Nat), .int .u8 (x1 : Nat)] 44 (0, 0) := by rw [hw0]; exact Blk.new _ _ _ _
  obtain ⟨B1, hB1⟩ : ∃ b, b = w.heap.size := ⟨_, rfl⟩
  rw [← hB1] at k1
  have HG0 := Lib.hid hg; have HB := Lib.hid hB; have HWd := Lib.hid hW; have HRr := Lib.hid hR; have HW0 := Lib.hid hw0; have HB0 := Lib.hid hb0; have HK1 := Lib.hid k1; have HB1 := Lib.hid hB1
  clear hg hB hW hR hw0 hb0 k1 hb1 hb2 hb3 hw1 hw3 hr2 hr3
  unfold maxLen at hw2
  have hwl : lw.length ≤ wc := by have := HWd.out; obtain ⟨_, _, e, h, _⟩ := this; simp at e; obtain ⟨_, rfl⟩ := e; exact h
  go_enter Tryd.func5, Tryd.ntmps5
  go_upto_region 1 with fail
  rw [← HW0.out, ← hB1]
  clear hB1
  have HSa := Lib.hid (show ∀ u, Below w0.heap.size w0 u → u.cell? ⟨B1, 0, none⟩ = some (.slice ba lb.length bc) ∧ u.cell? ⟨B1, 1, none⟩ = some (.slice wa lw.length wc) ∧ u.cell? ⟨B1, 2, none⟩ = some (.int .u8 (x0 : Nat)) ∧ u.cell? ⟨B1, 3, none⟩ = some (.int .u8 (x1 : Nat)) from fun u hu => by
    have k1 := HK1.out.below hu HK1.out.lt
    exact ⟨k1.cell 0, k1.cell 1, k1.cell 2, k1.cell 3⟩)
  refine wp_region_heldD (fun w' => w'.cell? ⟨B1, 0, none⟩ = some (.slice ba lb.length bc) ∧ w'.cell? ⟨B1, 1, none⟩ = some (.slice wa lw.length wc) ∧ w'.cell? ⟨B1, 2, none⟩ = some (.int .u8 (x0 : Nat)) ∧ w'.cell? ⟨B1, 3, none⟩ = some (.int .u8 (x1 : Nat))) 9 rfl ?_
  change heldD _ _ _ _ _ _ _ 10 _ _ w0.drew
  obtain ⟨wk0, hu0⟩ : ∃ ua, ua = w0.drew := ⟨_, rfl⟩
  have HBa := Lib.hid (show Below w0.heap.size w0 wk0 by rw [hu0]; exact (Below.refl _ _).drew)
  rw [← hu0]
  clear hu0
  refine heldD_takeF (i := 0) (v := .pointer (some ⟨B1, 0, none⟩)) rfl rfl rfl (by kernel_rfl) (by kernel_rfl) (by kernel_rfl) (by kernel_rfl) (fun _ _ _ h => h) (by rfl) (fun w => ⟨by rfl, by go_simp⟩) (fun _ => HSa.out _ HBa.out) ?_
  simp only [List.setIfInBounds_toArray, List.set_cons_zero, List.set_cons_succ]
  refine heldD_take (i := 1) (v := .slice ba lb.length bc) rfl rfl rfl (by kernel_rfl) (by kernel_rfl) (by kernel_rfl) (by kernel_rfl) (by kernel_rfl) (by kernel_rfl) (fun _ _ _ h => h) (by rfl) (fun w hS => ⟨by rfl, by obtain ⟨hS1, hS2, hS3, hS4⟩ := hS; go_simp⟩) (HSa.out _ HBa.out) ?_
  simp only [List.setIfInBounds_toArray, List.set_cons_zero, List.set_cons_succ]
  refine heldD_takeF (i := 2) (v := .pointer (some ⟨B1, 1, none⟩)) rfl rfl rfl (by kernel_rfl) (by kernel_rfl) (by kernel_rfl) (by kernel_rfl) (fun _ _ _ h => h) (by rfl) (fun w => ⟨by rfl, by go_simp⟩) (fun _ => HSa.out _ HBa.out) ?_
  simp only [List.setIfInBounds_toArray, List.set_cons_zero, List.set_cons_succ]
  refine heldD_take (i := 3) (v := .slice wa lw.length wc) rfl rfl rfl (by kernel_rfl) (by kernel_rfl) (by kernel_rfl) (by kernel_rfl) (by kernel_rfl) (by kernel_rfl) (fun _ _ _ h => h) (by rfl) (fun w hS => ⟨by rfl, by obtain ⟨hS1, hS2, hS3, hS4⟩ := hS; go_simp⟩) (HSa.out _ HBa.out) ?_
  simp only [List.setIfInBounds_toArray, List.set_cons_zero, List.set_cons_succ]
  refine heldD_takeF (i := 4) (v := .pointer (some ⟨B1, 2, none⟩)) rfl rfl rfl (by kernel_rfl) (by kernel_rfl) (by kernel_rfl) (by kernel_rfl) (fun _ _ _ h => h) (by rfl) (fun w => ⟨by rfl, by go_simp⟩) (fun _ => HSa.out _ HBa.out) ?_
  simp only [List.setIfInBounds_toArray, List.set_cons_zero, List.set_cons_succ]
  refine heldD_take (i := 5) (v := .agg #[.int .u8 (x0 : Nat), .int .u8 (x1 : Nat)]) rfl rfl rfl (by kernel_rfl) (by kernel_rfl) (by kernel_rfl) (by kernel_rfl) (by kernel_rfl) (by kernel_rfl) (fun _ _ _ h => h) (by rfl) (fun w hS => ⟨by rfl, by obtain ⟨hS1, hS2, hS3, hS4⟩ := hS; go_simp⟩) (HSa.out _ HBa.out) ?_
  simp only [List.setIfInBounds_toArray, List.set_cons_zero, List.set_cons_succ]
  refine heldD_HT ?_
  intro H hH T hT
  have HH := Lib.hid hH; have HT := Lib.hid hT
  clear hH hT
  suffices ra_6 : ∀ (ua : World) (B7 : Nat), Hid (Below w0.heap.size w0 ua) → Hid (Blk ua B7 #[.int .u8 0, .int .u8 0] 42 (0, 0) ∧ w0.heap.size ≤ B7) → H 1 #[true, true, true, true, true, true, true, true, true, false] { tmps := (((T.setIfInBounds 7 (.pointer (some ⟨B7, 0, none⟩))).setIfInBounds 5 (.slice ba lb.length bc)).setIfInBounds 6 (.slice wa lw.length wc)), defers := [] } ua from by
    have ra_ : ∀ (ua : World), Hid (Below w0.heap.size w0 ua) → H 4 #[true, true, true, true, true, true, false, false, false, false] { tmps := T, defers := [] } ua := by
      clear HBa
      intro ua HBa
      rw [HH.out, HT.out]
      refine heldD_one (i := 6) (by kernel_rfl) ?_
      have hb : Below ua.heap.size ua (ua.alloc (.cells #[.int .u8 0, .int .u8 0] 42)) := (Below.refl _ _).alloc (Nat.le_refl _) _
      have hf : Blk (ua.alloc (.cells #[.int .u8 0, .int .u8 0] 42)) ua.heap.size #[.int .u8 0, .int .u8 0] 42 (0, 0) ∧ w0.heap.size ≤ ua.heap.size := ⟨Blk.new _ _ _ _, HBa.out.size⟩
      refine wpOpIn_value (v := .pointer (some ⟨ua.heap.size, 0, none⟩)) (w' := ua.alloc (.cells #[.int .u8 0, .int .u8 0] 42)) rfl rfl rfl (by rfl) (by rfl) (by go_simp) ?_
      have HBu0 := HBa
      have HBa : Hid (Below w0.heap.size w0 (ua.alloc (.cells #[.int .u8 0, .int .u8 0] 42))) := Lib.hid (HBu0.out.trans (hb.mono HBu0.out.size))
      refine ⟨fun _ => HSa.out _ HBa.out, ?_⟩
      simp only [List.setIfInBounds_toArray, List.set_cons_zero, List.set_cons_succ]
      refine heldD_takeF (i := 7) (v := .slice ba lb.length bc) rfl rfl rfl (by kernel_rfl) (by kernel_rfl) (by kernel_rfl) (by kernel_rfl) (fun _ _ _ h => h) (by rfl) (fun w => ⟨by rfl, by go_simp⟩) (fun _ => HSa.out _ HBa.out) ?_
      simp only [List.setIfInBounds_toArray, List.set_cons_zero, List.set_cons_succ]
      refine heldD_takeF (i := 8) (v := .slice wa lw.length wc) rfl rfl rfl (by kernel_rfl) (by kernel_rfl) (by kernel_rfl) (by kernel_rfl) (fun _ _ _ h => h) (by rfl) (fun w => ⟨by rfl, by go_simp⟩) (fun _ => HSa.out _ HBa.out) ?_
      simp only [List.setIfInBounds_toArray, List.set_cons_zero, List.set_cons_succ]
      have q := ra_6 _ ua.heap.size HBa (Lib.hid hf)
      rw [HH.out, HT.out] at q
      simp only [List.setIfInBounds_toArray, List.set_cons_zero, List.set_cons_succ] at q ⊢
      exact q
    exact ra_ wk0 HBa
  clear HBa
  intro ua B7 HBa HF6
  rw [HH.out, HT.out]
  simp only [List.setIfInBounds_toArray, List.set_cons_zero, List.set_cons_succ]
  clear HH HT
  obtain ⟨w1, hw1⟩ : ∃ x, x = (ua.setCell ⟨B7, 0, none⟩ (.int .u8 (x0 : Nat))).setCell ⟨B7, 1, none⟩ (.int .u8 (x1 : Nat)) := ⟨_, rfl⟩
  have k7 := HF6.out.1
  have e0 := k7.cell 0; have e1 := k7.cell 1
  have f0 := k7.free 0 (.inr (Nat.zero_le _)); have f1 := k7.free 1 (.inr (Nat.zero_le _))
  simp only [List.getElem?_toArray, List.getElem?_cons_succ, List.getElem?_cons_zero] at e0 e1
  have K7 := Lib.hid (show Blk w1 B7 #[.int .u8 (x0 : Nat), .int .u8 (x1 : Nat)] 42 (0, 0) by rw [hw1]; exact (k7.set 0 _).set 1 _)
  have HB1w := Lib.hid (show Below w.heap.size w w1 by
    rw [hw1]
    have h1 : Below w.heap.size w ua := HB0.out.next' HBa.out
    have h2 : w.heap.size ≤ B7 := Nat.le_trans HB0.out.size HF6.out.2
    exact (h1.setCell (p := ⟨B7, 0, none⟩) h2 _).setCell (p := ⟨B7, 1, none⟩) h2 _)
  clear k7
  refine heldD_one (i := 9) (by kernel_rfl) ?_
  refine wpOpIn_skip (w' := (ua.setCell ⟨B7, 0, none⟩ (.int .u8 (x0 : Nat))).setCell ⟨B7, 1, none⟩ (.int .u8 (x1 : Nat))) rfl rfl rfl (by rfl) (by rfl) (by go_simp) ?_
  refine ⟨fun h => (by cases h), ?_⟩
  refine heldD_done (by kernel_rfl) ?_ _
  rw [← hw1]
  clear e0 e1 f0 f1 hw1 HF6 HSa HBa HK1
  have HSb := Lib.hid (SlI.later HB1w.out HB.out)
  go_wp2_with fail
  refine (drawn09_any _ lb w1 (HG0.out.later HB1w.out) HSb.out).mono ?_
  rintro e w2 ⟨rv, g, q, rfl, hraw, hnet, hok, hgl, hb⟩
  obtain ⟨vx, vy, vz, rfl, hx, hy, hz⟩ := id hraw
  obtain ⟨xa, xn, xc, rfl⟩ := hx.form
  obtain ⟨ya, yn, yc, rfl⟩ := hy.form
  obtain ⟨za, zn, zc, rfl⟩ := hz.form
  have HBw2 := Lib.hid (HB1w.out.next' hb)
  have K72 := Lib.hid (K7.out.below hb K7.out.lt)
  obtain ⟨w3, hw3⟩ : ∃ u, u = w2.alloc (.cells #[.int .i64 g.nodes, .slice xa xn xc, .slice ya yn yc, .slice za zn zc] 26) := ⟨_, rfl⟩
  have hb3 : Below w2.heap.size w2 w3 := by rw [hw3]; exact (Below.refl _ _).alloc (Nat.le_refl _) _
  obtain ⟨B8, hB8⟩ : ∃ b, b = w2.heap.size := ⟨_, rfl⟩
  have k8 : Blk w3 B8 #[.int .i64 g.nodes, .slice xa xn xc, .slice ya yn yc, .slice za zn zc] 26 (0, 0) := by rw [hw3, hB8]; exact Blk.new _ _ _ _
  have HW3 := Lib.hid hw3; have HE8 := Lib.hid hB8; have HOk := Lib.hid hok; have HGl := Lib.hid hgl; have HBw3 := Lib.hid (HBw2.out.next' hb3)
  have K73 := Lib.hid (K72.out.below hb3 K72.out.lt); have K83 := Lib.hid k8
  have HRw3 := Lib.hid (show RawV w3 _ g from hraw.kept (KpC.of_below hb3)); have HNt3 := Lib.hid (hnet.keep (KpC.of_below hb3))
  clear hw3 hb3 k8 hraw hnet hok hgl hb hx hy hz hB8 K72 K7
  go_wp2_with fail
  rw [← HW3.out, ← HE8.out]
  refine (works09_any w3 (HG0.out.later HBw3.out)).mono ?_
  rintro e w4 ⟨rfl, hb⟩
  have K74 := Lib.hid (K73.out.below hb K73.out.lt); have K84 := Lib.hid (K83.out.below hb K83.out.lt)
  have HRw := Lib.hid (HRw3.out.kept (KpC.of_below hb)); have HNt := Lib.hid (HNt3.out.keep (KpC.of_below hb)); have HBw4 := Lib.hid (HBw3.out.next' hb)
  clear hb K73 K83 HRw3 HNt3 HW3 HE8
  have c7 := K74.out.cell 0; have n0 := K84.out.cell 0
  simp only [List.getElem?_toArray, List.getElem?_cons_zero] at c7 n0
  have hN := HOk.out.nodes.1
  have hN2 : g.nodes ≤ 12 := HGl.out.1
  have hnz : (g.nodes + 2 == 0) = false := by simp; omega
  obtain ⟨s, hs⟩ : ∃ s, s = (x0 : Int).tmod (g.nodes + 2) := ⟨_, rfl⟩
  have hs2 : (x0 : Int).tmod (g.nodes + 2) = s := hs.symm
  clear hs
  have hx0b : (0 : Int) ≤ (x0 : Int) ∧ (x0 : Int) < 256 := ⟨by omega, by omega⟩
  have hx1b : (0 : Int) ≤ (x1 : Int) ∧ (x1 : Int) < 256 := ⟨by omega, by omega⟩
  go_upto_region 6 with fail
  obtain ⟨mw, hmw⟩ : ∃ m : Nat, m = min lw.length 40 := ⟨_, rfl⟩
  have f1 : (if (40 : Int) < (lw.length : Int) then (40 : Int) else (lw.length : Int)) = (mw : Int) := by split <;> omega
  have f2 : (mw : Int) ≤ (wc : Int) := by omega
  have f3 : (0 : Int) ≤ (mw : Int) := by omega
  have HMw := Lib.hid (show (lw.take mw).length ≤ 40 by rw [List.length_take]; omega)
  have HCW := Lib.hid (show ∀ u, Below w4.heap.size w4 u → Calls Tryd.prog 20 #[.agg #[.int .i64 g.nodes, .slice xa xn xc, .slice ya yn yc, .slice za zn zc], .int .i64 s, .slice wa mw wc] u fun e w' => ∃ x M cur, e = .returned x ∧ WkAt g s cur M ∧ M.length ≤ (lw.take mw).length ∧ w'.ownsRow u.heap.size 3 1 x M.length (M.flatMap inC) ∧ Below u.heap.size u w' from fun u hu =>
    refWalk_any _ g (by have := HGl.out.2; omega) s _ (lw.take mw) (by have := HMw.out; omega) (fun b hb => hlw b (List.mem_of_mem_take hb)) u (HRw.out.kept (KpC.of_below hu)) (SlI.cut (SlI.later (HBw4.out.next' hu) HWd.out) mw (by rw [hmw]; exact Nat.min_le_left _ _)))
  have HSS := Lib.hid (show ∀ u, Below w4.heap.size w4 u → u.cell? ⟨B8, 0, none⟩ = some (.int .i64 g.nodes) ∧ u.cell? ⟨B8, 1, none⟩ = some (.slice xa xn xc) ∧ u.cell? ⟨B8, 2, none⟩ = some (.slice ya yn yc) ∧ u.cell? ⟨B8, 3, none⟩ = some (.slice za zn zc) from fun u hu => by
    have k8 := K84.out.below hu K84.out.lt
    exact ⟨k8.cell 0, k8.cell 1, k8.cell 2, k8.cell 3⟩)
  clear c7 n0 hmw
  refine wp_region_heldD (fun w' => w'.cell? ⟨B8, 0, none⟩ = some (.int .i64 g.nodes) ∧ w'.cell? ⟨B8, 1, none⟩ = some (.slice xa xn xc) ∧ w'.cell? ⟨B8, 2, none⟩ = some (.slice ya yn yc) ∧ w'.cell? ⟨B8, 3, none⟩ = some (.slice za zn zc)) 8 rfl ?_
  change heldD _ _ _ _ _ _ _ 9 _ _ w4.drew
  obtain ⟨wk0, hu0⟩ : ∃ u, u = w4.drew := ⟨_, rfl⟩
  have HBu := Lib.hid (show Below w4.heap.size w4 wk0 by rw [hu0]; exact (Below.refl _ _).drew)
  rw [← hu0]
  clear hu0
  refine heldD_take (i := 0) (v := .agg #[.int .i64 g.nodes, .slice xa xn xc, .slice ya yn yc, .slice za zn zc]) rfl rfl rfl (by kernel_rfl) (by kernel_rfl) (by kernel_rfl) (by kernel_rfl) (by kernel_rfl) (by kernel_rfl) (fun _ _ _ h => h) (by rfl) (fun w hS => ⟨by rfl, by obtain ⟨hS1, hS2, hS3, hS4⟩ := hS; go_simp⟩) (HSS.out _ HBu.out) ?_
  simp only [List.setIfInBounds_toArray, List.set_cons_zero, List.set_cons_succ]
  refine heldD_takeF (i := 1) (v := .int .i64 s) rfl rfl rfl (by kernel_rfl) (by kernel_rfl) (by kernel_rfl) (by kernel_rfl) (fun _ _ _ h => h) (by rfl) (fun w => ⟨by rfl, by go_simp⟩) (fun _ => HSS.out _ HBu.out) ?_
  simp only [List.setIfInBounds_toArray, List.set_cons_zero, List.set_cons_succ]
  refine heldD_takeF (i := 2) (v := .slice wa lw.length wc) rfl rfl rfl (by kernel_rfl) (by kernel_rfl) (by kernel_rfl) (by kernel_rfl) (fun _ _ _ h => h) (by rfl) (fun w => ⟨by rfl, by go_simp⟩) (fun _ => HSS.out _ HBu.out) ?_
  simp only [List.setIfInBounds_toArray, List.set_cons_zero, List.set_cons_succ]
  refine heldD_takeF (i := 3) (v := .slice wa lw.length wc) rfl rfl rfl (by kernel_rfl) (by kernel_rfl) (by kernel_rfl) (by kernel_rfl) (fun _ _ _ h => h) (by rfl) (fun w => ⟨by rfl, by go_simp⟩) (fun _ => HSS.out _ HBu.out) ?_
  simp only [List.setIfInBounds_toArray, List.set_cons_zero, List.set_cons_succ]
  refine heldD_takeF (i := 4) (v := .int .i64 (lw.length : Nat)) rfl rfl rfl (by kernel_rfl) (by kernel_rfl) (by kernel_rfl) (by kernel_rfl) (fun _ _ _ h => h) (by rfl) (fun w => ⟨by rfl, by go_simp⟩) (fun _ => HSS.out _ HBu.out) ?_
  simp only [List.setIfInBounds_toArray, List.set_cons_zero, List.set_cons_succ]
  refine heldD_takeF (i := 5) (v := .int .i64 (mw : Nat)) rfl rfl rfl (by kernel_rfl) (by kernel_rfl) (by kernel_rfl) (by kernel_rfl) (fun _ _ _ h => h) (by rfl) (fun w => ⟨by rfl, by go_simp⟩) (fun _ => HSS.out _ HBu.out) ?_
  simp only [List.setIfInBounds_toArray, List.set_cons_zero, List.set_cons_succ]
  refine heldD_takeF (i := 6) (v := .slice wa mw wc) rfl rfl rfl (by kernel_rfl) (by kernel_rfl) (by kernel_rfl) (by kernel_rfl) (fun _ _ _ h => h) (by rfl) (fun w => ⟨by rfl, by go_simp⟩) (fun _ => HSS.out _ HBu.out) ?_
  simp only [List.setIfInBounds_toArray, List.set_cons_zero, List.set_cons_succ]
  refine heldD_HT ?_
  intro H hH T hT
  have HH := Lib.hid hH; have HT := Lib.hid hT
  clear hH hT
  suffices rw_7 : ∀ (u : World) (rx : Value) (M : List Int) (cur : Int), Hid (Below w4.heap.size w4 u) → Hid (M.length ≤ 40 ∧ SlX u rx M) → H 1 #[true, true, true, true, true, true, true, true, false] { tmps := (T.setIfInBounds 59 (rx)), defers := [] } u from by
    have rw_ : ∀ (u : World), Hid (Below w4.heap.size w4 u) → H 2 #[true, true, true, true, true, true, true, false, false] { tmps := T, defers := [] } u := by
      clear HBu
      intro u HBu
      rw [HH.out, HT.out]
      refine heldD_one (i := 7) (by kernel_rfl) ?_
      refine wpOpIn_calls' (f := 20) (args := #[.agg #[.int .i64 g.nodes, .slice xa xn xc, .slice ya yn yc, .slice za zn zc], .int .i64 s, .slice wa mw wc]) rfl rfl (by rfl) (by go_simp) (HCW.out u HBu.out) ?_
      rintro e u2 ⟨rx, M, cur, rfl, hwa, hml, hrow, hb⟩
      refine ⟨_, rfl, ?_⟩
      have hf : (M.length ≤ 40 ∧ SlX u2 rx M) := ⟨by have := HMw.out; omega, slX_own rfl hrow⟩
      have HBu0 := HBu
      have HBu : Hid (Below w4.heap.size w4 u2) := Lib.hid (HBu0.out.trans (hb.mono HBu0.out.size))
      refine ⟨fun _ => HSS.out _ HBu.out, ?_⟩
      simp only [List.setIfInBounds_toArray, List.set_cons_zero, List.set_cons_succ]
      have q := rw_7 _ rx M cur HBu (Lib.hid hf)
      rw [HH.out, HT.out] at q
      simp only [List.setIfInBounds_toArray, List.set_cons_zero, List.set_cons_succ] at q ⊢
      exact q
    exact rw_ wk0 HBu
  clear HBu
  intro u rx M cur HBu HF7
  rw [HH.out, HT.out]
  simp only [List.setIfInBounds_toArray, List.set_cons_zero, List.set_cons_succ]
  clear HH HT
  refine heldD_one (i := 8) (by kernel_rfl) ?_
  refine wpOpIn_value (v := rx) (w' := u) rfl rfl rfl (by rfl) (by rfl) (by go_simp) ?_
  refine ⟨fun h => (by cases h), ?_⟩
  simp only [List.setIfInBounds_toArray, List.set_cons_zero, List.set_cons_succ]
  refine heldD_done (by kernel_rfl) ?_ _
  have HMl := Lib.hid (HF7).out.1; have HMs := Lib.hid (HF7).out.2
  have HBV := Lib.hid (HBw4.out.next' HBu.out)
  have hk := KpC.of_below HBu.out
  have HRV := Lib.hid (HRw.out.kept hk); have HNV := Lib.hid (HNt.out.keep hk)
  have K7V := Lib.hid (K74.out.below HBu.out K74.out.lt); have K8V := Lib.hid (K84.out.below HBu.out K84.out.lt)
  have HrV := Lib.hid (HRr.out.keep (KpC.of_below HBV.out))
  clear hk HSS HCW HBu f1 f2 f3 hs2 hnz hN hN2 hwl hw2 hlw HRw HNt K74 K84 HMw HB HSb HBw2 HBw3 HBw4 HWd HRr HB0 HW0 HB1w HF7 hx0 hx1
  obtain ⟨ra, rc, erx, -⟩ := id HMs.out
  subst erx
  obtain ⟨a2, c2, W2, hrun, hown, hbW⟩ := copy_int u _ M (by have := HMl.out; omega) HMs.out
  have HR := Lib.hid hrun; have HOwn := Lib.hid hown; have HBW := Lib.hid hbW
  clear hrun hown hbW
  go_upto_if 65 with (at_builtin; refine wpList_append_run rfl _ _ _ _ rfl HR.out ?_)
  clear HR
  go_cut [] from 63 (fun wx => ∃ M2 : List Int, Hid (M2.length = M.length ∧ Below u.heap.size u wx ∧ wx.ownsRow u.heap.size 3 1 (.slice a2 M.length c2) M.length (M2.flatMap inC)))
  case first =>
    by_cases hM0 : M.length = 0
    · have h0 : ¬ (0 : Int) < (M.length : Int) := by omega
      have HD := Lib.hid (show M.length = M.length ∧ Below u.heap.size u W2 ∧ W2.ownsRow u.heap.size 3 1 (.slice a2 M.length c2) M.length (M.flatMap inC) from ⟨rfl, HBW.out, HOwn.out⟩)
      clear hM0
      go_wp2_with fail
      go_meet
      case rel => exact ⟨M, Lib.hid ⟨rfl, HD.out.2⟩⟩
    · have h0 : (0 : Int) < (M.length : Int) := by omega
      obtain ⟨j, hj⟩ : ∃ j, j = x1 % M.length := ⟨_, rfl⟩
      have hjl : j < M.length := by rw [hj]; exact Nat.mod_lt _ (by omega)
      have hmod : (x1 : Int).tmod (M.length : Int) = (j : Int) := by rw [hj]; rfl
      have hnz : ((M.length : Int) == 0) = false := by rw [beq_eq_false_iff_ne]; omega
      have hMne : ¬ M = [] := fun e => hM0 (by rw [e]; rfl)
      have hwx1 : IntKind.i64.wrap (x1 : Int) = (x1 : Int) := by rw [IntKind.wrap_i64]; omega
      have hwx0 : IntKind.i64.wrap (x0 : Int) = (x0 : Int) := by rw [IntKind.wrap_i64]; omega
      have hwxs : IntKind.i64.wrap ((x0 : Int) - 2) = (x0 : Int) - 2 := by rw [IntKind.wrap_i64]; omega
      obtain ⟨ga, rfl⟩ : ∃ ga, a2 = some ⟨ga, 0, none⟩ := by
        obtain ⟨a, c, e, h⟩ := ownForm HOwn.out
        obtain ⟨g', hg'⟩ := h (by omega)
        refine ⟨g', ?_⟩
        rw [← hg']
        exact (Value.slice.inj e).1
      have hset := set_int rfl HOwn.out j hjl ((x0 : Int) - 2)
      obtain ⟨W3, hW3⟩ : ∃ x, x = W2.drew.setCell ⟨ga, j, none⟩ (.int .i64 ((x0 : Int) - 2)) := ⟨_, rfl⟩
      clear hj hM0
      have hjI : (j : Int) < (M.length : Int) := by omega
      have hj0 : (0 : Int) ≤ (j : Int) := by omega
      have HSb := Lib.hid (show ∀ u, Below W2.heap.size W2 u → u.cell? ⟨B7, 0, none⟩ = some (.int .u8 (x0 : Nat)) ∧ u.cell? ⟨B7, 1, none⟩ = some (.int .u8 (x1 : Nat)) from fun u2 hu => by
        have k7 := (K7V.out.below HBW.out K7V.out.lt).below hu (K7V.out.below HBW.out K7V.out.lt).lt
        exact ⟨k7.cell 0, k7.cell 1⟩)
      have HSet := Lib.hid hset
      clear hset hW3
      go_upto_region 9 with fail
      refine wp_region_heldD (fun w' => w'.cell? ⟨B7, 0, none⟩ = some (.int .u8 (x0 : Nat)) ∧ w'.cell? ⟨B7, 1, none⟩ = some (.int .u8 (x1 : Nat))) 12 rfl ?_
      change heldD _ _ _ _ _ _ _ 13 _ _ W2.drew
      obtain ⟨wkb, hu0⟩ : ∃ ub, ub = W2.drew := ⟨_, rfl⟩
      have HBb := Lib.hid (show Below W2.heap.size W2 wkb by rw [hu0]; exact (Below.refl _ _).drew)
      rw [← hu0]
      clear hu0
      refine heldD_takeF (i := 0) (v := .slice (some ⟨ga, 0, none⟩) M.length c2) rfl rfl rfl (by kernel_rfl) (by kernel_rfl) (by kernel_rfl) (by kernel_rfl) (fun _ _ _ h => h) (by rfl) (fun w => ⟨by rfl, by go_simp⟩) (fun _ => HSb.out _ HBb.out) ?_
      simp only [List.setIfInBounds_toArray, List.set_cons_zero, List.set_cons_succ]
      refine heldD_takeF (i := 1) (v := .pointer (some ⟨B7, 1, none⟩)) rfl rfl rfl (by kernel_rfl) (by kernel_rfl) (by kernel_rfl) (by kernel_rfl) (fun _ _ _ h => h) (by rfl) (fun w => ⟨by rfl, by go_simp⟩) (fun _ => HSb.out _ HBb.out) ?_
      simp only [List.setIfInBounds_toArray, List.set_cons_zero, List.set_cons_succ]
      refine heldD_take (i := 2) (v := .int .u8 (x1 : Nat)) rfl rfl rfl (by kernel_rfl) (by kernel_rfl) (by kernel_rfl) (by kernel_rfl) (by kernel_rfl) (by kernel_rfl) (fun _ _ _ h => h) (by rfl) (fun w hS => ⟨by rfl, by obtain ⟨hS1, hS2⟩ := hS; go_simp⟩) (HSb.out _ HBb.out) ?_
      simp only [List.setIfInBounds_toArray, List.set_cons_zero, List.set_cons_succ]
      refine heldD_takeF (i := 3) (v := .int .i64 (x1 : Nat)) rfl rfl rfl (by kernel_rfl) (by kernel_rfl) (by kernel_rfl) (by kernel_rfl) (fun _ _ _ h => h) (by rfl) (fun w => ⟨by rfl, by go_simp⟩) (fun _ => HSb.out _ HBb.out) ?_
      simp only [List.setIfInBounds_toArray, List.set_cons_zero, List.set_cons_succ]
      refine heldD_takeF (i := 4) (v := .slice (some ⟨ga, 0, none⟩) M.length c2) rfl rfl rfl (by kernel_rfl) (by kernel_rfl) (by kernel_rfl) (by kernel_rfl) (fun _ _ _ h => h) (by rfl) (fun w => ⟨by rfl, by go_simp⟩) (fun _ => HSb.out _ HBb.out) ?_
      simp only [List.setIfInBounds_toArray, List.set_cons_zero, List.set_cons_succ]
      refine heldD_takeF (i := 5) (v := .int .i64 (M.length : Nat)) rfl rfl rfl (by kernel_rfl) (by kernel_rfl) (by kernel_rfl) (by kernel_rfl) (fun _ _ _ h => h) (by rfl) (fun w => ⟨by rfl, by go_simp⟩) (fun _ => HSb.out _ HBb.out) ?_
      simp only [List.setIfInBounds_toArray, List.set_cons_zero, List.set_cons_succ]
      refine heldD_takeF (i := 6) (v := .int .i64 (j : Nat)) rfl rfl rfl (by kernel_rfl) (by kernel_rfl) (by kernel_rfl) (by kernel_rfl) (fun _ _ _ h => h) (by rfl) (fun w => ⟨by rfl, by go_simp⟩) (fun _ => HSb.out _ HBb.out) ?_
      simp only [List.setIfInBounds_toArray, List.set_cons_zero, List.set_cons_succ]
      refine heldD_takeF (i := 7) (v := .pointer (some ⟨B7, 0, none⟩)) rfl rfl rfl (by kernel_rfl) (by kernel_rfl) (by kernel_rfl) (by kernel_rfl) (fun _ _ _ h => h) (by rfl) (fun w => ⟨by rfl, by go_simp⟩) (fun _ => HSb.out _ HBb.out) ?_
      simp only [List.setIfInBounds_toArray, List.set_cons_zero, List.set_cons_succ]
      refine heldD_take (i := 8) (v := .int .u8 (x0 : Nat)) rfl rfl rfl (by kernel_rfl) (by kernel_rfl) (by kernel_rfl) (by kernel_rfl) (by kernel_rfl) (by kernel_rfl) (fun _ _ _ h => h) (by rfl) (fun w hS => ⟨by rfl, by obtain ⟨hS1, hS2⟩ := hS; go_simp⟩) (HSb.out _ HBb.out) ?_
      simp only [List.setIfInBounds_toArray, List.set_cons_zero, List.set_cons_succ]
      refine heldD_takeF (i := 9) (v := .int .i64 (x0 : Nat)) rfl rfl rfl (by kernel_rfl) (by kernel_rfl) (by kernel_rfl) (by kernel_rfl) (fun _ _ _ h => h) (by rfl) (fun w => ⟨by rfl, by go_simp⟩) (fun _ => HSb.out _ HBb.out) ?_
      simp only [List.setIfInBounds_toArray, List.set_cons_zero, List.set_cons_succ]
      refine heldD_takeF (i := 10) (v := .int .i64 ((x0 : Int) - 2)) rfl rfl rfl (by kernel_rfl) (by kernel_rfl) (by kernel_rfl) (by kernel_rfl) (fun _ _ _ h => h) (by rfl) (fun w => ⟨by rfl, by go_simp⟩) (fun _ => HSb.out _ HBb.out) ?_
      simp only [List.setIfInBounds_toArray, List.set_cons_zero, List.set_cons_succ]
      refine heldD_takeF (i := 11) (v := .pointer (some ⟨ga, j, none⟩)) rfl rfl rfl (by kernel_rfl) (by kernel_rfl) (by kernel_rfl) (by kernel_rfl) (fun _ _ _ h => h) (by rfl) (fun w => ⟨by rfl, by go_simp⟩) (fun _ => HSb.out _ HBb.out) ?_
      simp only [List.setIfInBounds_toArray, List.set_cons_zero, List.set_cons_succ]
      refine heldD_HT ?_
      intro H hH T hT
      have HH := Lib.hid hH; have HT := Lib.hid hT
      clear hH hT
      suffices rs_ : ∀ (ub : World), Hid (Below W2.heap.size W2 ub) → H 1 #[true, true, true, true, true, true, true, true, true, true, true, true, false] { tmps := T, defers := [] } ub from by
        exact rs_ wkb HBb
      clear HBb
      intro ub HBb
      rw [HH.out, HT.out]
      clear HH HT
      have hown := ownsRow_below HOwn.out HBb.out
      have hset := set_int rfl hown j hjl ((x0 : Int) - 2)
      obtain ⟨q9, hq9⟩ : ∃ q9, ub.cell? ⟨ga, j, none⟩ = some q9 := by
        obtain ⟨b', o', e', c'⟩ := (slX_own rfl hown).at j hjl
        obtain ⟨rfl, rfl⟩ : ga = b' ∧ 0 = o' := by simpa using e'
        rw [Nat.zero_add] at c'
        exact ⟨_, c'⟩
      have f9 := hset.2.2
      have HD := Lib.hid (show (M.set j ((x0 : Int) - 2)).length = M.length ∧ Below u.heap.size u (ub.setCell ⟨ga, j, none⟩ (.int .i64 ((x0 : Int) - 2))) ∧ (ub.setCell ⟨ga, j, none⟩ (.int .i64 ((x0 : Int) - 2))).ownsRow u.heap.size 3 1 (.slice (some ⟨ga, 0, none⟩) M.length c2) M.length ((M.set j ((x0 : Int) - 2)).flatMap inC) from ⟨List.length_set, (HBW.out.next' HBb.out).setCell (p := ⟨ga, j, none⟩) hset.2.1 _, hset.1⟩)
      clear hset hown
      refine heldD_one (i := 12) (by kernel_rfl) ?_
      refine wpOpIn_skip (w' := ub.setCell ⟨ga, j, none⟩ (.int .i64 ((x0 : Int) - 2))) rfl rfl rfl (by rfl) (by rfl) (by go_simp) ?_
      refine ⟨fun h => (by cases h), ?_⟩
      refine heldD_done (by kernel_rfl) ?_ _
      clear hq9 f9 hwx1 hwx0 hwxs hmod hnz hMne
      go_wp2_with fail
      go_meet
      case rel => exact ⟨_, HD⟩
  case rest =>
    obtain ⟨M2, HD⟩ := hcut
    obtain ⟨mr, hmr⟩ : ∃ m : Nat, m = min lr.length 10 := ⟨_, rfl⟩
    have f1 : (if (10 : Int) < (lr.length : Int) then (10 : Int) else (lr.length : Int)) = (mr : Int) := by split <;> omega
    have f2 : (mr : Int) ≤ (vc : Int) := by omega
    have f3 : (0 : Int) ≤ (mr : Int) := by omega
    have hkV := KpC.of_below HD.out.2.1
    have HRc := Lib.hid (HRV.out.kept hkV); have HNc := Lib.hid (HNV.out.keep hkV); have K8c := Lib.hid (K8V.out.below HD.out.2.1 K8V.out.lt)
    have HMc := Lib.hid (HMs.out.keep hkV)
    have HM2c := Lib.hid (show SlX wc (.slice a2 M.length c2) M2 from slX_own HD.out.1 HD.out.2.2)
    have HM3c := Lib.hid (show SlX wc (.slice va mr vc) (lr.take mr) from slX_upto (HrV.out.keep hkV) mr (by rw [hmr]; exact Nat.min_le_left _ _))
    have HMr := Lib.hid (show (lr.take mr).length ≤ 10 by rw [List.length_take]; omega)
    have HBc := Lib.hid (HBV.out.next' HD.out.2.1)
    have HM2l := Lib.hid (show M2.length ≤ 40 by have := HMl.out; have := HD.out.1; omega)
    clear hkV hmr HRV HNV K8V K7V HrV HMs HOwn HBW HD
    go_wp2_with fail
    clear f1 f2 f3
    go_loopw [86] (fun i wr => ∃ k : Nat, i = .int .i64 k ∧ Hid (k ≤ 3 ∧ Below wc.heap.size wc wr)) (fun i _ => 3 - (intOf i).toNat)
    case atStart => exact ⟨0, rfl, Lib.hid ⟨by omega, Below.refl _ _⟩⟩
    case round =>
      obtain ⟨k, rfl, HI⟩ := hrel
      obtain ⟨wq, hwq⟩ : ∃ x, x = wr := ⟨_, rfl⟩
      subst hwq
      by_cases hk : k < 3
      · have hkI : (k : Int) < 3 := by omega
        have hk0 : (0 : Int) ≤ (k : Int) := by omega
        obtain ⟨la, ln, lc, L, hidx, hsl, hln⟩ : ∃ la ln lc L, (∀ w', (Instr.index 48 (.agg #[.slice ra M.length rc, .slice a2 M.length c2, .slice va mr vc]) (.int .i64 (k : Nat))).run Tryd.prog w' = .ok (.slice la ln lc) w') ∧ SlX wc (.slice la ln lc) L ∧ L.length ≤ 100000 := by
          obtain rfl | rfl | rfl : k = 0 ∨ k = 1 ∨ k = 2 := by omega
          · exact ⟨_, _, _, M, fun _ => by kernel_rfl, HMc.out, by have := HMl.out; omega⟩
          · exact ⟨_, _, _, M2, fun _ => by kernel_rfl, HM2c.out, by have := HM2l.out; omega⟩
          · exact ⟨_, _, _, lr.take mr, fun _ => by kernel_rfl, HM3c.out, by have := HMr.out; omega⟩
        have HSl := Lib.hid hsl; have HLn := Lib.hid hln
        clear hsl hln
        go_wp2_with fail
        clear hidx
        go_loopw [15] (fun t wr => ∃ x : Int, t = .int .i64 x ∧ Hid (-1 ≤ x ∧ x ≤ g.nodes + 1 ∧ Below wc.heap.size wc wr)) (fun t _ => (g.nodes + 1 - intOf t).toNat)
        case atStart => exact ⟨-1, rfl, Lib.hid ⟨by omega, by have := HOk.out.nodes.1; omega, HI.out.2⟩⟩
        case round =>
          obtain ⟨t, rfl, HJ⟩ := hrel
          have n0 := (K8c.out.below HJ.out.2.2 K8c.out.lt).cell 0
          simp only [List.getElem?_toArray, List.getElem?_cons_zero] at n0
          by_cases ht : t ≤ g.nodes
          · have hHC1 := callsIn_wide.1 (wcheck_in 4 (Nat.le_refl _) q g HOk.out.ends s t (.slice la ln lc) L wr (HNc.out.keep (KpC.of_below HJ.out.2.2)) (HSl.out.keep (KpC.of_below HJ.out.2.2)))
            have hHC2 := fun u (hu : Below wr.heap.size wr u) => refCheck_any (.agg #[.int .i64 g.nodes, .slice xa xn xc, .slice ya yn yc, .slice za zn zc]) g s t (.slice la ln lc) L HLn.out u (HRc.out.kept (KpC.of_below (HJ.out.2.2.next' hu))) (HSl.out.keep (KpC.of_below (HJ.out.2.2.next' hu)))
            obtain ⟨cw, hcw⟩ : ∃ x, x = wrap64 ((checkV g s t L).getD 0) := ⟨_, rfl⟩
            obtain ⟨cb, hcb⟩ : ∃ x, x = (checkV g s t L).isSome := ⟨_, rfl⟩
            rw [← hcw, ← hcb] at hHC1
            simp only [← hcw, ← hcb] at hHC2
            have HC1 := Lib.hid hHC1; have HC2 := Lib.hid hHC2
            clear hcw hcb hHC1 hHC2
            go_wp2_with fail
            refine HC1.out.mono ?_
            rintro e u1 ⟨rfl, hb⟩
            have HB1 := Lib.hid hb
            have n1 := cell_later hb n0
            have m1 := (K8c.out.below (HJ.out.2.2.next' hb) K8c.out.lt)
            have n1 := m1.cell 0; have n2 := m1.cell 1; have n3 := m1.cell 2; have n4 := m1.cell 3
            simp only [List.getElem?_toArray, List.getElem?_cons_succ, List.getElem?_cons_zero] at n1 n2 n3 n4
            clear hb m1 HC1 n0
            go_wp2_with fail
            refine (HC2.out u1 HB1.out).mono ?_
            rintro e u2 ⟨rfl, hb⟩
            have HNew := Lib.hid (show -1 ≤ t + 1 ∧ t + 1 ≤ g.nodes + 1 ∧ Below wc.heap.size wc u2 from ⟨by have := HJ.out.1; omega, by omega, HJ.out.2.2.next' (HB1.out.next' hb)⟩)
            have ht1 : -1 ≤ t ∧ t ≤ 12 := by have := HJ.out.1; have := HGl.out.1; omega
            clear hb n1 n2 n3 n4 HC2
            go_wp2_with fail
            go_roundw
            case rel => exact ⟨t + 1, by go_num, HNew⟩
            case measure => simp [intOf]; omega
          · have hHN1 := nodes_is (nodesV g s L) rfl HLn.out q (.slice la ln lc) wr (HNc.out.keep (KpC.of_below HJ.out.2.2)) (HSl.out.keep (KpC.of_below HJ.out.2.2))
            obtain ⟨cN, hcN⟩ : ∃ x, x = (nodesV g s L).getD [] := ⟨_, rfl⟩
            obtain ⟨bN, hbN⟩ : ∃ x, x = (nodesV g s L).isSome := ⟨_, rfl⟩
            have HN2 := Lib.hid (show ∀ u, Below wr.heap.size wr u → Calls Tryd.prog 24 #[.agg #[.int .i64 g.nodes, .slice xa xn xc, .slice ya yn yc, .slice za zn zc], .int .i64 s, .slice la ln lc] u fun e w' => ∃ a n c, e = .returned (.tuple #[.slice a n c, .bool bN]) ∧ SlX w' (.slice a n c) cN ∧ Below u.heap.size u w' from fun u hu =>
              (refNodes_any _ g s _ L HLn.out u (HRc.out.kept (KpC.of_below (HJ.out.2.2.next' hu))) (HSl.out.keep (KpC.of_below (HJ.out.2.2.next' hu)))).mono fun e w' h => by
                obtain ⟨x, rfl, h1, h2⟩ := h
                have hs := slX_own rfl h1
                obtain ⟨a, n, c, rfl⟩ := hs.form
                rw [← hcN] at hs
                exact ⟨a, n, c, by rw [hbN], hs, h2⟩)
            have hHB1 := fun u (hu : Below wr.heap.size wr u) => bare_is (bareO g s L) rfl HLn.out HOk.out.ends (by have := HGl.out.1; omega) q (.slice la ln lc) u (HNc.out.keep (KpC.of_below (HJ.out.2.2.next' hu))) (HSl.out.keep (KpC.of_below (HJ.out.2.2.next' hu)))
            obtain ⟨cP, hcP⟩ : ∃ x, x = (bareO g s L).getD [] := ⟨_, rfl⟩
            obtain ⟨bP, hbP⟩ : ∃ x, x = (bareO g s L).isSome := ⟨_, rfl⟩
            have HP2 := Lib.hid (show ∀ u, Below wr.heap.size wr u → Calls Tryd.prog 26 #[.agg #[.int .i64 g.nodes, .slice xa xn xc, .slice ya yn yc, .slice za zn zc], .int .i64 s, .slice la ln lc] u fun e w' => ∃ a n c, e = .returned (.tuple #[.slice a n c, .bool bP]) ∧ SlX w' (.slice a n c) cP ∧ Below u.heap.size u w' from fun u hu =>
              (refBare_any _ g s _ L HLn.out u (HRc.out.kept (KpC.of_below (HJ.out.2.2.next' hu))) (HSl.out.keep (KpC.of_below (HJ.out.2.2.next' hu)))).mono fun e w' h => by
                obtain ⟨x, rfl, h1, h2⟩ := h
                have hs := slX_own rfl h1
                obtain ⟨a, n, c, rfl⟩ := hs.form
                rw [← hcP] at hs
                exact ⟨a, n, c, by rw [hbP], hs, h2⟩)
            rw [← hcN, ← hbN] at hHN1
            simp only [← hcP, ← hbP] at hHB1
            have HN1 := Lib.hid hHN1; have HP1 := Lib.hid hHB1
            have HJ2 := Lib.hid HJ.out.2.2
            clear hHN1 hHB1 hcN hbN hcP hbP
            go_wp2_with fail
            refine HN1.out.mono ?_
            rintro e u1 ⟨a1, c1, rfl, hs1, hb⟩
            have HB1 := Lib.hid hb; have HS1 := Lib.hid hs1
            have m1 := (K8c.out.below (HJ.out.2.2.next' hb) K8c.out.lt)
            have n1 := m1.cell 0; have n2 := m1.cell 1; have n3 := m1.cell 2; have n4 := m1.cell 3
            simp only [List.getElem?_toArray, List.getElem?_cons_succ, List.getElem?_cons_zero] at n1 n2 n3 n4
            clear hb m1 HN1 n0 hs1
            go_wp2_with fail
            refine (HN2.out u1 HB1.out).mono ?_
            rintro e u2 ⟨a2', n2', c2', rfl, hs2, hb⟩
            have HB2 := Lib.hid (HB1.out.next' hb); have HS2 := Lib.hid hs2; have HS1b := Lib.hid (HS1.out.keep (KpC.of_below hb))
            clear hb n1 n2 n3 n4 hs2 HN2 HS1
            go_wp2_with fail
            refine (HP1.out u2 HB2.out).mono ?_
            rintro e u3 ⟨a3, c3, rfl, hs3, hb⟩
            have HB3 := Lib.hid (HB2.out.next' hb); have HS3 := Lib.hid hs3; have HS1c := Lib.hid (HS1b.out.keep (KpC.of_below hb)); have HS2c := Lib.hid (HS2.out.keep (KpC.of_below hb))
            have m1 := (K8c.out.below (HJ2.out.next' HB3.out) K8c.out.lt)
            have n1 := m1.cell 0; have n2 := m1.cell 1; have n3 := m1.cell 2; have n4 := m1.cell 3
            simp only [List.getElem?_toArray, List.getElem?_cons_succ, List.getElem?_cons_zero] at n1 n2 n3 n4
            clear hb m1 HP1 hs3 HS1b HS2
            go_wp2_with fail
            refine (HP2.out u3 HB3.out).mono ?_
            rintro e u4 ⟨a4, n4', c4, rfl, hs4, hb⟩
            have HB4 := Lib.hid (HB3.out.next' hb)
            have HS3d := Lib.hid (HS3.out.keep (KpC.of_below hb)); have HS4 := Lib.hid hs4
            have hi1 := ints_any _ _ cN cN u4 (HS1c.out.keep (KpC.of_below hb)) (HS2c.out.keep (KpC.of_below hb))
            rw [decide_eq_true (show cN = cN from rfl)] at hi1
            have HI1 := Lib.hid hi1
            clear hb n1 n2 n3 n4 hs4 HP2 HS3 HS1c HS2c hi1
            go_wp2_with fail
            refine HI1.out.mono ?_
            rintro e u5 ⟨rfl, hb⟩
            have HB5 := Lib.hid (HB4.out.next' hb)
            have hi2 := ints_any _ _ cP cP u5 (HS3d.out.keep (KpC.of_below hb)) (HS4.out.keep (KpC.of_below hb))
            rw [decide_eq_true (show cP = cP from rfl)] at hi2
            have HI2 := Lib.hid hi2
            clear hb HI1 hi2
            go_wp2_with fail
            refine HI2.out.mono ?_
            rintro e u6 ⟨rfl, hb⟩
            have HNew := Lib.hid (show k + 1 ≤ 3 ∧ Below wc.heap.size wc u6 from ⟨by omega, HJ2.out.next' (HB5.out.next' hb)⟩)
            clear hb HI2
            go_wp2_with fail
            go_roundw
            case rel => exact ⟨k + 1, by go_num, HNew⟩
            case measure => simp [intOf]; omega
      · have hkI : ¬ (k : Int) < 3 := by omega
        go_wp2_with fail
        go_ret
        exact ⟨rfl, HBc.out.next' HI.out.2⟩
end Go.Proofs.YtlddcnkiigamjaaDoor
/- WalkTells: its arguments read. -/
namespace Go.Proofs.YtlddcnkiigamjaaDoor
open Go.RowKit
theorem walkTells_rd (cs : Array Value) (v1 : Value) (W : World) (R0 : Rd Tryd.prog W 44 cs.toList) (R1 : Rd Tryd.prog W 35 [v1]) (hg : HG W) : Calls Tryd.prog 5 #[.agg cs, v1] W fun e w' => e = .returned (.bool true) ∧ Below W.heap.size W w' := by
  obtain ⟨vb, vw, lb, lw, x0, x1, rfl, hb, hw, h0, h1, hlw⟩ := Rd.drawn09 R0
  obtain ⟨X, hX, _⟩ := Rd.ints (k := .i64) Tryd.underlying35 Tryd.underlying3 (by kernel_rfl) R1
  exact walkTells_any vb vw v1 lb lw X x0 x1 W hb hw (SlX.of_I hX) h0 h1 hlw hg
end Go.Proofs.YtlddcnkiigamjaaDoor
