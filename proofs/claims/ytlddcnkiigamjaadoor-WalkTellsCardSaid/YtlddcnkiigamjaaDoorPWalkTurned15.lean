/- Texts of the law WalkTurned, merged: WalkBare. -/
import Derived.Test.YtlddcnkiigamjaaDoorPWalkTurned07
import Derived.Test.YtlddcnkiigamjaaDoorPWalkTurned14
import Derived.Maps.OwnOps
import Derived.Carry
import Derived.Test.YtlddcnkiigamjaaDoorPWalkTurned03
/- walk.Bare: a walk without its rings. -/
namespace Go.Proofs.YtlddcnkiigamjaaDoor
open Go.RowKit Go.Shelf
open Go.Maps (Keyed)
attribute [local go_sem] Oper.semAt_some
abbrev MT : TypeId := 86
theorem lawInt : Keyed Tryd.prog 3 := Maps.int_keyed Tryd.underlying3
theorem zeroInt (w : World) : (zeroValue 3).run Tryd.prog w = .ok (.int .i64 0) w := by kernel_rfl
theorem elemInt {a : Int} (hw : (Lit.int .i64 a).wf = true) : plainElem (H := Unit) Tryd.prog 3 (.int .i64 a) = some (.lit (.int .i64 a), []) := plainElem_int Tryd.underlying3 hw
theorem wfInt {a : Int} (h : -9223372036854775808 ≤ a ∧ a ≤ 9223372036854775807) : (Lit.int .i64 a).wf = true := by
  unfold Lit.wf
  simp [IntKind.min, IntKind.max, IntKind.signed, IntKind.bits]
  omega
theorem bareO_form (g : Raw) (s : Int) (L : List Int) : (nodesV g s L = none ∧ bareO g s L = none) ∨ ∃ l, wk g s L = some l ∧ (0 ≤ s ∧ s < g.nodes) ∧ nodesV g s L = some (s :: l) ∧ bareO g s L = some (bareV s (L.zip l)).2 := by
  unfold nodesV bareO
  split
  · rename_i h
    cases hw : wk g s L with
    | none => exact .inl ⟨rfl, rfl⟩
    | some l => exact .inr ⟨l, rfl, h, rfl, rfl⟩
  · exact .inl ⟨rfl, rfl⟩
theorem take_zipI (A B : List Int) (k : Nat) : (A.zip B).take k = (A.take k).zip (B.take k) := by
  induction A generalizing B k with
  | nil => simp
  | cons a A ih =>
    cases B with
    | nil => simp
    | cons b B => cases k with
      | zero => rfl
      | succ k => simp [ih]
/-- the kept trail behind k arcs -/
def bareK (s : Int) (L l : List Int) (k : Nat) : List Int × List Int := bareV s ((L.zip l).take k)
theorem bareK_zero (s : Int) (L l : List Int) : bareK s L l 0 = ([s], []) := rfl
theorem bareK_step (s : Int) {L l : List Int} {k : Nat} {x y : Int} (hx : L[k]? = some x) (hy : l[k]? = some y) : bareK s L l (k + 1) = bstep (bareK s L l k) (x, y) := by
  obtain ⟨h1, e1⟩ := List.getElem?_eq_some_iff.1 hx
  obtain ⟨h2, e2⟩ := List.getElem?_eq_some_iff.1 hy
  have hz : k < (L.zip l).length := by rw [List.length_zip]; omega
  unfold bareK bareV
  rw [List.take_succ_eq_append_getElem hz, List.foldl_append, List.getElem_zip, e1, e2]; rfl
theorem bareK_end (s : Int) {L l : List Int} (h : l.length = L.length) : bareK s L l l.length = bareV s (L.zip l) := by
  unfold bareK
  rw [List.take_of_length_le (by rw [List.length_zip]; omega)]
theorem bareK_inv {g : Raw} {s : Int} {L l : List Int} (h : wk g s L = some l) (k : Nat) : BI g s (bareK s L l k) ∧ (bareK s L l k).1.length = (bareK s L l k).2.length + 1 ∧ (bareK s L l k).2.length ≤ k := by
  have hl := wk_len h
  have hz : (L.zip l).take k = (L.take k).zip (l.take k) := take_zipI _ _ _
  obtain ⟨b1, b2, b3⟩ := bare_of (wk_take k h)
  unfold bareK
  rw [hz]
  refine ⟨b1, ?_, ?_⟩
  · obtain ⟨l', e1, e2⟩ := b1.walk
    rw [e1, List.length_cons, wk_len e2]
  · have := b3.length_le
    rw [List.length_take] at this
    omega
theorem row_cut {w : World} {base : Nat} {a : Option Addr} {c : Nat} {L : List Int} (h : w.ownsRow base 3 1 (.slice a L.length c) L.length (L.flatMap inC)) (k : Nat) (hk : k ≤ L.length) : w.ownsRow base 3 1 (.slice a k c) (L.take k).length ((L.take k).flatMap inC) := by
  have := ownsRow_take h k hk
  rw [flat_take] at this
  rw [List.length_take, Nat.min_eq_left hk]
  exact this
/-- what a round of Bare keeps -/
structure BareI (w0 w : World) (bm : Nat) (t o : Value) (T O : List Int) (nn : Nat) (D : DataW Unit) : Prop where
  below : Below w0.heap.size w0 w
  trail : w.ownsRow w0.heap.size 3 1 t T.length (T.flatMap inC)
  out : w.ownsRow w0.heap.size 3 1 o O.length (O.flatMap inC)
  apart : ∀ k, t.ownBlock = some k → o.ownBlock ≠ some k
  map : w.ownsMap Tryd.prog 3 (plainElem Tryd.prog 3) bm nn D
  place : PlaceOf D T
theorem BareI.drewN {w0 w : World} {bm : Nat} {t o : Value} {T O : List Int} {nn : Nat} {D : DataW Unit} (h : BareI w0 w bm t o T O nn D) (n : Nat) : BareI w0 (w.drewN n) bm t o T O nn D := ⟨below_drewN h.below n, h.trail, h.out, h.apart, h.map, h.place⟩
theorem not_map {w : World} {base : Nat} {e : TypeId} {v : Value} {n : Nat} {xs : List Value} {bm nn : Nat} {D : DataW Unit} {k : TypeId} {R : Value → Option (DataW Unit × List MemPlace)} (h : w.ownsRow base e 1 v n xs) (hm : w.ownsMap Tryd.prog k R bm nn D) {j : Nat} (hj : v.ownBlock = some j) : j ≠ bm := fun e => by
  subst e
  obtain ⟨_, _, hb⟩ := ownsRow_blk' h hj
  obtain ⟨es, cl, hb2, _⟩ := hm
  rw [show w.heap[j]? = _ from hb] at hb2
  cases hb2
theorem ownsMap_agree {P : Program} {w w' : World} {k : TypeId} {R : Value → Option (DataW Unit × List MemPlace)} {bm nn : Nat} {D : DataW Unit} (hm : w.ownsMap P k R bm nn D) (h : w'.heap[bm]? = w.heap[bm]?) : w'.ownsMap P k R bm nn D := by
  obtain ⟨es, cl, hb, r⟩ := hm
  exact ⟨es, cl, h.trans hb, r⟩
theorem turned_kept {w w' : World} {b : Nat} (h : w.mapTurned w' b) : Kept (fun j => j = b) w w' :=
  have g := World.mapTurned.grown h
  ⟨g.os, g.tape, g.output, g.size, fun k hk hn => g.block k hk (fun e => hn (by simpa using e))⟩
theorem map_blk_lt {P : Program} {w : World} {k : TypeId} {R : Value → Option (DataW Unit × List MemPlace)} {bm nn : Nat} {D : DataW Unit} (hm : w.ownsMap P k R bm nn D) : bm < w.heap.size := World.ownsMap.lt hm
set_option maxRecDepth 100000 in
set_option maxHeartbeats 8000000 in
theorem wbare_any (p : Nat) (g : Raw) (hg : ∀ a ∈ g.arcs, 0 ≤ a.2.1 ∧ a.2.1 < g.nodes) (hgn : g.nodes ≤ 2147483648) (s : Int) (va : Value) (L : List Int) (hL : L.length ≤ 100000) (w : World) (hn : NetAt w p g) (ha : SlX w va L) :
    Calls Tryd.prog 25 #[.pointer (some ⟨p, 0, none⟩), .int .i64 s, va] w fun e w' => ∃ v, e = .returned (.tuple #[v, .bool (bareO g s L).isSome]) ∧ w'.ownsRow w.heap.size 3 1 v ((bareO g s L).getD []).length (((bareO g s L).getD []).flatMap inC) ∧ Below w.heap.size w w' := by
  have HNo := Lib.hid (callsIn_wide.1 (wnodes_in 4 (Nat.le_refl _) p g s va L hL w hn ha))
  have HA := Lib.hid ha
  clear hn ha
  rcases bareO_form g s L with ⟨e1, e2⟩ | ⟨l, hw, hs, e1, e2⟩
  · rw [e2]
    rw [e1] at HNo
    clear HA e1 e2
    go_enter Tryd.func25, Tryd.ntmps25
    go_wp2_with fail
    refine HNo.out.mono ?_
    rintro e w2 ⟨v, rfl, hrow, hb⟩
    go_wp2_with fail
    go_ret2
    exact ⟨_, rfl, World.ownsRow_nil _ _ _ _, hb⟩
  · rw [e2]
    rw [e1] at HNo
    clear e1 e2
    go_enter Tryd.func25, Tryd.ntmps25
    go_wp2_with fail
    refine HNo.out.mono ?_
    rintro e w2 ⟨v, rfl, hrow, hb⟩
    dsimp only [Option.getD_some] at hrow
    obtain ⟨gN, cN, rfl⟩ := ownsRow_succ (show w2.ownsRow w.heap.size 3 1 v (l.length + 1) _ from hrow)
    have hNs : SlX w2 (.slice (some ⟨gN, 0, none⟩) (l.length + 1) cN) (s :: l) := slX_own rfl hrow
    have hcN : l.length + 1 ≤ cN := by obtain ⟨_, _, e, h, _⟩ := hNs; simp at e; obtain ⟨_, rfl⟩ := e; simpa using h
    have hmm := @run_makeMap Tryd.prog
    have hmade := World.ownsMap_made (w2.alloc (.cells #[.int .i64 s] 3)) Tryd.prog 3 (plainElem (H := Unit) Tryd.prog 3)
    rw [World.size_alloc] at hmade
    obtain ⟨w3, hrun, hown, hturn⟩ := hmade.store lawInt Tryd.underlying86 (by unfold maxLen; omega) (Maps.keyOf_int_mk Tryd.underlying3 (wfInt (a := s) (by omega))) (elemInt (a := 0) (by decide))
    have HMp := Lib.hid (And.intro hown hturn)
    clear hmade hown hturn
    have hlc : (1 : Int) ≤ (l.length + 1 : Nat) ∧ ((l.length + 1 : Nat) : Int) ≤ cN := ⟨by omega, by omega⟩
    by_cases hc1 : cN = 1
    · obtain rfl : l = [] := List.eq_nil_of_length_eq_zero (by omega)
      go_wp2_with fail
      go_loop [10, 36] (fun t k => t = .slice none 0 0 ∧ k = .int .i64 0) (fun _ _ => 0)
      case atStart => exact ⟨rfl, rfl⟩
      case round =>
        obtain ⟨rfl, rfl⟩ := hrel
        go_wp2_with fail
        go_ret2
        exact ⟨_, rfl, World.ownsRow_nil _ _ _ _, hb.trans ((((Below.refl _ _).alloc hb.size _).alloc (by have := hb.size; simp; omega) _).trans ((turned_kept HMp.out.2).below (by have := hb.size; simp; omega) (fun k e => by have := hb.size; omega)))⟩
    · go_wp2_with fail
      clear hmm hrun hcN hlc hrow
      obtain ⟨bm, hbm⟩ : ∃ b, b = w2.heap.size + 1 := ⟨_, rfl⟩
      obtain ⟨lo, hlo⟩ : ∃ b, b = w2.heap.size := ⟨_, rfl⟩
      have hll := wk_len hw
      have hb3 : Below w2.heap.size w2 w3 := by
        have h1 : Below w2.heap.size w2 ((w2.alloc (.cells #[.int .i64 s] 3)).alloc (.map #[] 0)) := ((Below.refl _ _).alloc (Nat.le_refl _) _).alloc (by simp) _
        exact h1.trans ((turned_kept HMp.out.2).below (by simp; omega) (fun k e => by omega))
      have hT0 : Blk w3 w2.heap.size #[.int .i64 s] 3 (0, 0) := (turned_heap HMp.out.2 (by omega)).trans ((Blk.new w2 #[.int .i64 s] 3 (0, 0)).alloc _)
      have hI0 : BareI w2 w3 bm (.slice (some ⟨w2.heap.size, 0, none⟩) 1 1) (.slice none 0 0) [s] [] 1 ((DataW.map []).put (kOf s) (.lit (.int .i64 0))) :=
        ⟨hb3, ⟨rfl, .inr ⟨w2.heap.size, 1, _, rfl, Nat.le_refl _, hT0, Nat.le_refl _, by unfold maxLen; omega, rfl, rfl⟩⟩, World.ownsRow_nil _ _ _ _, fun k _ => by simp [Value.ownBlock], by rw [hbm]; exact HMp.out.1, PlaceOf.one Maps.isMap_empty (fun k => rfl) s⟩
      have HI0 := Lib.hid hI0; have HBw := Lib.hid hb; have HNs := Lib.hid hNs; have HLl := Lib.hid hll
      have HLo := Lib.hid (And.intro hlo hbm)
      clear hI0 hT0 hb3 HMp hb hNs
      rw [← hbm, ← hlo]
      clear hbm hlo hll
      go_loopw [10, 11, 36] (fun o t i wr => ∃ (k nn : Nat) (D : DataW Unit) (vt vo : Value), vo = o ∧ vt = t ∧ k ≤ l.length ∧ nn ≤ k + 1 ∧ i = .int .i64 k ∧ Hid (BareI w2 wr bm vt vo (bareK s L l k).1 (bareK s L l k).2 nn D)) (fun _ _ i _ => l.length - (intOf i).toNat)
      case atStart => exact ⟨0, 1, _, _, _, rfl, rfl, Nat.zero_le _, Nat.le_refl _, rfl, by rw [HLo.out.1]; exact HI0⟩
      case round =>
        obtain ⟨k, nn, D, vt, vo, rfl, rfl, hk, hnn, rfl, HI⟩ := hrel
        obtain ⟨hBI, hln1, hln2⟩ := bareK_inv hw k
        by_cases hlt : k < l.length
        · have hltI : (k : Int) < (l.length : Int) := by omega
          have i1 : (0 : Int) ≤ (k : Int) := by omega
          obtain ⟨v, hv⟩ : ∃ v, l[k]? = some v := ⟨_, List.getElem?_eq_getElem hlt⟩
          obtain ⟨x, hx⟩ : ∃ x, L[k]? = some x := ⟨_, List.getElem?_eq_getElem (by have := HLl.out; omega)⟩
          have hst := bareK_step s hx hv
          have hvr := wk_nodes hg hw v (List.mem_of_getElem? hv)
          obtain ⟨TL, hT⟩ : ∃ TL, TL = (bareK s L l k).1 := ⟨_, rfl⟩
          obtain ⟨OL, hO⟩ : ∃ OL, OL = (bareK s L l k).2 := ⟨_, rfl⟩
          have hbk : bareK s L l k = (TL, OL) := by rw [hT, hO]
          rw [hbk] at hst hBI
          rw [← hT, ← hO] at HI
          rw [← hT, ← hO] at hln1
          rw [← hO] at hln2
          clear hT hO
          have hTn : TL.Nodup := hBI.nodup
          have HTr := Lib.hid (show ∀ y ∈ TL, 0 ≤ y ∧ y < g.nodes from fun y hy => by
            obtain ⟨l', q1, q2⟩ := hBI.walk
            rw [show TL = s :: l' from q1] at hy
            rcases List.mem_cons.1 hy with rfl | hy
            · exact hs
            · exact wk_nodes hg q2 y hy)
          have cN := (HNs.out.keep (KpC.of_below HI.out.below)).at (k + 1) (by simp; omega)
          obtain ⟨bN, oN, eN, cN⟩ := cN
          simp only [Option.some.injEq, Addr.mk.injEq, and_true] at eN
          obtain ⟨rfl, rfl⟩ := eN
          have cNv : wr.cell? ⟨gN, 1 + k, none⟩ = some (.int .i64 v) := by
            rw [show 1 + k = 0 + (k + 1) by omega]
            rw [cN]
            rw [List.getElem_cons_succ]
            have := (List.getElem?_eq_some_iff.1 hv).2
            rw [this]
          clear cN
          have hkey := Maps.keyOf_int_mk Tryd.underlying3 (wfInt (a := v) (by omega))
          obtain ⟨gT, cT, rfl⟩ : ∃ gT cT, vt = .slice (some ⟨gT, 0, none⟩) TL.length cT := by
            have h := HI.out.trail
            obtain ⟨m, hm⟩ : ∃ m, TL.length = m + 1 := ⟨OL.length, hln1⟩
            rw [hm] at h ⊢
            exact ownsRow_succ h
          obtain ⟨aO, cO, rfl⟩ : ∃ aO cO, vo = .slice aO OL.length cO := by
            rcases HI.out.out.2 with ⟨e, h0⟩ | ⟨gg, cap, cur, e, _⟩
            · exact ⟨none, 0, by rw [e, h0]⟩
            · exact ⟨_, _, e⟩
          obtain ⟨ba, oa, ca, rfl, cA⟩ : ∃ ba oa ca, va = .slice (some ⟨ba, oa, none⟩) L.length ca ∧ ∀ u, Below w.heap.size w u → u.cell? ⟨ba, oa + k, none⟩ = some (.int .i64 x) := by
            obtain ⟨a, ca, rfl, _⟩ := id HA.out
            have hkL : k < L.length := (List.getElem?_eq_some_iff.1 hx).1
            obtain ⟨ba, oa, rfl, c⟩ := HA.out.at k hkL
            refine ⟨ba, oa, ca, rfl, fun u hu => ?_⟩
            obtain ⟨b', o', e, c'⟩ := (HA.out.keep (KpC.of_below hu)).at k hkL
            obtain ⟨rfl, rfl⟩ : ba = b' ∧ oa = o' := by simpa using e
            rw [c', (List.getElem?_eq_some_iff.1 hx).2]
          have HcA := Lib.hid cA
          have hTl : TL.length ≤ 100001 := by have := HLl.out; omega
          have hOl : OL.length ≤ 100000 := by have := HLl.out; omega
          have hkl : k ≤ 100000 := by have := HLl.out; omega
          have HLn := Lib.hid (And.intro hln1 hln2)
          have hkL : k < L.length := (List.getElem?_eq_some_iff.1 hx).1
          clear cA hln1 hln2
          by_cases hvT : v ∈ TL
          · have hhas : Maps.has D (kOf v) = true := by rw [(HI.out.place v).1]; simp [hvT]
            obtain ⟨a, ha⟩ : ∃ a, a = TL.idxOf v := ⟨_, rfl⟩
            have hal : a < TL.length := by rw [ha]; exact List.idxOf_lt_length_of_mem hvT
            have hst2 : bareK s L l (k + 1) = (TL.take (a + 1), OL.take a) := by rw [hst]; unfold bstep; rw [if_pos hvT, ← ha]
            obtain ⟨c0, ps, hlk, hR⟩ := HI.out.map.look_ok lawInt Tryd.underlying86 (zeroInt wr) (elemInt (a := 0) (by decide)) hkey
            obtain ⟨c1, rfl, hc1, _⟩ := plainElem_int_inv Tryd.underlying3 hR
            have hca : c1 = (a : Int) := by
              have h1 : D.atKey (kOf v) _ = _ := congrArg Prod.fst hc1
              rw [(HI.out.place v).2 hvT rfl, ← ha] at h1
              simp at h1
              exact h1.symm
            subst hca
            change _ = Result.ok (Value.tuple #[Value.int .i64 (a : Nat), Value.bool (Maps.has D (kOf v))]) wr at hlk
            rw [hhas] at hlk
            have hcT : TL.length ≤ cT := by
              rcases HI.out.trail.2 with ⟨e, _⟩ | ⟨_, _, _, e, _, _, h, _⟩
              · cases e
              · simp at e; obtain ⟨_, rfl⟩ := e; exact h
            have hcO : OL.length ≤ cO := by
              rcases HI.out.out.2 with ⟨e, h0⟩ | ⟨_, _, _, e, _, _, h, _⟩
              · omega
              · simp at e; obtain ⟨_, rfl⟩ := e; exact h
            have HSt := Lib.hid hst2; have HA2 := Lib.hid ha
            clear hR hc1 hst hst2 ha hhas
            have b1 : ((a + 1 : Nat) : Int) ≤ (TL.length : Int) := by omega
            have b2 : (0 : Int) ≤ ((a + 1 : Nat) : Int) := by omega
            go_upto_region 14 with fail
            clear hlk
            have hkc : (TL.length : Int) ≤ (cT : Int) ∧ (OL.length : Int) ≤ (cO : Int) := ⟨by omega, by omega⟩
            have hao : a ≤ OL.length := by have := HLn.out.1; omega
            clear hcT hcO
            have hlo := HLo.out.1
            have hneT : gT ≠ bm := not_map HI.out.trail HI.out.map rfl
            have hneO : ∀ j, (Value.slice aO OL.length cO).ownBlock = some j → j ≠ bm := fun j hj => not_map HI.out.out HI.out.map hj
            have hbml : lo ≤ bm := by have := HLo.out.2; omega
            have hXT : SlX wr (.slice (some ⟨gT, 0, none⟩) TL.length cT) TL := slX_own rfl HI.out.trail
            have hcells : ∀ (u : World) (j : Nat) (y : Int), Kept (fun q => q = bm) wr u → TL[j]? = some y → u.cell? ⟨gT, j, none⟩ = some (.int .i64 y) := fun u j y hu hy => by
              obtain ⟨hj, e⟩ := List.getElem?_eq_some_iff.1 hy
              obtain ⟨b', o', e', c'⟩ := hXT.at j hj
              obtain ⟨rfl, rfl⟩ : gT = b' ∧ 0 = o' := by simpa using e'
              rw [Nat.zero_add, e] at c'
              refine (World.cell?_of_block (a := ⟨gT, j, none⟩) (hu.block gT ?_ hneT)).trans c'
              obtain ⟨_, _, hq⟩ := ownsRow_blk' HI.out.trail (g := gT) rfl
              exact hq.lt
            have hfin : ∀ (u : World) (D2 : DataW Unit) (j : Nat), Kept (fun q => q = bm) wr u → u.ownsMap Tryd.prog 3 (plainElem Tryd.prog 3) bm nn D2 → PlaceK D2 TL (a + 1) j → TL.length - (a + 1) ≤ j → BareI w2 u bm (.slice (some ⟨gT, 0, none⟩) (a + 1) cT) (.slice aO a cO) (TL.take (a + 1)) (OL.take a) nn D2 := fun u D2 j hu hm hp hj =>
              ⟨HI.out.below.trans (hu.below HI.out.below.size (fun q e => by omega)),
                row_cut (ownsRow_agree' HI.out.trail (fun q hq => by obtain ⟨_, _, h⟩ := ownsRow_blk' HI.out.trail hq; exact hu.block q h.lt (fun e => not_map HI.out.trail HI.out.map hq e))) (a + 1) (by omega),
                row_cut (ownsRow_agree' HI.out.out (fun q hq => by obtain ⟨_, _, h⟩ := ownsRow_blk' HI.out.out hq; exact hu.block q h.lt (fun e => not_map HI.out.out HI.out.map hq e))) a hao,
                fun q hq e => HI.out.apart q hq (by cases aO <;> exact e), hm, hp.done hTn (by rw [List.length_drop]; exact hj)⟩
            have hnil : aO = none → OL = [] ∧ cO = 0 := fun e => by
              subst e
              rcases HI.out.out.2 with ⟨e, h0⟩ | ⟨gg, cap, cur, e, _⟩
              · simp at e; exact e
              · simp at e
            have hsome : ∀ q, aO = some q → ∃ gO, q = ⟨gO, 0, none⟩ := fun q e => by
              subst e
              rcases HI.out.out.2 with ⟨e, h0⟩ | ⟨gg, cap, cur, e, _⟩
              · simp at e
              · simp at e; exact ⟨gg, e.1⟩
            have HCe := Lib.hid hcells; have HFin := Lib.hid hfin
            clear hXT hcells hfin hneT hneO hbml hlo
            have g1 : ((a + 1 : Nat) : Int) ≤ (cT : Int) := by omega
            have g2 : ((a : Nat) : Int) ≤ (cO : Int) := by omega
            cases aO with
            | none =>
              obtain ⟨rfl, rfl⟩ := hnil rfl
              obtain rfl : a = 0 := by simpa using hao
              clear hnil hsome
              simp only [List.length_nil, Int.natCast_zero]
              by_cases hcA : cT = 1
              · have hTa : TL.length = 1 := by omega
                subst hcA
                have HNew := Lib.hid (HFin.out wr D 0 (Kept.refl _ _) HI.out.map (PlaceK.start HI.out.place (0 + 1)) (by omega))
                go_wp2_with fail
                go_loopw [69] (fun i wr2 => i = .int .i64 0 ∧ Hid (wr2 = wr)) (fun _ _ => 0)
                case atStart => exact ⟨rfl, Lib.hid rfl⟩
                case round =>
                  obtain ⟨rfl, HW⟩ := hrel
                  obtain rfl := HW.out
                  go_wp2_with fail
                  go_quiet (fail)
                  go_wp2_with fail
                  refine ⟨⟨k + 1, nn, _, _, _, rfl, rfl, by omega, by omega, by go_num, by rw [HSt.out]; exact Lib.hid (HNew.out.drewN _)⟩, by simp [intOf]; omega⟩
              · have b3 : ¬ cT = 1 := hcA
                have HPl := Lib.hid (PlaceK.start HI.out.place (0 + 1))
                go_wp2_with fail
                go_loopw [69] (fun i wr2 => ∃ (j : Nat) (D2 : DataW Unit), j ≤ TL.length - (0 + 1) ∧ i = .int .i64 j ∧ Hid (Kept (fun q => q = bm) wr wr2 ∧ wr2.ownsMap Tryd.prog 3 (plainElem Tryd.prog 3) bm nn D2 ∧ PlaceK D2 TL (0 + 1) j)) (fun i _ => TL.length - (0 + 1) - (intOf i).toNat)
                case atStart => exact ⟨0, D, Nat.zero_le _, rfl, Lib.hid ⟨Kept.refl _ _, HI.out.map, HPl.out⟩⟩
                case round =>
                  obtain ⟨j, D2, hj, rfl, HJ⟩ := hrel
                  by_cases hjl : j < TL.length - (0 + 1)
                  · have hjI : (j : Int) < ((TL.length - (0 + 1) : Nat) : Int) := by omega
                    have j1 : (0 : Int) ≤ (j : Int) := by omega
                    obtain ⟨y, hy⟩ : ∃ y, (TL.drop (0 + 1))[j]? = some y := ⟨_, List.getElem?_eq_getElem (by rw [List.length_drop]; exact hjl)⟩
                    have cy := HCe.out _ (0 + 1 + j) y HJ.out.1 (by rw [← hy, List.getElem?_drop])
                    have hwy : -9223372036854775808 ≤ y ∧ y ≤ 9223372036854775807 := by have := HTr.out y (List.mem_of_mem_drop (List.mem_of_getElem? hy)); omega
                    have hkey2 := Maps.keyOf_int_mk Tryd.underlying3 (wfInt hwy)
                    have HStep := Lib.hid (HJ.out.2.2.step hy)
                    clear hy hwy
                    go_wp2_with (at_delete; refine wpList_delete_own _ rfl _ _ MT 3 rfl 3 lawInt Tryd.underlying86 _ bm nn D2 rfl HJ.out.2.1 _ _ rfl hkey2 ?_; intro w6 hown6 hturn6)
                    go_roundw
                    case rel => exact ⟨j + 1, _, by omega, by go_num, Lib.hid ⟨HJ.out.1.trans (turned_kept hturn6), hown6, HStep.out⟩⟩
                    case measure => simp [intOf]; omega
                  · obtain rfl : j = TL.length - (0 + 1) := by omega
                    have HNew := Lib.hid (HFin.out _ D2 _ HJ.out.1 HJ.out.2.1 HJ.out.2.2 (Nat.le_refl _))
                    go_wp2_with fail
                    go_quiet (fail)
                    go_wp2_with fail
                    refine ⟨⟨k + 1, nn, _, _, _, rfl, rfl, by omega, by omega, by go_num, by rw [HSt.out]; exact Lib.hid (HNew.out.drewN _)⟩, by simp [intOf]; omega⟩
            | some aq =>
              obtain ⟨gO, rfl⟩ := hsome _ rfl
              clear hnil hsome
              by_cases hcA : cT = a + 1
              · have hTa : TL.length = a + 1 := by omega
                subst hcA
                have HNew := Lib.hid (HFin.out wr D 0 (Kept.refl _ _) HI.out.map (PlaceK.start HI.out.place (a + 1)) (by omega))
                go_wp2_with fail
                go_loopw [69] (fun i wr2 => i = .int .i64 0 ∧ Hid (wr2 = wr)) (fun _ _ => 0)
                case atStart => exact ⟨rfl, Lib.hid rfl⟩
                case round =>
                  obtain ⟨rfl, HW⟩ := hrel
                  obtain rfl := HW.out
                  go_wp2_with fail
                  go_quiet (fail)
                  go_wp2_with fail
                  refine ⟨⟨k + 1, nn, _, _, _, rfl, rfl, by omega, by omega, by go_num, by rw [HSt.out]; exact Lib.hid (HNew.out.drewN _)⟩, by simp [intOf]; omega⟩
              · have b3 : ¬ cT = a + 1 := hcA
                have HPl := Lib.hid (PlaceK.start HI.out.place (a + 1))
                go_wp2_with fail
                go_loopw [69] (fun i wr2 => ∃ (j : Nat) (D2 : DataW Unit), j ≤ TL.length - (a + 1) ∧ i = .int .i64 j ∧ Hid (Kept (fun q => q = bm) wr wr2 ∧ wr2.ownsMap Tryd.prog 3 (plainElem Tryd.prog 3) bm nn D2 ∧ PlaceK D2 TL (a + 1) j)) (fun i _ => TL.length - (a + 1) - (intOf i).toNat)
                case atStart => exact ⟨0, D, Nat.zero_le _, rfl, Lib.hid ⟨Kept.refl _ _, HI.out.map, HPl.out⟩⟩
                case round =>
                  obtain ⟨j, D2, hj, rfl, HJ⟩ := hrel
                  by_cases hjl : j < TL.length - (a + 1)
                  · have hjI : (j : Int) < ((TL.length - (a + 1) : Nat) : Int) := by omega
                    have j1 : (0 : Int) ≤ (j : Int) := by omega
                    obtain ⟨y, hy⟩ : ∃ y, (TL.drop (a + 1))[j]? = some y := ⟨_, List.getElem?_eq_getElem (by rw [List.length_drop]; exact hjl)⟩
                    have cy := HCe.out _ (a + 1 + j) y HJ.out.1 (by rw [← hy, List.getElem?_drop])
                    have hwy : -9223372036854775808 ≤ y ∧ y ≤ 9223372036854775807 := by have := HTr.out y (List.mem_of_mem_drop (List.mem_of_getElem? hy)); omega
                    have hkey2 := Maps.keyOf_int_mk Tryd.underlying3 (wfInt hwy)
                    have HStep := Lib.hid (HJ.out.2.2.step hy)
                    clear hy hwy
                    go_wp2_with (at_delete; refine wpList_delete_own _ rfl _ _ MT 3 rfl 3 lawInt Tryd.underlying86 _ bm nn D2 rfl HJ.out.2.1 _ _ rfl hkey2 ?_; intro w6 hown6 hturn6)
                    go_roundw
                    case rel => exact ⟨j + 1, _, by omega, by go_num, Lib.hid ⟨HJ.out.1.trans (turned_kept hturn6), hown6, HStep.out⟩⟩
                    case measure => simp [intOf]; omega
                  · obtain rfl : j = TL.length - (a + 1) := by omega
                    have HNew := Lib.hid (HFin.out _ D2 _ HJ.out.1 HJ.out.2.1 HJ.out.2.2 (Nat.le_refl _))
                    go_wp2_with fail
                    go_quiet (fail)
                    go_wp2_with fail
                    refine ⟨⟨k + 1, nn, _, _, _, rfl, rfl, by omega, by omega, by go_num, by rw [HSt.out]; exact Lib.hid (HNew.out.drewN _)⟩, by simp [intOf]; omega⟩
          · have hhas : Maps.has D (kOf v) = false := by rw [(HI.out.place v).1]; simp [hvT]
            have hst2 : bareK s L l (k + 1) = (TL ++ [v], OL ++ [x]) := by rw [hst]; unfold bstep; rw [if_neg hvT]
            obtain ⟨c0, ps, hlk, hR⟩ := HI.out.map.look_ok lawInt Tryd.underlying86 (zeroInt wr) (elemInt (a := 0) (by decide)) hkey
            obtain ⟨c1, rfl, hc1, _⟩ := plainElem_int_inv Tryd.underlying3 hR
            change _ = Result.ok (Value.tuple #[Value.int .i64 c1, Value.bool (Maps.has D (kOf v))]) wr at hlk
            rw [hhas] at hlk
            obtain ⟨V, hup, hown4, hturn4⟩ := HI.out.map.store lawInt Tryd.underlying86 (by unfold maxLen; omega) hkey (elemInt (a := (TL.length : Nat)) (wfInt (by omega)))
            have HV := Lib.hid (And.intro hown4 hturn4)
            have HSt := Lib.hid hst2
            clear hR hc1 hown4 hturn4 hst hst2
            have HTl := Lib.hid (show TL.length ≤ 1000000 by omega); have HOl := Lib.hid (show OL.length ≤ 1000000 by omega)
            have hlo := HLo.out.1
            have hne1 : ∀ {j : Nat}, (Value.slice (some ⟨gT, 0, none⟩) TL.length cT).ownBlock = some j → j ≠ bm := fun h => not_map HI.out.trail HI.out.map h
            have hne2 : ∀ {j : Nat}, (Value.slice aO OL.length cO).ownBlock = some j → j ≠ bm := fun h => not_map HI.out.out HI.out.map h
            have hRow : V.ownsRow lo 3 1 (.slice (some ⟨gT, 0, none⟩) TL.length cT) TL.length (TL.flatMap inC) := by
              rw [hlo]
              exact ownsRow_agree' HI.out.trail (fun j hj => turned_heap HV.out.2 (hne1 hj))
            have hOut : V.ownsRow lo 3 1 (Value.slice aO OL.length cO) OL.length (OL.flatMap inC) := by
              rw [hlo]
              exact ownsRow_agree' HI.out.out (fun j hj => turned_heap HV.out.2 (hne2 hj))
            have hkV := turned_kept HV.out.2
            have hgT : gT < V.heap.size ∧ lo ≤ gT := by
              obtain ⟨h1, _, h2⟩ := ownsRow_blk' hRow (g := gT) rfl
              exact ⟨h2.lt, h1⟩
            have hap : ∀ j, (Value.slice aO OL.length cO).ownBlock = some j → j ≠ gT := fun j hj e => HI.out.apart gT rfl (by rw [hj, e])
            have hbV : Below lo w2 V := by
              rw [hlo]
              exact HI.out.below.trans (hkV.below HI.out.below.size (fun j e => by have := HLo.out.2; omega))
            have HRow := Lib.hid hRow; have HOut := Lib.hid hOut; have HgT := Lib.hid hgT.1; have HgT2 := Lib.hid hgT.2; have HAp := Lib.hid hap; have HbV := Lib.hid hbV
            have HLw := Lib.hid (show w.heap.size ≤ lo from by rw [hlo]; exact HBw.out.size)
            have HLo1 := Lib.hid (show lo ≤ V.heap.size from by have := hbV.size; omega)
            have HBm := Lib.hid (show bm < V.heap.size from map_blk_lt HV.out.1)
            have HNe := Lib.hid (And.intro (hne1 (j := gT) rfl) (fun j => hne2 (j := j)))
            have HSS := Lib.hid (show ∀ u, Kept (fun j => j = gT) V u → u.cell? ⟨ba, oa + k, none⟩ = some (.int .i64 x) from fun u hu => by
              refine HcA.out u ?_
              exact (HBw.out.trans (hbV.mono HLw.out)).trans (hu.below (by have := HLo1.out; have := HLw.out; omega) (fun j e => by have := HgT2.out; have := HLw.out; omega)))
            clear hRow hOut hkV hgT hap hbV hlo hne1 hne2
            go_upto_region 13 with fail
            clear hlk hup
            refine wp_region_heldD (fun w' => w'.cell? ⟨ba, oa + k, none⟩ = some (.int .i64 x)) 12 rfl ?_
            change heldD _ _ _ _ _ _ _ 13 _ _ V.drew
            obtain ⟨wk0, hu0⟩ : ∃ u, u = V.drew := ⟨_, rfl⟩
            have HBu := Lib.hid (show Kept (fun j => j = gT) V wk0 ∧ wk0.ownsRow lo 3 1 (.slice (some ⟨gT, 0, none⟩) TL.length cT) TL.length (TL.flatMap inC) by rw [hu0]; exact ⟨(Kept.refl _ _).drew, HRow.out⟩)
            rw [← hu0]
            clear hu0
            refine heldD_takeF (i := 0) (v := .slice (some ⟨gT, 0, none⟩) TL.length cT) rfl rfl rfl (by kernel_rfl) (by kernel_rfl) (by kernel_rfl) (by kernel_rfl) (fun _ _ _ h => h) (by rfl) (fun w => ⟨by rfl, by go_simp⟩) (fun _ => HSS.out _ HBu.out.1) ?_
            simp only [List.setIfInBounds_toArray, List.set_cons_zero, List.set_cons_succ]
            refine heldD_takeF (i := 1) (v := .int .i64 v) rfl rfl rfl (by kernel_rfl) (by kernel_rfl) (by kernel_rfl) (by kernel_rfl) (fun _ _ _ h => h) (by rfl) (fun w => ⟨by rfl, by go_simp⟩) (fun _ => HSS.out _ HBu.out.1) ?_
            simp only [List.setIfInBounds_toArray, List.set_cons_zero, List.set_cons_succ]
            refine heldD_takeF (i := 4) (v := .slice aO OL.length cO) rfl rfl rfl (by kernel_rfl) (by kernel_rfl) (by kernel_rfl) (by kernel_rfl) (fun _ _ _ h => h) (by rfl) (fun w => ⟨by rfl, by go_simp⟩) (fun _ => HSS.out _ HBu.out.1) ?_
            simp only [List.setIfInBounds_toArray, List.set_cons_zero, List.set_cons_succ]
            refine heldD_takeF (i := 5) (v := .slice (some ⟨ba, oa, none⟩) L.length ca) rfl rfl rfl (by kernel_rfl) (by kernel_rfl) (by kernel_rfl) (by kernel_rfl) (fun _ _ _ h => h) (by rfl) (fun w => ⟨by rfl, by go_simp⟩) (fun _ => HSS.out _ HBu.out.1) ?_
            simp only [List.setIfInBounds_toArray, List.set_cons_zero, List.set_cons_succ]
            refine heldD_takeF (i := 6) (v := .int .i64 (k : Nat)) rfl rfl rfl (by kernel_rfl) (by kernel_rfl) (by kernel_rfl) (by kernel_rfl) (fun _ _ _ h => h) (by rfl) (fun w => ⟨by rfl, by go_simp⟩) (fun _ => HSS.out _ HBu.out.1) ?_
            simp only [List.setIfInBounds_toArray, List.set_cons_zero, List.set_cons_succ]
            refine heldD_takeF (i := 7) (v := .pointer (some ⟨ba, oa + k, none⟩)) rfl rfl rfl (by kernel_rfl) (by kernel_rfl) (by kernel_rfl) (by kernel_rfl) (fun _ _ _ h => h) (by rfl) (fun w => ⟨by rfl, by go_simp⟩) (fun _ => HSS.out _ HBu.out.1) ?_
            simp only [List.setIfInBounds_toArray, List.set_cons_zero, List.set_cons_succ]
            refine heldD_take (i := 8) (v := .int .i64 x) rfl rfl rfl (by kernel_rfl) (by kernel_rfl) (by kernel_rfl) (by kernel_rfl) (by kernel_rfl) (by kernel_rfl) (fun _ _ _ h => h) (by rfl) (fun w hS => ⟨by rfl, by obtain hS1 := hS; go_simp⟩) (HSS.out _ HBu.out.1) ?_
            simp only [List.setIfInBounds_toArray, List.set_cons_zero, List.set_cons_succ]
            refine heldD_HT ?_
            intro H hH T hT
            have HH := Lib.hid hH; have HT := Lib.hid hT
            clear hH hT
            suffices sp_2_3_9 : ∀ (u : World) (bt : Nat) (a3 : Option Addr) (n3 : Nat) (c3 : Nat) (bo : Nat), Hid (Kept (fun j => j = gT) V u ∧ True) → Hid (Blk u bt #[.int .i64 v] 3 (0, 0) ∧ V.heap.size ≤ bt) → Hid (u.ownsRow lo 3 1 (.slice a3 n3 c3) (TL ++ [v]).length ((TL ++ [v]).flatMap inC) ∧ ∀ j, (Value.slice a3 n3 c3).ownBlock = some j → j = gT ∨ V.heap.size ≤ j) → Hid (Blk u bo #[.int .i64 x] 3 (0, 0) ∧ V.heap.size ≤ bo) → H 3 #[true, true, true, true, true, true, true, true, true, true, false, false, false] { tmps := (((T.setIfInBounds 55 (.slice (some ⟨bt, 0, none⟩) 1 1)).setIfInBounds 56 (.slice a3 n3 c3)).setIfInBounds 62 (.slice (some ⟨bo, 0, none⟩) 1 1)), defers := [] } u from by
              have sp_2_9 : ∀ (u : World) (bt : Nat) (bo : Nat), Hid (Kept (fun j => j = gT) V u ∧ u.ownsRow lo 3 1 (.slice (some ⟨gT, 0, none⟩) TL.length cT) TL.length (TL.flatMap inC)) → Hid (Blk u bt #[.int .i64 v] 3 (0, 0) ∧ V.heap.size ≤ bt) → Hid (Blk u bo #[.int .i64 x] 3 (0, 0) ∧ V.heap.size ≤ bo) → H 4 #[true, true, true, false, true, true, true, true, true, true, false, false, false] { tmps := ((T.setIfInBounds 55 (.slice (some ⟨bt, 0, none⟩) 1 1)).setIfInBounds 62 (.slice (some ⟨bo, 0, none⟩) 1 1)), defers := [] } u := by
                clear HBu
                intro u bt bo HBu HF2 HF9
                rw [HH.out, HT.out]
                simp only [List.setIfInBounds_toArray, List.set_cons_zero, List.set_cons_succ]
                refine heldD_one (i := 3) (by kernel_rfl) ?_
                obtain ⟨a3, n3, c3, w3', hr, ho, hg, hat⟩ := push_intG lo (.slice (some ⟨gT, 0, none⟩) TL.length cT) TL v u bt HBu.out.2 HF2.out.1 HTl.out (by have := HBu.out.1.size; have := HLo1.out; omega)
                have hb : ∀ j, j < u.heap.size → j ≠ gT → w3'.heap[j]? = u.heap[j]? := fun j hj hn => hg.block j hj (fun e => hn (by simpa [Value.ownBlock] using e))
                have hrel : Kept (fun j => j = gT) V w3' ∧ True := ⟨HBu.out.1.trans ⟨hg.os, hg.tape, hg.output, hg.size, hb⟩, trivial⟩
                have hf : w3'.ownsRow lo 3 1 (.slice a3 n3 c3) (TL ++ [v]).length ((TL ++ [v]).flatMap inC) ∧ ∀ j, (Value.slice a3 n3 c3).ownBlock = some j → j = gT ∨ V.heap.size ≤ j := ⟨ho, fun j hj => by
                  rcases hat with e | e
                  · rw [e] at hj; exact .inl (by simpa [Value.ownBlock] using hj.symm)
                  · rw [e] at hj; have := HBu.out.1.size; exact .inr (by simp at hj; omega)⟩
                refine wpOpIn_append rfl rfl rfl (by rfl) _ _ _ _ rfl hr ?_
                have HBu0 := HBu
                have HBu : Hid (Kept (fun j => j = gT) V w3' ∧ True) := Lib.hid hrel
                refine ⟨fun _ => HSS.out _ HBu.out.1, ?_⟩
                simp only [List.setIfInBounds_toArray, List.set_cons_zero, List.set_cons_succ]
                have q := sp_2_3_9 _ bt a3 n3 c3 bo HBu (Lib.hid (⟨(hb _ HF2.out.1.lt (by have := HF2.out.2; have := HgT.out; omega)).trans HF2.out.1, HF2.out.2⟩)) (Lib.hid hf) (Lib.hid (⟨(hb _ HF9.out.1.lt (by have := HF9.out.2; have := HgT.out; omega)).trans HF9.out.1, HF9.out.2⟩))
                rw [HH.out, HT.out] at q
                simp only [List.setIfInBounds_toArray, List.set_cons_zero, List.set_cons_succ] at q ⊢
                exact q
              have sp_2_3 : ∀ (u : World) (bt : Nat) (a3 : Option Addr) (n3 : Nat) (c3 : Nat), Hid (Kept (fun j => j = gT) V u ∧ True) → Hid (Blk u bt #[.int .i64 v] 3 (0, 0) ∧ V.heap.size ≤ bt) → Hid (u.ownsRow lo 3 1 (.slice a3 n3 c3) (TL ++ [v]).length ((TL ++ [v]).flatMap inC) ∧ ∀ j, (Value.slice a3 n3 c3).ownBlock = some j → j = gT ∨ V.heap.size ≤ j) → H 4 #[true, true, true, true, true, true, true, true, true, false, false, false, false] { tmps := ((T.setIfInBounds 55 (.slice (some ⟨bt, 0, none⟩) 1 1)).setIfInBounds 56 (.slice a3 n3 c3)), defers := [] } u := by
                clear HBu
                intro u bt a3 n3 c3 HBu HF2 HF3
                rw [HH.out, HT.out]
                simp only [List.setIfInBounds_toArray, List.set_cons_zero, List.set_cons_succ]
                refine heldD_one (i := 9) (by kernel_rfl) ?_
                have hrel : Kept (fun j => j = gT) V (u.alloc (.cells #[.int .i64 x] 3)) ∧ True := ⟨HBu.out.1.alloc _, trivial⟩
                have hb : ∀ j, j < u.heap.size → j ≠ gT → (u.alloc (.cells #[.int .i64 x] 3)).heap[j]? = u.heap[j]? := fun j hj _ => Below.heap_alloc _ _ _ hj
                have hf : Blk (u.alloc (.cells #[.int .i64 x] 3)) u.heap.size #[.int .i64 x] 3 (0, 0) ∧ V.heap.size ≤ u.heap.size := ⟨Blk.new _ _ _ _, HBu.out.1.size⟩
                refine wpOpIn_value (v := .slice (some ⟨u.heap.size, 0, none⟩) 1 1) (w' := (u.alloc (.cells #[.int .i64 x] 3))) rfl rfl rfl (by rfl) (by rfl) (by go_simp) ?_
                have HBu0 := HBu
                have HBu : Hid (Kept (fun j => j = gT) V (u.alloc (.cells #[.int .i64 x] 3)) ∧ True) := Lib.hid hrel
                refine ⟨fun _ => HSS.out _ HBu.out.1, ?_⟩
                simp only [List.setIfInBounds_toArray, List.set_cons_zero, List.set_cons_succ]
                have q := sp_2_3_9 _ bt a3 n3 c3 u.heap.size HBu (Lib.hid (⟨(hb _ HF2.out.1.lt (by have := HF2.out.2; have := HgT.out; omega)).trans HF2.out.1, HF2.out.2⟩)) (Lib.hid (⟨HF3.out.1.alloc _, HF3.out.2⟩)) (Lib.hid hf)
                rw [HH.out, HT.out] at q
                simp only [List.setIfInBounds_toArray, List.set_cons_zero, List.set_cons_succ] at q ⊢
                exact q
              have sp_9 : ∀ (u : World) (bo : Nat), Hid (Kept (fun j => j = gT) V u ∧ u.ownsRow lo 3 1 (.slice (some ⟨gT, 0, none⟩) TL.length cT) TL.length (TL.flatMap inC)) → Hid (Blk u bo #[.int .i64 x] 3 (0, 0) ∧ V.heap.size ≤ bo) → H 5 #[true, true, false, false, true, true, true, true, true, true, false, false, false] { tmps := (T.setIfInBounds 62 (.slice (some ⟨bo, 0, none⟩) 1 1)), defers := [] } u := by
                clear HBu
                intro u bo HBu HF9
                rw [HH.out, HT.out]
                simp only [List.setIfInBounds_toArray, List.set_cons_zero, List.set_cons_succ]
                refine heldD_one (i := 2) (by kernel_rfl) ?_
                have hrel : Kept (fun j => j = gT) V (u.alloc (.cells #[.int .i64 v] 3)) ∧ (u.alloc (.cells #[.int .i64 v] 3)).ownsRow lo 3 1 (.slice (some ⟨gT, 0, none⟩) TL.length cT) TL.length (TL.flatMap inC) := ⟨HBu.out.1.alloc _, HBu.out.2.alloc _⟩
                have hb : ∀ j, j < u.heap.size → j ≠ gT → (u.alloc (.cells #[.int .i64 v] 3)).heap[j]? = u.heap[j]? := fun j hj _ => Below.heap_alloc _ _ _ hj
                have hf : Blk (u.alloc (.cells #[.int .i64 v] 3)) u.heap.size #[.int .i64 v] 3 (0, 0) ∧ V.heap.size ≤ u.heap.size := ⟨Blk.new _ _ _ _, HBu.out.1.size⟩
                refine wpOpIn_value (v := .slice (some ⟨u.heap.size, 0, none⟩) 1 1) (w' := (u.alloc (.cells #[.int .i64 v] 3))) rfl rfl rfl (by rfl) (by rfl) (by go_simp) ?_
                have HBu0 := HBu
                have HBu : Hid (Kept (fun j => j = gT) V (u.alloc (.cells #[.int .i64 v] 3)) ∧ (u.alloc (.cells #[.int .i64 v] 3)).ownsRow lo 3 1 (.slice (some ⟨gT, 0, none⟩) TL.length cT) TL.length (TL.flatMap inC)) := Lib.hid hrel
                refine ⟨fun _ => HSS.out _ HBu.out.1, ?_⟩
                simp only [List.setIfInBounds_toArray, List.set_cons_zero, List.set_cons_succ]
                have q := sp_2_9 _ u.heap.size bo HBu (Lib.hid hf) (Lib.hid (⟨(hb _ HF9.out.1.lt (by have := HF9.out.2; have := HgT.out; omega)).trans HF9.out.1, HF9.out.2⟩))
                rw [HH.out, HT.out] at q
                simp only [List.setIfInBounds_toArray, List.set_cons_zero, List.set_cons_succ] at q ⊢
                exact q
              have sp_2 : ∀ (u : World) (bt : Nat), Hid (Kept (fun j => j = gT) V u ∧ u.ownsRow lo 3 1 (.slice (some ⟨gT, 0, none⟩) TL.length cT) TL.length (TL.flatMap inC)) → Hid (Blk u bt #[.int .i64 v] 3 (0, 0) ∧ V.heap.size ≤ bt) → H 5 #[true, true, true, false, true, true, true, true, true, false, false, false, false] { tmps := (T.setIfInBounds 55 (.slice (some ⟨bt, 0, none⟩) 1 1)), defers := [] } u := by
                clear HBu
                intro u bt HBu HF2
                rw [HH.out, HT.out]
                simp only [List.setIfInBounds_toArray, List.set_cons_zero, List.set_cons_succ]
                refine heldD_two (i := 3) (k := 9) (by kernel_rfl) ?_ ?_
                · obtain ⟨a3, n3, c3, w3', hr, ho, hg, hat⟩ := push_intG lo (.slice (some ⟨gT, 0, none⟩) TL.length cT) TL v u bt HBu.out.2 HF2.out.1 HTl.out (by have := HBu.out.1.size; have := HLo1.out; omega)
                  have hb : ∀ j, j < u.heap.size → j ≠ gT → w3'.heap[j]? = u.heap[j]? := fun j hj hn => hg.block j hj (fun e => hn (by simpa [Value.ownBlock] using e))
                  have hrel : Kept (fun j => j = gT) V w3' ∧ True := ⟨HBu.out.1.trans ⟨hg.os, hg.tape, hg.output, hg.size, hb⟩, trivial⟩
                  have hf : w3'.ownsRow lo 3 1 (.slice a3 n3 c3) (TL ++ [v]).length ((TL ++ [v]).flatMap inC) ∧ ∀ j, (Value.slice a3 n3 c3).ownBlock = some j → j = gT ∨ V.heap.size ≤ j := ⟨ho, fun j hj => by
                    rcases hat with e | e
                    · rw [e] at hj; exact .inl (by simpa [Value.ownBlock] using hj.symm)
                    · rw [e] at hj; have := HBu.out.1.size; exact .inr (by simp at hj; omega)⟩
                  refine wpOpIn_append rfl rfl rfl (by rfl) _ _ _ _ rfl hr ?_
                  have HBu0 := HBu
                  have HBu : Hid (Kept (fun j => j = gT) V w3' ∧ True) := Lib.hid hrel
                  refine ⟨fun _ => HSS.out _ HBu.out.1, ?_⟩
                  simp only [List.setIfInBounds_toArray, List.set_cons_zero, List.set_cons_succ]
                  have q := sp_2_3 _ bt a3 n3 c3 HBu (Lib.hid (⟨(hb _ HF2.out.1.lt (by have := HF2.out.2; have := HgT.out; omega)).trans HF2.out.1, HF2.out.2⟩)) (Lib.hid hf)
                  rw [HH.out, HT.out] at q
                  simp only [List.setIfInBounds_toArray, List.set_cons_zero, List.set_cons_succ] at q ⊢
                  exact q
                · have hrel : Kept (fun j => j = gT) V (u.alloc (.cells #[.int .i64 x] 3)) ∧ (u.alloc (.cells #[.int .i64 x] 3)).ownsRow lo 3 1 (.slice (some ⟨gT, 0, none⟩) TL.length cT) TL.length (TL.flatMap inC) := ⟨HBu.out.1.alloc _, HBu.out.2.alloc _⟩
                  have hb : ∀ j, j < u.heap.size → j ≠ gT → (u.alloc (.cells #[.int .i64 x] 3)).heap[j]? = u.heap[j]? := fun j hj _ => Below.heap_alloc _ _ _ hj
                  have hf : Blk (u.alloc (.cells #[.int .i64 x] 3)) u.heap.size #[.int .i64 x] 3 (0, 0) ∧ V.heap.size ≤ u.heap.size := ⟨Blk.new _ _ _ _, HBu.out.1.size⟩
                  refine wpOpIn_value (v := .slice (some ⟨u.heap.size, 0, none⟩) 1 1) (w' := (u.alloc (.cells #[.int .i64 x] 3))) rfl rfl rfl (by rfl) (by rfl) (by go_simp) ?_
                  have HBu0 := HBu
                  have HBu : Hid (Kept (fun j => j = gT) V (u.alloc (.cells #[.int .i64 x] 3)) ∧ (u.alloc (.cells #[.int .i64 x] 3)).ownsRow lo 3 1 (.slice (some ⟨gT, 0, none⟩) TL.length cT) TL.length (TL.flatMap inC)) := Lib.hid hrel
                  refine ⟨fun _ => HSS.out _ HBu.out.1, ?_⟩
                  simp only [List.setIfInBounds_toArray, List.set_cons_zero, List.set_cons_succ]
                  have q := sp_2_9 _ bt u.heap.size HBu (Lib.hid (⟨(hb _ HF2.out.1.lt (by have := HF2.out.2; have := HgT.out; omega)).trans HF2.out.1, HF2.out.2⟩)) (Lib.hid hf)
                  rw [HH.out, HT.out] at q
                  simp only [List.setIfInBounds_toArray, List.set_cons_zero, List.set_cons_succ] at q ⊢
                  exact q
              have sp_ : ∀ (u : World), Hid (Kept (fun j => j = gT) V u ∧ u.ownsRow lo 3 1 (.slice (some ⟨gT, 0, none⟩) TL.length cT) TL.length (TL.flatMap inC)) → H 6 #[true, true, false, false, true, true, true, true, true, false, false, false, false] { tmps := T, defers := [] } u := by
                clear HBu
                intro u HBu
                rw [HH.out, HT.out]
                refine heldD_two (i := 2) (k := 9) (by kernel_rfl) ?_ ?_
                · have hrel : Kept (fun j => j = gT) V (u.alloc (.cells #[.int .i64 v] 3)) ∧ (u.alloc (.cells #[.int .i64 v] 3)).ownsRow lo 3 1 (.slice (some ⟨gT, 0, none⟩) TL.length cT) TL.length (TL.flatMap inC) := ⟨HBu.out.1.alloc _, HBu.out.2.alloc _⟩
                  have hb : ∀ j, j < u.heap.size → j ≠ gT → (u.alloc (.cells #[.int .i64 v] 3)).heap[j]? = u.heap[j]? := fun j hj _ => Below.heap_alloc _ _ _ hj
                  have hf : Blk (u.alloc (.cells #[.int .i64 v] 3)) u.heap.size #[.int .i64 v] 3 (0, 0) ∧ V.heap.size ≤ u.heap.size := ⟨Blk.new _ _ _ _, HBu.out.1.size⟩
                  refine wpOpIn_value (v := .slice (some ⟨u.heap.size, 0, none⟩) 1 1) (w' := (u.alloc (.cells #[.int .i64 v] 3))) rfl rfl rfl (by rfl) (by rfl) (by go_simp) ?_
                  have HBu0 := HBu
                  have HBu : Hid (Kept (fun j => j = gT) V (u.alloc (.cells #[.int .i64 v] 3)) ∧ (u.alloc (.cells #[.int .i64 v] 3)).ownsRow lo 3 1 (.slice (some ⟨gT, 0, none⟩) TL.length cT) TL.length (TL.flatMap inC)) := Lib.hid hrel
                  refine ⟨fun _ => HSS.out _ HBu.out.1, ?_⟩
                  simp only [List.setIfInBounds_toArray, List.set_cons_zero, List.set_cons_succ]
                  have q := sp_2 _ u.heap.size HBu (Lib.hid hf)
                  rw [HH.out, HT.out] at q
                  simp only [List.setIfInBounds_toArray, List.set_cons_zero, List.set_cons_succ] at q ⊢
                  exact q
                · have hrel : Kept (fun j => j = gT) V (u.alloc (.cells #[.int .i64 x] 3)) ∧ (u.alloc (.cells #[.int .i64 x] 3)).ownsRow lo 3 1 (.slice (some ⟨gT, 0, none⟩) TL.length cT) TL.length (TL.flatMap inC) := ⟨HBu.out.1.alloc _, HBu.out.2.alloc _⟩
                  have hb : ∀ j, j < u.heap.size → j ≠ gT → (u.alloc (.cells #[.int .i64 x] 3)).heap[j]? = u.heap[j]? := fun j hj _ => Below.heap_alloc _ _ _ hj
                  have hf : Blk (u.alloc (.cells #[.int .i64 x] 3)) u.heap.size #[.int .i64 x] 3 (0, 0) ∧ V.heap.size ≤ u.heap.size := ⟨Blk.new _ _ _ _, HBu.out.1.size⟩
                  refine wpOpIn_value (v := .slice (some ⟨u.heap.size, 0, none⟩) 1 1) (w' := (u.alloc (.cells #[.int .i64 x] 3))) rfl rfl rfl (by rfl) (by rfl) (by go_simp) ?_
                  have HBu0 := HBu
                  have HBu : Hid (Kept (fun j => j = gT) V (u.alloc (.cells #[.int .i64 x] 3)) ∧ (u.alloc (.cells #[.int .i64 x] 3)).ownsRow lo 3 1 (.slice (some ⟨gT, 0, none⟩) TL.length cT) TL.length (TL.flatMap inC)) := Lib.hid hrel
                  refine ⟨fun _ => HSS.out _ HBu.out.1, ?_⟩
                  simp only [List.setIfInBounds_toArray, List.set_cons_zero, List.set_cons_succ]
                  have q := sp_9 _ u.heap.size HBu (Lib.hid hf)
                  rw [HH.out, HT.out] at q
                  simp only [List.setIfInBounds_toArray, List.set_cons_zero, List.set_cons_succ] at q ⊢
                  exact q
              exact sp_ wk0 HBu
            clear HBu
            intro u bt a3 n3 c3 bo HBu HF2 HF3 HF9
            rw [HH.out, HT.out]
            simp only [List.setIfInBounds_toArray, List.set_cons_zero, List.set_cons_succ]
            clear HH HT
            have hrowO : u.ownsRow lo 3 1 (Value.slice aO OL.length cO) OL.length (OL.flatMap inC) := ownsRow_agree' HOut.out (fun j hj => HBu.out.1.block j (by obtain ⟨_, _, hq⟩ := ownsRow_blk' HOut.out hj; exact hq.lt) (HAp.out j hj))
            obtain ⟨a4, n4, c4, w5, hr, ho, hg, hat⟩ := push_intG lo (Value.slice aO OL.length cO) OL x u bo hrowO HF9.out.1 HOl.out (by have := HBu.out.1.size; have := HLo1.out; omega)
            have hgb : ∀ j, j < u.heap.size → (Value.slice aO OL.length cO).ownBlock ≠ some j → w5.heap[j]? = u.heap[j]? := fun j hj hn => hg.block j hj (fun e => hn e.symm)
            have hOl : ∀ j, (Value.slice aO OL.length cO).ownBlock = some j → j < V.heap.size ∧ lo ≤ j := fun j hj => by obtain ⟨h1, _, hq⟩ := ownsRow_blk' HOut.out hj; exact ⟨hq.lt, h1⟩
            have hap2 : ∀ j, (Value.slice a3 n3 c3).ownBlock = some j → (Value.slice aO OL.length cO).ownBlock ≠ some j := fun j hj e => by
              have h1 := HAp.out j e; have h2 := (hOl j e).1
              rcases HF3.out.2 j hj with h | h <;> omega
            have hkb : Kept (fun j => j = gT ∨ (Value.slice aO OL.length cO).ownBlock = some j) V w5 :=
              ⟨hg.os.trans HBu.out.1.os, hg.tape.trans HBu.out.1.tape, hg.output.trans HBu.out.1.output, Nat.le_trans HBu.out.1.size hg.size, fun j hj hn => (hgb j (Nat.lt_of_lt_of_le hj HBu.out.1.size) (fun e => hn (.inr e))).trans (HBu.out.1.block j hj (fun e => hn (.inl e)))⟩
            have hbel : Below lo w2 w5 := HbV.out.trans (hkb.below HLo1.out (fun j e => by
              rcases e with e | e
              · have := HgT2.out; omega
              · exact (hOl j e).2))
            have hSw : w5.cell? ⟨ba, oa + k, none⟩ = some (.int .i64 x) := HcA.out w5 ((HBw.out.trans (HbV.out.mono HLw.out)).trans (hkb.below (by have := HLo1.out; have := HLw.out; omega) (fun j e => by
              rcases e with e | e
              · have := HgT2.out; have := HLw.out; omega
              · have := (hOl j e).2; have := HLw.out; omega)))
            have hIn : BareI w2 w5 bm (.slice a3 n3 c3) (.slice a4 n4 c4) (TL ++ [v]) (OL ++ [x]) (nn + 1) (D.put (kOf v) (.lit (.int .i64 TL.length))) := by
              have hlo := HLo.out.1
              refine ⟨by rw [← hlo]; exact hbel, by rw [← hlo]; exact ownsRow_agree' HF3.out.1 (fun j hj => by obtain ⟨_, _, hq⟩ := ownsRow_blk' HF3.out.1 hj; exact hgb j hq.lt (hap2 j hj)), by rw [← hlo]; exact ho, fun j hj e => ?_, ownsMap_agree HV.out.1 (hkb.block bm HBm.out (fun e => ?_)), HI.out.place.put HI.out.map.isMap hvT⟩
              · rcases hat with h | h
                · exact hap2 j hj (h ▸ e)
                · obtain ⟨_, _, hq⟩ := ownsRow_blk' HF3.out.1 hj
                  have := hq.lt
                  rw [h] at e
                  simp at e
                  omega
              · rcases e with e | e
                · exact HNe.out.1 e.symm
                · exact HNe.out.2 bm e rfl
            have HR := Lib.hid hr; have HSw := Lib.hid hSw; have HIn := Lib.hid hIn
            clear hrowO hr ho hg hat hgb hOl hap2 hkb hbel hSw hIn
            refine heldD_one (i := 10) (by kernel_rfl) ?_
            refine wpOpIn_append rfl rfl rfl (by rfl) _ _ _ _ rfl HR.out ?_
            refine ⟨fun _ => HSw.out, ?_⟩
            simp only [List.setIfInBounds_toArray, List.set_cons_zero, List.set_cons_succ]
            refine heldD_one (i := 11) (by kernel_rfl) ?_
            refine wpOpIn_value (v := .slice a3 n3 c3) (w' := w5) rfl rfl rfl (by rfl) (by rfl) (by go_simp) ?_
            refine ⟨fun _ => HSw.out, ?_⟩
            simp only [List.setIfInBounds_toArray, List.set_cons_zero, List.set_cons_succ]
            refine heldD_one (i := 12) (by kernel_rfl) ?_
            refine wpOpIn_value (v := .slice a4 n4 c4) (w' := w5) rfl rfl rfl (by rfl) (by rfl) (by go_simp) ?_
            refine ⟨fun h => (by cases h), ?_⟩
            simp only [List.setIfInBounds_toArray, List.set_cons_zero, List.set_cons_succ]
            refine heldD_done (by kernel_rfl) ?_ _
            clear HBu HF2 HF3 HF9
            go_wp2_with fail
            go_roundw
            case rel => exact ⟨k + 1, nn + 1, _, _, _, rfl, rfl, by omega, by omega, by go_num, by rw [HSt.out]; exact HIn⟩
            case measure => simp [intOf]; omega
        · obtain rfl : k = l.length := by omega
          go_wp2_with fail
          go_ret2
          have hB := HI.out
          rw [bareK_end s HLl.out] at hB
          exact ⟨_, rfl, ownsRow_le hB.out HBw.out.size, HBw.out.trans (hB.below.mono HBw.out.size)⟩
end Go.Proofs.YtlddcnkiigamjaaDoor
