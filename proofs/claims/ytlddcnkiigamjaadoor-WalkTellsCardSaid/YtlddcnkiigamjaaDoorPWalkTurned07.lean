/- Texts of the law WalkTurned, merged: WalkNodes, WalkBareP, GridP, GridShape, GridIt, GridParts, HeldAny, HeldC, HeldE. -/
import Derived.Test.YtlddcnkiigamjaaDoorPWalkTurned06
import Derived.Test.YtlddcnkiigamjaaDoorPWalkTurned03
import Derived.Maps.OwnIn
import Derived.Maps.OwnSet
import Derived.Maps.Views
import Derived.Test.YtlddcnkiigamjaaDoorPWalkTurned00
import Derived.RangeFuncBox
import Derived.RangeFuncLeaves
import Derived.Shelf.Abstract
import Derived.OwnWalkIn
import Derived.TacticsInMore
import Derived.LoopNIn
import Derived.LoopIn
import Derived.Maps.AppendAt
import Derived.OrdersHeld
import Derived.Deep.RegionHeld
import Derived.Test.YtlddcnkiigamjaaDoorPWalkTurned02
/- walk.Nodes. -/
namespace Go.Proofs.YtlddcnkiigamjaaDoor
open Go.RowKit Go.Shelf
attribute [local go_sem] Oper.semAt_some
set_option maxHeartbeats 1000000 in
theorem node_any (p : Nat) (g : Raw) (v : Int) (w : World) (h : NetAt w p g) : Calls Tryd.prog 36 #[.pointer (some ⟨p, 0, none⟩), .int .i64 v] w fun e w' => e = .returned (.bool (decide (0 ≤ v ∧ v < g.nodes))) ∧ w' = w := by
  by_cases h0 : 0 ≤ v
  · have e : decide (0 ≤ v ∧ v < g.nodes) = decide (v < g.nodes) := by rw [Bool.eq_iff_iff]; simp [h0]
    rw [e]
    have HN := Lib.hid (nodes_any p g w h)
    clear h e
    have h0b : decide (0 ≤ v) = true := decide_eq_true h0
    go_enter Tryd.func36, Tryd.ntmps36
    go_wp2_with fail
    refine HN.out.mono ?_
    rintro e w' ⟨rfl, rfl⟩
    go_wp2_with fail
    go_ret
    exact ⟨rfl, rfl⟩
  · have e : decide (0 ≤ v ∧ v < g.nodes) = false := decide_eq_false (fun hh => h0 hh.1)
    rw [e]
    have h0b : decide (0 ≤ v) = false := decide_eq_false h0
    go_enter Tryd.func36, Tryd.ntmps36
    go_wp2_with fail
    go_ret
    exact ⟨rfl, rfl⟩
set_option maxHeartbeats 1000000 in
theorem node_nil (v : Int) (w : World) : Calls Tryd.prog 36 #[.pointer none, .int .i64 v] w fun e w' => e = .returned (.bool false) ∧ w' = w := by
  by_cases h0 : 0 ≤ v
  · have h0b : decide (0 ≤ v) = true := decide_eq_true h0
    have h1 : decide (v < 0) = false := decide_eq_false (by omega)
    have h2 : ¬ v < 0 := by omega
    go_enter Tryd.func36, Tryd.ntmps36
    go_wp2_with fail
    refine (nodes_nil w).mono ?_
    rintro e w' ⟨rfl, rfl⟩
    go_wp2_with fail
    go_ret
    exact ⟨rfl, rfl⟩
  · have h0b : decide (0 ≤ v) = false := decide_eq_false h0
    go_enter Tryd.func36, Tryd.ntmps36
    go_wp2_with fail
    go_ret
    exact ⟨rfl, rfl⟩
def rowN (s : Int) (pre : List (Ar × Bool)) : List Int := s :: pre.map fun x => x.1.2.1
theorem rowN_snoc (s : Int) (pre : List (Ar × Bool)) (x : Ar × Bool) : rowN s (pre ++ [x]) = rowN s pre ++ [x.1.2.1] := by unfold rowN; rw [List.map_append]; rfl
theorem rowN_len (s : Int) (pre : List (Ar × Bool)) : (rowN s pre).length = pre.length + 1 := by unfold rowN; simp
def okA (pre : List (Ar × Bool)) : Bool := pre.all (·.2)
theorem okA_snoc (pre : List (Ar × Bool)) (x : Ar × Bool) : okA (pre ++ [x]) = (okA pre && x.2) := by unfold okA; rw [List.all_append]; simp
theorem okA_pre {pre L : List (Ar × Bool)} (h : pre <+: L) (hf : okA pre = false) : okA L = false := by
  obtain ⟨r, rfl⟩ := h
  unfold okA at hf ⊢
  rw [List.all_append, hf]; rfl
theorem blk_ne {W : World} {i j : Nat} {cs ds : Array Value} {t s : TypeId} {f g : Nat × Nat} (h : Blk W i cs t f) (k : Blk W j ds s g) (hn : t ≠ s) : i ≠ j := fun e => by
  subst e
  have := (show _ = _ from h).symm.trans (show _ = _ from k)
  simp at this
  exact hn this.2.1
theorem nodesV_steps (g : Raw) (s : Int) (L : List Int) (h : 0 ≤ s ∧ s < g.nodes) : nodesV g s L = if okA (stepsV g s L) then some (rowN s (stepsV g s L)) else none := by
  unfold nodesV rowN
  rw [if_pos h, steps_wk]
  unfold okA
  split <;> rfl
/-- what the caller of Nodes holds between two rounds -/
structure NI (w W : World) (lo Ba Bn Bs B6 B7 B8 : Nat) (v : Value) (R : List Int) : Prop where
  box : Boxed W B8 35 v
  row : W.ownsRow lo 3 1 v R.length (R.flatMap inC)
  off : ∀ gg, v.ownBlock = some gg → gg ≠ Bs ∧ gg ≠ Ba ∧ gg ≠ Bn
  six : Blk W B6 #[.slice none 0 0] 35 (0, 0)
  sev : Blk W B7 #[.bool false] 4 (0, 0)
  below : Below lo w W
theorem NI.keep {w W W' : World} {lo Ba Bn Bs B6 B7 B8 : Nat} {v : Value} {R : List Int} (h : NI w W lo Ba Bn Bs B6 B7 B8 v R) (hk : ∀ k cs t fr, Blk W k cs t fr → k ≠ Bs → W'.heap[k]? = W.heap[k]?) (hne : B6 ≠ Bs ∧ B7 ≠ Bs ∧ B8 ≠ Bs) (hb : Below lo W W') : NI w W' lo Ba Bn Bs B6 B7 B8 v R :=
  ⟨(hk B8 _ _ _ h.box hne.2.2).trans h.box, ownsRow_agree' h.row (fun k hk' => by obtain ⟨_, _, hq⟩ := ownsRow_blk' h.row hk'; exact hk k _ _ _ hq (h.off k hk').1), h.off, (hk B6 _ _ _ h.six hne.1).trans h.six, (hk B7 _ _ _ h.sev hne.2.1).trans h.sev, h.below.trans hb⟩
theorem NI.st {w W W' : World} {lo Ba Bn Bs B6 B7 B8 : Nat} {v : Value} {R : List Int} (h : NI w W lo Ba Bn Bs B6 B7 B8 v R) (hk : Kept (fun k => k = Bs) W W') (hne : B6 ≠ Bs ∧ B7 ≠ Bs ∧ B8 ≠ Bs) (hlo : lo ≤ Bs) (hBs : lo ≤ w.heap.size) : NI w W' lo Ba Bn Bs B6 B7 B8 v R :=
  h.keep (fun k cs t fr hb hn => hk.block k hb.lt hn) hne (hk.below (Nat.le_trans hBs h.below.size) (fun k e => by omega))
theorem NI.put {w W : World} {lo Ba Bn Bs B6 B7 B8 l : Nat} {v : Value} {R : List Int} {o o' : Obj} (h : NI w W lo Ba Bn Bs B6 B7 B8 v R) (hne : B6 ≠ Bs ∧ B7 ≠ Bs ∧ B8 ≠ Bs) (hl : lo ≤ l) (ho : W.heap[l]? = some o) (hc : o.isCells = false) : NI w (W.putObj l o') lo Ba Bn Bs B6 B7 B8 v R :=
  h.keep (fun k cs t fr hb _ => World.putObj_heap_other (fun e => by
    subst e
    rw [show W.heap[k]? = _ from hb] at ho
    obtain rfl := Option.some.inj ho
    cases hc)) hne (below_put (Below.refl _ _) hl)
theorem nodes_nilW (m : Nat) (s : Int) (va : Value) (w : World) : CallsIn Fence.wide m Tryd.prog 23 #[.pointer none, .int .i64 s, va] w fun e w' => e = .returned (.tuple #[.slice none 0 0, .bool false]) ∧ Below w.heap.size w w' := by
  refine callsIn_wide.2 ?_
  go_enter Tryd.func23, Tryd.ntmps23
  go_wp2_with fail
  refine (node_nil s _).mono ?_
  rintro e w' ⟨rfl, rfl⟩
  go_wp2_with fail
  exact bodyPost_ret (v := .tuple #[.slice none 0 0, .bool false]) (by simp [results, Tryd.results23, go_sem]) rfl ⟨rfl, ((Below.refl _ _).alloc (Nat.le_refl _) _).alloc (by simp) _⟩
set_option maxRecDepth 100000 in
set_option maxHeartbeats 8000000 in
theorem wnodes_in (m : Nat) (hm : 4 ≤ m) (p : Nat) (g : Raw) (s : Int) (va : Value) (L : List Int) (hL : L.length ≤ 100000) (w : World) (hn : NetAt w p g) (ha : SlX w va L) :
    CallsIn Fence.wide m Tryd.prog 23 #[.pointer (some ⟨p, 0, none⟩), .int .i64 s, va] w fun e w' => ∃ v, e = .returned (.tuple #[v, .bool (nodesV g s L).isSome]) ∧ w'.ownsRow w.heap.size 3 1 v ((nodesV g s L).getD []).length (((nodesV g s L).getD []).flatMap inC) ∧ Below w.heap.size w w' := by
  have h1 : 1 ≤ m := by omega
  obtain ⟨a, cap, rfl, _⟩ := id ha
  obtain ⟨i0, hi, hz0, hz1, hz2⟩ := info_parts infoInt
  have HI := Lib.hid (And.intro hi (And.intro hz0 (And.intro hz1 hz2)))
  have HA := Lib.hid ha; have HN := Lib.hid hn
  clear ha hn hi hz0 hz1 hz2
  obtain ⟨b0, hb0⟩ : ∃ b, b = decide (0 ≤ s ∧ s < g.nodes) := ⟨_, rfl⟩
  have HCn := Lib.hid (fun u (hu : Below w.heap.size w u) => node_any p g s u (HN.out.keep (KpC.of_below hu)))
  rw [← hb0] at HCn
  have Hb0 := Lib.hid hb0
  clear hb0
  refine callsIn_of_wp_marks Tryd.func23 rfl trivial ?_ rfl
  simp only [Tryd.ntmps23, List.size_toArray, List.length_cons, List.length_nil, Nat.reduceAdd, Nat.reduceSub, Array.replicate_succ, Array.replicate_zero, List.push_toArray, List.append_toArray, List.nil_append, List.cons_append]
  have hb2 : Below w.heap.size w ((w.alloc (.cells #[.slice none 0 0] 35)).alloc (.cells #[.bool false] 4)) := ((Below.refl _ _).alloc (Nat.le_refl _) _).alloc (by simp) _
  have HB2 := Lib.hid hb2
  clear hb2
  cases b0 with
  | false =>
    have hno : nodesV g s L = none := by unfold nodesV; rw [if_neg (of_decide_eq_false Hb0.out.symm)]
    have HNo := Lib.hid hno
    clear hno
    gi_wp2_with (refine ⟨trivial, ?_⟩; gi_at_call 36; refine (callsIn_wide.2 (HCn.out _ HB2.out)).mono ?_; rintro e w' ⟨rfl, rfl⟩)
    refine leaves_marks (by simp) _ _ trivial HB2.out fun w' hk' hb' => ?_
    have k6 : Blk w' w.heap.size #[.slice none 0 0] 35 (0, 0) := hk'.blk ((Blk.new _ _ _ _).alloc _)
    have k7 : Blk w' (w.heap.size + 1) #[.bool false] 4 (0, 0) := hk'.blk (by have h := Blk.new (w.alloc (.cells #[.slice none 0 0] 35)) #[.bool false] 4 (0, 0); rwa [World.size_alloc] at h)
    have c6 := k6.cell 0; have c7 := k7.cell 0
    simp only [List.getElem?_toArray, List.getElem?_cons_zero] at c6 c7
    refine ⟨.tuple #[.slice none 0 0, .bool false], by simp [results, Tryd.results23, c6, c7, go_sem], .slice none 0 0, by rw [HNo.out]; rfl, by rw [HNo.out]; exact World.ownsRow_nil _ _ _ _, hb'⟩
  | true =>
    have hs := of_decide_eq_true Hb0.out.symm
    have hst := nodesV_steps g s L hs
    have HSt := Lib.hid hst
    clear hst
    obtain ⟨z, hz⟩ : ∃ b, b = w.heap.size := ⟨_, rfl⟩
    obtain ⟨wA, hwA⟩ : ∃ u, u = (((w.alloc (.cells #[.slice none 0 0] 35)).alloc (.cells #[.bool false] 4)).alloc (.cells #[.int .i64 s] 3)).alloc (.cells #[.slice (some ⟨w.heap.size + 1 + 1, 0, none⟩) 1 1] 35) := ⟨_, rfl⟩
    have hbA : Below w.heap.size w wA := by rw [hwA]; exact ((((Below.refl _ _).alloc (Nat.le_refl _) _).alloc (by simp) _).alloc (by simp; omega) _).alloc (by simp; omega) _
    have hzA : wA.heap.size = z + 4 := by rw [hwA, hz]; simp
    have k6 : Blk wA z #[.slice none 0 0] 35 (0, 0) := by rw [hwA, hz]; exact (((Blk.new _ _ _ _).alloc _).alloc _).alloc _
    have k7 : Blk wA (z + 1) #[.bool false] 4 (0, 0) := by
      rw [hwA, hz]
      have h := Blk.new (w.alloc (.cells #[.slice none 0 0] 35)) #[.bool false] 4 (0, 0)
      rw [World.size_alloc] at h
      exact (h.alloc _).alloc _
    have kl : Blk wA (z + 2) #[.int .i64 s] 3 (0, 0) := by
      rw [hwA, hz]
      have h := Blk.new ((w.alloc (.cells #[.slice none 0 0] 35)).alloc (.cells #[.bool false] 4)) #[.int .i64 s] 3 (0, 0)
      rw [World.size_alloc, World.size_alloc] at h
      exact h.alloc _
    have k8 : Blk wA (z + 3) #[.slice (some ⟨z + 2, 0, none⟩) 1 1] 35 (0, 0) := by
      rw [hwA, hz]
      have h := Blk.new (((w.alloc (.cells #[.slice none 0 0] 35)).alloc (.cells #[.bool false] 4)).alloc (.cells #[.int .i64 s] 3)) #[.slice (some ⟨w.heap.size + 1 + 1, 0, none⟩) 1 1] 35 (0, 0)
      rw [World.size_alloc, World.size_alloc, World.size_alloc] at h
      exact h
    have HWA := Lib.hid hwA; have HBA := Lib.hid hbA; have HZA := Lib.hid hzA; have HKA := Lib.hid (And.intro k6 (And.intro k7 (And.intro kl k8))); have HZ := Lib.hid hz
    clear hwA hbA hzA k6 k7 kl k8
    gi_wp2_with (refine ⟨trivial, ?_⟩; gi_at_call 36; refine (callsIn_wide.2 (HCn.out _ HB2.out)).mono ?_; rintro e w' ⟨rfl, rfl⟩)
    rw [← HWA.out, ← HZ.out]
    clear hz
    refine ⟨trivial, ?_⟩
    refine (steps_in (m - 1) (some ⟨p, 0, none⟩) s _ rfl wA).mono ?_
    rintro e W0 ⟨rfl, hW0⟩
    rw [HZA.out]
    have hz0 : W0.heap.size = z + 7 := by rw [hW0]; simp [HZA.out]
    have hb0 : Below wA.heap.size wA W0 := by rw [hW0]; exact (((Below.refl _ _).alloc (Nat.le_refl _) _).alloc (by simp) _).alloc (by simp; omega) _
    have kn : Blk W0 (z + 4) #[.pointer (some ⟨p, 0, none⟩)] 28 (0, 0) := by rw [hW0, ← HZA.out]; exact ((Blk.new _ _ _ _).alloc _).alloc _
    have ks : Blk W0 (z + 4 + 1) #[.int .i64 s] 3 (0, 0) := by
      rw [hW0, ← HZA.out]
      have h := Blk.new (wA.alloc (.cells #[.pointer (some ⟨p, 0, none⟩)] 28)) #[.int .i64 s] 3 (0, 0)
      rw [World.size_alloc] at h
      exact h.alloc _
    have ka : Blk W0 (z + 4 + 1 + 1) #[.slice a L.length cap] 35 (0, 0) := by
      rw [hW0, ← HZA.out]
      have h := Blk.new ((wA.alloc (.cells #[.pointer (some ⟨p, 0, none⟩)] 28)).alloc (.cells #[.int .i64 s] 3)) #[.slice a L.length cap] 35 (0, 0)
      rw [World.size_alloc, World.size_alloc] at h
      exact h
    have hbw : Below w.heap.size w W0 := HBA.out.next' hb0
    rw [← HZ.out] at hbw
    have k6 := HKA.out.1.below hb0 HKA.out.1.lt
    have k7 := HKA.out.2.1.below hb0 HKA.out.2.1.lt
    have kl := HKA.out.2.2.1.below hb0 HKA.out.2.2.1.lt
    have k8 := HKA.out.2.2.2.below hb0 HKA.out.2.2.2.lt
    have hNI : NI w W0 z (z + 4 + 1 + 1) (z + 4) (z + 4 + 1) z (z + 1) (z + 1 + 1 + 1) (.slice (some ⟨z + 1 + 1, 0, none⟩) 1 1) (rowN s []) := ⟨k8, ⟨rfl, .inr ⟨z + 1 + 1, 1, #[.int .i64 s], rfl, by omega, kl, Nat.le_refl _, by unfold maxLen; omega, rfl, rfl⟩⟩, fun gg hg => by (have : z + 1 + 1 = gg := by simpa [Value.ownBlock] using hg); omega, k6, k7, hbw⟩
    have hne : z ≠ z + 4 + 1 ∧ z + 1 ≠ z + 4 + 1 ∧ z + 1 + 1 + 1 ≠ z + 4 + 1 := ⟨by omega, by omega, by omega⟩
    have hkp : ∀ u, Below z w u → NetAt u p g := fun u hu => HN.out.keep (KpC.of_below (by rw [HZ.out] at hu; exact hu))
    have hka : ∀ u, Below z w u → SlX u (.slice a L.length cap) L := fun u hu => HA.out.keep (KpC.of_below (by rw [HZ.out] at hu; exact hu))
    have HW0 := Lib.hid (And.intro hz0 (And.intro hbw (And.intro hkp hka)))
    have HK0 := Lib.hid (And.intro kn (And.intro ks (And.intro ka hNI)))
    clear hW0 hb0 kn ks ka k6 k7 kl k8 hNI hz0 hbw hkp hka HKA HWA HBA HZA
    gi_wp2_with fail
    have hz0 := HW0.out.1
    refine wpIn_rangeSt (F := Fence.wide) rfl h1 (gf := 53) (lb := #[.pointer (some ⟨z + 4 + 1 + 1, 0, none⟩), .pointer (some ⟨z + 4, 0, none⟩), .pointer (some ⟨z + 4 + 1, 0, none⟩)]) rfl trivial (enters_of Tryd.func53 (by kernel_rfl) rfl)
      encS (fun _ => rfl) (fun A B => Kept (fun k => k = z + 4 + 1) A B) (KpW z (z + 4 + 1 + 1) (z + 4) (z + 4 + 1)) (fun ys => ys = stepsV g s L) (fun pre => pre <+: stepsV g s L) L.length
      (fun l J Jx W hb hJ _ hY h0 => by
        have hbz : Below z w W := HW0.out.2.1.trans (hb.mono (by omega))
        exact steps1_in (m - 1) (by omega) l (z + 4 + 1 + 1) (z + 4) (z + 4 + 1) z w p g _ L s HW0.out.2.2.1 HW0.out.2.2.2 ⟨by omega, by omega, by omega⟩ ⟨by omega, by omega⟩ J Jx hJ hY W hbz (by have := hb.size; omega) (HK0.out.2.2.1.below hb HK0.out.2.2.1.lt) (HK0.out.1.below hb HK0.out.1.lt) (HK0.out.2.1.below hb HK0.out.2.1.lt) h0)
      (fun A B k o h hk ho hc => (h.block k (Array.getElem?_eq_some_iff.1 ho).1 (by omega)).trans ho)
      (fun pre W => (∃ v, NI w W z (z + 4 + 1 + 1) (z + 4) (z + 4 + 1) z (z + 1) (z + 1 + 1 + 1) v (rowN s pre)) ∧ pre.length ≤ L.length ∧ okA pre = true ∧ W0.heap.size ≤ W.heap.size)
      (fun s A B h hst => by obtain ⟨⟨v, h⟩, h2, h3, h4⟩ := h; exact ⟨⟨v, h.st hst hne (by omega) (by have := HZ.out; omega)⟩, h2, h3, Nat.le_trans h4 hst.size⟩)
      (fun s A l o o' h hl ho hc => by obtain ⟨⟨v, h⟩, h2⟩ := h; exact ⟨⟨v, h.put hne (by omega) ho hc⟩, by simpa using h2⟩)
      (fun s A o h => by obtain ⟨⟨v, h⟩, h2⟩ := h; exact ⟨⟨v, h.keep (fun k cs t fr hb _ => Below.heap_alloc _ _ _ hb.lt) hne ((Below.refl _ _).alloc (by have := h.below.size; have := HZ.out; omega) _)⟩, h2.1, h2.2.1, by simp; omega⟩)
      (fun c pre W => c = .ret ∧ okA pre = false ∧ Blk W z #[.slice none 0 0] 35 (0, 0) ∧ Blk W (z + 1) #[.bool false] 4 (0, 0) ∧ Below z w W)
      (fun c s A B h hst => ⟨h.1, h.2.1, hst.blk h.2.2.1 (by omega), hst.blk h.2.2.2.1 (by omega), h.2.2.2.2.trans (hst.below (by have := h.2.2.2.2.size; have := HZ.out; omega) (fun k e => by omega))⟩)
      (fun c s A l o o' h hl ho hc => ⟨h.1, h.2.1, (KpC.put ho hc).blk h.2.2.1, (KpC.put ho hc).blk h.2.2.2.1, below_put h.2.2.2.2 (by omega)⟩)
      KpW.trans (fun W l o o' hl h h1 => KpW.put (w := W0) (by omega) ⟨by omega, by omega, by omega⟩ W l o o' hl h h1)
      ⟨⟨_, HK0.out.2.2.2⟩, Nat.zero_le _, rfl, Nat.le_refl _⟩
      (fun pre x a1 W => ∃ Bx, a1 = { tmps := #[.pointer (some ⟨p, 0, none⟩), .int .i64 s, .slice a L.length cap, undef, undef, undef, .pointer (some ⟨z, 0, none⟩), .pointer (some ⟨z + 1, 0, none⟩), .pointer (some ⟨z + 1 + 1 + 1, 0, none⟩), .pointer (some ⟨Bx, 0, none⟩), .bool x.2, .pointer (some ⟨p, 0, none⟩), .int .i64 s, .bool true, .bool false, .int .i64 s, .slice (some ⟨z + 1 + 1, 0, none⟩) 1 1, .pointer (some ⟨p, 0, none⟩), .int .i64 s, .slice a L.length cap, .func (.func 53) #[] #[.pointer (some ⟨z + 4 + 1 + 1, 0, none⟩), .pointer (some ⟨z + 4, 0, none⟩), .pointer (some ⟨z + 4 + 1, 0, none⟩)], arV x.1, .bool x.2, undef, undef, undef, undef, undef, undef, undef, undef], defers := [] } ∧ Blk W Bx #[.int .i64 x.1.1, .int .i64 x.1.2.1, .int .i64 x.1.2.2] 58 (0, 0) ∧ (∃ v, NI w W z (z + 4 + 1 + 1) (z + 4) (z + 4 + 1) z (z + 1) (z + 1 + 1 + 1) v (rowN s pre)) ∧ pre.length < L.length ∧ okA pre = true ∧ W0.heap.size ≤ W.heap.size)
      (fun pre x a1 W l o o' h hl ho hc => by obtain ⟨Bx, e, h1, ⟨v, h2⟩, h3⟩ := h; exact ⟨Bx, e, (KpC.put ho hc).blk h1, ⟨v, h2.put hne (by omega) ho hc⟩, by simpa using h3⟩)
      ?assign ?body ?done ?stop
    case assign =>
      intro l pre x W K hI hlt hK
      obtain ⟨⟨x0, x1, x2⟩, q⟩ := x
      dsimp only [encS, arV]
      gi_wp2_with fail
      have hb4 : Below W.heap.size W (W.alloc (.cells #[.int .i64 x0, .int .i64 x1, .int .i64 x2] 58)) := (Below.refl _ _).alloc (Nat.le_refl _) _
      obtain ⟨⟨v, h1⟩, h2, h3, h4⟩ := hI
      exact hK _ _ ⟨W.heap.size, rfl, Blk.new _ _ _ _, ⟨v, h1.keep (fun k cs t fr hb _ => Below.heap_alloc _ _ _ hb.lt) hne ((Below.refl _ _).alloc (by omega) _)⟩, hlt, h3, by simp; omega⟩ ((KeepsOthers.alloc _ _).from _) (KpW.of_below hb4 (by omega) ⟨by omega, by omega, by omega⟩)
    case body =>
      rintro l' pre ⟨⟨x0, x1, x2⟩, q⟩ a1 W ⟨Bx, rfl, kx, ⟨v, hN⟩, hlt, hall, hszW⟩ hlt'
      dsimp only
      cases q with
      | false =>
        have c6 := hN.six.free 0 (Or.inr (Nat.zero_le _)); have c7 := hN.sev.free 0 (Or.inr (Nat.zero_le _))
        have d6 := hN.six.cell 0; have d7 := hN.sev.cell 0
        simp only [List.getElem?_toArray, List.getElem?_cons_zero] at d6 d7
        gi_wp2_with fail
        exact ⟨((KeepsOthers.setCell _ _ _).trans (KeepsOthers.setCell _ _ _)).from _, rfl, by rw [okA_snoc]; simp, (hN.six.set 0 _).setOther _ _ (by simp), (hN.sev.setOther _ _ (by simp)).set 0 _, (hN.below.setCell (p := ⟨z, 0, none⟩) (Nat.le_refl _) _).setCell (p := ⟨z + 1, 0, none⟩) (by simp) _⟩
      | true =>
        have c0 := kx.cell 1
        have hc := hN.box.cell
        have hrow := hN.row
        simp only [List.getElem?_toArray, List.getElem?_cons_succ, List.getElem?_cons_zero] at c0
        obtain ⟨va, vn, vc, rfl⟩ : ∃ a n c, v = .slice a n c := by
          rcases hrow.2 with ⟨rfl, _⟩ | ⟨gg, cap, cur, rfl, _⟩
          · exact ⟨_, _, _, rfl⟩
          · exact ⟨_, _, _, rfl⟩
        have hln := rowN_len s pre
        have HN' := Lib.hid hN
        gi_wp2_with (gi_at_builtin; refine wpListIn_append_own_at (F := _) _ rfl _ _ 35 rfl z 3 i0 (.int .i64 0) 1 8 Tryd.underlying35 HI.out.1 HI.out.2.1 HI.out.2.2.1 HI.out.2.2.2 rfl (by decide) _ _ _ rfl (hrow.alloc _) ⟨W.heap.size, 0, none⟩ 1 1 [.int .i64 x1] rfl rfl (cell_one_new _ _ _) (by simp [Value.oneCell']) (by unfold maxLen; omega) (by omega) (by simp; omega) ?_; intro v' w1 hown' hgrow _ hat; obtain ⟨g', cap', rfl⟩ := ownsRow_succ hown'; obtain ⟨hv1, hv2, hr2, hk2, hb2⟩ := hN.box.appended (by decide) hrow (by omega) (by omega) hown' hgrow; have hc1 := hv1.cell; have hf1 := hv1.frozen)
        rw [hln] at hv2 hr2 hk2 hb2 hat
        have hk : ∀ k, k < W.heap.size → k ≠ z + 1 + 1 + 1 → (Value.slice va vn vc).ownBlock ≠ some k → (w1.setCell ⟨z + 1 + 1 + 1, 0, none⟩ (.slice (some ⟨g', 0, none⟩) (pre.length + 1 + 1) cap')).heap[k]? = W.heap[k]? := fun k hk n1 n2 => (heap_setCell_other _ _ _ _ n1).trans ((hgrow.block k (by simp; omega) (fun e => n2 e.symm)).trans (Below.heap_alloc W _ k hk))
        have hkt : ∀ k cs t fr, Blk W k cs t fr → k ≠ z + 1 + 1 + 1 → t ≠ 3 → (w1.setCell ⟨z + 1 + 1 + 1, 0, none⟩ (.slice (some ⟨g', 0, none⟩) (pre.length + 1 + 1) cap')).heap[k]? = W.heap[k]? := fun k cs t fr hb n1 n2 => hk k hb.lt n1 fun e => by obtain ⟨_, _, hq⟩ := ownsRow_blk' hrow e; exact blk_ne hb hq n2 rfl
        have hoff : ∀ gg, (Value.slice (some ⟨g', 0, none⟩) (pre.length + 1 + 1) cap').ownBlock = some gg → gg ≠ z + 4 + 1 ∧ gg ≠ z + 4 + 1 + 1 ∧ gg ≠ z + 4 := fun gg hg => by
          rcases hat with e | e
          · exact hN.off gg (e ▸ hg)
          · rw [e] at hg
            have : (W.alloc (.cells #[.int .i64 x1] 3)).heap.size = gg := by simpa using hg
            simp at this; omega
        have hrw : rowN s (pre ++ [((x0, x1, x2), true)]) = rowN s pre ++ [x1] := rowN_snoc s pre _
        refine ⟨hk2.from _, ⟨hb2, fun b hb => hk b (by omega) (by omega) (fun e => ?_), fun k cs fr hb => (hkt k cs _ fr hb (blk_ne hb hN.box (by decide)) (by decide)).trans hb⟩, ⟨_, hv2, ?_, hoff, (hkt _ _ _ _ hN.six (by omega) (by decide)).trans hN.six, (hkt _ _ _ _ hN.sev (by omega) (by decide)).trans hN.sev, hN.below.trans hb2⟩, by simp; omega, by rw [okA_snoc, hall]; rfl, by have := hb2.size; omega⟩
        · have := hN.off b e; omega
        · rw [hrw]; simpa [inC, hln] using hr2
    case done =>
      rintro D ys W hD rfl ⟨⟨v, hN⟩, hlen, hall, hsz⟩ hDf
      obtain ⟨va, vn, vc, rfl⟩ : ∃ a n c, v = .slice a n c := by
        rcases hN.row.2 with ⟨rfl, _⟩ | ⟨gg, cap, cur, rfl, _⟩
        · exact ⟨_, _, _, rfl⟩
        · exact ⟨_, _, _, rfl⟩
      have hc := hN.box.cell
      have c6 := hN.six.free 0 (Or.inr (Nat.zero_le _)); have c7 := hN.sev.free 0 (Or.inr (Nat.zero_le _))
      have d6 := hN.six.cell 0; have d7 := hN.sev.cell 0
      simp only [List.getElem?_toArray, List.getElem?_cons_zero] at d6 d7
      have hrow := hN.row
      have hyes : nodesV g s L = some (rowN s (stepsV g s L)) := by rw [HSt.out, if_pos hall]
      have HY := Lib.hid (And.intro hyes (And.intro hrow hN))
      clear hrow hyes hN
      gi_wp2_with fail
      have k6 := (HY.out.2.2.six.set 0 (.slice va vn vc)).setOther ⟨z + 1, 0, none⟩ (.bool true) (by simp)
      have k7 := (HY.out.2.2.sev.setOther ⟨z, 0, none⟩ (.slice va vn vc) (by simp)).set 0 (.bool true)
      have hbE : Below z w ((W.setCell ⟨z, 0, none⟩ (.slice va vn vc)).setCell ⟨z + 1, 0, none⟩ (.bool true)) := (HY.out.2.2.below.setCell (p := ⟨z, 0, none⟩) (Nat.le_refl _) _).setCell (p := ⟨z + 1, 0, none⟩) (by simp) _
      have hrE : ((W.setCell ⟨z, 0, none⟩ (.slice va vn vc)).setCell ⟨z + 1, 0, none⟩ (.bool true)).ownsRow z 3 1 (.slice va vn vc) (rowN s (stepsV g s L)).length ((rowN s (stepsV g s L)).flatMap inC) := ownsRow_agree' HY.out.2.1 (fun k hk' => by
        obtain ⟨_, _, hq⟩ := ownsRow_blk' HY.out.2.1 hk'
        exact (heap_setCell_other _ _ _ _ (blk_ne hq HY.out.2.2.sev (by decide))).trans (heap_setCell_other _ _ _ _ (blk_ne hq HY.out.2.2.six (by decide))))
      have hDE : ((W.setCell ⟨z, 0, none⟩ (.slice va vn vc)).setCell ⟨z + 1, 0, none⟩ (.bool true)).heap[D]? = some (.deferred (some [])) := (heap_setCell_other _ _ _ _ (show D ≠ z + 1 by omega)).trans ((heap_setCell_other _ _ _ _ (show D ≠ z by omega)).trans hDf)
      rw [HY.out.1, ← HZ.out]
      refine leaves_marks (B := z) (by simp) _ _ ⟨⟨D, rfl, by omega, hDE, fun d' h => by cases h⟩, trivial⟩ hbE fun w' hk' hb' => ?_
      have m6 := hk'.blk k6; have m7 := hk'.blk k7
      have c6 : w'.cell? ⟨z, 0, none⟩ = some (.slice va vn vc) := m6.cell 0
      have c7 : w'.cell? ⟨z + 1, 0, none⟩ = some (.bool true) := m7.cell 0
      exact ⟨.tuple #[.slice va vn vc, .bool true], by simp [results, Tryd.results23, c6, c7, go_sem], _, rfl, ownsRow_agree' hrE (fun k e => by obtain ⟨_, _, hq⟩ := ownsRow_blk' hrE e; exact (hk'.blk hq).trans (show _ = _ from hq).symm), hb'⟩
    case stop =>
      rintro D c pre W hD hpre ⟨rfl, hall, k6, k7, hb⟩ hDf
      have hno : nodesV g s L = none := by rw [HSt.out, if_neg (by rw [okA_pre hpre hall]; simp)]
      gi_wp2_with fail
      rw [hno, ← HZ.out]
      refine leaves_marks (B := z) (by simp) _ _ ⟨⟨D, rfl, by omega, hDf, fun d' h => by cases h⟩, trivial⟩ hb fun w' hk' hb' => ?_
      have m6 := hk'.blk k6; have m7 := hk'.blk k7
      have c6 := m6.cell 0; have c7 := m7.cell 0
      simp only [List.getElem?_toArray, List.getElem?_cons_zero] at c6 c7
      exact ⟨.tuple #[.slice none 0 0, .bool false], by simp [results, Tryd.results23, c6, c7, go_sem], _, rfl, World.ownsRow_nil _ _ _ _, hb'⟩
end Go.Proofs.YtlddcnkiigamjaaDoor
/- walk.Bare, in plain words: where a node lies in the trail, as a map keeps it; a row cut short. -/
namespace Go.Proofs.YtlddcnkiigamjaaDoor
open Go.RowKit Go.Shelf
/-- a row of ours, cut short -/
theorem ownsRow_take {w : World} {base : Nat} {e : TypeId} {a : Option Addr} {n c : Nat} {xs : List Value} (h : w.ownsRow base e 1 (.slice a n c) n xs) (k : Nat) (hk : k ≤ n) : w.ownsRow base e 1 (.slice a k c) k (xs.take k) := by
  obtain ⟨hl, h⟩ := h
  refine ⟨by rw [List.length_take]; omega, ?_⟩
  rcases h with ⟨h, h0⟩ | ⟨g, cap, cur, h, h1, h2, h3, h4, h5, h6⟩
  · obtain rfl : k = 0 := by omega
    refine .inl ⟨?_, rfl⟩
    simp at h ⊢
    exact ⟨h.1, h.2.2⟩
  · simp at h
    obtain ⟨rfl, rfl⟩ := h
    refine .inr ⟨g, c, cur, rfl, h1, h2, by omega, h4, h5, ?_⟩
    rw [← h6, List.take_take]
    congr 1
    omega
theorem flat_take (L : List Int) (k : Nat) : (L.flatMap inC).take k = (L.take k).flatMap inC := by
  induction L generalizing k with
  | nil => simp
  | cons x L ih =>
    cases k with
    | zero => rfl
    | succ k => rw [List.flatMap_cons, List.take_succ_cons, List.flatMap_cons, ← ih]; rfl
theorem idx_in {A B : List Int} {v : Int} (h : v ∈ A) : (A ++ B).idxOf v = A.idxOf v := by rw [List.idxOf_append, if_pos h]
theorem idx_out {A B : List Int} {v : Int} (h : v ∉ A) : (A ++ B).idxOf v = B.idxOf v + A.length := by rw [List.idxOf_append, if_neg h]
def kOf (v : Int) : Lit := .int .i64 v
theorem kOf_key (v : Int) : WideAt.IsKeyLit (kOf v) := by unfold kOf WideAt.IsKeyLit; trivial
theorem kOf_ne {v u : Int} (h : v ≠ u) : kOf v ≠ kOf u := fun e => h (by unfold kOf at e; injection e)
/-- the map says where each of them lies in the trail: those that p holds for -/
def PlaceP (D : DataW Unit) (T : List Int) (p : Int → Bool) : Prop := ∀ v : Int, Maps.has D (kOf v) = (decide (v ∈ T) && p v) ∧ (v ∈ T → p v = true → ∀ z, D.atKey (kOf v) z = .lit (.int .i64 (T.idxOf v)))
def PlaceOf (D : DataW Unit) (T : List Int) : Prop := PlaceP D T fun _ => true
theorem PlaceOf.one {D : DataW Unit} (hD : Maps.IsMap D) (h0 : ∀ k, Maps.has D k = false) (s : Int) : PlaceOf (D.put (kOf s) (.lit (.int .i64 0))) [s] := fun v => by
  by_cases e : v = s
  · subst e
    refine ⟨by rw [Maps.has_put_same hD (kOf_key v)]; simp, fun _ _ z => ?_⟩
    rw [Maps.atKey_put_same hD (kOf_key v)]; simp
  · refine ⟨by rw [Maps.has_put_other (kOf_ne e), h0]; simp [e], fun hm => ?_⟩
    simp at hm; exact absurd hm e
theorem PlaceOf.put {D : DataW Unit} {T : List Int} (h : PlaceOf D T) (hD : Maps.IsMap D) {u : Int} (hu : u ∉ T) : PlaceOf (D.put (kOf u) (.lit (.int .i64 T.length))) (T ++ [u]) := fun v => by
  by_cases e : v = u
  · subst e
    refine ⟨by rw [Maps.has_put_same hD (kOf_key v)]; simp, fun _ _ z => ?_⟩
    rw [Maps.atKey_put_same hD (kOf_key v), idx_out hu]; simp
  · obtain ⟨h1, h2⟩ := h v
    refine ⟨by rw [Maps.has_put_other (kOf_ne e), h1]; simp [e], fun hm hp z => ?_⟩
    have hm' : v ∈ T := by simpa [e] using hm
    rw [Maps.atKey_put_other (kOf_ne e), h2 hm' hp, idx_in hm']
theorem PlaceP.del {D : DataW Unit} {T : List Int} {p : Int → Bool} (h : PlaceP D T p) (u : Int) : PlaceP (D.del (kOf u)) T (fun v => p v && !decide (v = u)) := fun v => by
  by_cases e : v = u
  · subst e
    exact ⟨by rw [Maps.has_del_same]; simp, fun _ hp => by simp at hp⟩
  · obtain ⟨h1, h2⟩ := h v
    exact ⟨by rw [Maps.has_del_other (kOf_ne e), h1]; simp [e], fun hm hp z => by rw [Maps.atKey_del_other (kOf_ne e)]; exact h2 hm (by simpa [e] using hp) z⟩
theorem PlaceP.congr {D : DataW Unit} {T : List Int} {p q : Int → Bool} (h : PlaceP D T p) (he : ∀ v, v ∈ T → p v = q v) : PlaceP D T q := fun v => by
  obtain ⟨h1, h2⟩ := h v
  refine ⟨?_, fun hm hp => h2 hm (by rw [he v hm]; exact hp)⟩
  rw [h1]
  by_cases hm : v ∈ T
  · rw [he v hm]
  · simp [hm]
/-- those that are left when the rest of the trail is struck -/
theorem PlaceP.cut {D : DataW Unit} {T : List Int} (hT : T.Nodup) {a : Nat} (h : PlaceP D T (fun v => !decide (v ∈ T.drop a))) : PlaceOf D (T.take a) := fun v => by
  obtain ⟨h1, h2⟩ := h v
  have hsp : v ∈ T ↔ v ∈ T.take a ∨ v ∈ T.drop a := by rw [← List.mem_append, List.take_append_drop]
  have hdj : v ∈ T.take a → v ∉ T.drop a := fun ha hb => by
    have := hT
    rw [← List.take_append_drop a T, List.nodup_append] at this
    exact this.2.2 v ha v hb rfl
  refine ⟨?_, fun hm _ z => ?_⟩
  · rw [h1]
    by_cases ha : v ∈ T.take a
    · simp [ha, hdj ha, hsp.2 (.inl ha)]
    · by_cases hb : v ∈ T.drop a
      · simp [ha, hb]
      · simp [ha, hsp]
  · rw [h2 (hsp.2 (.inl hm)) (by simp [hdj hm])]
    have : T.idxOf v = (T.take a).idxOf v := by
      conv => lhs; rw [← List.take_append_drop a T]
      rw [idx_in hm]
    rw [this]
/-- what the map keeps, behind j strikes -/
def PlaceK (D : DataW Unit) (T : List Int) (a j : Nat) : Prop := PlaceP D T fun v => !decide (v ∈ (T.drop a).take j)
theorem PlaceK.start {D : DataW Unit} {T : List Int} (h : PlaceOf D T) (a : Nat) : PlaceK D T a 0 := PlaceP.congr h fun v _ => by simp
theorem PlaceK.step {D : DataW Unit} {T : List Int} {a j : Nat} (h : PlaceK D T a j) {u : Int} (hu : (T.drop a)[j]? = some u) : PlaceK (D.del (kOf u)) T a (j + 1) := PlaceP.congr (PlaceP.del h u) fun v _ => by
  obtain ⟨hj, e⟩ := List.getElem?_eq_some_iff.1 hu
  rw [List.take_succ_eq_append_getElem hj, e]
  simp only [List.mem_append, List.mem_singleton]
  by_cases h1 : v ∈ (T.drop a).take j <;> by_cases h2 : v = u <;> simp [h1, h2]
theorem PlaceK.done {D : DataW Unit} {T : List Int} (hT : T.Nodup) {a j : Nat} (h : PlaceK D T a j) (hj : (T.drop a).length ≤ j) : PlaceOf D (T.take a) := PlaceP.cut hT (PlaceP.congr h fun v _ => by rw [List.take_of_length_le hj])
/-- the map keeps a row's keys, its cells are another's -/
theorem turned_heap {w w' : World} {b : Nat} (h : w.mapTurned w' b) {k : Nat} (hk : k ≠ b) : w'.heap[k]? = w.heap[k]? := by
  obtain ⟨es, cl, es', cl', hb, rfl⟩ := h
  exact ChangeMaps.heap_setBlock_other hb _ hk
end Go.Proofs.YtlddcnkiigamjaaDoor
/- grids, in plain words: in which of many equal parts something lies. -/
namespace Go.Proofs.YtlddcnkiigamjaaDoor
def partV (least most many x : Int) : Int := (x - least) * many / (most - least + 1)
theorem part_range {least most many x : Int} (h : least ≤ x ∧ x ≤ most) (hm : 1 ≤ many) : 0 ≤ partV least most many x ∧ partV least most many x < many := by
  unfold partV
  refine ⟨Int.ediv_nonneg (Int.mul_nonneg (by omega) (by omega)) (by omega), Int.ediv_lt_of_lt_mul (by omega) ?_⟩
  rw [Int.mul_comm many]
  exact Int.mul_lt_mul_of_pos_right (by omega) (by omega)
theorem part_mono {least most many x y : Int} (h : least ≤ most) (hm : 1 ≤ many) (hxy : x ≤ y) : partV least most many x ≤ partV least most many y := by
  unfold partV
  exact Int.ediv_le_ediv (by omega) (Int.mul_le_mul_of_nonneg_right (by omega) (by omega))
theorem part_least (least most many : Int) : partV least most many least = 0 := by unfold partV; rw [Int.sub_self, Int.zero_mul, Int.zero_ediv]
theorem part_most {least most many : Int} (h : least < most) (hm : 2 ≤ many) : 1 ≤ partV least most many most := by
  unfold partV
  refine Int.le_ediv_of_mul_le (by omega) ?_
  rw [Int.one_mul]
  have h1 : (most - least) * 2 ≤ (most - least) * many := Int.mul_le_mul_of_nonneg_left hm (by omega)
  omega
/-- how many rows there are -/
structure ShapeOf (c R C : Nat) : Prop where
  low : R * R ≤ c
  high : c < (R + 1) * (R + 1)
  col : C = c / R
  pos : 1 ≤ R
theorem ShapeOf.facts {c R C : Nat} (h : ShapeOf c R C) : R * C ≤ c ∧ 1 ≤ R * C ∧ R ≤ C ∧ 1 ≤ C := by
  obtain ⟨h1, h2, rfl, h4⟩ := h
  have h5 : R ≤ c / R := (Nat.le_div_iff_mul_le (by omega)).2 h1
  refine ⟨Nat.mul_div_le c R, ?_, h5, by omega⟩
  have : 1 * 1 ≤ R * (c / R) := Nat.mul_le_mul h4 (by omega)
  omega
/-- a cell's row and column -/
theorem cell_parts {r c C : Int} (hc : 0 ≤ c ∧ c < C) : (r * C + c) / C = r ∧ (r * C + c) % C = c := by
  refine ⟨?_, ?_⟩
  · rw [Int.add_comm, Int.add_mul_ediv_right _ _ (by omega), Int.ediv_eq_zero_of_lt hc.1 hc.2, Int.zero_add]
  · rw [Int.add_comm, Int.add_mul_emod_self_right, Int.emod_eq_of_lt hc.1 hc.2]
theorem cell_range {r c R C : Int} (hr : 0 ≤ r ∧ r < R) (hc : 0 ≤ c ∧ c < C) : 0 ≤ r * C + c ∧ r * C + c < R * C := by
  have h1 : 0 ≤ r * C := Int.mul_nonneg hr.1 (by omega)
  have h2 : (r + 1) * C ≤ R * C := Int.mul_le_mul_of_nonneg_right (by omega) (by omega)
  rw [Int.add_mul, Int.one_mul] at h2
  omega
/-- the least and the greatest of some -/
def endsV : List Int → Option (Int × Int)
  | [] => none
  | x :: L => some (L.foldl (fun e y => (min e.1 y, max e.2 y)) (x, x))
theorem ends_fold : ∀ (L : List Int) (e : Int × Int), e.1 ≤ e.2 → (L.foldl (fun e y => (min e.1 y, max e.2 y)) e).1 ≤ e.1 ∧ e.2 ≤ (L.foldl (fun e y => (min e.1 y, max e.2 y)) e).2 ∧
    (∀ y ∈ L, (L.foldl (fun e y => (min e.1 y, max e.2 y)) e).1 ≤ y ∧ y ≤ (L.foldl (fun e y => (min e.1 y, max e.2 y)) e).2) ∧
    ((L.foldl (fun e y => (min e.1 y, max e.2 y)) e).1 = e.1 ∨ (L.foldl (fun e y => (min e.1 y, max e.2 y)) e).1 ∈ L) ∧ ((L.foldl (fun e y => (min e.1 y, max e.2 y)) e).2 = e.2 ∨ (L.foldl (fun e y => (min e.1 y, max e.2 y)) e).2 ∈ L)
  | [], e, h => ⟨Int.le_refl _, Int.le_refl _, fun _ h => (by cases h), .inl rfl, .inl rfl⟩
  | y :: L, e, h => by
    obtain ⟨a, b, c, d, f⟩ := ends_fold L (min e.1 y, max e.2 y) (by dsimp only; omega)
    rw [List.foldl_cons]
    dsimp only at a b d f
    refine ⟨by omega, by omega, fun z hz => ?_, ?_, ?_⟩
    · rcases List.mem_cons.1 hz with rfl | hz
      · omega
      · exact c z hz
    · rcases d with d | d
      · rw [d]
        by_cases q : e.1 ≤ y
        · left; omega
        · right; rw [show min e.1 y = y by omega]; exact List.mem_cons_self
      · right; exact List.mem_cons_of_mem _ d
    · rcases f with f | f
      · rw [f]
        by_cases q : y ≤ e.2
        · left; omega
        · right; rw [show max e.2 y = y by omega]; exact List.mem_cons_self
      · right; exact List.mem_cons_of_mem _ f
theorem ends_of {L : List Int} {a b : Int} (h : endsV L = some (a, b)) : a ≤ b ∧ (∀ y ∈ L, a ≤ y ∧ y ≤ b) ∧ a ∈ L ∧ b ∈ L := by
  cases L with
  | nil => cases h
  | cons x L =>
    have h' := Option.some.inj h
    obtain ⟨p, q, r, s, t⟩ := ends_fold L (x, x) (Int.le_refl _)
    rw [h'] at p q r s t
    dsimp only at p q r s t
    refine ⟨by omega, fun y hy => ?_, ?_, ?_⟩
    · rcases List.mem_cons.1 hy with rfl | hy
      · exact ⟨p, q⟩
      · exact r y hy
    · rcases s with s | s
      · rw [s]; exact List.mem_cons_self
      · exact List.mem_cons_of_mem _ s
    · rcases t with t | t
      · rw [t]; exact List.mem_cons_self
      · exact List.mem_cons_of_mem _ t
end Go.Proofs.YtlddcnkiigamjaaDoor
/- grid.Shape. -/
namespace Go.Proofs.YtlddcnkiigamjaaDoor
open Go.RowKit
def shapeN (c R : Nat) : Nat × Nat := (R, c / R)
set_option maxRecDepth 100000 in
set_option maxHeartbeats 8000000 in
theorem shape_any (c : Nat) (hc : 1 ≤ c ∧ c ≤ 256) (w : World) : Calls Tryd.prog 13 #[.int .i64 (c : Nat)] w fun e w' => ∃ R C : Nat, e = .returned (.tuple #[.int .i64 (R : Nat), .int .i64 (C : Nat)]) ∧ ShapeOf c R C ∧ Below w.heap.size w w' := by
  have h1 : ¬ (c : Int) < 1 := by omega
  have h2 : ¬ (256 : Int) < (c : Int) := by omega
  have h1b : decide ((c : Int) < 1) = false := decide_eq_false h1
  have h2b : decide ((256 : Int) < (c : Int)) = false := decide_eq_false h2
  go_enter Tryd.func13, Tryd.ntmps13
  go_wp2_with fail
  go_loopw [2] (fun i wr => ∃ k : Nat, 1 ≤ k ∧ k * k ≤ c ∧ i = .int .i64 k ∧ Hid (Below w.heap.size w wr)) (fun i _ => 256 - (intOf i).toNat)
  case atStart => exact ⟨1, by omega, by omega, rfl, Lib.hid (Below.refl _ _)⟩
  obtain ⟨k, hk, hkc, rfl, HB⟩ := hrel
  have hk16 : k ≤ 256 := Nat.le_trans (Nat.le_mul_self k) (by omega)
  have w1 : IntKind.i64.wrap ((k : Int) + 1) = ((k + 1 : Nat) : Int) := by rw [IntKind.wrap_i64]; omega
  have hsq : (k + 1) * (k + 1) ≤ 257 * 257 := Nat.mul_le_mul (by omega) (by omega)
  obtain ⟨q, hq⟩ : ∃ q : Nat, q = (k + 1) * (k + 1) := ⟨_, rfl⟩
  have HQ := Lib.hid hq
  have hsq' : q ≤ 66049 := by rw [hq]; exact hsq
  have hkq : k + 1 ≤ q := by rw [hq]; exact Nat.le_mul_self _
  have hmul : ((k : Int) + 1) * ((k : Int) + 1) = (q : Int) := by rw [hq, Int.natCast_mul]; rfl
  have w3 : wrap64 (((k : Int) + 1) * ((k : Int) + 1)) = (q : Int) := by rw [hmul]; unfold wrap64; omega
  have hck : c / k ≤ 256 := Nat.le_trans (Nat.div_le_self c k) hc.2
  have w4 : wrap64 ((c : Int) / (k : Int)) = ((c / k : Nat) : Int) := by
    rw [← Int.natCast_ediv]
    generalize c / k = d at *
    unfold wrap64; omega
  clear hq hsq hmul
  by_cases hlt : q ≤ c
  case pos =>
    have hb' : (q : Int) ≤ (c : Int) := by omega
    have hb : decide ((q : Int) ≤ (c : Int)) = true := decide_eq_true (by omega)
    go_wp2_with fail
    go_roundw
    case rel => exact ⟨k + 1, by omega, by rw [← HQ.out]; exact hlt, by go_num, HB⟩
    case measure => simp [intOf]; omega
  case neg =>
    have hb' : ¬ (q : Int) ≤ (c : Int) := by omega
    have hb : decide ((q : Int) ≤ (c : Int)) = false := decide_eq_false (by omega)
    have hz : ¬ (k : Int) = 0 := by omega
    have hzb : ((k : Int) == 0) = false := by simpa using hz
    have hdv : (c : Int).tdiv (k : Int) = ((c / k : Nat) : Int) := rfl
    go_wp2_with fail
    go_quiet (fail)
    go_wp2_with fail
    exact bodyPost_ret (v := .tuple #[.int .i64 (k : Nat), .int .i64 (c / k : Nat)]) (by simp [results, Tryd.results13, go_sem, w4]) rfl ⟨k, c / k, rfl, ⟨hkc, by rw [← HQ.out]; omega, rfl, hk⟩, below_drewN HB.out _⟩
end Go.Proofs.YtlddcnkiigamjaaDoor
/- grid: where nodes lie, as an iterator. -/
namespace Go.Proofs.YtlddcnkiigamjaaDoor
open Go.RowKit Go.Shelf
attribute [local go_sem] Oper.semAt_some
/-- below lo nothing has turned, nor has the iterator's box -/
def KpB (lo Bn : Nat) (W W' : World) : Prop := Below lo W W' ∧ W'.heap[Bn]? = W.heap[Bn]?
theorem KpB.trans {lo Bn : Nat} {A B C : World} (h : KpB lo Bn A B) (k : KpB lo Bn B C) : KpB lo Bn A C := ⟨h.1.trans k.1, k.2.trans h.2⟩
theorem KpB.put {lo Bn : Nat} {w : World} (hlo : lo ≤ w.heap.size) (hBn : Bn < w.heap.size) (W : World) (l : Nat) (o o' : Obj) (hl : w.heap.size ≤ l) (h : W.heap[l]? = some o) (h1 : o.isCells = false) (h2 : o.isWalk = false) : KpB lo Bn W (W.putObj l o') :=
  ⟨belowK_b hlo W l o o' hl h h1 h2, World.putObj_heap_other (by omega)⟩
theorem places_in (k : Nat) (p : Option Addr) (w : World) :
    CallsIn Fence.wide k Tryd.prog 32 #[.pointer p] w fun e w' => e = .returned (.func (.func 47) #[] #[.pointer (some ⟨w.heap.size, 0, none⟩)]) ∧ w' = w.alloc (.cells #[.pointer p] 28) := by
  refine callsIn_of_wp Tryd.func32 rfl trivial ?_ rfl
  simp only [Tryd.ntmps32, List.size_toArray, List.length_cons, List.length_nil, Nat.reduceAdd, Nat.reduceSub, Array.replicate_succ, Array.replicate_zero, List.push_toArray, List.append_toArray, List.nil_append, List.cons_append]
  gi_wp2
  go_ret
  exact ⟨rfl, rfl⟩
def encI2 (x : Int × Int) : Array Value := #[.int .i64 x.1, .int .i64 x.2]
/-- the first k numbers below N -/
def uptoF (N k : Nat) : List (Fin N) := (List.finRange N).take k
theorem uptoF_succ {N k : Nat} (h : k < N) : uptoF N (k + 1) = uptoF N k ++ [⟨k, h⟩] := by
  unfold uptoF
  rw [List.take_succ_eq_append_getElem (by simpa using h)]
  simp
theorem uptoF_len {N k : Nat} (h : k ≤ N) : (uptoF N k).length = k := by unfold uptoF; simp; omega
theorem uptoF_pre (N k : Nat) : uptoF N k <+: List.finRange N := List.take_prefix _ _
theorem uptoF_all (N : Nat) : uptoF N N = List.finRange N := List.take_of_length_le (by simp)
/-- what the iterator asks of the net, in whatever world that comes -/
structure PlacesOf (W0 : World) (lo : Nat) (p : Option Addr) (N : Nat) (f : Nat → Int × Int) : Prop where
  many : ∀ u, Below lo W0 u → Calls Tryd.prog 48 #[.pointer p] u fun e w' => e = .returned (.int .i64 (N : Nat)) ∧ w' = u
  place : ∀ u, Below lo W0 u → ∀ k, k < N → Calls Tryd.prog 49 #[.pointer p, .int .i64 (k : Nat)] u fun e w' => ∃ b, e = .returned (.tuple #[.int .i64 (f k).1, .int .i64 (f k).2, .bool b]) ∧ w' = u
  few : N ≤ 1000000000
set_option maxRecDepth 100000 in
set_option maxHeartbeats 2000000 in
theorem places1_in (m : Nat) (hm : 1 ≤ m) (L Bn lo : Nat) (W0 : World) (p : Option Addr) (N : Nat) (f : Nat → Int × Int) (hP : PlacesOf W0 lo p N f) (J Jx : List (Fin N) → World → Prop)
    (hY : ∀ (pre : List (Fin N)) (x : Fin N) W, J pre W → pre.length < N → YieldAt Fence.wide (m - 1) Tryd.prog L (encI2 (f x)) W fun e W' =>
      (e = .returned (.bool true) ∧ J (pre ++ [x]) W' ∧ KpB lo Bn W W') ∨ (e = .returned (.bool false) ∧ Jx (pre ++ [x]) W'))
    (W : World) (hW : Below lo W0 W) (hBn : Blk W Bn #[.pointer p] 28 (0, 0)) (h0 : J [] W) :
    CallsIn Fence.wide m Tryd.prog 47 #[.func (.yield L) #[] #[], .pointer (some ⟨Bn, 0, none⟩)] W fun e W' => (∃ v, e = .returned v) ∧
      ((∃ ys, ys = List.finRange N ∧ J ys W') ∨ (∃ pre, pre <+: List.finRange N ∧ Jx pre W')) := by
  have c1 := hBn.cell 0
  change W.cell? ⟨Bn, 0, none⟩ = some (.pointer p) at c1
  have hN := hP.few
  have CN := Lib.hid (hP.many W hW)
  have HB := Lib.hid hBn; have HW := Lib.hid hW; have H0 := Lib.hid h0
  clear hBn hW h0
  refine callsIn_of_wp Tryd.func47 rfl trivial ?_ rfl
  simp only [Tryd.ntmps47, List.size_toArray, List.length_cons, List.length_nil, Nat.reduceAdd, Nat.reduceSub, Array.replicate_succ, Array.replicate_zero, List.push_toArray, List.append_toArray, List.nil_append, List.cons_append]
  gi_wp2_with (refine ⟨trivial, ?_⟩; gi_at_call 48; refine (callsIn_wide.2 CN.out).mono ?_; rintro e w' ⟨rfl, rfl⟩)
  gi_loopw [9] (fun i wr => ∃ (k : Nat), k ≤ N ∧ i = .int .i64 k ∧ Hid (Below lo W0 wr) ∧ Hid (Blk wr Bn #[.pointer p] 28 (0, 0)) ∧ Hid (J (uptoF N k) wr)) (fun i _ => N - (intOf i).toNat)
  case atStart => exact ⟨0, Nat.zero_le _, rfl, HW, HB, H0⟩
  case round =>
    obtain ⟨k, hk, rfl, hb, hbn, hJ⟩ := hrel
    have d1 := hbn.out.cell 0
    change wr.cell? ⟨Bn, 0, none⟩ = some (.pointer p) at d1
    by_cases hlt : k < N
    · have CP := Lib.hid (hP.place wr hb.out k hlt)
      obtain ⟨⟨px, py⟩, hxy⟩ : ∃ x, x = f k := ⟨_, rfl⟩
      rw [← hxy] at CP
      dsimp only at CP
      have hsc := uptoF_succ hlt
      have HSC := Lib.hid hsc
      have hpf := uptoF_pre N (k + 1)
      rw [hsc] at hpf
      have HPF := Lib.hid hpf
      obtain ⟨fn, tmps, assign, body, hy, hR⟩ := hY (uptoF N k) ⟨k, hlt⟩ wr hJ.out (by rw [uptoF_len hk]; exact hlt)
      rw [show f (⟨k, hlt⟩ : Fin N) = (px, py) from hxy.symm] at hy
      dsimp only [encI2] at hy
      clear hsc hpf hxy
      gi_wp2_with (refine ⟨trivial, ?_⟩; gi_at_call 49; refine (callsIn_wide.2 CP.out).mono ?_; rintro e w1 ⟨bq, rfl, rfl⟩)
      refine hR.mono ?_
      rintro e W3 (⟨rfl, hJ3, hk3⟩ | ⟨rfl, hJx3⟩)
      · have H3 := Lib.hid (hb.out.trans hk3.1)
        have HB3 := Lib.hid (show Blk W3 Bn #[.pointer p] 28 (0, 0) from hk3.2.trans hbn.out)
        have HJ3 := Lib.hid hJ3
        clear hk3 hJ3
        gi_wp2
        go_roundw
        case rel => exact ⟨k + 1, by omega, by go_num, H3, HB3, Lib.hid (by rw [HSC.out]; exact HJ3.out)⟩
        case measure => simp [intOf]; omega
      · gi_wp2
        refine bodyPost_ret (results_none rfl _ _ _) rfl ?_
        exact ⟨⟨_, rfl⟩, .inr ⟨_, HPF.out, hJx3⟩⟩
    · obtain rfl : k = N := by omega
      gi_wp2
      go_end0
      exact ⟨⟨_, rfl⟩, .inl ⟨_, rfl, by rw [← uptoF_all]; exact hJ.out⟩⟩
theorem places_stops (m : Nat) (hm : 1 ≤ m) (Bn lo : Nat) (W0 : World) (p : Option Addr) (N : Nat) (f : Nat → Int × Int) (hP : PlacesOf W0 lo p N f) (w : World) (hW : Below lo W0 w) (hlo : lo ≤ w.heap.size) (hBn : Blk w Bn #[.pointer p] 28 (0, 0)) :
    SeqStopsK Fence.wide m Tryd.prog 47 #[.pointer (some ⟨Bn, 0, none⟩)] (fun x : Fin N => encI2 (f x)) (KpB lo Bn) (fun ys => ys = List.finRange N) (fun pre => pre <+: List.finRange N) N w := fun L J Jx W hb _ _ hY h0 =>
  places1_in m hm L Bn lo W0 p N f hP J Jx hY W (hW.trans (hb.mono hlo)) (hBn.below hb hBn.lt) h0
theorem placesOf_net (w : World) (p : Nat) (g : Raw) (h : NetAt w p g) (hok : g.Ok) : PlacesOf w w.heap.size (some ⟨p, 0, none⟩) g.nodes.toNat fun k => (atI g.X k, atI g.Y k) := by
  have hn := hok.nodes
  have e : ((g.nodes.toNat : Nat) : Int) = g.nodes := by omega
  refine ⟨fun u hu => ?_, fun u hu k hk => ?_, by omega⟩
  · rw [e]; exact nodes_any p g u (h.keep (KpC.of_below hu))
  · refine (place_any p g k u (h.keep (KpC.of_below hu))).mono ?_
    rintro e w' ⟨rfl, rfl⟩
    exact ⟨_, rfl, rfl⟩
theorem placesOf_nil (w : World) : PlacesOf w w.heap.size none 0 fun _ => (0, 0) :=
  ⟨fun u _ => nodes_nil u, fun _ _ k hk => absurd hk (Nat.not_lt_zero k), Nat.zero_le _⟩
end Go.Proofs.YtlddcnkiigamjaaDoor
/- grid: the ends of some; in which part something lies. -/
namespace Go.Proofs.YtlddcnkiigamjaaDoor
open Go.RowKit
/-- the ends of some, as grid keeps them -/
def endsC : Option (Int × Int) → Array Value
  | none => #[.int .i64 0, .int .i64 0, .bool false]
  | some (a, b) => #[.int .i64 a, .int .i64 b, .bool true]
def withE (e : Option (Int × Int)) (x : Int) : Option (Int × Int) := match e with
  | none => some (x, x)
  | some (a, b) => some (min a x, max b x)
theorem ends_snoc (L : List Int) (x : Int) : endsV (L ++ [x]) = withE (endsV L) x := by
  cases L with
  | nil => rfl
  | cons y L => simp [endsV, withE, List.foldl_append]
theorem endsC_size (e : Option (Int × Int)) : (endsC e).size = 3 := by cases e <;> rfl
theorem min_go (a x : Int) : (if x < a then x else a) = min a x := by split <;> omega
theorem max_go (b x : Int) : (if b < x then x else b) = max b x := by split <;> omega
set_option maxHeartbeats 2000000 in
theorem with_any (e : Option (Int × Int)) (x : Int) (w : World) : Calls Tryd.prog 33 #[.agg (endsC e), .int .i64 x] w fun e' w' => e' = .returned (.agg (endsC (withE e x))) ∧ Below w.heap.size w w' := by
  cases e with
  | none =>
    show Calls _ _ #[.agg #[.int .i64 0, .int .i64 0, .bool false], _] _ _
    go_enter Tryd.func33, Tryd.ntmps33
    go_wp2_with fail
    exact bodyPost_ret (v := .agg #[.int .i64 x, .int .i64 x, .bool true]) (by simp [results, Tryd.results33, go_sem]) rfl ⟨rfl, (((Below.refl _ _).alloc (Nat.le_refl _) _).alloc (by simp) _)⟩
  | some ab =>
    obtain ⟨a, b⟩ := ab
    have H : Calls Tryd.prog 33 #[.agg #[.int .i64 a, .int .i64 b, .bool true], .int .i64 x] w fun e' w' => ∃ p q, e' = .returned (.agg #[.int .i64 p, .int .i64 q, .bool true]) ∧ (p = min a x ∧ q = max b x) ∧ Below w.heap.size w w' := by
      go_enter Tryd.func33, Tryd.ntmps33
      go_wp2_with fail
      · exact bodyPost_ret (v := .agg #[.int .i64 x, .int .i64 x, .bool true]) (by simp [results, Tryd.results33, go_sem]) rfl ⟨_, _, rfl, by omega, (((Below.refl _ _).alloc (Nat.le_refl _) _).alloc (by simp) _)⟩
      · exact bodyPost_ret (v := .agg #[.int .i64 x, .int .i64 b, .bool true]) (by simp [results, Tryd.results33, go_sem]) rfl ⟨_, _, rfl, by omega, (((Below.refl _ _).alloc (Nat.le_refl _) _).alloc (by simp) _)⟩
      · exact bodyPost_ret (v := .agg #[.int .i64 a, .int .i64 x, .bool true]) (by simp [results, Tryd.results33, go_sem]) rfl ⟨_, _, rfl, by omega, (((Below.refl _ _).alloc (Nat.le_refl _) _).alloc (by simp) _)⟩
      · exact bodyPost_ret (v := .agg #[.int .i64 a, .int .i64 b, .bool true]) (by simp [results, Tryd.results33, go_sem]) rfl ⟨_, _, rfl, by omega, (((Below.refl _ _).alloc (Nat.le_refl _) _).alloc (by simp) _)⟩
    refine H.mono ?_
    rintro e w' ⟨p, q, rfl, ⟨rfl, rfl⟩, hb⟩
    exact ⟨rfl, hb⟩
/-- a part, as a function value that lies in w -/
def PartsAt (w : World) (v : Value) (a b : Int) (c : Value) (many : Int) : Prop :=
  ∃ b1 b2 b3, v = .func (.func 50) #[] #[.pointer (some ⟨b1, 0, none⟩), .pointer (some ⟨b2, 0, none⟩), .pointer (some ⟨b3, 0, none⟩)] ∧
    Blk w b1 #[.int .i64 a, .int .i64 b, c] 71 (0, 0) ∧ Blk w b2 #[.int .i64 many] 3 (0, 0) ∧ Blk w b3 #[.int .i64 (b - a + 1)] 2 (0, 0)
theorem PartsAt.keep {w w' : World} {v c : Value} {a b many : Int} (h : PartsAt w v a b c many) (hk : KpC w w') : PartsAt w' v a b c many := by
  obtain ⟨b1, b2, b3, e, h1, h2, h3⟩ := h
  exact ⟨b1, b2, b3, e, hk.blk h1, hk.blk h2, hk.blk h3⟩
set_option maxHeartbeats 2000000 in
theorem parts_any (a b : Int) (c : Bool) (many : Int) (w : World) (hr : -2147483648 ≤ a ∧ a ≤ b ∧ b ≤ 2147483647) : Calls Tryd.prog 34 #[.agg #[.int .i64 a, .int .i64 b, .bool c], .int .i64 many] w fun e w' => ∃ v, e = .returned v ∧ PartsAt w' v a b (.bool c) many ∧ Below w.heap.size w w' := by
  have hmf : ∀ (fn : Fn) (first cap : Array Value) (w : World), (Instr.makeFunc fn first cap).run Tryd.prog w = .ok (.func fn first cap) w := fun _ _ _ _ => rfl
  go_enter Tryd.func34, Tryd.ntmps34
  go_wp2_with fail
  go_ret
  refine ⟨_, rfl, ⟨_, _, _, rfl, ?_, ?_, ?_⟩, (((Below.refl _ _).alloc (Nat.le_refl _) _).alloc (by simp) _).alloc (by simp; omega) _⟩
  · exact ((Blk.new _ _ _ _).alloc _).alloc _
  · have h := (Blk.new (w.alloc (.cells #[.int .i64 a, .int .i64 b, .bool c] 71)) #[.int .i64 many] 3 (0, 0)).alloc (.cells #[.int .i64 (b - a + 1)] 2)
    rwa [World.size_alloc] at h
  · have h := Blk.new ((w.alloc (.cells #[.int .i64 a, .int .i64 b, .bool c] 71)).alloc (.cells #[.int .i64 many] 3)) #[.int .i64 (b - a + 1)] 2 (0, 0)
    rwa [World.size_alloc, World.size_alloc] at h
/-- a part's three boxes -/
structure PartsB (w : World) (b1 b2 b3 : Nat) (a b : Int) (c : Value) (many : Int) : Prop where
  one : Blk w b1 #[.int .i64 a, .int .i64 b, c] 71 (0, 0)
  two : Blk w b2 #[.int .i64 many] 3 (0, 0)
  three : Blk w b3 #[.int .i64 (b - a + 1)] 2 (0, 0)
theorem PartsB.keep {w w' : World} {b1 b2 b3 : Nat} {c : Value} {a b many : Int} (h : PartsB w b1 b2 b3 a b c many) (hk : KpC w w') : PartsB w' b1 b2 b3 a b c many := ⟨hk.blk h.one, hk.blk h.two, hk.blk h.three⟩
theorem PartsB.set {w : World} {b1 b2 b3 : Nat} {c : Value} {a b many : Int} (h : PartsB w b1 b2 b3 a b c many) {B : Nat} {cs : Array Value} {t : TypeId} {fr : Nat × Nat} (hB : Blk w B cs t fr) (ht : t ≠ 71 ∧ t ≠ 3 ∧ t ≠ 2) (v : Value) : PartsB (w.setCell ⟨B, 0, none⟩ v) b1 b2 b3 a b c many :=
  ⟨h.one.setOther _ _ (fun e => ht.1 (blk_type (show Blk w b1 cs t fr by rw [show b1 = B from e]; exact hB) h.one)), h.two.setOther _ _ (fun e => ht.2.1 (blk_type (show Blk w b2 cs t fr by rw [show b2 = B from e]; exact hB) h.two)), h.three.setOther _ _ (fun e => ht.2.2 (blk_type (show Blk w b3 cs t fr by rw [show b3 = B from e]; exact hB) h.three))⟩
theorem parts_anyB (a b : Int) (c : Bool) (many : Int) (w : World) (hr : -2147483648 ≤ a ∧ a ≤ b ∧ b ≤ 2147483647) : Calls Tryd.prog 34 #[.agg #[.int .i64 a, .int .i64 b, .bool c], .int .i64 many] w fun e w' => ∃ b1 b2 b3, e = .returned (.func (.func 50) #[] #[.pointer (some ⟨b1, 0, none⟩), .pointer (some ⟨b2, 0, none⟩), .pointer (some ⟨b3, 0, none⟩)]) ∧ PartsB w' b1 b2 b3 a b (.bool c) many ∧ Below w.heap.size w w' := by
  refine (parts_any a b c many w hr).mono ?_
  rintro e w' ⟨v, rfl, ⟨b1, b2, b3, rfl, h1, h2, h3⟩, hb⟩
  exact ⟨b1, b2, b3, rfl, ⟨h1, h2, h3⟩, hb⟩
theorem part_wrap {a b many x : Int} (hr : -2147483648 ≤ a ∧ a ≤ b ∧ b ≤ 2147483647) (hx : a ≤ x ∧ x ≤ b) (hm : 1 ≤ many ∧ many ≤ 256) : wrap64 ((wrap64 ((x - a) * many)).tdiv (b - a + 1)) = partV a b many x := by
  have h0 : 0 ≤ (x - a) * many := Int.mul_nonneg (by omega) (by omega)
  have h1 : (x - a) * many ≤ (x - a) * 256 := Int.mul_le_mul_of_nonneg_left hm.2 (by omega)
  have e1 : wrap64 ((x - a) * many) = (x - a) * many := by unfold wrap64; omega
  have h2 := part_range (least := a) (most := b) (many := many) (x := x) ⟨by omega, by omega⟩ hm.1
  rw [e1, Int.tdiv_eq_ediv_of_nonneg h0]
  show wrap64 (partV a b many x) = _
  unfold wrap64; omega
set_option maxHeartbeats 2000000 in
theorem parts1_any (a b : Int) (c : Value) (many x : Int) (w : World) (hr : -2147483648 ≤ a ∧ a ≤ b ∧ b ≤ 2147483647) (hx : a ≤ x ∧ x ≤ b) (hm : 1 ≤ many ∧ many ≤ 256) (b1 b2 b3 : Nat)
    (h1 : Blk w b1 #[.int .i64 a, .int .i64 b, c] 71 (0, 0)) (h2 : Blk w b2 #[.int .i64 many] 3 (0, 0)) (h3 : Blk w b3 #[.int .i64 (b - a + 1)] 2 (0, 0)) :
    Calls Tryd.prog 50 #[.int .i64 x, .pointer (some ⟨b1, 0, none⟩), .pointer (some ⟨b2, 0, none⟩), .pointer (some ⟨b3, 0, none⟩)] w fun e w' => e = .returned (.int .i64 (partV a b many x)) ∧ w' = w := by
  have c1 := h1.cell 0; have c2 := h2.cell 0; have c3 := h3.cell 0
  change w.cell? ⟨b1, 0, none⟩ = some (.int .i64 a) at c1
  change w.cell? ⟨b2, 0, none⟩ = some (.int .i64 many) at c2
  change w.cell? ⟨b3, 0, none⟩ = some (.int .i64 (b - a + 1)) at c3
  clear h1 h2 h3
  go_enter Tryd.func50, Tryd.ntmps50
  go_wp2_with fail
  rw [part_wrap hr hx hm]
  go_ret
  exact ⟨rfl, rfl⟩
end Go.Proofs.YtlddcnkiigamjaaDoor
/-
  A region that draws its order, by hand: its reads taken first where a condition on the world holds (S), which may GROW on the way; calls one by one. Over the kit's OrdersHeld.
-/
namespace Go.Proofs.YtlddcnkiigamjaaDoor
section
variable {P : Program} {ops : Array Oper} {Q : Exit → Act → World → Prop} {S S1 : World → Prop}
theorem heldA_grow (h : ∀ w, S1 w → S w) : ∀ (fuel : Nat) (listed : Array Bool) (a : Act) (w : World), wpAnyH P .any ops Q S1 fuel listed a w → wpAnyH P .any ops Q S fuel listed a w
  | 0, _, _, _, hh => hh
  | fuel + 1, _, _, _, hh => ⟨hh.1, fun i hi => wpOp_mono (fun a' w' h' => ⟨h w' h'.1, heldA_grow h fuel _ a' w' h'.2⟩) (hh.2 i hi)⟩
theorem heldA_take {i d : Nat} {oi : Oper} {v : Value} {fuel : Nat} {listed : Array Bool} {tmps : Array Value} {ds : List Deferred} {w : World} (hi : ops[i]? = some oi) (hd : oi.dst = some d) (hs : Region.noSelect ops = true) (hf : Region.free .any ops listed i = true)
    (hr : (Region.ready .any ops listed).contains i = true) (hQ : ∀ c a w, Q (.panic c) (a.put oi.dst v) w → Q (.panic c) a w) (hw : Region.wanted oi (yielded ops tmps) = true) (hy : ∀ w, S w → (execOp (Act.eval { tmps := tmps, defers := ds }) oi).run P w = .ok (.value v) w) (hS : S w)
    (h : wpAnyH P .any ops Q S fuel (listed.setIfInBounds i true) { tmps := tmps.setIfInBounds d v, defers := ds } w) : wpAnyH P .any ops Q S (fuel + 1) listed { tmps := tmps, defers := ds } w :=
  wpAnyH_take hi hs hf hr hQ (Or.inl ⟨hw, hy⟩) hS (by rw [hd]; exact h)
theorem heldA_one {i : Nat} {fuel : Nat} {listed : Array Bool} {a : Act} {w : World} (hr : Region.ready .any ops listed = [i])
    (h : wpOp P ops Q i (fun a' w' => S w' ∧ wpAnyH P .any ops Q S fuel (listed.setIfInBounds i true) a' w') a w) : wpAnyH P .any ops Q S (fuel + 1) listed a w :=
  ⟨fun h0 => (by rw [hr] at h0; cases h0), fun j hj => by rw [hr] at hj; obtain rfl : j = i := by simpa using hj
                                                          exact h⟩
theorem heldA_two {i k : Nat} {fuel : Nat} {listed : Array Bool} {a : Act} {w : World} (hr : Region.ready .any ops listed = [i, k])
    (h1 : wpOp P ops Q i (fun a' w' => S w' ∧ wpAnyH P .any ops Q S fuel (listed.setIfInBounds i true) a' w') a w) (h2 : wpOp P ops Q k (fun a' w' => S w' ∧ wpAnyH P .any ops Q S fuel (listed.setIfInBounds k true) a' w') a w) : wpAnyH P .any ops Q S (fuel + 1) listed a w :=
  ⟨fun h0 => (by rw [hr] at h0; cases h0), fun j hj => by
    rw [hr] at hj
    rcases List.mem_cons.1 hj with rfl | hj
    · exact h1
    · obtain rfl : j = k := by simpa using hj
      exact h2⟩
/-- a call of a Go function that comes back -/
theorem wpOp_calls {i : Nat} {o : Oper} {d : Nat} {tmps : Array Value} {ds : List Deferred} {w w' : World} {f : FuncId} {args : Array Value} {K : Act → World → Prop} {R : Ending → World → Prop} (hi : ops[i]? = some o) (hd : o.dst = some d) (hw : Region.wanted o (yielded ops tmps) = true)
    (he : (execOp (Act.eval { tmps := tmps, defers := ds }) o).run P w = .ok (.enter f args) w') (hc : Calls P f args w' R) (hk : ∀ v w'', R (.returned v) w'' → K { tmps := tmps.setIfInBounds d v, defers := ds } w'') (hp : ∀ ch w'', R (.panicked ch) w'' → False) (ho : ∀ w'', R .outgrown w'' → False) :
    wpOp P ops Q i K { tmps := tmps, defers := ds } w := by
  unfold wpOp
  rw [hi]
  simp only [hw, if_true]
  refine .inl ?_
  unfold Oper.wp
  rw [he]
  simp only [Oper.upon]
  refine hc.mono fun e w'' hr => ?_
  cases e with
  | returned v => dsimp only; rw [hd]; exact hk v w'' hr
  | panicked ch => exact (hp ch w'' hr).elim
  | outgrown => exact (ho w'' hr).elim
end
end Go.Proofs.YtlddcnkiigamjaaDoor
/- A region that draws: reads that the first store does not wait for itself, but through others (C). A value made in a region of reads. -/
namespace Go.Proofs.YtlddcnkiigamjaaDoor
section
variable {F : Fence} {n : Nat} {P : Program} {ops : Array Oper} {Q : Exit → Act → World → Prop} {S : World → Prop} {D : Nat}
theorem heldD_firstC {i : Nat} {oi : Oper} {v : Value} (C : List Nat) (hro : F.round = none) (hi : ops[i]? = some oi) (hsel : ∀ (j : Nat) (o : Oper) cs b, ops[j]? = some o → o.op ≠ .select cs b) (hQ : ∀ c a w, Q (.panic c) (a.put oi.dst v) w → Q (.panic c) a w)
    (hDC : D ∈ C) (hiC : i ∉ C) (hW : ∀ c ∈ C, ∀ oc, ops[c]? = some oc → ∃ e ∈ oc.after, Region.binds .any e = true ∧ (e.on = i ∨ e.on ∈ C)) :
    ∀ (fuel : Nat) (listed : Array Bool) (a : Act) (w : World), (∀ j oj, ops[j]? = some oj → j ≠ i → listed.getD j true = false → (∀ e ∈ oj.after, Region.binds .any e = true → e.on ≠ i) → oi.apart ops oj = true) →
      i ∈ Region.ready .any ops listed → ReadsIn P ops S oi v a → (∀ c ∈ C, listed.getD c true = false) → S w → heldD F n P ops Q S D fuel (listed.setIfInBounds i true) (a.put oi.dst v) w → heldD F n P ops Q S D (fuel + 1) listed a w := by
  intro fuel
  induction fuel with
  | zero =>
    intro listed a w _ hr hy _ hS H
    refine ⟨fun h => (by rw [h] at hr; cases hr), fun j hj => ?_⟩
    by_cases hji : j = i
    · subst hji; exact hy.op hro hi hS ⟨fun _ => hS, H⟩
    · have := ready_mono hj hji
      rw [H.1] at this; cases this
  | succ fuel ih =>
    intro listed a w hfree hr hy hC hS H
    refine ⟨fun h => (by rw [h] at hr; cases hr), fun j hj => ?_⟩
    by_cases hji : j = i
    · subst hji; exact hy.op hro hi hS ⟨fun _ => hS, H⟩
    obtain ⟨hjun, oj, hoj, hall⟩ := mem_ready.1 hj
    have hnot : ∀ e ∈ oj.after, Region.binds .any e = true → e.on ≠ i := fun e he hb heq => by
      have h1 := hall e he hb
      have h0 := (mem_ready.1 hr).1
      rw [heq] at h1
      rcases Nat.lt_or_ge i listed.size with h' | h'
      · simp [h'] at h0 h1; rw [h0] at h1; cases h1
      · simp [Array.getElem?_eq_none h'] at h1
    have hjC : j ∉ C := fun hc => by
      obtain ⟨e, he, hb, h | h⟩ := hW j hc oj hoj
      · exact hnot e he hb h
      · have h1 := hall e he hb
        have h0 := hC _ h
        rcases Nat.lt_or_ge e.on listed.size with h' | h'
        · simp [h'] at h0 h1; rw [h0] at h1; cases h1
        · simp [Array.getElem?_eq_none h'] at h1
    have hjD : j ≠ D := fun e => hjC (e ▸ hDC)
    have hDi : D ≠ i := fun e => hiC (e ▸ hDC)
    refine wpOpIn_mono (fun a' w' h3 => ?_)
      (swapIn hro hoj (hfree j oj hoj hji hjun hnot) (fun cs b => hsel i oi cs b hi) (fun cs b => hsel j oj cs b hoj) hQ hy (H.2 j (ready_mono hj hji)))
    have hS' : S w' := h3.2.1 (by rw [getD_set_ne true hjD, getD_set_ne true (Ne.symm hDi)]; exact hC D hDC)
    refine ⟨fun _ => hS', ih _ a' w' (fun k ok hk hki hun hno => hfree k ok hk hki ?_ hno) (ready_mono hr (Ne.symm hji)) h3.1 (fun c hc => by rw [getD_set_ne true (fun e : j = c => hjC (by rw [e]; exact hc))]; exact hC c hc) hS' ?_⟩
    · by_cases hjk : j = k
      · subst hjk; exact hjun
      · rwa [getD_set_ne true hjk] at hun
    · rw [Array.setIfInBounds_comm _ _ hji]; exact h3.2.2
/-- each of C waits for i, or for one of C -/
def waitsC (ops : Array Oper) (C : List Nat) (i : Nat) : Bool := C.all fun c => match ops[c]? with
  | some o => o.after.any fun e => Region.binds .any e && (e.on == i || C.contains e.on)
  | none => true
theorem heldD_takeC {i d : Nat} {oi : Oper} {v : Value} {fuel : Nat} {listed : Array Bool} {tmps : Array Value} {ds : List Deferred} {w : World} (C : List Nat) (hro : F.round = none) (hi : ops[i]? = some oi) (hd : oi.dst = some d) (hs : Region.noSelect ops = true) (hf : Region.free .any ops listed i = true)
    (hr : (Region.ready .any ops listed).contains i = true) (hDC : (C.contains D && !C.contains i) = true) (hW : waitsC ops C i = true) (hC : C.all (fun c => !listed.getD c true) = true) (hQ : ∀ c a w, Q (.panic c) (a.put oi.dst v) w → Q (.panic c) a w) (hw : Region.wanted oi (yielded ops tmps) = true)
    (hy : ∀ w, S w → oi.about P w (Act.eval { tmps := tmps, defers := ds }) = none ∧ (execOp (Act.eval { tmps := tmps, defers := ds }) oi).run P w = .ok (.value v) w) (hS : S w)
    (h : heldD F n P ops Q S D fuel (listed.setIfInBounds i true) { tmps := tmps.setIfInBounds d v, defers := ds } w) : heldD F n P ops Q S D (fuel + 1) listed { tmps := tmps, defers := ds } w := by
  simp only [Bool.and_eq_true, Bool.not_eq_true', List.contains_eq_mem, decide_eq_true_eq, decide_eq_false_iff_not] at hDC
  refine heldD_firstC C hro hi (Region.noSelect_spec hs) hQ hDC.1 hDC.2 (fun c hc oc hoc => ?_) fuel listed _ w (Region.free_spec hi hf) (by simpa using hr) ⟨hw, hy⟩ (fun c hc => ?_) hS (by rw [hd]; exact h)
  · have hq := List.all_eq_true.1 hW c hc
    rw [hoc] at hq
    simp only [Array.any_eq_true, Bool.and_eq_true, Bool.or_eq_true, beq_iff_eq, List.contains_eq_mem, decide_eq_true_eq] at hq
    obtain ⟨k, hk, h1, h2⟩ := hq
    exact ⟨_, Array.getElem_mem hk, h1, h2⟩
  · have hq := List.all_eq_true.1 hC c hc
    simpa using hq
theorem wpOp_valueA {i : Nat} {o : Oper} {d : Nat} {tmps : Array Value} {ds : List Deferred} {w w' : World} {v : Value} {K : Act → World → Prop} (hi : ops[i]? = some o) (hd : o.dst = some d) (hw : Region.wanted o (yielded ops tmps) = true)
    (he : (execOp (Act.eval { tmps := tmps, defers := ds }) o).run P w = .ok (.value v) w') (hk : K { tmps := tmps.setIfInBounds d v, defers := ds } w') : wpOp P ops Q i K { tmps := tmps, defers := ds } w := by
  unfold wpOp
  rw [hi]
  simp only [hw, if_true]
  refine .inl ?_
  unfold Oper.wp
  rw [he]
  simp only [Oper.upon]
  rw [hd]; exact hk
end
end Go.Proofs.YtlddcnkiigamjaaDoor
/- A region that draws: three, four that may come up; the rest of a region, by a name. -/
namespace Go.Proofs.YtlddcnkiigamjaaDoor
section
variable {F : Fence} {n : Nat} {P : Program} {ops : Array Oper} {Q : Exit → Act → World → Prop} {S : World → Prop} {D : Nat}
/-- the rest of a region, by a name -/
theorem heldD_H {fuel : Nat} {listed : Array Bool} {a : Act} {w : World} (h : ∀ H : Nat → Array Bool → Act → World → Prop, H = heldD F n P ops Q S D → H fuel listed a w) : heldD F n P ops Q S D fuel listed a w := h _ rfl
theorem heldD_HT {fuel : Nat} {listed : Array Bool} {tmps : Array Value} {ds : List Deferred} {w : World} (h : ∀ H : Nat → Array Bool → Act → World → Prop, H = heldD F n P ops Q S D → ∀ T : Array Value, T = tmps → H fuel listed { tmps := T, defers := ds } w) : heldD F n P ops Q S D fuel listed { tmps := tmps, defers := ds } w := h _ rfl _ rfl
theorem heldD_four {i k m o : Nat} {fuel : Nat} {listed : Array Bool} {a : Act} {w : World} (hr : Region.ready .any ops listed = [i, k, m, o])
    (h1 : wpOpIn F n P ops Q i (fun a' w' => ((listed.setIfInBounds i true).getD D true = false → S w') ∧ heldD F n P ops Q S D fuel (listed.setIfInBounds i true) a' w') a w)
    (h2 : wpOpIn F n P ops Q k (fun a' w' => ((listed.setIfInBounds k true).getD D true = false → S w') ∧ heldD F n P ops Q S D fuel (listed.setIfInBounds k true) a' w') a w)
    (h3 : wpOpIn F n P ops Q m (fun a' w' => ((listed.setIfInBounds m true).getD D true = false → S w') ∧ heldD F n P ops Q S D fuel (listed.setIfInBounds m true) a' w') a w)
    (h4 : wpOpIn F n P ops Q o (fun a' w' => ((listed.setIfInBounds o true).getD D true = false → S w') ∧ heldD F n P ops Q S D fuel (listed.setIfInBounds o true) a' w') a w) : heldD F n P ops Q S D (fuel + 1) listed a w :=
  ⟨fun h0 => (by rw [hr] at h0; cases h0), fun j hj => by
    rw [hr] at hj
    rcases List.mem_cons.1 hj with rfl | hj
    · exact h1
    · rcases List.mem_cons.1 hj with rfl | hj
      · exact h2
      · rcases List.mem_cons.1 hj with rfl | hj
        · exact h3
        · obtain rfl : j = o := by simpa using hj
          exact h4⟩
theorem heldD_three {i k m : Nat} {fuel : Nat} {listed : Array Bool} {a : Act} {w : World} (hr : Region.ready .any ops listed = [i, k, m])
    (h1 : wpOpIn F n P ops Q i (fun a' w' => ((listed.setIfInBounds i true).getD D true = false → S w') ∧ heldD F n P ops Q S D fuel (listed.setIfInBounds i true) a' w') a w)
    (h2 : wpOpIn F n P ops Q k (fun a' w' => ((listed.setIfInBounds k true).getD D true = false → S w') ∧ heldD F n P ops Q S D fuel (listed.setIfInBounds k true) a' w') a w)
    (h3 : wpOpIn F n P ops Q m (fun a' w' => ((listed.setIfInBounds m true).getD D true = false → S w') ∧ heldD F n P ops Q S D fuel (listed.setIfInBounds m true) a' w') a w) : heldD F n P ops Q S D (fuel + 1) listed a w :=
  ⟨fun h0 => (by rw [hr] at h0; cases h0), fun j hj => by
    rw [hr] at hj
    rcases List.mem_cons.1 hj with rfl | hj
    · exact h1
    · rcases List.mem_cons.1 hj with rfl | hj
      · exact h2
      · obtain rfl : j = m := by simpa using hj
        exact h3⟩
end
end Go.Proofs.YtlddcnkiigamjaaDoor
