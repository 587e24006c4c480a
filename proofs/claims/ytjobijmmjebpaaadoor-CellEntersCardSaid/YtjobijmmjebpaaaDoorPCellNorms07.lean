/- Texts of the law CellNorms, merged: WalkNodes, WalkBareP, CellP, CellNorm, NetInts, NetOneR. -/
import Derived.Test.YtjobijmmjebpaaaDoorPCellNorms06
import Derived.Test.YtjobijmmjebpaaaDoorPCellNorms03
import Derived.Maps.OwnIn
import Derived.Maps.OwnSet
import Derived.Maps.Views
import Derived.Test.YtjobijmmjebpaaaDoorPCellNorms00
import Derived.Maps.OwnOps
import Derived.Carry
import Derived.Laws.EntriesVeiled
import Derived.Test.YtjobijmmjebpaaaDoorPCellNorms02
import Derived.BigQuiet
import Derived.Deep.QuietTactic
import Derived.WalkSmall
/- walk.Nodes. -/
namespace Go.Proofs.YtjobijmmjebpaaaDoor
open Go.RowKit Go.Shelf
attribute [local go_sem] Oper.semAt_some
set_option maxHeartbeats 1000000 in
theorem node_any (p : Nat) (g : Raw) (v : Int) (w : World) (h : NetAt w p g) : Calls Tryd.prog 41 #[.pointer (some ⟨p, 0, none⟩), .int .i64 v] w fun e w' => e = .returned (.bool (decide (0 ≤ v ∧ v < g.nodes))) ∧ w' = w := by
  by_cases h0 : 0 ≤ v
  · have e : decide (0 ≤ v ∧ v < g.nodes) = decide (v < g.nodes) := by rw [Bool.eq_iff_iff]; simp [h0]
    rw [e]
    have HN := Lib.hid (nodes_any p g w h)
    clear h e
    have h0b : decide (0 ≤ v) = true := decide_eq_true h0
    go_enter Tryd.func41, Tryd.ntmps41
    go_wp2_with fail
    refine HN.out.mono ?_
    rintro e w' ⟨rfl, rfl⟩
    go_wp2_with fail
    go_ret
    exact ⟨rfl, rfl⟩
  · have e : decide (0 ≤ v ∧ v < g.nodes) = false := decide_eq_false (fun hh => h0 hh.1)
    rw [e]
    have h0b : decide (0 ≤ v) = false := decide_eq_false h0
    go_enter Tryd.func41, Tryd.ntmps41
    go_wp2_with fail
    go_ret
    exact ⟨rfl, rfl⟩
set_option maxHeartbeats 1000000 in
theorem node_nil (v : Int) (w : World) : Calls Tryd.prog 41 #[.pointer none, .int .i64 v] w fun e w' => e = .returned (.bool false) ∧ w' = w := by
  by_cases h0 : 0 ≤ v
  · have h0b : decide (0 ≤ v) = true := decide_eq_true h0
    have h1 : decide (v < 0) = false := decide_eq_false (by omega)
    have h2 : ¬ v < 0 := by omega
    go_enter Tryd.func41, Tryd.ntmps41
    go_wp2_with fail
    refine (nodes_nil w).mono ?_
    rintro e w' ⟨rfl, rfl⟩
    go_wp2_with fail
    go_ret
    exact ⟨rfl, rfl⟩
  · have h0b : decide (0 ≤ v) = false := decide_eq_false h0
    go_enter Tryd.func41, Tryd.ntmps41
    go_wp2_with fail
    go_ret
    exact ⟨rfl, rfl⟩
def rowN (s : Int) (pre : List (Ar × Bool)) : List Int := s :: pre.map fun x => x.1.2.1
theorem rowN_snoc (s : Int) (pre : List (Ar × Bool)) (x : Ar × Bool) : rowN s (pre ++ [x]) = rowN s pre ++ [x.1.2.1] := by unfold rowN; rw [List.map_append]; rfl
theorem rowN_len (s : Int) (pre : List (Ar × Bool)) : (rowN s pre).length = pre.length + 1 := by unfold rowN; simp
def okA (pre : List (Ar × Bool)) : Bool := pre.all (·.2)
theorem okA_snoc (pre : List (Ar × Bool)) (x : Ar × Bool) : okA (pre ++ [x]) = (okA pre && x.2) := by unfold okA; rw [List.all_append]; simp
theorem okA_pre {pre L : List (Ar × Bool)} (h : pre <+: L) (hf : okA pre = false) : okA L = false := by
  obtain ⟨r, rfl⟩ := h
  unfold okA at hf ⊢
  rw [List.all_append, hf]; rfl
theorem blk_ne {W : World} {i j : Nat} {cs ds : Array Value} {t s : TypeId} {f g : Nat × Nat} (h : Blk W i cs t f) (k : Blk W j ds s g) (hn : t ≠ s) : i ≠ j := fun e => by
  subst e
  have := (show _ = _ from h).symm.trans (show _ = _ from k)
  simp at this
  exact hn this.2.1
theorem nodesV_steps (g : Raw) (s : Int) (L : List Int) (h : 0 ≤ s ∧ s < g.nodes) : nodesV g s L = if okA (stepsV g s L) then some (rowN s (stepsV g s L)) else none := by
  unfold nodesV rowN
  rw [if_pos h, steps_wk]
  unfold okA
  split <;> rfl
/-- what the caller of Nodes holds between two rounds -/
structure NI (w W : World) (lo Ba Bn Bs B6 B7 B8 : Nat) (v : Value) (R : List Int) : Prop where
  box : Boxed W B8 30 v
  row : W.ownsRow lo 3 1 v R.length (R.flatMap inC)
  off : ∀ gg, v.ownBlock = some gg → gg ≠ Bs ∧ gg ≠ Ba ∧ gg ≠ Bn
  six : Blk W B6 #[.slice none 0 0] 30 (0, 0)
  sev : Blk W B7 #[.bool false] 4 (0, 0)
  below : Below lo w W
theorem NI.keep {w W W' : World} {lo Ba Bn Bs B6 B7 B8 : Nat} {v : Value} {R : List Int} (h : NI w W lo Ba Bn Bs B6 B7 B8 v R) (hk : ∀ k cs t fr, Blk W k cs t fr → k ≠ Bs → W'.heap[k]? = W.heap[k]?) (hne : B6 ≠ Bs ∧ B7 ≠ Bs ∧ B8 ≠ Bs) (hb : Below lo W W') : NI w W' lo Ba Bn Bs B6 B7 B8 v R :=
  ⟨(hk B8 _ _ _ h.box hne.2.2).trans h.box, ownsRow_agree' h.row (fun k hk' => by obtain ⟨_, _, hq⟩ := ownsRow_blk' h.row hk'; exact hk k _ _ _ hq (h.off k hk').1), h.off, (hk B6 _ _ _ h.six hne.1).trans h.six, (hk B7 _ _ _ h.sev hne.2.1).trans h.sev, h.below.trans hb⟩
theorem NI.st {w W W' : World} {lo Ba Bn Bs B6 B7 B8 : Nat} {v : Value} {R : List Int} (h : NI w W lo Ba Bn Bs B6 B7 B8 v R) (hk : Kept (fun k => k = Bs) W W') (hne : B6 ≠ Bs ∧ B7 ≠ Bs ∧ B8 ≠ Bs) (hlo : lo ≤ Bs) (hBs : lo ≤ w.heap.size) : NI w W' lo Ba Bn Bs B6 B7 B8 v R :=
  h.keep (fun k cs t fr hb hn => hk.block k hb.lt hn) hne (hk.below (Nat.le_trans hBs h.below.size) (fun k e => by omega))
theorem NI.put {w W : World} {lo Ba Bn Bs B6 B7 B8 l : Nat} {v : Value} {R : List Int} {o o' : Obj} (h : NI w W lo Ba Bn Bs B6 B7 B8 v R) (hne : B6 ≠ Bs ∧ B7 ≠ Bs ∧ B8 ≠ Bs) (hl : lo ≤ l) (ho : W.heap[l]? = some o) (hc : o.isCells = false) : NI w (W.putObj l o') lo Ba Bn Bs B6 B7 B8 v R :=
  h.keep (fun k cs t fr hb _ => World.putObj_heap_other (fun e => by
    subst e
    rw [show W.heap[k]? = _ from hb] at ho
    obtain rfl := Option.some.inj ho
    cases hc)) hne (below_put (Below.refl _ _) hl)
theorem nodes_nilW (m : Nat) (s : Int) (va : Value) (w : World) : CallsIn Fence.wide m Tryd.prog 23 #[.pointer none, .int .i64 s, va] w fun e w' => e = .returned (.tuple #[.slice none 0 0, .bool false]) ∧ Below w.heap.size w w' := by
  refine callsIn_wide.2 ?_
  go_enter Tryd.func23, Tryd.ntmps23
  go_wp2_with fail
  refine (node_nil s _).mono ?_
  rintro e w' ⟨rfl, rfl⟩
  go_wp2_with fail
  exact bodyPost_ret (v := .tuple #[.slice none 0 0, .bool false]) (by simp [results, Tryd.results23, go_sem]) rfl ⟨rfl, ((Below.refl _ _).alloc (Nat.le_refl _) _).alloc (by simp) _⟩
set_option maxRecDepth 100000 in
set_option maxHeartbeats 8000000 in
theorem wnodes_in (m : Nat) (hm : 4 ≤ m) (p : Nat) (g : Raw) (s : Int) (va : Value) (L : List Int) (hL : L.length ≤ 100000) (w : World) (hn : NetAt w p g) (ha : SlX w va L) :
    CallsIn Fence.wide m Tryd.prog 23 #[.pointer (some ⟨p, 0, none⟩), .int .i64 s, va] w fun e w' => ∃ v, e = .returned (.tuple #[v, .bool (nodesV g s L).isSome]) ∧ w'.ownsRow w.heap.size 3 1 v ((nodesV g s L).getD []).length (((nodesV g s L).getD []).flatMap inC) ∧ Below w.heap.size w w' := by
  have h1 : 1 ≤ m := by omega
  obtain ⟨a, cap, rfl, _⟩ := id ha
  obtain ⟨i0, hi, hz0, hz1, hz2⟩ := info_parts infoInt
  have HI := Lib.hid (And.intro hi (And.intro hz0 (And.intro hz1 hz2)))
  have HA := Lib.hid ha; have HN := Lib.hid hn
  clear ha hn hi hz0 hz1 hz2
  obtain ⟨b0, hb0⟩ : ∃ b, b = decide (0 ≤ s ∧ s < g.nodes) := ⟨_, rfl⟩
  have HCn := Lib.hid (fun u (hu : Below w.heap.size w u) => node_any p g s u (HN.out.keep (KpC.of_below hu)))
  rw [← hb0] at HCn
  have Hb0 := Lib.hid hb0
  clear hb0
  refine callsIn_of_wp_marks Tryd.func23 rfl trivial ?_ rfl
  simp only [Tryd.ntmps23, List.size_toArray, List.length_cons, List.length_nil, Nat.reduceAdd, Nat.reduceSub, Array.replicate_succ, Array.replicate_zero, List.push_toArray, List.append_toArray, List.nil_append, List.cons_append]
  have hb2 : Below w.heap.size w ((w.alloc (.cells #[.slice none 0 0] 30)).alloc (.cells #[.bool false] 4)) := ((Below.refl _ _).alloc (Nat.le_refl _) _).alloc (by simp) _
  have HB2 := Lib.hid hb2
  clear hb2
  cases b0 with
  | false =>
    have hno : nodesV g s L = none := by unfold nodesV; rw [if_neg (of_decide_eq_false Hb0.out.symm)]
    have HNo := Lib.hid hno
    clear hno
    gi_wp2_with (refine ⟨trivial, ?_⟩; gi_at_call 41; refine (callsIn_wide.2 (HCn.out _ HB2.out)).mono ?_; rintro e w' ⟨rfl, rfl⟩)
    refine leaves_marks (by simp) _ _ trivial HB2.out fun w' hk' hb' => ?_
    have k6 : Blk w' w.heap.size #[.slice none 0 0] 30 (0, 0) := hk'.blk ((Blk.new _ _ _ _).alloc _)
    have k7 : Blk w' (w.heap.size + 1) #[.bool false] 4 (0, 0) := hk'.blk (by have h := Blk.new (w.alloc (.cells #[.slice none 0 0] 30)) #[.bool false] 4 (0, 0); rwa [World.size_alloc] at h)
    have c6 := k6.cell 0; have c7 := k7.cell 0
    simp only [List.getElem?_toArray, List.getElem?_cons_zero] at c6 c7
    refine ⟨.tuple #[.slice none 0 0, .bool false], by simp [results, Tryd.results23, c6, c7, go_sem], .slice none 0 0, by rw [HNo.out]; rfl, by rw [HNo.out]; exact World.ownsRow_nil _ _ _ _, hb'⟩
  | true =>
    have hs := of_decide_eq_true Hb0.out.symm
    have hst := nodesV_steps g s L hs
    have HSt := Lib.hid hst
    clear hst
    obtain ⟨z, hz⟩ : ∃ b, b = w.heap.size := ⟨_, rfl⟩
    obtain ⟨wA, hwA⟩ : ∃ u, u = (((w.alloc (.cells #[.slice none 0 0] 30)).alloc (.cells #[.bool false] 4)).alloc (.cells #[.int .i64 s] 3)).alloc (.cells #[.slice (some ⟨w.heap.size + 1 + 1, 0, none⟩) 1 1] 30) := ⟨_, rfl⟩
    have hbA : Below w.heap.size w wA := by rw [hwA]; exact ((((Below.refl _ _).alloc (Nat.le_refl _) _).alloc (by simp) _).alloc (by simp; omega) _).alloc (by simp; omega) _
    have hzA : wA.heap.size = z + 4 := by rw [hwA, hz]; simp
    have k6 : Blk wA z #[.slice none 0 0] 30 (0, 0) := by rw [hwA, hz]; exact (((Blk.new _ _ _ _).alloc _).alloc _).alloc _
    have k7 : Blk wA (z + 1) #[.bool false] 4 (0, 0) := by
      rw [hwA, hz]
      have h := Blk.new (w.alloc (.cells #[.slice none 0 0] 30)) #[.bool false] 4 (0, 0)
      rw [World.size_alloc] at h
      exact (h.alloc _).alloc _
    have kl : Blk wA (z + 2) #[.int .i64 s] 3 (0, 0) := by
      rw [hwA, hz]
      have h := Blk.new ((w.alloc (.cells #[.slice none 0 0] 30)).alloc (.cells #[.bool false] 4)) #[.int .i64 s] 3 (0, 0)
      rw [World.size_alloc, World.size_alloc] at h
      exact h.alloc _
    have k8 : Blk wA (z + 3) #[.slice (some ⟨z + 2, 0, none⟩) 1 1] 30 (0, 0) := by
      rw [hwA, hz]
      have h := Blk.new (((w.alloc (.cells #[.slice none 0 0] 30)).alloc (.cells #[.bool false] 4)).alloc (.cells #[.int .i64 s] 3)) #[.slice (some ⟨w.heap.size + 1 + 1, 0, none⟩) 1 1] 30 (0, 0)
      rw [World.size_alloc, World.size_alloc, World.size_alloc] at h
      exact h
    have HWA := Lib.hid hwA; have HBA := Lib.hid hbA; have HZA := Lib.hid hzA; have HKA := Lib.hid (And.intro k6 (And.intro k7 (And.intro kl k8))); have HZ := Lib.hid hz
    clear hwA hbA hzA k6 k7 kl k8
    gi_wp2_with (refine ⟨trivial, ?_⟩; gi_at_call 41; refine (callsIn_wide.2 (HCn.out _ HB2.out)).mono ?_; rintro e w' ⟨rfl, rfl⟩)
    rw [← HWA.out, ← HZ.out]
    clear hz
    refine ⟨trivial, ?_⟩
    refine (steps_in (m - 1) (some ⟨p, 0, none⟩) s _ rfl wA).mono ?_
    rintro e W0 ⟨rfl, hW0⟩
    rw [HZA.out]
    have hz0 : W0.heap.size = z + 7 := by rw [hW0]; simp [HZA.out]
    have hb0 : Below wA.heap.size wA W0 := by rw [hW0]; exact (((Below.refl _ _).alloc (Nat.le_refl _) _).alloc (by simp) _).alloc (by simp; omega) _
    have kn : Blk W0 (z + 4) #[.pointer (some ⟨p, 0, none⟩)] 28 (0, 0) := by rw [hW0, ← HZA.out]; exact ((Blk.new _ _ _ _).alloc _).alloc _
    have ks : Blk W0 (z + 4 + 1) #[.int .i64 s] 3 (0, 0) := by
      rw [hW0, ← HZA.out]
      have h := Blk.new (wA.alloc (.cells #[.pointer (some ⟨p, 0, none⟩)] 28)) #[.int .i64 s] 3 (0, 0)
      rw [World.size_alloc] at h
      exact h.alloc _
    have ka : Blk W0 (z + 4 + 1 + 1) #[.slice a L.length cap] 30 (0, 0) := by
      rw [hW0, ← HZA.out]
      have h := Blk.new ((wA.alloc (.cells #[.pointer (some ⟨p, 0, none⟩)] 28)).alloc (.cells #[.int .i64 s] 3)) #[.slice a L.length cap] 30 (0, 0)
      rw [World.size_alloc, World.size_alloc] at h
      exact h
    have hbw : Below w.heap.size w W0 := HBA.out.next' hb0
    rw [← HZ.out] at hbw
    have k6 := HKA.out.1.below hb0 HKA.out.1.lt
    have k7 := HKA.out.2.1.below hb0 HKA.out.2.1.lt
    have kl := HKA.out.2.2.1.below hb0 HKA.out.2.2.1.lt
    have k8 := HKA.out.2.2.2.below hb0 HKA.out.2.2.2.lt
    have hNI : NI w W0 z (z + 4 + 1 + 1) (z + 4) (z + 4 + 1) z (z + 1) (z + 1 + 1 + 1) (.slice (some ⟨z + 1 + 1, 0, none⟩) 1 1) (rowN s []) := ⟨k8, ⟨rfl, .inr ⟨z + 1 + 1, 1, #[.int .i64 s], rfl, by omega, kl, Nat.le_refl _, by unfold maxLen; omega, rfl, rfl⟩⟩, fun gg hg => by (have : z + 1 + 1 = gg := by simpa [Value.ownBlock] using hg); omega, k6, k7, hbw⟩
    have hne : z ≠ z + 4 + 1 ∧ z + 1 ≠ z + 4 + 1 ∧ z + 1 + 1 + 1 ≠ z + 4 + 1 := ⟨by omega, by omega, by omega⟩
    have hkp : ∀ u, Below z w u → NetAt u p g := fun u hu => HN.out.keep (KpC.of_below (by rw [HZ.out] at hu; exact hu))
    have hka : ∀ u, Below z w u → SlX u (.slice a L.length cap) L := fun u hu => HA.out.keep (KpC.of_below (by rw [HZ.out] at hu; exact hu))
    have HW0 := Lib.hid (And.intro hz0 (And.intro hbw (And.intro hkp hka)))
    have HK0 := Lib.hid (And.intro kn (And.intro ks (And.intro ka hNI)))
    clear hW0 hb0 kn ks ka k6 k7 kl k8 hNI hz0 hbw hkp hka HKA HWA HBA HZA
    gi_wp2_with fail
    have hz0 := HW0.out.1
    refine wpIn_rangeSt (F := Fence.wide) rfl h1 (gf := 54) (lb := #[.pointer (some ⟨z + 4 + 1 + 1, 0, none⟩), .pointer (some ⟨z + 4, 0, none⟩), .pointer (some ⟨z + 4 + 1, 0, none⟩)]) rfl trivial (enters_of Tryd.func54 (by kernel_rfl) rfl)
      encS (fun _ => rfl) (fun A B => Kept (fun k => k = z + 4 + 1) A B) (KpW z (z + 4 + 1 + 1) (z + 4) (z + 4 + 1)) (fun ys => ys = stepsV g s L) (fun pre => pre <+: stepsV g s L) L.length
      (fun l J Jx W hb hJ _ hY h0 => by
        have hbz : Below z w W := HW0.out.2.1.trans (hb.mono (by omega))
        exact steps1_in (m - 1) (by omega) l (z + 4 + 1 + 1) (z + 4) (z + 4 + 1) z w p g _ L s HW0.out.2.2.1 HW0.out.2.2.2 ⟨by omega, by omega, by omega⟩ ⟨by omega, by omega⟩ J Jx hJ hY W hbz (by have := hb.size; omega) (HK0.out.2.2.1.below hb HK0.out.2.2.1.lt) (HK0.out.1.below hb HK0.out.1.lt) (HK0.out.2.1.below hb HK0.out.2.1.lt) h0)
      (fun A B k o h hk ho hc => (h.block k (Array.getElem?_eq_some_iff.1 ho).1 (by omega)).trans ho)
      (fun pre W => (∃ v, NI w W z (z + 4 + 1 + 1) (z + 4) (z + 4 + 1) z (z + 1) (z + 1 + 1 + 1) v (rowN s pre)) ∧ pre.length ≤ L.length ∧ okA pre = true ∧ W0.heap.size ≤ W.heap.size)
      (fun s A B h hst => by obtain ⟨⟨v, h⟩, h2, h3, h4⟩ := h; exact ⟨⟨v, h.st hst hne (by omega) (by have := HZ.out; omega)⟩, h2, h3, Nat.le_trans h4 hst.size⟩)
      (fun s A l o o' h hl ho hc => by obtain ⟨⟨v, h⟩, h2⟩ := h; exact ⟨⟨v, h.put hne (by omega) ho hc⟩, by simpa using h2⟩)
      (fun s A o h => by obtain ⟨⟨v, h⟩, h2⟩ := h; exact ⟨⟨v, h.keep (fun k cs t fr hb _ => Below.heap_alloc _ _ _ hb.lt) hne ((Below.refl _ _).alloc (by have := h.below.size; have := HZ.out; omega) _)⟩, h2.1, h2.2.1, by simp; omega⟩)
      (fun c pre W => c = .ret ∧ okA pre = false ∧ Blk W z #[.slice none 0 0] 30 (0, 0) ∧ Blk W (z + 1) #[.bool false] 4 (0, 0) ∧ Below z w W)
      (fun c s A B h hst => ⟨h.1, h.2.1, hst.blk h.2.2.1 (by omega), hst.blk h.2.2.2.1 (by omega), h.2.2.2.2.trans (hst.below (by have := h.2.2.2.2.size; have := HZ.out; omega) (fun k e => by omega))⟩)
      (fun c s A l o o' h hl ho hc => ⟨h.1, h.2.1, (KpC.put ho hc).blk h.2.2.1, (KpC.put ho hc).blk h.2.2.2.1, below_put h.2.2.2.2 (by omega)⟩)
      KpW.trans (fun W l o o' hl h h1 => KpW.put (w := W0) (by omega) ⟨by omega, by omega, by omega⟩ W l o o' hl h h1)
      ⟨⟨_, HK0.out.2.2.2⟩, Nat.zero_le _, rfl, Nat.le_refl _⟩
      (fun pre x a1 W => ∃ Bx, a1 = { tmps := #[.pointer (some ⟨p, 0, none⟩), .int .i64 s, .slice a L.length cap, undef, undef, undef, .pointer (some ⟨z, 0, none⟩), .pointer (some ⟨z + 1, 0, none⟩), .pointer (some ⟨z + 1 + 1 + 1, 0, none⟩), .pointer (some ⟨Bx, 0, none⟩), .bool x.2, .pointer (some ⟨p, 0, none⟩), .int .i64 s, .bool true, .bool false, .int .i64 s, .slice (some ⟨z + 1 + 1, 0, none⟩) 1 1, .pointer (some ⟨p, 0, none⟩), .int .i64 s, .slice a L.length cap, .func (.func 54) #[] #[.pointer (some ⟨z + 4 + 1 + 1, 0, none⟩), .pointer (some ⟨z + 4, 0, none⟩), .pointer (some ⟨z + 4 + 1, 0, none⟩)], arV x.1, .bool x.2, undef, undef, undef, undef, undef, undef, undef, undef], defers := [] } ∧ Blk W Bx #[.int .i64 x.1.1, .int .i64 x.1.2.1, .int .i64 x.1.2.2] 45 (0, 0) ∧ (∃ v, NI w W z (z + 4 + 1 + 1) (z + 4) (z + 4 + 1) z (z + 1) (z + 1 + 1 + 1) v (rowN s pre)) ∧ pre.length < L.length ∧ okA pre = true ∧ W0.heap.size ≤ W.heap.size)
      (fun pre x a1 W l o o' h hl ho hc => by obtain ⟨Bx, e, h1, ⟨v, h2⟩, h3⟩ := h; exact ⟨Bx, e, (KpC.put ho hc).blk h1, ⟨v, h2.put hne (by omega) ho hc⟩, by simpa using h3⟩)
      ?assign ?body ?done ?stop
    case assign =>
      intro l pre x W K hI hlt hK
      obtain ⟨⟨x0, x1, x2⟩, q⟩ := x
      dsimp only [encS, arV]
      gi_wp2_with fail
      have hb4 : Below W.heap.size W (W.alloc (.cells #[.int .i64 x0, .int .i64 x1, .int .i64 x2] 45)) := (Below.refl _ _).alloc (Nat.le_refl _) _
      obtain ⟨⟨v, h1⟩, h2, h3, h4⟩ := hI
      exact hK _ _ ⟨W.heap.size, rfl, Blk.new _ _ _ _, ⟨v, h1.keep (fun k cs t fr hb _ => Below.heap_alloc _ _ _ hb.lt) hne ((Below.refl _ _).alloc (by omega) _)⟩, hlt, h3, by simp; omega⟩ ((KeepsOthers.alloc _ _).from _) (KpW.of_below hb4 (by omega) ⟨by omega, by omega, by omega⟩)
    case body =>
      rintro l' pre ⟨⟨x0, x1, x2⟩, q⟩ a1 W ⟨Bx, rfl, kx, ⟨v, hN⟩, hlt, hall, hszW⟩ hlt'
      dsimp only
      cases q with
      | false =>
        have c6 := hN.six.free 0 (Or.inr (Nat.zero_le _)); have c7 := hN.sev.free 0 (Or.inr (Nat.zero_le _))
        have d6 := hN.six.cell 0; have d7 := hN.sev.cell 0
        simp only [List.getElem?_toArray, List.getElem?_cons_zero] at d6 d7
        gi_wp2_with fail
        exact ⟨((KeepsOthers.setCell _ _ _).trans (KeepsOthers.setCell _ _ _)).from _, rfl, by rw [okA_snoc]; simp, (hN.six.set 0 _).setOther _ _ (by simp), (hN.sev.setOther _ _ (by simp)).set 0 _, (hN.below.setCell (p := ⟨z, 0, none⟩) (Nat.le_refl _) _).setCell (p := ⟨z + 1, 0, none⟩) (by simp) _⟩
      | true =>
        have c0 := kx.cell 1
        have hc := hN.box.cell
        have hrow := hN.row
        simp only [List.getElem?_toArray, List.getElem?_cons_succ, List.getElem?_cons_zero] at c0
        obtain ⟨va, vn, vc, rfl⟩ : ∃ a n c, v = .slice a n c := by
          rcases hrow.2 with ⟨rfl, _⟩ | ⟨gg, cap, cur, rfl, _⟩
          · exact ⟨_, _, _, rfl⟩
          · exact ⟨_, _, _, rfl⟩
        have hln := rowN_len s pre
        have HN' := Lib.hid hN
        gi_wp2_with (gi_at_builtin; refine wpListIn_append_own_at (F := _) _ rfl _ _ 30 rfl z 3 i0 (.int .i64 0) 1 8 Tryd.underlying30 HI.out.1 HI.out.2.1 HI.out.2.2.1 HI.out.2.2.2 rfl (by decide) _ _ _ rfl (hrow.alloc _) ⟨W.heap.size, 0, none⟩ 1 1 [.int .i64 x1] rfl rfl (cell_one_new _ _ _) (by simp [Value.oneCell']) (by unfold maxLen; omega) (by omega) (by simp; omega) ?_; intro v' w1 hown' hgrow _ hat; obtain ⟨g', cap', rfl⟩ := ownsRow_succ hown'; obtain ⟨hv1, hv2, hr2, hk2, hb2⟩ := hN.box.appended (by decide) hrow (by omega) (by omega) hown' hgrow; have hc1 := hv1.cell; have hf1 := hv1.frozen)
        rw [hln] at hv2 hr2 hk2 hb2 hat
        have hk : ∀ k, k < W.heap.size → k ≠ z + 1 + 1 + 1 → (Value.slice va vn vc).ownBlock ≠ some k → (w1.setCell ⟨z + 1 + 1 + 1, 0, none⟩ (.slice (some ⟨g', 0, none⟩) (pre.length + 1 + 1) cap')).heap[k]? = W.heap[k]? := fun k hk n1 n2 => (heap_setCell_other _ _ _ _ n1).trans ((hgrow.block k (by simp; omega) (fun e => n2 e.symm)).trans (Below.heap_alloc W _ k hk))
        have hkt : ∀ k cs t fr, Blk W k cs t fr → k ≠ z + 1 + 1 + 1 → t ≠ 3 → (w1.setCell ⟨z + 1 + 1 + 1, 0, none⟩ (.slice (some ⟨g', 0, none⟩) (pre.length + 1 + 1) cap')).heap[k]? = W.heap[k]? := fun k cs t fr hb n1 n2 => hk k hb.lt n1 fun e => by obtain ⟨_, _, hq⟩ := ownsRow_blk' hrow e; exact blk_ne hb hq n2 rfl
        have hoff : ∀ gg, (Value.slice (some ⟨g', 0, none⟩) (pre.length + 1 + 1) cap').ownBlock = some gg → gg ≠ z + 4 + 1 ∧ gg ≠ z + 4 + 1 + 1 ∧ gg ≠ z + 4 := fun gg hg => by
          rcases hat with e | e
          · exact hN.off gg (e ▸ hg)
          · rw [e] at hg
            have : (W.alloc (.cells #[.int .i64 x1] 3)).heap.size = gg := by simpa using hg
            simp at this; omega
        have hrw : rowN s (pre ++ [((x0, x1, x2), true)]) = rowN s pre ++ [x1] := rowN_snoc s pre _
        refine ⟨hk2.from _, ⟨hb2, fun b hb => hk b (by omega) (by omega) (fun e => ?_), fun k cs fr hb => (hkt k cs _ fr hb (blk_ne hb hN.box (by decide)) (by decide)).trans hb⟩, ⟨_, hv2, ?_, hoff, (hkt _ _ _ _ hN.six (by omega) (by decide)).trans hN.six, (hkt _ _ _ _ hN.sev (by omega) (by decide)).trans hN.sev, hN.below.trans hb2⟩, by simp; omega, by rw [okA_snoc, hall]; rfl, by have := hb2.size; omega⟩
        · have := hN.off b e; omega
        · rw [hrw]; simpa [inC, hln] using hr2
    case done =>
      rintro D ys W hD rfl ⟨⟨v, hN⟩, hlen, hall, hsz⟩ hDf
      obtain ⟨va, vn, vc, rfl⟩ : ∃ a n c, v = .slice a n c := by
        rcases hN.row.2 with ⟨rfl, _⟩ | ⟨gg, cap, cur, rfl, _⟩
        · exact ⟨_, _, _, rfl⟩
        · exact ⟨_, _, _, rfl⟩
      have hc := hN.box.cell
      have c6 := hN.six.free 0 (Or.inr (Nat.zero_le _)); have c7 := hN.sev.free 0 (Or.inr (Nat.zero_le _))
      have d6 := hN.six.cell 0; have d7 := hN.sev.cell 0
      simp only [List.getElem?_toArray, List.getElem?_cons_zero] at d6 d7
      have hrow := hN.row
      have hyes : nodesV g s L = some (rowN s (stepsV g s L)) := by rw [HSt.out, if_pos hall]
      have HY := Lib.hid (And.intro hyes (And.intro hrow hN))
      clear hrow hyes hN
      gi_wp2_with fail
      have k6 := (HY.out.2.2.six.set 0 (.slice va vn vc)).setOther ⟨z + 1, 0, none⟩ (.bool true) (by simp)
      have k7 := (HY.out.2.2.sev.setOther ⟨z, 0, none⟩ (.slice va vn vc) (by simp)).set 0 (.bool true)
      have hbE : Below z w ((W.setCell ⟨z, 0, none⟩ (.slice va vn vc)).setCell ⟨z + 1, 0, none⟩ (.bool true)) := (HY.out.2.2.below.setCell (p := ⟨z, 0, none⟩) (Nat.le_refl _) _).setCell (p := ⟨z + 1, 0, none⟩) (by simp) _
      have hrE : ((W.setCell ⟨z, 0, none⟩ (.slice va vn vc)).setCell ⟨z + 1, 0, none⟩ (.bool true)).ownsRow z 3 1 (.slice va vn vc) (rowN s (stepsV g s L)).length ((rowN s (stepsV g s L)).flatMap inC) := ownsRow_agree' HY.out.2.1 (fun k hk' => by
        obtain ⟨_, _, hq⟩ := ownsRow_blk' HY.out.2.1 hk'
        exact (heap_setCell_other _ _ _ _ (blk_ne hq HY.out.2.2.sev (by decide))).trans (heap_setCell_other _ _ _ _ (blk_ne hq HY.out.2.2.six (by decide))))
      have hDE : ((W.setCell ⟨z, 0, none⟩ (.slice va vn vc)).setCell ⟨z + 1, 0, none⟩ (.bool true)).heap[D]? = some (.deferred (some [])) := (heap_setCell_other _ _ _ _ (show D ≠ z + 1 by omega)).trans ((heap_setCell_other _ _ _ _ (show D ≠ z by omega)).trans hDf)
      rw [HY.out.1, ← HZ.out]
      refine leaves_marks (B := z) (by simp) _ _ ⟨⟨D, rfl, by omega, hDE, fun d' h => by cases h⟩, trivial⟩ hbE fun w' hk' hb' => ?_
      have m6 := hk'.blk k6; have m7 := hk'.blk k7
      have c6 : w'.cell? ⟨z, 0, none⟩ = some (.slice va vn vc) := m6.cell 0
      have c7 : w'.cell? ⟨z + 1, 0, none⟩ = some (.bool true) := m7.cell 0
      exact ⟨.tuple #[.slice va vn vc, .bool true], by simp [results, Tryd.results23, c6, c7, go_sem], _, rfl, ownsRow_agree' hrE (fun k e => by obtain ⟨_, _, hq⟩ := ownsRow_blk' hrE e; exact (hk'.blk hq).trans (show _ = _ from hq).symm), hb'⟩
    case stop =>
      rintro D c pre W hD hpre ⟨rfl, hall, k6, k7, hb⟩ hDf
      have hno : nodesV g s L = none := by rw [HSt.out, if_neg (by rw [okA_pre hpre hall]; simp)]
      gi_wp2_with fail
      rw [hno, ← HZ.out]
      refine leaves_marks (B := z) (by simp) _ _ ⟨⟨D, rfl, by omega, hDf, fun d' h => by cases h⟩, trivial⟩ hb fun w' hk' hb' => ?_
      have m6 := hk'.blk k6; have m7 := hk'.blk k7
      have c6 := m6.cell 0; have c7 := m7.cell 0
      simp only [List.getElem?_toArray, List.getElem?_cons_zero] at c6 c7
      exact ⟨.tuple #[.slice none 0 0, .bool false], by simp [results, Tryd.results23, c6, c7, go_sem], _, rfl, World.ownsRow_nil _ _ _ _, hb'⟩
end Go.Proofs.YtjobijmmjebpaaaDoor
/- walk.Bare, in plain words: where a node lies in the trail, as a map keeps it; a row cut short. -/
namespace Go.Proofs.YtjobijmmjebpaaaDoor
open Go.RowKit Go.Shelf
/-- a row of ours, cut short -/
theorem ownsRow_take {w : World} {base : Nat} {e : TypeId} {a : Option Addr} {n c : Nat} {xs : List Value} (h : w.ownsRow base e 1 (.slice a n c) n xs) (k : Nat) (hk : k ≤ n) : w.ownsRow base e 1 (.slice a k c) k (xs.take k) := by
  obtain ⟨hl, h⟩ := h
  refine ⟨by rw [List.length_take]; omega, ?_⟩
  rcases h with ⟨h, h0⟩ | ⟨g, cap, cur, h, h1, h2, h3, h4, h5, h6⟩
  · obtain rfl : k = 0 := by omega
    refine .inl ⟨?_, rfl⟩
    simp at h ⊢
    exact ⟨h.1, h.2.2⟩
  · simp at h
    obtain ⟨rfl, rfl⟩ := h
    refine .inr ⟨g, c, cur, rfl, h1, h2, by omega, h4, h5, ?_⟩
    rw [← h6, List.take_take]
    congr 1
    omega
theorem flat_take (L : List Int) (k : Nat) : (L.flatMap inC).take k = (L.take k).flatMap inC := by
  induction L generalizing k with
  | nil => simp
  | cons x L ih =>
    cases k with
    | zero => rfl
    | succ k => rw [List.flatMap_cons, List.take_succ_cons, List.flatMap_cons, ← ih]; rfl
theorem idx_in {A B : List Int} {v : Int} (h : v ∈ A) : (A ++ B).idxOf v = A.idxOf v := by rw [List.idxOf_append, if_pos h]
theorem idx_out {A B : List Int} {v : Int} (h : v ∉ A) : (A ++ B).idxOf v = B.idxOf v + A.length := by rw [List.idxOf_append, if_neg h]
def kOf (v : Int) : Lit := .int .i64 v
theorem kOf_key (v : Int) : WideAt.IsKeyLit (kOf v) := by unfold kOf WideAt.IsKeyLit; trivial
theorem kOf_ne {v u : Int} (h : v ≠ u) : kOf v ≠ kOf u := fun e => h (by unfold kOf at e; injection e)
/-- the map says where each of them lies in the trail: those that p holds for -/
def PlaceP (D : DataW Unit) (T : List Int) (p : Int → Bool) : Prop := ∀ v : Int, Maps.has D (kOf v) = (decide (v ∈ T) && p v) ∧ (v ∈ T → p v = true → ∀ z, D.atKey (kOf v) z = .lit (.int .i64 (T.idxOf v)))
def PlaceOf (D : DataW Unit) (T : List Int) : Prop := PlaceP D T fun _ => true
theorem PlaceOf.one {D : DataW Unit} (hD : Maps.IsMap D) (h0 : ∀ k, Maps.has D k = false) (s : Int) : PlaceOf (D.put (kOf s) (.lit (.int .i64 0))) [s] := fun v => by
  by_cases e : v = s
  · subst e
    refine ⟨by rw [Maps.has_put_same hD (kOf_key v)]; simp, fun _ _ z => ?_⟩
    rw [Maps.atKey_put_same hD (kOf_key v)]; simp
  · refine ⟨by rw [Maps.has_put_other (kOf_ne e), h0]; simp [e], fun hm => ?_⟩
    simp at hm; exact absurd hm e
theorem PlaceOf.put {D : DataW Unit} {T : List Int} (h : PlaceOf D T) (hD : Maps.IsMap D) {u : Int} (hu : u ∉ T) : PlaceOf (D.put (kOf u) (.lit (.int .i64 T.length))) (T ++ [u]) := fun v => by
  by_cases e : v = u
  · subst e
    refine ⟨by rw [Maps.has_put_same hD (kOf_key v)]; simp, fun _ _ z => ?_⟩
    rw [Maps.atKey_put_same hD (kOf_key v), idx_out hu]; simp
  · obtain ⟨h1, h2⟩ := h v
    refine ⟨by rw [Maps.has_put_other (kOf_ne e), h1]; simp [e], fun hm hp z => ?_⟩
    have hm' : v ∈ T := by simpa [e] using hm
    rw [Maps.atKey_put_other (kOf_ne e), h2 hm' hp, idx_in hm']
theorem PlaceP.del {D : DataW Unit} {T : List Int} {p : Int → Bool} (h : PlaceP D T p) (u : Int) : PlaceP (D.del (kOf u)) T (fun v => p v && !decide (v = u)) := fun v => by
  by_cases e : v = u
  · subst e
    exact ⟨by rw [Maps.has_del_same]; simp, fun _ hp => by simp at hp⟩
  · obtain ⟨h1, h2⟩ := h v
    exact ⟨by rw [Maps.has_del_other (kOf_ne e), h1]; simp [e], fun hm hp z => by rw [Maps.atKey_del_other (kOf_ne e)]; exact h2 hm (by simpa [e] using hp) z⟩
theorem PlaceP.congr {D : DataW Unit} {T : List Int} {p q : Int → Bool} (h : PlaceP D T p) (he : ∀ v, v ∈ T → p v = q v) : PlaceP D T q := fun v => by
  obtain ⟨h1, h2⟩ := h v
  refine ⟨?_, fun hm hp => h2 hm (by rw [he v hm]; exact hp)⟩
  rw [h1]
  by_cases hm : v ∈ T
  · rw [he v hm]
  · simp [hm]
/-- those that are left when the rest of the trail is struck -/
theorem PlaceP.cut {D : DataW Unit} {T : List Int} (hT : T.Nodup) {a : Nat} (h : PlaceP D T (fun v => !decide (v ∈ T.drop a))) : PlaceOf D (T.take a) := fun v => by
  obtain ⟨h1, h2⟩ := h v
  have hsp : v ∈ T ↔ v ∈ T.take a ∨ v ∈ T.drop a := by rw [← List.mem_append, List.take_append_drop]
  have hdj : v ∈ T.take a → v ∉ T.drop a := fun ha hb => by
    have := hT
    rw [← List.take_append_drop a T, List.nodup_append] at this
    exact this.2.2 v ha v hb rfl
  refine ⟨?_, fun hm _ z => ?_⟩
  · rw [h1]
    by_cases ha : v ∈ T.take a
    · simp [ha, hdj ha, hsp.2 (.inl ha)]
    · by_cases hb : v ∈ T.drop a
      · simp [ha, hb]
      · simp [ha, hsp]
  · rw [h2 (hsp.2 (.inl hm)) (by simp [hdj hm])]
    have : T.idxOf v = (T.take a).idxOf v := by
      conv => lhs; rw [← List.take_append_drop a T]
      rw [idx_in hm]
    rw [this]
/-- what the map keeps, behind j strikes -/
def PlaceK (D : DataW Unit) (T : List Int) (a j : Nat) : Prop := PlaceP D T fun v => !decide (v ∈ (T.drop a).take j)
theorem PlaceK.start {D : DataW Unit} {T : List Int} (h : PlaceOf D T) (a : Nat) : PlaceK D T a 0 := PlaceP.congr h fun v _ => by simp
theorem PlaceK.step {D : DataW Unit} {T : List Int} {a j : Nat} (h : PlaceK D T a j) {u : Int} (hu : (T.drop a)[j]? = some u) : PlaceK (D.del (kOf u)) T a (j + 1) := PlaceP.congr (PlaceP.del h u) fun v _ => by
  obtain ⟨hj, e⟩ := List.getElem?_eq_some_iff.1 hu
  rw [List.take_succ_eq_append_getElem hj, e]
  simp only [List.mem_append, List.mem_singleton]
  by_cases h1 : v ∈ (T.drop a).take j <;> by_cases h2 : v = u <;> simp [h1, h2]
theorem PlaceK.done {D : DataW Unit} {T : List Int} (hT : T.Nodup) {a j : Nat} (h : PlaceK D T a j) (hj : (T.drop a).length ≤ j) : PlaceOf D (T.take a) := PlaceP.cut hT (PlaceP.congr h fun v _ => by rw [List.take_of_length_le hj])
/-- the map keeps a row's keys, its cells are another's -/
theorem turned_heap {w w' : World} {b : Nat} (h : w.mapTurned w' b) {k : Nat} (hk : k ≠ b) : w'.heap[k]? = w.heap[k]? := by
  obtain ⟨es, cl, es', cl', hb, rfl⟩ := h
  exact ChangeMaps.heap_setBlock_other hb _ hk
end Go.Proofs.YtjobijmmjebpaaaDoor
/- cells, in plain words: a map made normal. -/
namespace Go.Proofs.YtjobijmmjebpaaaDoor
/-- the names that are known, behind some -/
def seenS : List Int → List Int → List Int
  | seen, [] => seen
  | seen, x :: L => seenS (if x ∈ seen then seen else seen ++ [x]) L
def nameS (seen : List Int) (x : Int) : Int := if x ∈ seen then (seen.idxOf x : Nat) else (seen.length : Nat)
def normS : List Int → List Int → List Int
  | _, [] => []
  | seen, x :: L => nameS seen x :: normS (if x ∈ seen then seen else seen ++ [x]) L
/-- a map made normal -/
def normV (L : List Int) : List Int := normS [] L
theorem normS_len : ∀ (L seen : List Int), (normS seen L).length = L.length
  | [], _ => rfl
  | x :: L, seen => by rw [normS, List.length_cons, List.length_cons, normS_len L]
theorem seenS_pre : ∀ (L seen : List Int), ∃ R, seenS seen L = seen ++ R
  | [], seen => ⟨[], by simp [seenS]⟩
  | x :: L, seen => by
    obtain ⟨R, h⟩ := seenS_pre L (if x ∈ seen then seen else seen ++ [x])
    rw [seenS, h]
    split
    · exact ⟨R, rfl⟩
    · exact ⟨[x] ++ R, by simp⟩
theorem seenS_nodup : ∀ (L seen : List Int), seen.Nodup → (seenS seen L).Nodup
  | [], _, h => h
  | x :: L, seen, h => by
    rw [seenS]
    refine seenS_nodup L _ ?_
    split
    · exact h
    · rename_i hx
      rw [List.nodup_append]
      exact ⟨h, by simp, fun a ha b hb => by rw [List.mem_singleton.1 hb]; exact fun e => hx (e ▸ ha)⟩
theorem seenS_mem : ∀ (L seen : List Int) (x : Int), x ∈ seen ∨ x ∈ L → x ∈ seenS seen L
  | [], seen, x, h => by
    rcases h with h | h
    · exact h
    · cases h
  | y :: L, seen, x, h => by
    rw [seenS]
    refine seenS_mem L _ x ?_
    rcases h with h | h
    · left
      split
      · exact h
      · exact List.mem_append_left _ h
    · rcases List.mem_cons.1 h with rfl | h
      · left
        split
        · rename_i h; exact h
        · simp
      · exact .inr h
theorem idx_pre {seen R : List Int} {x : Int} (h : x ∈ seen) : (seen ++ R).idxOf x = seen.idxOf x := by rw [List.idxOf_append, if_pos h]
theorem idx_new {seen R : List Int} {x : Int} (h : x ∉ seen) : (seen ++ [x] ++ R).idxOf x = seen.length := by
  rw [List.append_assoc, List.idxOf_append, if_neg h]; simp
/-- each name is where the old one stands among those that were met -/
theorem normS_map : ∀ (L seen : List Int), normS seen L = L.map fun x => (((seenS seen L).idxOf x : Nat) : Int)
  | [], _ => rfl
  | x :: L, seen => by
    rw [normS, normS_map L, List.map_cons]
    show nameS seen x :: _ = _
    rw [seenS]
    congr 1
    obtain ⟨R, h⟩ := seenS_pre L (if x ∈ seen then seen else seen ++ [x])
    rw [h]
    unfold nameS
    split
    · rename_i hx; rw [idx_pre hx]
    · rename_i hx; rw [idx_new hx]
theorem idx_inj {T : List Int} {x y : Int} (hx : x ∈ T) (hy : y ∈ T) (h : T.idxOf x = T.idxOf y) : x = y := by
  have h1 := List.getElem_idxOf (List.idxOf_lt_length_of_mem hx)
  have h2 := List.getElem_idxOf (List.idxOf_lt_length_of_mem hy)
  rw [← h1, ← h2]
  simp only [h]
/-- the same nodes are together -/
theorem norm_same {L : List Int} {v w : Nat} {a b x y : Int} (ha : (normV L)[v]? = some a) (hb : (normV L)[w]? = some b) (hx : L[v]? = some x) (hy : L[w]? = some y) : a = b ↔ x = y := by
  unfold normV at ha hb
  rw [normS_map, List.getElem?_map, hx] at ha
  rw [normS_map, List.getElem?_map, hy] at hb
  have ha := Option.some.inj ha
  have hb := Option.some.inj hb
  subst ha hb
  constructor
  · intro h
    exact idx_inj (seenS_mem _ [] _ (.inr (List.mem_of_getElem? hx))) (seenS_mem _ [] _ (.inr (List.mem_of_getElem? hy))) (by dsimp only at h; exact_mod_cast h)
  · rintro rfl; rfl
def upI (n : Nat) : List Int := (List.range n).map fun (i : Nat) => (i : Int)
theorem upI_succ (n : Nat) : upI (n + 1) = upI n ++ [(n : Int)] := by unfold upI; rw [List.range_succ, List.map_append]; rfl
theorem upI_mem {n : Nat} {x : Int} : x ∈ upI n ↔ 0 ≤ x ∧ x < n := by
  unfold upI
  rw [List.mem_map]
  constructor
  · rintro ⟨i, hi, rfl⟩; have := List.mem_range.1 hi; omega
  · rintro ⟨h1, h2⟩; exact ⟨x.toNat, List.mem_range.2 (by omega), by omega⟩
theorem upI_idx : ∀ {n k : Nat}, k < n → (upI n).idxOf (k : Int) = k
  | n + 1, k, h => by
    rw [upI_succ]
    by_cases hk : k < n
    · rw [idx_pre (upI_mem.2 ⟨by omega, by omega⟩), upI_idx hk]
    · obtain rfl : k = n := by omega
      have hn : (k : Int) ∉ upI k := fun h => by have := (upI_mem.1 h).2; omega
      have := idx_new (R := []) hn
      rw [List.append_nil] at this
      rw [this]; unfold upI; simp
/-- made so again it stays -/
theorem norm_again : ∀ (L seen : List Int), normS (upI seen.length) (normS seen L) = normS seen L
  | [], _ => rfl
  | x :: L, seen => by
    rw [normS, normS]
    by_cases hx : x ∈ seen
    · have hk := List.idxOf_lt_length_of_mem hx
      have e : nameS seen x = (seen.idxOf x : Nat) := by unfold nameS; rw [if_pos hx]
      have hm : ((seen.idxOf x : Nat) : Int) ∈ upI seen.length := upI_mem.2 ⟨by omega, by omega⟩
      rw [e, if_pos hm, if_pos hx, norm_again L seen]
      unfold nameS
      rw [if_pos hm, upI_idx hk]
    · have e : nameS seen x = (seen.length : Nat) := by unfold nameS; rw [if_neg hx]
      have hm : ((seen.length : Nat) : Int) ∉ upI seen.length := fun h => by have := (upI_mem.1 h).2; omega
      rw [e, if_neg hm, if_neg hx]
      have h2 := norm_again L (seen ++ [x])
      rw [List.length_append, List.length_singleton, upI_succ] at h2
      rw [h2]
      unfold nameS
      rw [if_neg hm]
      congr 1
      unfold upI; simp
theorem norm_twice (L : List Int) : normV (normV L) = normV L := norm_again L []
/-- names come one by one -/
theorem normS_step : ∀ (L seen : List Int) (v : Nat) (a : Int), (normS seen L)[v]? = some a → 0 ≤ a ∧ a ≤ ((normS seen L).take v).foldl max ((seen.length : Int) - 1) + 1
  | [], _, _, _, h => by simp [normS] at h
  | x :: L, seen, 0, a, h => by
    rw [normS] at h
    have h := Option.some.inj h
    subst h
    rw [List.take_zero, List.foldl_nil]
    unfold nameS
    split
    · rename_i hx; have := List.idxOf_lt_length_of_mem hx; omega
    · omega
  | x :: L, seen, v + 1, a, h => by
    rw [normS, List.getElem?_cons_succ] at h
    have h2 := normS_step L _ v a h
    rw [normS, List.take_succ_cons, List.foldl_cons]
    have e : max ((seen.length : Int) - 1) (nameS seen x) = ((if x ∈ seen then seen else seen ++ [x]).length : Int) - 1 := by
      unfold nameS
      split
      · rename_i hx; have := List.idxOf_lt_length_of_mem hx; omega
      · rw [List.length_append, List.length_singleton]; omega
    rw [e]; exact h2
end Go.Proofs.YtjobijmmjebpaaaDoor
/- cell.Norm: a map made normal: the namer's closure over a map; each. -/
namespace Go.Proofs.YtjobijmmjebpaaaDoor
open Go.RowKit Go.Shelf
open Go.Maps (Keyed)
attribute [local go_sem] Oper.semAt_some
theorem lawInt : Keyed Tryd.prog 3 := Maps.int_keyed Tryd.underlying3
theorem zeroInt (w : World) : (zeroValue 3).run Tryd.prog w = .ok (.int .i64 0) w := by kernel_rfl
theorem elemInt {a : Int} (hw : (Lit.int .i64 a).wf = true) : plainElem (H := Unit) Tryd.prog 3 (.int .i64 a) = some (.lit (.int .i64 a), []) := plainElem_int Tryd.underlying3 hw
theorem wfInt {a : Int} (h : -9223372036854775808 ≤ a ∧ a ≤ 9223372036854775807) : (Lit.int .i64 a).wf = true := by
  unfold Lit.wf
  simp [IntKind.min, IntKind.max, IntKind.signed, IntKind.bits]
  omega
theorem turned_kept {w w' : World} {b : Nat} (h : w.mapTurned w' b) : Kept (fun j => j = b) w w' :=
  have g := World.mapTurned.grown h
  ⟨g.os, g.tape, g.output, g.size, fun k hk hn => g.block k hk (fun e => hn (by simpa using e))⟩
theorem not_map {w : World} {base : Nat} {e : TypeId} {v : Value} {n : Nat} {xs : List Value} {bm nn : Nat} {D : DataW Unit} {k : TypeId} {R : Value → Option (DataW Unit × List MemPlace)} (h : w.ownsRow base e 1 v n xs) (hm : w.ownsMap Tryd.prog k R bm nn D) {j : Nat} (hj : v.ownBlock = some j) : j ≠ bm := fun e => by
  subst e
  obtain ⟨_, _, hb⟩ := ownsRow_blk' h hj
  obtain ⟨es, cl, hb2, _⟩ := hm
  rw [show w.heap[j]? = _ from hb] at hb2
  cases hb2
theorem ownsMap_agree {P : Program} {w w' : World} {k : TypeId} {R : Value → Option (DataW Unit × List MemPlace)} {bm nn : Nat} {D : DataW Unit} (hm : w.ownsMap P k R bm nn D) (h : w'.heap[bm]? = w.heap[bm]?) : w'.ownsMap P k R bm nn D := by
  obtain ⟨es, cl, hb, r⟩ := hm
  exact ⟨es, cl, h.trans hb, r⟩
/-- plain: one more -/
def seenT (T : List Int) (x : Int) : List Int := if x ∈ T then T else T ++ [x]
theorem seenS_snoc : ∀ (L seen : List Int) (x : Int), seenS seen (L ++ [x]) = seenT (seenS seen L) x
  | [], seen, x => rfl
  | y :: L, seen, x => by rw [List.cons_append, seenS, seenS]; exact seenS_snoc L _ x
theorem normS_snoc : ∀ (L seen : List Int) (x : Int), normS seen (L ++ [x]) = normS seen L ++ [nameS (seenS seen L) x]
  | [], seen, x => rfl
  | y :: L, seen, x => by rw [List.cons_append, normS, normS, seenS, normS_snoc L]; rfl
theorem seenS_len : ∀ (L seen : List Int), (seenS seen L).length ≤ seen.length + L.length
  | [], seen => Nat.le_refl _
  | x :: L, seen => by
    rw [seenS]
    have := seenS_len L (if x ∈ seen then seen else seen ++ [x])
    have h2 : (if x ∈ seen then seen else seen ++ [x]).length ≤ seen.length + 1 := by split <;> simp
    rw [List.length_cons]; omega
/-- what the namer knows -/
structure NamerAt (w : World) (b bm : Nat) (T : List Int) (nn : Nat) (D : DataW Unit) : Prop where
  box : Blk w b #[.map (some bm)] 92 (0, 0)
  map : w.ownsMap Tryd.prog 3 (plainElem Tryd.prog 3) bm nn D
  place : PlaceOf D T
  size : Maps.size D = T.length
theorem NamerAt.agree {w w' : World} {b bm : Nat} {T : List Int} {nn : Nat} {D : DataW Unit} (h : NamerAt w b bm T nn D) (h1 : w'.heap[b]? = w.heap[b]?) (h2 : w'.heap[bm]? = w.heap[bm]?) : NamerAt w' b bm T nn D :=
  ⟨h1.trans h.box, ownsMap_agree h.map h2, h.place, h.size⟩
theorem NamerAt.lt {w : World} {b bm : Nat} {T : List Int} {nn : Nat} {D : DataW Unit} (h : NamerAt w b bm T nn D) : b < w.heap.size ∧ bm < w.heap.size ∧ b ≠ bm := ⟨h.box.lt, World.ownsMap.lt h.map, fun e => by
  obtain ⟨es, cl, hb2, _⟩ := h.map
  have hb := h.box
  rw [e] at hb
  rw [show w.heap[bm]? = _ from hb] at hb2
  cases hb2⟩
set_option maxHeartbeats 4000000 in
theorem namer_any (w : World) : Calls Tryd.prog 38 #[] w fun e w' => ∃ b bm, e = .returned (.func (.func 53) #[] #[.pointer (some ⟨b, 0, none⟩)]) ∧ NamerAt w' b bm [] 0 (.map []) ∧ (w.heap.size ≤ b ∧ w.heap.size ≤ bm) ∧ Below w.heap.size w w' := by
  have hmm := @run_makeMap Tryd.prog
  have hmf : ∀ (fn : Fn) (first cap : Array Value) (w : World), (Instr.makeFunc fn first cap).run Tryd.prog w = .ok (.func fn first cap) w := fun _ _ _ _ => rfl
  have hmade := World.ownsMap_made w Tryd.prog 3 (plainElem (H := Unit) Tryd.prog 3)
  have HM := Lib.hid hmade
  clear hmade
  go_enter Tryd.func38, Tryd.ntmps38
  go_wp2_with fail
  go_ret
  refine ⟨_, w.heap.size, rfl, ⟨?_, HM.out.alloc _, ?_, rfl⟩, ⟨by simp, Nat.le_refl _⟩, ((Below.refl _ _).alloc (Nat.le_refl _) _).alloc (by simp) _⟩
  · have h := Blk.new (w.alloc (.map #[] 0)) #[.map (some w.heap.size)] 92 (0, 0)
    rwa [World.size_alloc] at h
  · intro v
    refine ⟨by simp [Maps.has], fun h => by cases h⟩
set_option maxHeartbeats 4000000 in
theorem namer1_any (x : Int) (hx : (Lit.int .i64 x).wf = true) (w : World) (b bm nn : Nat) (T : List Int) (D : DataW Unit) (h : NamerAt w b bm T nn D) (hnn : nn ≤ 1000000) (hT : T.length ≤ 1000000) :
    Calls Tryd.prog 53 #[.int .i64 x, .pointer (some ⟨b, 0, none⟩)] w fun e w' => e = .returned (.int .i64 (nameS T x)) ∧ (∃ D', NamerAt w' b bm (seenT T x) (nn + 1) D') ∧ Kept (fun j => j = bm) w w' := by
  have hkey := Maps.keyOf_int_mk Tryd.underlying3 hx
  have c0 := h.box.cell 0
  simp only [List.getElem?_toArray, List.getElem?_cons_zero] at c0
  obtain ⟨v0, ps, hlk, hR⟩ := h.map.look_ok lawInt Tryd.underlying92 (zeroInt w) (elemInt (a := 0) (by decide)) hkey
  obtain ⟨c1, rfl, hc1, _⟩ := plainElem_int_inv Tryd.underlying3 hR
  have hN := Lib.hid h
  by_cases hxT : x ∈ T
  · have hhas : Maps.has D (kOf x) = true := by rw [(h.place x).1]; simp [hxT]
    obtain ⟨a, ha⟩ : ∃ a, a = T.idxOf x := ⟨_, rfl⟩
    have hca : c1 = (a : Int) := by
      have h1 : D.atKey (kOf x) _ = _ := congrArg Prod.fst hc1
      rw [(h.place x).2 hxT rfl, ← ha] at h1
      simp at h1
      exact h1.symm
    subst hca
    change _ = Result.ok (Value.tuple #[Value.int .i64 (a : Nat), Value.bool (Maps.has D (kOf x))]) w at hlk
    rw [hhas] at hlk
    have hname : nameS T x = (a : Int) := by unfold nameS; rw [if_pos hxT, ha]
    have hseen : seenT T x = T := by unfold seenT; rw [if_pos hxT]
    rw [hname, hseen]
    clear hR hc1 hhas ha hname hseen hkey h
    go_enter Tryd.func53, Tryd.ntmps53
    go_wp2_with fail
    go_ret
    exact ⟨rfl, ⟨D, hN.out.box, hN.out.map.mono (Nat.le_succ _), hN.out.place, hN.out.size⟩, Kept.refl _ _⟩
  · have hhas : Maps.has D (kOf x) = false := by rw [(h.place x).1]; simp [hxT]
    change _ = Result.ok (Value.tuple #[Value.int .i64 c1, Value.bool (Maps.has D (kOf x))]) w at hlk
    rw [hhas] at hlk
    have hlen := fun ty => h.map.len Tryd.underlying92 ty
    rw [h.size] at hlen
    obtain ⟨V, hup, hown4, hturn4⟩ := h.map.store lawInt Tryd.underlying92 (by unfold maxLen; omega) hkey (elemInt (a := (T.length : Nat)) (wfInt (by omega)))
    have hname : nameS T x = (T.length : Int) := by unfold nameS; rw [if_neg hxT]
    have hseen : seenT T x = T ++ [x] := by unfold seenT; rw [if_neg hxT]
    have hkV := turned_kept hturn4
    have HNew := Lib.hid (show NamerAt V b bm (T ++ [x]) (nn + 1) (D.put (kOf x) (.lit (.int .i64 T.length))) from
      ⟨hkV.blk h.box (fun e => h.lt.2.2 e), hown4, h.place.put h.map.isMap hxT, by
        have := Maps.size_put (k := kOf x) (h.map.tidy lawInt) (.lit (.int .i64 (T.length : Nat)))
        rw [hhas] at this
        rw [List.length_append, this, h.size]; rfl⟩)
    have HK := Lib.hid hkV
    rw [hname, hseen]
    clear hR hc1 hhas hname hseen hkey h hown4 hturn4 hkV
    go_enter Tryd.func53, Tryd.ntmps53
    go_wp2_with fail
    go_ret
    exact ⟨rfl, ⟨_, HNew.out⟩, HK.out⟩
set_option maxRecDepth 100000 in
set_option maxHeartbeats 8000000 in
theorem each_namer (W0 : World) (va : Value) (L : List Int) (hL : L.length ≤ 100000) (hwf : ∀ x ∈ L, (Lit.int .i64 x).wf = true) (ha : SlX W0 va L) (b bm : Nat) (w : World) (hw : Below W0.heap.size W0 w) (hb : W0.heap.size ≤ b ∧ W0.heap.size ≤ bm) (h : NamerAt w b bm [] 0 (.map [])) :
    Calls Tryd.prog 37 #[va, .func (.func 53) #[] #[.pointer (some ⟨b, 0, none⟩)]] w fun e w' => ∃ v, e = .returned v ∧ w'.ownsRow W0.heap.size 3 1 v (normV L).length ((normV L).flatMap inC) ∧ Below W0.heap.size W0 w' := by
  have HA := Lib.hid ha; have HB := Lib.hid hb; have HN := Lib.hid h; have HW := Lib.hid hw; have HWf := Lib.hid hwf
  obtain ⟨a, ca, rfl, _⟩ := ha
  clear hb h hw hwf
  go_enter Tryd.func37, Tryd.ntmps37
  go_wp2_with fail
  go_loopw [4, 9] (fun o i wr => ∃ (k : Nat) (vo : Value) (D : DataW Unit), vo = o ∧ k ≤ L.length ∧ i = .int .i64 k ∧ Hid (Below W0.heap.size W0 wr ∧ wr.ownsRow W0.heap.size 3 1 vo (normS [] (L.take k)).length ((normS [] (L.take k)).flatMap inC) ∧ NamerAt wr b bm (seenS [] (L.take k)) k D)) (fun _ i _ => L.length - (intOf i).toNat)
  case atStart => exact ⟨0, _, _, rfl, Nat.zero_le _, rfl, Lib.hid ⟨HW.out, World.ownsRow_nil _ _ _ _, HN.out⟩⟩
  case round =>
    obtain ⟨k, vo, D, rfl, hk, rfl, HI⟩ := hrel
    by_cases hlt : k < L.length
    · have hltI : (k : Int) < (L.length : Int) := by omega
      have k0 : (0 : Int) ≤ (k : Int) := by omega
      obtain ⟨ba, oa, rfl, hc⟩ := (HA.out.keep (KpC.of_below HI.out.1)).at k hlt
      obtain ⟨x, hx⟩ : ∃ x, x = L[k] := ⟨_, rfl⟩
      rw [← hx] at hc
      obtain ⟨T, hT⟩ : ∃ T, T = seenS [] (L.take k) := ⟨_, rfl⟩
      obtain ⟨R, hR⟩ : ∃ R, R = normS [] (L.take k) := ⟨_, rfl⟩
      have htk : L.take (k + 1) = L.take k ++ [x] := by rw [hx]; exact List.take_succ_eq_append_getElem hlt
      have hTl : T.length ≤ k := by
        have := seenS_len (L.take k) []
        rw [← hT, List.length_take] at this
        simp at this; omega
      have hRl : R.length ≤ k := by rw [hR, normS_len, List.length_take]; omega
      have h1 : normS [] (L.take (k + 1)) = R ++ [nameS T x] := by rw [htk, normS_snoc, hT, hR]
      have h2 : seenS [] (L.take (k + 1)) = seenT T x := by rw [htk, seenS_snoc, hT]
      have HE := Lib.hid (And.intro h1 h2)
      rw [← hT, ← hR] at HI
      have HC := Lib.hid (namer1_any x (HWf.out x (by rw [hx]; exact List.getElem_mem hlt)) wr b bm k T D HI.out.2.2 (by omega) (by omega))
      obtain ⟨oa2, on, oc, rfl⟩ := HI.out.2.1.one'
      obtain ⟨nm, hnm⟩ : ∃ y, y = nameS T x := ⟨_, rfl⟩
      rw [← hnm] at HC HE
      clear h1 h2 hT hR htk hx hnm
      go_wp2_with fail
      refine HC.out.mono ?_
      rintro e w1 ⟨rfl, ⟨D', hN'⟩, hK'⟩
      have hlo := HI.out.1.size
      have hb1 : Below W0.heap.size W0 w1 := HI.out.1.trans (hK'.below HI.out.1.size (fun j e => by have := HB.out.2; omega))
      have hrow : w1.ownsRow W0.heap.size 3 1 (.slice oa2 on oc) R.length (R.flatMap inC) := ownsRow_agree' HI.out.2.1 (fun j hj => by
        obtain ⟨_, _, hq⟩ := ownsRow_blk' HI.out.2.1 hj
        exact hK'.block j hq.lt (not_map HI.out.2.1 HI.out.2.2.map hj))
      obtain ⟨wc, hwc⟩ : ∃ wc, wc = w1.alloc (.cells #[.int .i64 nm] 3) := ⟨_, rfl⟩
      have hbc : Below w1.heap.size w1 wc := by rw [hwc]; exact (Below.refl _ _).alloc (Nat.le_refl _) _
      obtain ⟨a2, n2, c2, w', hr, ho, hg, hat⟩ := push_intG W0.heap.size (.slice oa2 on oc) R nm wc w1.heap.size (ownsRow_below hrow hbc) (by rw [hwc]; exact Blk.new _ _ _ _) (by omega) (Nat.le_trans hb1.size hbc.size)
      have hb' : Below W0.heap.size W0 w' := (hb1.next' hbc).grown hg (Nat.le_trans hb1.size hbc.size) (fun j ej => (ownsRow_blk' hrow ej).1)
      have hNl := hN'.lt
      have hNw : NamerAt w' b bm (seenT T x) (k + 1) D' := hN'.agree
        ((hg.block b (Nat.lt_of_lt_of_le hNl.1 hbc.size) (fun e => by
          obtain ⟨_, _, hq⟩ := ownsRow_blk' hrow e.symm
          exact absurd (blk_type hN'.box hq) (by decide))).trans (hbc.block b hNl.1))
        ((hg.block bm (Nat.lt_of_lt_of_le hNl.2.1 hbc.size) (fun e => not_map hrow hN'.map e.symm rfl)).trans (hbc.block bm hNl.2.1))
      rw [hwc] at hr
      have HR := Lib.hid hr
      have HNew := Lib.hid (show Below W0.heap.size W0 w' ∧ w'.ownsRow W0.heap.size 3 1 (.slice a2 n2 c2) (normS [] (L.take (k + 1))).length ((normS [] (L.take (k + 1))).flatMap inC) ∧ NamerAt w' b bm (seenS [] (L.take (k + 1))) (k + 1) D' from by
        rw [HE.out.1, HE.out.2]
        exact ⟨hb', ho, hNw⟩)
      clear hlo hb1 hrow hwc hbc hr ho hg hat hb' hNl hNw hN' hK' HE
      go_wp2_with (at_builtin; refine wpList_append_run rfl _ _ _ _ rfl HR.out ?_)
      go_roundw
      case rel => exact ⟨k + 1, _, D', rfl, by omega, by go_num, HNew⟩
      case measure => simp [intOf]; omega
    · obtain rfl : k = L.length := by omega
      go_wp2_with fail
      go_ret
      rw [List.take_length] at HI
      exact ⟨_, rfl, HI.out.2.1, HI.out.1⟩
set_option maxHeartbeats 4000000 in
/-- cell.Norm -/
theorem cellNorm_any (va : Value) (L : List Int) (hL : L.length ≤ 100000) (hwf : ∀ x ∈ L, (Lit.int .i64 x).wf = true) (w : World) (ha : SlX w va L) :
    Calls Tryd.prog 17 #[va] w fun e w' => ∃ v, e = .returned v ∧ w'.ownsRow w.heap.size 3 1 v (normV L).length ((normV L).flatMap inC) ∧ Below w.heap.size w w' := by
  have HA := Lib.hid ha; have HWf := Lib.hid hwf
  obtain ⟨a, ca, rfl, _⟩ := ha
  clear hwf
  go_enter Tryd.func17, Tryd.ntmps17
  go_wp2_with fail
  refine (namer_any w).mono ?_
  rintro e w1 ⟨b, bm, rfl, hN, hlo, hb⟩
  have HC := Lib.hid (each_namer w _ L hL HWf.out HA.out b bm w1 hb hlo hN)
  clear hN hlo hb
  go_wp2_with fail
  refine HC.out.mono ?_
  rintro e w2 ⟨v, rfl, ho, hb⟩
  have H2 := Lib.hid (And.intro ho hb)
  clear ho hb
  go_wp2_with fail
  go_ret
  exact ⟨v, rfl, H2.out.1, H2.out.2⟩
end Go.Proofs.YtjobijmmjebpaaaDoor
/- milestoneref07.Ints -/
namespace Go.Proofs.YtjobijmmjebpaaaDoor
open Go.RowKit
set_option maxHeartbeats 1000000 in
theorem ints_any (va vb : Value) (A B : List Int) (w : World) (ha : SlX w va A) (hb : SlX w vb B) : Calls Tryd.prog 13 #[va, vb] w fun e w' => e = .returned (.bool (decide (A = B))) ∧ Below w.heap.size w w' := by
  have haw := ha; have hbw := hb
  obtain ⟨aa, ca, rfl, hca, hma, _⟩ := ha
  obtain ⟨ab, cb, rfl, hcb, hmb, _⟩ := hb
  unfold maxLen at hma hmb
  by_cases hlen : A.length = B.length
  · have hl2 : (B.length : Int) = A.length := by omega
    rw [show B.length = A.length from hlen.symm] at hbw
    rw [← hlen] at hcb
    have HAW := Lib.hid haw; have HBW := Lib.hid hbw
    have HLen := Lib.hid hlen
    have hBl : ∀ k, k < A.length → k < B.length := fun k h => by omega
    have HBl := Lib.hid hBl
    rw [show B.length = A.length from hlen.symm]
    clear haw hbw hlen hl2 hBl
    go_enter Tryd.func13, Tryd.ntmps13
    go_wp2_with fail
    go_loopw [5] (fun i wr => ∃ (k : Nat), k ≤ A.length ∧ i = .int .i64 k ∧ Hid (A.take k = B.take k) ∧ Hid (Below w.heap.size w wr)) (fun i _ => A.length - (intOf i).toNat)
    case atStart => exact ⟨0, Nat.zero_le _, rfl, Lib.hid rfl, Lib.hid (Below.refl _ _)⟩
    case round =>
      obtain ⟨k, hk, rfl, hpre, hbel⟩ := hrel
      by_cases hlt : k < A.length
      · have hkw := KpC.of_below hbel.out
        obtain ⟨ba, oa, rfl, da⟩ := (HAW.out.keep hkw).at k hlt
        obtain ⟨bb, ob, rfl, db⟩ := (HBW.out.keep hkw).at k (HBl.out k hlt)
        have hBd := Lib.hid (hbel.out.drew)
        have i1 : (0 : Int) ≤ (k : Int) := by omega
        have i2 : (k : Int) < (A.length : Int) := by omega
        have hA1 : Hid (A.take (k + 1) = A.take k ++ [A[k]]) := Lib.hid (List.take_succ_eq_append_getElem hlt)
        have hB1 : Hid (B.take (k + 1) = B.take k ++ [B[k]'(HBl.out k hlt)]) := Lib.hid (List.take_succ_eq_append_getElem (HBl.out k hlt))
        obtain ⟨x, hx⟩ : ∃ x, x = A[k] := ⟨_, rfl⟩
        obtain ⟨y, hy⟩ : ∃ y, y = B[k]'(HBl.out k hlt) := ⟨_, rfl⟩
        rw [← hx] at da; rw [← hy] at db
        have HX := Lib.hid hx.symm; have HY := Lib.hid hy.symm
        clear hx hy
        clear hkw
        go_wp2_with fail
        go_quiet (fail)
        generalize hwd : wr.drewN _ = wd at *
        by_cases hxy : x = y
        · subst hxy
          have hbq : (x == x) = true := by simp
          go_wp2_with fail
          go_roundw
          case rel =>
            refine ⟨k + 1, by omega, by go_num, Lib.hid ?_, Lib.hid ?_⟩
            · rw [hA1.out, hB1.out, hpre.out, HX.out, HY.out]
            · rw [← hwd]; exact below_drewN hbel.out _
          case measure => simp [intOf]; omega
        · have hne : Hid (A ≠ B) := Lib.hid (fun e => hxy (by rw [← HX.out, ← HY.out]; simp [e]))
          have hbq : (x == y) = false := by simpa using hxy
          go_wp2_with fail
          go_ret
          refine ⟨?_, by rw [← hwd]; exact below_drewN hbel.out _⟩
          rw [decide_eq_false hne.out]; rfl
      · obtain rfl : k = A.length := by omega
        go_wp2_with fail
        go_ret
        refine ⟨?_, hbel.out⟩
        have h := hpre.out
        rw [List.take_length, HLen.out, List.take_length] at h
        rw [decide_eq_true h]; rfl
  · have hne : A ≠ B := fun h => hlen (by rw [h])
    have hn : ¬ (A.length : Int) = (B.length : Int) := by omega
    have hn2 : ((A.length : Int) == (B.length : Int)) = false := by simpa using hn
    rw [decide_eq_false hne]
    clear haw hbw hne hn
    go_enter Tryd.func13, Tryd.ntmps13
    go_wp2_with fail
    go_ret
    exact ⟨rfl, Below.refl _ _⟩

/- one of some -/
end Go.Proofs.YtjobijmmjebpaaaDoor
/- a row, cloned; net's one, of rows -/
namespace Go.Proofs.YtjobijmmjebpaaaDoor
open Go.RowKit
theorem cloneI (v : Value) (L : List Int) (w : World) (h : SlX w v L) (hl : L.length ≤ 1000000000000) : Calls Tryd.prog 27 #[v] w fun e w' => ∃ v', e = .returned v' ∧ w'.ownsRow w.heap.size 3 1 v' L.length (L.flatMap inC) ∧ Below w.heap.size w w' := by
  obtain ⟨i0, hi, hz0, hz1, hz2⟩ := info_parts infoInt
  have hs := h.row
  obtain ⟨a, cap, rfl, hc1, hc2, h3⟩ := h
  cases a with
  | none =>
    have h0 : L = [] := by
      cases L with
      | nil => rfl
      | cons x L => obtain ⟨_, _, _, _, _, e, _⟩ := h3 0 (by simp); cases e
    subst h0
    have hn := fun w => Lib.run_eql_slice_nil (P := Tryd.prog) w 30 3 none 0 cap 0 0 Tryd.underlying30
    simp only [List.length_nil]
    clear hs h3
    go_enter Tryd.func27, Tryd.ntmps27
    go_wp2
    go_ret
    exact ⟨_, rfl, World.ownsRow_nil _ _ _ _, Below.refl _ _⟩
  | some ad =>
    have hn := fun w => Lib.run_eql_slice_nil (P := Tryd.prog) w 30 3 (some ad) L.length cap 0 0 Tryd.underlying30
    have hb := (Below.refl w.heap.size w).alloc (Nat.le_refl _) (.cells #[] 3)
    have hs1 : SlF 1 (w.alloc (.cells #[] 3)) (.slice (some ad) L.length cap) L.length (L.flatMap inC) := by
      obtain ⟨q1, q2, a, c, e, q3, q4, q5⟩ := hs
      refine ⟨q1, q2, a, c, e, q3, q4, fun j u hu => ?_⟩
      obtain ⟨b, off, ea, hc⟩ := q5 j u hu
      exact ⟨b, off, ea, cell_later hb hc⟩
    obtain ⟨v', w', hr, hown, hg, _⟩ := run_append_row (P := Tryd.prog) w.heap.size 30 30 3 i0 _ 1 8 Tryd.underlying30 hi hz0 hz1 hz2 rfl (by omega) _ 0 [] (ownsRow_zero w w.heap.size 3 1 (Nat.le_refl _)) _ L.length _ hs1 (by unfold maxLen; omega) (by omega) (by simp)
    have hb' : Below w.heap.size w w' := ⟨hg.os, hg.tape, hg.output, by have := hg.size; simp at this; omega, fun k hk => (hg.block k (by simp; omega) (by simp [Value.ownBlock]; omega)).trans (Below.heap_alloc w _ k hk)⟩
    have HB := Lib.hid hb'; have HO := Lib.hid hown; have HR := Lib.hid hr
    clear hs h3 hb hs1 hown hg hb' hr
    go_enter Tryd.func27, Tryd.ntmps27
    go_wp2_with (at_builtin; refine wpList_append_run rfl _ _ _ _ rfl HR.out ?_)
    go_ret
    exact ⟨_, rfl, by simpa using HO.out, HB.out⟩
theorem oneR_any (v : Value) (L : List (List Int)) (i : Int) (w : World) (h : SlR w v L) : Calls Tryd.prog 40 #[v, .int .i64 i] w fun e w' => ∃ rv, e = .returned (.tuple #[rv, .bool (decide (0 ≤ i ∧ i < L.length))]) ∧ SlX w rv (if 0 ≤ i ∧ i < L.length then L[i.toNat]?.getD [] else []) ∧ w' = w := by
  have h0 := h
  obtain ⟨a, cap, rfl, _, _, _⟩ := h
  by_cases h1 : i < 0
  · rw [if_neg (by omega), decide_eq_false (by omega)]
    clear h0
    go_enter Tryd.func40, Tryd.ntmps40
    go_wp2_with fail
    go_ret2
    exact ⟨_, rfl, ⟨none, 0, rfl, Nat.le_refl _, Nat.zero_le _, fun i hi => by cases hi⟩, rfl⟩
  · by_cases h2 : (L.length : Int) ≤ i
    · rw [if_neg (by omega), decide_eq_false (by omega)]
      clear h0
      go_enter Tryd.func40, Tryd.ntmps40
      go_wp2_with fail
      go_ret2
      exact ⟨_, rfl, ⟨none, 0, rfl, Nat.le_refl _, Nat.zero_le _, fun i hi => by cases hi⟩, rfl⟩
    · obtain ⟨n, rfl⟩ := Int.eq_ofNat_of_zero_le (show 0 ≤ i by omega)
      obtain ⟨a', cap', e, _, _, h3⟩ := id h0
      obtain ⟨b, off, cs, t, fr, rv, ea, hb, hc, hr⟩ := h3 n (by omega)
      obtain rfl : a = some ⟨b, off, none⟩ := (Value.slice.inj e).1.trans ea
      have q : w.cell? ⟨b, off + n, none⟩ = some rv := by rw [hb.cell]; exact hc
      have i1 : (0 : Int) ≤ (n : Int) := by omega
      have i2 : (n : Int) < (L.length : Int) := by omega
      rw [if_pos ⟨i1, i2⟩, decide_eq_true ⟨i1, i2⟩, Int.toNat_natCast, List.getElem?_eq_getElem (by omega), Option.getD_some]
      have HR := Lib.hid hr
      have hf := hr.form
      obtain ⟨_, _, _, rfl⟩ := hf
      clear h0 e h3 hb hc hr ea
      go_enter Tryd.func40, Tryd.ntmps40
      go_wp2_with fail
      go_ret2
      exact ⟨_, rfl, HR.out, rfl⟩
end Go.Proofs.YtjobijmmjebpaaaDoor
