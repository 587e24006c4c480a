/- Texts of the law WalkTurned, merged: WalkCheck, WalkLits, WalkWork, WalkDrawn. -/
import Derived.Test.YtlddcnkiigamjaaDoorPWalkTurned07
import Derived.WalkMore
import Derived.Test.YtlddcnkiigamjaaDoorPWalkTurned15
import Derived.Test.YtlddcnkiigamjaaDoorPWalkTurned06
import Derived.Test.YtlddcnkiigamjaaDoorPWalkTurned08
import Derived.Test.YtlddcnkiigamjaaDoorPWalkTurned10
import Derived.Test.YtlddcnkiigamjaaDoorPWalkTurned11
/- walk.Check. -/
namespace Go.Proofs.YtlddcnkiigamjaaDoor
open Go.RowKit Go.Shelf
attribute [local go_sem] Oper.semAt_some
theorem wpIn_scope_wide {n : Nat} {P : Program} {c : Code} {Q : Exit → Act → World → Prop} {a : Act} {w : World} (h : c.wpIn Fence.wide n P (Exit.noGoto Q) a w) : (Code.scope c).wpIn Fence.wide n P Q a w := wpIn_wide.2 (wp_scope_straight (wpIn_wide.1 h))
/-- the weights of what was handed on -/
def sumW (pre : List (Ar × Bool)) : Int := (pre.map fun x => x.1.2.2).sum
theorem sumW_snoc (pre : List (Ar × Bool)) (x : Ar × Bool) : sumW (pre ++ [x]) = sumW pre + x.1.2.2 := by unfold sumW; rw [List.map_append, List.sum_append]; simp
def endW (s : Int) (pre : List (Ar × Bool)) : Int := lastN s (pre.map fun x => x.1.2.1)
theorem endW_snoc (s : Int) (pre : List (Ar × Bool)) (x : Ar × Bool) : endW s (pre ++ [x]) = x.1.2.1 := by unfold endW; rw [List.map_append]; exact lastN_snoc _ _ _
theorem wrap_left (a b : Int) : wrap64 (wrap64 a + b) = wrap64 (a + b) := by simp only [wrap64]; omega
theorem wrap_nil : wrap64 0 = 0 := by simp only [wrap64]; omega
theorem wrap_none : wrap64 ((none : Option Int).getD 0) = 0 := wrap_nil
theorem checkV_steps (g : Raw) (s t : Int) (L : List Int) (h : 0 ≤ s ∧ s < g.nodes) : checkV g s t L = if okA (stepsV g s L) then (if endW s (stepsV g s L) = t then some (wt g L) else none) else none := by
  unfold checkV okA endW
  rw [if_pos h, steps_wk]
  split
  · rfl
  · rfl
theorem lastN_mem (s : Int) : ∀ l : List Int, lastN s l = s ∨ lastN s l ∈ l
  | [] => .inl rfl
  | a :: l => by
    rw [lastN_cons]
    rcases lastN_mem a l with e | e
    · rw [e]; exact .inr List.mem_cons_self
    · exact .inr (List.mem_cons_of_mem _ e)
theorem endW_in (g : Raw) (hg : ∀ a ∈ g.arcs, 0 ≤ a.2.1 ∧ a.2.1 < g.nodes) (s : Int) (L : List Int) (h : 0 ≤ s ∧ s < g.nodes) (ho : okA (stepsV g s L) = true) : 0 ≤ endW s (stepsV g s L) ∧ endW s (stepsV g s L) < g.nodes := by
  have hw : wk g s L = some ((stepsV g s L).map fun p => p.1.2.1) := by rw [steps_wk]; unfold okA at ho; rw [if_pos ho]
  have hm := wk_nodes hg hw
  unfold endW
  generalize (stepsV g s L).map (fun p => p.1.2.1) = l at *
  rcases lastN_mem s l with e | e
  · rw [e]; exact h
  · exact hm _ e
/-- what the caller of Check holds between two rounds -/
structure CI (w W : World) (lo Bs B8 B10 : Nat) (v e : Int) : Prop where
  wgt : Blk W B8 #[.int .i64 v] 2 (0, 0)
  at_ : Blk W B10 #[.int .i64 e] 3 (0, 0)
  below : Below lo w W
theorem CI.keep {w W W' : World} {lo Bs B8 B10 : Nat} {v e : Int} (h : CI w W lo Bs B8 B10 v e) (hk : ∀ k cs t fr, Blk W k cs t fr → k ≠ Bs → W'.heap[k]? = W.heap[k]?) (hne : B8 ≠ Bs ∧ B10 ≠ Bs) (hb : Below lo W W') : CI w W' lo Bs B8 B10 v e :=
  ⟨(hk B8 _ _ _ h.wgt hne.1).trans h.wgt, (hk B10 _ _ _ h.at_ hne.2).trans h.at_, h.below.trans hb⟩
theorem CI.st {w W W' : World} {lo Bs B8 B10 : Nat} {v e : Int} (h : CI w W lo Bs B8 B10 v e) (hk : Kept (fun k => k = Bs) W W') (hne : B8 ≠ Bs ∧ B10 ≠ Bs) (hlo : lo ≤ Bs) (hBs : lo ≤ w.heap.size) : CI w W' lo Bs B8 B10 v e :=
  h.keep (fun k cs t fr hb hn => hk.block k hb.lt hn) hne (hk.below (Nat.le_trans hBs h.below.size) (fun k e => by omega))
theorem CI.put {w W : World} {lo Bs B8 B10 l : Nat} {v e : Int} {o o' : Obj} (h : CI w W lo Bs B8 B10 v e) (hne : B8 ≠ Bs ∧ B10 ≠ Bs) (hl : lo ≤ l) (ho : W.heap[l]? = some o) (hc : o.isCells = false) : CI w (W.putObj l o') lo Bs B8 B10 v e :=
  h.keep (fun k cs t fr hb _ => World.putObj_heap_other (fun e => by
    subst e
    rw [show W.heap[k]? = _ from hb] at ho
    obtain rfl := Option.some.inj ho
    cases hc)) hne (below_put (Below.refl _ _) hl)
theorem check_nilW (m : Nat) (s t : Int) (va : Value) (w : World) : CallsIn Fence.wide m Tryd.prog 21 #[.pointer none, .int .i64 s, .int .i64 t, va] w fun e w' => e = .returned (.tuple #[.int .i64 0, .bool false]) ∧ Below w.heap.size w w' := by
  refine callsIn_wide.2 ?_
  go_enter Tryd.func21, Tryd.ntmps21
  go_wp2_with fail
  go_step3
  go_wp2_with fail
  refine (node_nil s _).mono ?_
  rintro e w' ⟨rfl, rfl⟩
  go_wp2_with fail
  rw [Exit.noGoto_ret]
  go_wp2_with fail
  exact bodyPost_ret (v := .tuple #[.int .i64 0, .bool false]) (by simp [results, Tryd.results21, go_sem]) rfl ⟨rfl, (Below.refl _ _).alloc (Nat.le_refl _) _⟩
set_option maxRecDepth 100000 in
set_option maxHeartbeats 8000000 in
theorem wcheck_in (m : Nat) (hm : 4 ≤ m) (p : Nat) (g : Raw) (hg : ∀ a ∈ g.arcs, 0 ≤ a.2.1 ∧ a.2.1 < g.nodes) (s t : Int) (va : Value) (L : List Int) (w : World) (hn : NetAt w p g) (ha : SlX w va L) :
    CallsIn Fence.wide m Tryd.prog 21 #[.pointer (some ⟨p, 0, none⟩), .int .i64 s, .int .i64 t, va] w fun e w' => e = .returned (.tuple #[.int .i64 (wrap64 ((checkV g s t L).getD 0)), .bool (checkV g s t L).isSome]) ∧ Below w.heap.size w w' := by
  have h1 : 1 ≤ m := by omega
  obtain ⟨a, cap, rfl, _⟩ := id ha
  have HA := Lib.hid ha; have HN := Lib.hid hn
  clear ha hn
  obtain ⟨b0, hb0⟩ : ∃ b, b = decide (0 ≤ s ∧ s < g.nodes) := ⟨_, rfl⟩
  have HCn := Lib.hid (fun u (hu : Below w.heap.size w u) => node_any p g s u (HN.out.keep (KpC.of_below hu)))
  rw [← hb0] at HCn
  have Hb0 := Lib.hid hb0
  clear hb0
  refine callsIn_of_wp_marks Tryd.func21 rfl trivial ?_ rfl
  simp only [Tryd.ntmps21, List.size_toArray, List.length_cons, List.length_nil, Nat.reduceAdd, Nat.reduceSub, Array.replicate_succ, Array.replicate_zero, List.push_toArray, List.append_toArray, List.nil_append, List.cons_append]
  have hb2 : Below w.heap.size w (w.alloc (.cells #[.int .i64 0] 2)) := (Below.refl _ _).alloc (Nat.le_refl _) _
  have HB2 := Lib.hid hb2
  clear hb2
  cases b0 with
  | false =>
    have hno : checkV g s t L = none := by unfold checkV; rw [if_neg (of_decide_eq_false Hb0.out.symm)]
    have HNo := Lib.hid hno
    clear hno
    gi_wp2_with fail
    refine wpIn_scope_wide ?_
    gi_wp2_with (refine ⟨trivial, ?_⟩; gi_at_call 36; refine (callsIn_wide.2 (HCn.out _ HB2.out)).mono ?_; rintro e w' ⟨rfl, rfl⟩)
    refine leaves_marks (by simp) _ _ trivial HB2.out fun w' hk' hb' => ?_
    have k6 : Blk w' w.heap.size #[.int .i64 0] 2 (0, 0) := hk'.blk (Blk.new _ _ _ _)
    have c6 : w'.cell? ⟨w.heap.size, 0, none⟩ = some (.int .i64 0) := k6.cell 0
    rw [HNo.out]
    exact ⟨.tuple #[.int .i64 0, .bool false], by simp [results, Tryd.results21, c6, go_sem], by rw [wrap_none]; rfl, hb'⟩
  | true =>
    have hs := of_decide_eq_true Hb0.out.symm
    have HSt := Lib.hid (checkV_steps g s t L hs)
    obtain ⟨z, hz⟩ : ∃ b, b = w.heap.size := ⟨_, rfl⟩
    obtain ⟨wA, hwA⟩ : ∃ u, u = (w.alloc (.cells #[.int .i64 0] 2)).alloc (.cells #[.int .i64 s] 3) := ⟨_, rfl⟩
    have hbA : Below w.heap.size w wA := by rw [hwA]; exact ((Below.refl _ _).alloc (Nat.le_refl _) _).alloc (by simp) _
    have hzA : wA.heap.size = z + 2 := by rw [hwA, hz]; simp
    have k8 : Blk wA z #[.int .i64 0] 2 (0, 0) := by rw [hwA, hz]; exact (Blk.new _ _ _ _).alloc _
    have k10 : Blk wA (z + 1) #[.int .i64 s] 3 (0, 0) := by
      rw [hwA, hz]
      have h := Blk.new (w.alloc (.cells #[.int .i64 0] 2)) #[.int .i64 s] 3 (0, 0)
      rwa [World.size_alloc] at h
    have HWA := Lib.hid hwA; have HBA := Lib.hid hbA; have HZA := Lib.hid hzA; have HKA := Lib.hid (And.intro k8 k10); have HZ := Lib.hid hz
    clear hwA hbA hzA k8 k10
    gi_wp2_with fail
    refine wpIn_scope_wide ?_
    gi_wp2_with (refine ⟨trivial, ?_⟩; gi_at_call 36; refine (callsIn_wide.2 (HCn.out _ HB2.out)).mono ?_; rintro e w' ⟨rfl, rfl⟩)
    apply wpIn_label
    gi_wp2_with fail
    rw [← HWA.out, ← HZ.out]
    clear hz
    refine ⟨trivial, ?_⟩
    refine (steps_in (m - 1) (some ⟨p, 0, none⟩) s _ rfl wA).mono ?_
    rintro e W0 ⟨rfl, hW0⟩
    rw [HZA.out]
    have hz0 : W0.heap.size = z + 5 := by rw [hW0]; simp [HZA.out]
    have hb0 : Below wA.heap.size wA W0 := by rw [hW0]; exact (((Below.refl _ _).alloc (Nat.le_refl _) _).alloc (by simp) _).alloc (by simp; omega) _
    have kn : Blk W0 (z + 2) #[.pointer (some ⟨p, 0, none⟩)] 28 (0, 0) := by rw [hW0, ← HZA.out]; exact ((Blk.new _ _ _ _).alloc _).alloc _
    have ks : Blk W0 (z + 2 + 1) #[.int .i64 s] 3 (0, 0) := by
      rw [hW0, ← HZA.out]
      have h := Blk.new (wA.alloc (.cells #[.pointer (some ⟨p, 0, none⟩)] 28)) #[.int .i64 s] 3 (0, 0)
      rw [World.size_alloc] at h
      exact h.alloc _
    have ka : Blk W0 (z + 2 + 1 + 1) #[.slice a L.length cap] 35 (0, 0) := by
      rw [hW0, ← HZA.out]
      have h := Blk.new ((wA.alloc (.cells #[.pointer (some ⟨p, 0, none⟩)] 28)).alloc (.cells #[.int .i64 s] 3)) #[.slice a L.length cap] 35 (0, 0)
      rw [World.size_alloc, World.size_alloc] at h
      exact h
    have hbw : Below w.heap.size w W0 := HBA.out.next' hb0
    rw [← HZ.out] at hbw
    have hCI : CI w W0 z (z + 2 + 1) z (z + 1) (wrap64 (sumW [])) (endW s []) := ⟨by rw [show wrap64 (sumW []) = 0 from wrap_nil]; exact HKA.out.1.below hb0 HKA.out.1.lt, HKA.out.2.below hb0 HKA.out.2.lt, hbw⟩
    have hne : z ≠ z + 2 + 1 ∧ z + 1 ≠ z + 2 + 1 := ⟨by omega, by omega⟩
    have hkp : ∀ u, Below z w u → NetAt u p g := fun u hu => HN.out.keep (KpC.of_below (by rw [HZ.out] at hu; exact hu))
    have hka : ∀ u, Below z w u → SlX u (.slice a L.length cap) L := fun u hu => HA.out.keep (KpC.of_below (by rw [HZ.out] at hu; exact hu))
    have HW0 := Lib.hid (And.intro hz0 (And.intro hbw (And.intro hkp hka)))
    have HK0 := Lib.hid (And.intro kn (And.intro ks (And.intro ka hCI)))
    clear hW0 hb0 kn ks ka hCI hz0 hbw hkp hka HKA HWA HBA HZA
    gi_wp2_with fail
    have hz0 := HW0.out.1
    refine wpIn_rangeSt (F := Fence.wide) rfl h1 (gf := 53) (lb := #[.pointer (some ⟨z + 2 + 1 + 1, 0, none⟩), .pointer (some ⟨z + 2, 0, none⟩), .pointer (some ⟨z + 2 + 1, 0, none⟩)]) rfl trivial (enters_of Tryd.func53 (by kernel_rfl) rfl)
      encS (fun _ => rfl) (fun A B => Kept (fun k => k = z + 2 + 1) A B) (KpW z (z + 2 + 1 + 1) (z + 2) (z + 2 + 1)) (fun ys => ys = stepsV g s L) (fun pre => pre <+: stepsV g s L) L.length
      (fun l J Jx W hb hJ _ hY h0 => by
        have hbz : Below z w W := HW0.out.2.1.trans (hb.mono (by omega))
        exact steps1_in (m - 1) (by omega) l (z + 2 + 1 + 1) (z + 2) (z + 2 + 1) z w p g _ L s HW0.out.2.2.1 HW0.out.2.2.2 ⟨by omega, by omega, by omega⟩ ⟨by omega, by omega⟩ J Jx hJ hY W hbz (by have := hb.size; omega) (HK0.out.2.2.1.below hb HK0.out.2.2.1.lt) (HK0.out.1.below hb HK0.out.1.lt) (HK0.out.2.1.below hb HK0.out.2.1.lt) h0)
      (fun A B k o h hk ho hc => (h.block k (Array.getElem?_eq_some_iff.1 ho).1 (by omega)).trans ho)
      (fun pre W => CI w W z (z + 2 + 1) z (z + 1) (wrap64 (sumW pre)) (endW s pre) ∧ okA pre = true ∧ W0.heap.size ≤ W.heap.size)
      (fun s A B h hst => ⟨h.1.st hst hne (by omega) (by have := HZ.out; omega), h.2.1, Nat.le_trans h.2.2 hst.size⟩)
      (fun s A l o o' h hl ho hc => ⟨h.1.put hne (by omega) ho hc, by simpa using h.2⟩)
      (fun s A o h => ⟨h.1.keep (fun k cs t fr hb _ => Below.heap_alloc _ _ _ hb.lt) hne ((Below.refl _ _).alloc (by have := h.1.below.size; have := HZ.out; omega) _), h.2.1, by have := h.2.2; simp; omega⟩)
      (fun c pre W => c = .exit 0 ∧ okA pre = false ∧ (∃ v, CI w W z (z + 2 + 1) z (z + 1) v (-1)))
      (fun c s A B h hst => by obtain ⟨e, h1, v, h⟩ := h; exact ⟨e, h1, v, h.st hst hne (by omega) (by have := HZ.out; omega)⟩)
      (fun c s A l o o' h hl ho hc => by obtain ⟨e, h1, v, h⟩ := h; exact ⟨e, h1, v, h.put hne (by omega) ho hc⟩)
      KpW.trans (fun W l o o' hl h h1 => KpW.put (w := W0) (by omega) ⟨by omega, by omega, by omega⟩ W l o o' hl h h1)
      ⟨HK0.out.2.2.2, rfl, Nat.le_refl _⟩
      (fun pre x a1 W => ∃ Bx, a1 = { tmps := #[.pointer (some ⟨p, 0, none⟩), .int .i64 s, .int .i64 t, .slice a L.length cap, undef, undef, undef, undef, .pointer (some ⟨z, 0, none⟩), .bool false, .pointer (some ⟨z + 1, 0, none⟩), .pointer (some ⟨Bx, 0, none⟩), .bool x.2, .pointer (some ⟨p, 0, none⟩), .int .i64 s, .bool true, .bool false, .int .i64 s, .pointer (some ⟨p, 0, none⟩), .int .i64 s, .slice a L.length cap, .func (.func 53) #[] #[.pointer (some ⟨z + 2 + 1 + 1, 0, none⟩), .pointer (some ⟨z + 2, 0, none⟩), .pointer (some ⟨z + 2 + 1, 0, none⟩)], arV x.1, .bool x.2, undef, undef, undef, undef, undef, undef, undef, undef, undef, undef, undef, undef, undef, undef, undef, undef], defers := [] } ∧ Blk W Bx #[.int .i64 x.1.1, .int .i64 x.1.2.1, .int .i64 x.1.2.2] 58 (0, 0) ∧ CI w W z (z + 2 + 1) z (z + 1) (wrap64 (sumW pre)) (endW s pre) ∧ okA pre = true ∧ W0.heap.size ≤ W.heap.size)
      (fun pre x a1 W l o o' h hl ho hc => by obtain ⟨Bx, e, h1, h2, h3⟩ := h; exact ⟨Bx, e, (KpC.put ho hc).blk h1, h2.put hne (by omega) ho hc, by simpa using h3⟩)
      ?assign ?body ?done ?stop
    case assign =>
      intro l pre x W K hI hlt hK
      obtain ⟨⟨x0, x1, x2⟩, q⟩ := x
      dsimp only [encS, arV]
      gi_wp2_with fail
      have hb4 : Below W.heap.size W (W.alloc (.cells #[.int .i64 x0, .int .i64 x1, .int .i64 x2] 58)) := (Below.refl _ _).alloc (Nat.le_refl _) _
      obtain ⟨h1, h3, h4⟩ := hI
      exact hK _ _ ⟨W.heap.size, rfl, Blk.new _ _ _ _, h1.keep (fun k cs t fr hb _ => Below.heap_alloc _ _ _ hb.lt) hne ((Below.refl _ _).alloc (by omega) _), h3, by simp; omega⟩ ((KeepsOthers.alloc _ _).from _) (KpW.of_below hb4 (by omega) ⟨by omega, by omega, by omega⟩)
    case body =>
      rintro l' pre ⟨⟨x0, x1, x2⟩, q⟩ a1 W ⟨Bx, rfl, kx, hN, hall, hszW⟩ hlt'
      dsimp only
      have n1 := blk_ne kx hN.wgt (by decide)
      have n2 := blk_ne kx hN.at_ (by decide)
      cases q with
      | false =>
        have c6 := hN.at_.free 0 (Or.inr (Nat.zero_le _))
        have d6 := hN.at_.cell 0
        simp only [List.getElem?_toArray, List.getElem?_cons_zero] at d6
        gi_wp2_with fail
        exact ⟨(KeepsOthers.setCell _ _ _).from _, rfl, by rw [okA_snoc]; simp, _, hN.wgt.setOther _ _ (by simp), hN.at_.set 0 _, hN.below.setCell (p := ⟨z + 1, 0, none⟩) (by simp) _⟩
      | true =>
        have c1 := kx.cell 1; have c2 := kx.cell 2
        have c6 := hN.at_.free 0 (Or.inr (Nat.zero_le _)); have c7 := hN.wgt.free 0 (Or.inr (Nat.zero_le _))
        have d6 := hN.at_.cell 0; have d7 := hN.wgt.cell 0
        simp only [List.getElem?_toArray, List.getElem?_cons_succ, List.getElem?_cons_zero] at c1 c2 d6 d7
        have n1' : Bx ≠ z := n1
        gi_wp2_with fail
        have e8 : wrap64 (wrap64 (sumW pre) + x2) = wrap64 (sumW (pre ++ [((x0, x1, x2), true)])) := by rw [wrap_left, sumW_snoc]
        rw [e8]
        refine ⟨((KeepsOthers.setCell _ _ _).trans (KeepsOthers.setCell _ _ _)).from _, ⟨((Below.refl _ _).setCell (p := ⟨z, 0, none⟩) (Nat.le_refl _) _).setCell (p := ⟨z + 1, 0, none⟩) (by simp) _, fun b hb => (heap_setCell_other _ _ _ _ (show b ≠ z + 1 by omega)).trans (heap_setCell_other _ _ _ _ (show b ≠ z by omega)), fun k cs fr hk => (hk.setOther _ _ (blk_ne hk hN.wgt (by decide))).setOther _ _ (blk_ne hk hN.at_ (by decide))⟩, ⟨(hN.wgt.set 0 _).setOther _ _ (by simp), ?_, (hN.below.setCell (p := ⟨z, 0, none⟩) (Nat.le_refl _) _).setCell (p := ⟨z + 1, 0, none⟩) (by simp) _⟩, by rw [okA_snoc, hall]; rfl, by simp; omega⟩
        rw [endW_snoc]
        exact (hN.at_.setOther _ _ (by simp)).set 0 _
    case done =>
      rintro D ys W hD rfl ⟨hN, hall, hsz⟩ hDf
      have he0 := (endW_in g hg s L hs hall).1
      have hst : checkV g s t L = if endW s (stepsV g s L) = t then some (sumW (stepsV g s L)) else none := by rw [HSt.out, if_pos hall, steps_wt g L s]; rfl
      have HSt := Lib.hid hst
      have HDf := Lib.hid hDf
      clear hst hDf hall
      obtain ⟨e, he⟩ : ∃ e, e = endW s (stepsV g s L) := ⟨_, rfl⟩
      obtain ⟨u, hu⟩ : ∃ u, u = wrap64 (sumW (stepsV g s L)) := ⟨_, rfl⟩
      rw [← he, ← hu] at hN
      rw [← he] at HSt he0
      have Hu := Lib.hid hu
      clear he hu
      have c8 := hN.wgt.free 0 (Or.inr (Nat.zero_le _))
      have d8 : W.cell? ⟨z, 0, none⟩ = some (.int .i64 u) := hN.wgt.cell 0
      have d10 : W.cell? ⟨z + 1, 0, none⟩ = some (.int .i64 e) := hN.at_.cell 0
      have f1 : decide (e < 0) = false := decide_eq_false (by omega)
      have HNN := Lib.hid hN
      clear hN
      have fin : ∀ (x : Int), Blk (W.setCell ⟨z, 0, none⟩ (.int .i64 x)) z #[.int .i64 x] 2 (0, 0) ∧ Below z w (W.setCell ⟨z, 0, none⟩ (.int .i64 x)) ∧ (W.setCell ⟨z, 0, none⟩ (.int .i64 x)).heap[D]? = some (.deferred (some [])) := fun x => ⟨HNN.out.wgt.set 0 _, HNN.out.below.setCell (p := ⟨z, 0, none⟩) (Nat.le_refl _) _, (heap_setCell_other _ _ _ _ (show D ≠ z by omega)).trans HDf.out⟩
      have HFin := Lib.hid fin
      clear fin
      by_cases het : e = t
      · subst het
        gi_wp2_with fail
        rw [HSt.out, if_pos trivial, ← HZ.out]
        obtain ⟨k8, hbE, hDE⟩ := HFin.out u
        refine leaves_marks (B := z) (by simp) _ _ ⟨⟨D, rfl, by omega, hDE, fun d' h => by cases h⟩, trivial⟩ hbE fun w' hk' hb' => ?_
        have c6 : w'.cell? ⟨z, 0, none⟩ = some (.int .i64 u) := (hk'.blk k8).cell 0
        exact ⟨.tuple #[.int .i64 u, .bool true], by simp [results, Tryd.results21, c6, go_sem], by rw [Hu.out]; rfl, hb'⟩
      · have f2 : (e == t) = false := by simpa using het
        gi_wp2_with fail
        obtain ⟨k8, hbE, hDE⟩ := HFin.out 0
        rw [Exit.noGoto_ret]
        gi_wp2_with fail
        rw [HSt.out, if_neg het, ← HZ.out]
        refine leaves_marks (B := z) (by simp) _ _ ⟨⟨D, rfl, by omega, hDE, fun d' h => by cases h⟩, trivial⟩ hbE fun w' hk' hb' => ?_
        have c6 : w'.cell? ⟨z, 0, none⟩ = some (.int .i64 0) := (hk'.blk k8).cell 0
        exact ⟨.tuple #[.int .i64 0, .bool false], by simp [results, Tryd.results21, c6, go_sem], by rw [wrap_none]; rfl, hb'⟩
    case stop =>
      rintro D c pre W hD hpre ⟨rfl, hall, v, hN⟩ hDf
      have hno : checkV g s t L = none := by rw [HSt.out, if_neg (by rw [okA_pre hpre hall]; simp)]
      have c8 := hN.wgt.free 0 (Or.inr (Nat.zero_le _))
      have d8 : W.cell? ⟨z, 0, none⟩ = some (.int .i64 v) := hN.wgt.cell 0
      have d10 : W.cell? ⟨z + 1, 0, none⟩ = some (.int .i64 (-1)) := hN.at_.cell 0
      gi_wp2_with fail
      have k8 : Blk (W.setCell ⟨z, 0, none⟩ (.int .i64 0)) z #[.int .i64 0] 2 (0, 0) := hN.wgt.set 0 _
      have hbE : Below z w (W.setCell ⟨z, 0, none⟩ (.int .i64 0)) := hN.below.setCell (p := ⟨z, 0, none⟩) (Nat.le_refl _) _
      have hDE : (W.setCell ⟨z, 0, none⟩ (.int .i64 0)).heap[D]? = some (.deferred (some [])) := (heap_setCell_other _ _ _ _ (show D ≠ z by omega)).trans hDf
      rw [Exit.noGoto_ret]
      gi_wp2_with fail
      rw [hno, ← HZ.out]
      refine leaves_marks (B := z) (by simp) _ _ ⟨⟨D, rfl, by omega, hDE, fun d' h => by cases h⟩, trivial⟩ hbE fun w' hk' hb' => ?_
      have c6 : w'.cell? ⟨z, 0, none⟩ = some (.int .i64 0) := (hk'.blk k8).cell 0
      exact ⟨.tuple #[.int .i64 0, .bool false], by simp [results, Tryd.results21, c6, go_sem], by rw [wrap_none]; rfl, hb'⟩
end Go.Proofs.YtlddcnkiigamjaaDoor
/- walks of a literal graph. -/
namespace Go.Proofs.YtlddcnkiigamjaaDoor
open Go.RowKit Go.Shelf
attribute [local go_sem] Oper.semAt_some
theorem new_ok (v : Value) (r : Raw) (w : World) (hg : HG w) (h : RawV w v r) (hok : r.Ok) (hf : r.few) : Calls Tryd.prog 12 #[v] w fun e w' => ∃ p, e = .returned (.tuple #[.pointer (some ⟨p, 0, none⟩), .nilIface]) ∧ NetAt w' p r ∧ Below w.heap.size w w' := by
  refine (new_any v _ w hg h hf).mono ?_
  rintro e w' ⟨⟨hk, _⟩ | ⟨_, p, rfl, hn⟩, hb⟩
  · exact absurd ((Raw.ok_iff _).2 hok) hk
  · exact ⟨p, rfl, hn.at, hb⟩
theorem bare_nilW (s : Int) (va : Value) (w : World) : Calls Tryd.prog 25 #[.pointer none, .int .i64 s, va] w fun e w' => e = .returned (.tuple #[.slice none 0 0, .bool false]) ∧ Below w.heap.size w w' := by
  go_enter Tryd.func25, Tryd.ntmps25
  go_wp2_with fail
  refine (callsIn_wide.1 (nodes_nilW 4 s va w)).mono ?_
  rintro e w2 ⟨rfl, hb⟩
  go_wp2_with fail
  go_ret2
  exact ⟨rfl, hb⟩
theorem check_is {g : Raw} {s t : Int} {L : List Int} (c : Option Int) (n : Int) (b : Bool) (hc : checkV g s t L = c) (hn : wrap64 (c.getD 0) = n) (hb : c.isSome = b) (hg : ∀ a ∈ g.arcs, 0 ≤ a.2.1 ∧ a.2.1 < g.nodes) (p : Nat) (va : Value) (w : World) (h : NetAt w p g) (ha : SlX w va L) :
    Calls Tryd.prog 21 #[.pointer (some ⟨p, 0, none⟩), .int .i64 s, .int .i64 t, va] w fun e w' => e = .returned (.tuple #[.int .i64 n, .bool b]) ∧ Below w.heap.size w w' := by
  have := callsIn_wide.1 (wcheck_in 4 (Nat.le_refl _) p g hg s t va L w h ha)
  rw [hc, hn, hb] at this
  exact this
theorem nodes_is {g : Raw} {s : Int} {L : List Int} (c : Option (List Int)) (hc : nodesV g s L = c) (hL : L.length ≤ 100000) (p : Nat) (va : Value) (w : World) (h : NetAt w p g) (ha : SlX w va L) :
    Calls Tryd.prog 23 #[.pointer (some ⟨p, 0, none⟩), .int .i64 s, va] w fun e w' => ∃ a cp, e = .returned (.tuple #[.slice a (c.getD []).length cp, .bool c.isSome]) ∧ SlX w' (.slice a (c.getD []).length cp) (c.getD []) ∧ Below w.heap.size w w' := by
  refine (callsIn_wide.1 (wnodes_in 4 (Nat.le_refl _) p g s va L hL w h ha)).mono ?_
  rintro e w' ⟨v, rfl, hr, hb⟩
  rw [hc] at hr ⊢
  have hs := slX_own rfl hr
  obtain ⟨a, cp, rfl, _⟩ := id hs
  exact ⟨a, cp, rfl, hs, hb⟩
theorem bare_is {g : Raw} {s : Int} {L : List Int} (c : Option (List Int)) (hc : bareO g s L = c) (hL : L.length ≤ 100000) (hg : ∀ a ∈ g.arcs, 0 ≤ a.2.1 ∧ a.2.1 < g.nodes) (hgn : g.nodes ≤ 2147483648) (p : Nat) (va : Value) (w : World) (h : NetAt w p g) (ha : SlX w va L) :
    Calls Tryd.prog 25 #[.pointer (some ⟨p, 0, none⟩), .int .i64 s, va] w fun e w' => ∃ a cp, e = .returned (.tuple #[.slice a (c.getD []).length cp, .bool c.isSome]) ∧ SlX w' (.slice a (c.getD []).length cp) (c.getD []) ∧ Below w.heap.size w w' := by
  refine (wbare_any p g hg hgn s va L hL w h ha).mono ?_
  rintro e w' ⟨v, rfl, hr, hb⟩
  rw [hc] at hr ⊢
  have hs := slX_own rfl hr
  obtain ⟨a, cp, rfl, _⟩ := id hs
  exact ⟨a, cp, rfl, hs, hb⟩
end Go.Proofs.YtlddcnkiigamjaaDoor
/- the walk laws' works. -/
namespace Go.Proofs.YtlddcnkiigamjaaDoor
open Go.RowKit Go.Shelf
attribute [local go_sem] Oper.semAt_some
def rWork : Raw := ⟨3, [0, 0, 0], [0, 0, 0], [(0, 1, 5), (1, 2, 0), (0, 1, 7), (2, 1, 1)]⟩
theorem rWork_ok : rWork.Ok := by
  refine ⟨⟨by decide, by decide⟩, rfl, rfl, fun x hx => ?_, fun x hx => ?_, by decide, fun a ha => ?_⟩
  · simp [rWork] at hx; subst hx; unfold coordOk; omega
  · simp [rWork] at hx; subst hx; unfold coordOk; omega
  · simp [rWork] at ha; rcases ha with rfl | rfl | rfl | rfl <;> (unfold arcOk; decide)
set_option maxRecDepth 100000 in
set_option maxHeartbeats 8000000 in
theorem works09_any (w : World) (hg : HG w) : Calls Tryd.prog 19 #[] w fun e w' => e = .returned (.bool true) ∧ Below w.heap.size w w' := by
  have HG0 := Lib.hid hg
  clear hg
  go_enter Tryd.func19, Tryd.ntmps19
  go_wp2_with fail
  have hmk : ∀ u : World, (Instr.makeSlice 22 (.int .i64 3) (.int .i64 3)).run Tryd.prog u = .ok (.slice (some ⟨u.heap.size, 0, none⟩) 3 3) (u.alloc (.cells #[.int .i64 0, .int .i64 0, .int .i64 0] 2)) := fun u => by kernel_rfl
  have HSS := Lib.hid (show ∀ u, Below w.heap.size w u → True from fun _ _ => trivial)
  refine wp_region_heldD (fun w' => True) 13 rfl ?_
  change heldD _ _ _ _ _ _ _ 14 _ _ w.drew
  obtain ⟨wk0, hu0⟩ : ∃ u, u = w.drew := ⟨_, rfl⟩
  have HBu := Lib.hid (show Below w.heap.size w wk0 by rw [hu0]; exact (Below.refl _ _).drew)
  rw [← hu0]
  clear hu0
  refine heldD_takeF (i := 2) (v := .agg #[.int .i64 0, .int .i64 1, .int .i64 5]) rfl rfl rfl (by kernel_rfl) (by kernel_rfl) (by kernel_rfl) (by kernel_rfl) (fun _ _ _ h => h) (by rfl) (fun w => ⟨by rfl, by go_simp⟩) (fun _ => HSS.out _ HBu.out) ?_
  simp only [List.setIfInBounds_toArray, List.set_cons_zero, List.set_cons_succ]
  refine heldD_takeF (i := 3) (v := .agg #[.int .i64 1, .int .i64 2, .int .i64 0]) rfl rfl rfl (by kernel_rfl) (by kernel_rfl) (by kernel_rfl) (by kernel_rfl) (fun _ _ _ h => h) (by rfl) (fun w => ⟨by rfl, by go_simp⟩) (fun _ => HSS.out _ HBu.out) ?_
  simp only [List.setIfInBounds_toArray, List.set_cons_zero, List.set_cons_succ]
  refine heldD_takeF (i := 4) (v := .agg #[.int .i64 0, .int .i64 1, .int .i64 7]) rfl rfl rfl (by kernel_rfl) (by kernel_rfl) (by kernel_rfl) (by kernel_rfl) (fun _ _ _ h => h) (by rfl) (fun w => ⟨by rfl, by go_simp⟩) (fun _ => HSS.out _ HBu.out) ?_
  simp only [List.setIfInBounds_toArray, List.set_cons_zero, List.set_cons_succ]
  refine heldD_takeF (i := 5) (v := .agg #[.int .i64 2, .int .i64 1, .int .i64 1]) rfl rfl rfl (by kernel_rfl) (by kernel_rfl) (by kernel_rfl) (by kernel_rfl) (fun _ _ _ h => h) (by rfl) (fun w => ⟨by rfl, by go_simp⟩) (fun _ => HSS.out _ HBu.out) ?_
  simp only [List.setIfInBounds_toArray, List.set_cons_zero, List.set_cons_succ]
  refine heldD_HT ?_
  intro H hH T hT
  have HH := Lib.hid hH; have HT := Lib.hid hT
  clear hH hT
  suffices nw_0_1_6_8 : ∀ (u : World) (bx : Nat) (by_ : Nat) (bz : Nat) (p : Nat), Hid (Below w.heap.size w u) → Hid (Blk u bx #[.int .i64 0, .int .i64 0, .int .i64 0] 2 (0, 0)) → Hid (Blk u by_ #[.int .i64 0, .int .i64 0, .int .i64 0] 2 (0, 0)) → Hid (Blk u bz #[.int .i64 0, .int .i64 1, .int .i64 5, .int .i64 1, .int .i64 2, .int .i64 0, .int .i64 0, .int .i64 1, .int .i64 7, .int .i64 2, .int .i64 1, .int .i64 1] 58 (0, 0)) → Hid (NetAt u p rWork) → H 1 #[true, true, true, true, true, true, true, true, true, true, true, true, true, false] { tmps := (((((((((T.setIfInBounds 14 (.slice (some ⟨bx, 0, none⟩) 3 3)).setIfInBounds 15 (.slice (some ⟨by_, 0, none⟩) 3 3)).setIfInBounds 20 (.slice (some ⟨bz, 0, none⟩) 4 4)).setIfInBounds 21 (.agg #[.int .i64 3, .slice (some ⟨bx, 0, none⟩) 3 3, .slice (some ⟨by_, 0, none⟩) 3 3, .slice (some ⟨bz, 0, none⟩) 4 4])).setIfInBounds 22 (.tuple #[.pointer (some ⟨p, 0, none⟩), .nilIface])).setIfInBounds 13 (.tuple #[.pointer (some ⟨p, 0, none⟩), .nilIface])).setIfInBounds 23 (.pointer (some ⟨p, 0, none⟩))).setIfInBounds 24 (.nilIface)).setIfInBounds 1 (.pointer (some ⟨p, 0, none⟩))), defers := [] } u from by
    have nw_0_1_6 : ∀ (u : World) (bx : Nat) (by_ : Nat) (bz : Nat), Hid (Below w.heap.size w u) → Hid (Blk u bx #[.int .i64 0, .int .i64 0, .int .i64 0] 2 (0, 0)) → Hid (Blk u by_ #[.int .i64 0, .int .i64 0, .int .i64 0] 2 (0, 0)) → Hid (Blk u bz #[.int .i64 0, .int .i64 1, .int .i64 5, .int .i64 1, .int .i64 2, .int .i64 0, .int .i64 0, .int .i64 1, .int .i64 7, .int .i64 2, .int .i64 1, .int .i64 1] 58 (0, 0)) → H 6 #[true, true, true, true, true, true, true, true, false, false, false, false, false, false] { tmps := ((((T.setIfInBounds 14 (.slice (some ⟨bx, 0, none⟩) 3 3)).setIfInBounds 15 (.slice (some ⟨by_, 0, none⟩) 3 3)).setIfInBounds 20 (.slice (some ⟨bz, 0, none⟩) 4 4)).setIfInBounds 21 (.agg #[.int .i64 3, .slice (some ⟨bx, 0, none⟩) 3 3, .slice (some ⟨by_, 0, none⟩) 3 3, .slice (some ⟨bz, 0, none⟩) 4 4])), defers := [] } u := by
      clear HBu
      intro u bx by_ bz HBu HF0 HF1 HF6
      rw [HH.out, HT.out]
      simp only [List.setIfInBounds_toArray, List.set_cons_zero, List.set_cons_succ]
      refine heldD_one (i := 8) (by kernel_rfl) ?_
      refine wpOpIn_calls' (f := 12) (args := #[.agg #[.int .i64 3, .slice (some ⟨bx, 0, none⟩) 3 3, .slice (some ⟨by_, 0, none⟩) 3 3, .slice (some ⟨bz, 0, none⟩) 4 4]]) rfl rfl (by rfl) (by go_simp) (new_ok _ rWork u (HG0.out.later HBu.out) ⟨_, _, _, rfl, slX_new HF0.out rfl rfl (by decide), slX_new HF1.out rfl rfl (by decide), slA_new HF6.out rfl rfl (by decide)⟩ rWork_ok (by unfold Raw.few; decide)) ?_
      rintro e u2 ⟨p, rfl, hn, hb⟩
      refine ⟨_, rfl, ?_⟩
      have hf : (NetAt u2 p rWork) := hn
      have HBu0 := HBu
      have HBu : Hid (Below w.heap.size w u2) := Lib.hid (HBu0.out.trans (hb.mono HBu0.out.size))
      refine ⟨fun _ => HSS.out _ HBu.out, ?_⟩
      simp only [List.setIfInBounds_toArray, List.set_cons_zero, List.set_cons_succ]
      refine heldD_takeF (i := 9) (v := .tuple #[.pointer (some ⟨p, 0, none⟩), .nilIface]) rfl rfl rfl (by kernel_rfl) (by kernel_rfl) (by kernel_rfl) (by kernel_rfl) (fun _ _ _ h => h) (by rfl) (fun w => ⟨by rfl, by go_simp⟩) (fun _ => HSS.out _ HBu.out) ?_
      simp only [List.setIfInBounds_toArray, List.set_cons_zero, List.set_cons_succ]
      refine heldD_takeF (i := 10) (v := .pointer (some ⟨p, 0, none⟩)) rfl rfl rfl (by kernel_rfl) (by kernel_rfl) (by kernel_rfl) (by kernel_rfl) (fun _ _ _ h => h) (by rfl) (fun w => ⟨by rfl, by go_simp⟩) (fun _ => HSS.out _ HBu.out) ?_
      simp only [List.setIfInBounds_toArray, List.set_cons_zero, List.set_cons_succ]
      refine heldD_takeF (i := 11) (v := .nilIface) rfl rfl rfl (by kernel_rfl) (by kernel_rfl) (by kernel_rfl) (by kernel_rfl) (fun _ _ _ h => h) (by rfl) (fun w => ⟨by rfl, by go_simp⟩) (fun _ => HSS.out _ HBu.out) ?_
      simp only [List.setIfInBounds_toArray, List.set_cons_zero, List.set_cons_succ]
      refine heldD_takeF (i := 12) (v := .pointer (some ⟨p, 0, none⟩)) rfl rfl rfl (by kernel_rfl) (by kernel_rfl) (by kernel_rfl) (by kernel_rfl) (fun _ _ _ h => h) (by rfl) (fun w => ⟨by rfl, by go_simp⟩) (fun _ => HSS.out _ HBu.out) ?_
      simp only [List.setIfInBounds_toArray, List.set_cons_zero, List.set_cons_succ]
      have q := nw_0_1_6_8 _ bx by_ bz p HBu (Lib.hid (HF0.out.below hb HF0.out.lt)) (Lib.hid (HF1.out.below hb HF1.out.lt)) (Lib.hid (HF6.out.below hb HF6.out.lt)) (Lib.hid hf)
      rw [HH.out, HT.out] at q
      simp only [List.setIfInBounds_toArray, List.set_cons_zero, List.set_cons_succ] at q ⊢
      exact q
    have nw_1_6 : ∀ (u : World) (by_ : Nat) (bz : Nat), Hid (Below w.heap.size w u) → Hid (Blk u by_ #[.int .i64 0, .int .i64 0, .int .i64 0] 2 (0, 0)) → Hid (Blk u bz #[.int .i64 0, .int .i64 1, .int .i64 5, .int .i64 1, .int .i64 2, .int .i64 0, .int .i64 0, .int .i64 1, .int .i64 7, .int .i64 2, .int .i64 1, .int .i64 1] 58 (0, 0)) → H 8 #[false, true, true, true, true, true, true, false, false, false, false, false, false, false] { tmps := ((T.setIfInBounds 15 (.slice (some ⟨by_, 0, none⟩) 3 3)).setIfInBounds 20 (.slice (some ⟨bz, 0, none⟩) 4 4)), defers := [] } u := by
      clear HBu
      intro u by_ bz HBu HF1 HF6
      rw [HH.out, HT.out]
      simp only [List.setIfInBounds_toArray, List.set_cons_zero, List.set_cons_succ]
      refine heldD_one (i := 0) (by kernel_rfl) ?_
      have hb : Below u.heap.size u (u.alloc (.cells #[.int .i64 0, .int .i64 0, .int .i64 0] 2)) := (Below.refl _ _).alloc (Nat.le_refl _) _
      have hf : Blk (u.alloc (.cells #[.int .i64 0, .int .i64 0, .int .i64 0] 2)) u.heap.size #[.int .i64 0, .int .i64 0, .int .i64 0] 2 (0, 0) := Blk.new _ _ _ _
      refine wpOpIn_value (v := .slice (some ⟨u.heap.size, 0, none⟩) 3 3) (w' := (u.alloc (.cells #[.int .i64 0, .int .i64 0, .int .i64 0] 2))) rfl rfl rfl (by rfl) (by rfl) (by go_simp) ?_
      have HBu0 := HBu
      have HBu : Hid (Below w.heap.size w (u.alloc (.cells #[.int .i64 0, .int .i64 0, .int .i64 0] 2))) := Lib.hid (HBu0.out.trans (hb.mono HBu0.out.size))
      refine ⟨fun _ => HSS.out _ HBu.out, ?_⟩
      simp only [List.setIfInBounds_toArray, List.set_cons_zero, List.set_cons_succ]
      refine heldD_takeF (i := 7) (v := .agg #[.int .i64 3, .slice (some ⟨u.heap.size, 0, none⟩) 3 3, .slice (some ⟨by_, 0, none⟩) 3 3, .slice (some ⟨bz, 0, none⟩) 4 4]) rfl rfl rfl (by kernel_rfl) (by kernel_rfl) (by kernel_rfl) (by kernel_rfl) (fun _ _ _ h => h) (by rfl) (fun w => ⟨by rfl, by go_simp⟩) (fun _ => HSS.out _ HBu.out) ?_
      simp only [List.setIfInBounds_toArray, List.set_cons_zero, List.set_cons_succ]
      have q := nw_0_1_6 _ u.heap.size by_ bz HBu (Lib.hid hf) (Lib.hid (HF1.out.below hb HF1.out.lt)) (Lib.hid (HF6.out.below hb HF6.out.lt))
      rw [HH.out, HT.out] at q
      simp only [List.setIfInBounds_toArray, List.set_cons_zero, List.set_cons_succ] at q ⊢
      exact q
    have nw_0_6 : ∀ (u : World) (bx : Nat) (bz : Nat), Hid (Below w.heap.size w u) → Hid (Blk u bx #[.int .i64 0, .int .i64 0, .int .i64 0] 2 (0, 0)) → Hid (Blk u bz #[.int .i64 0, .int .i64 1, .int .i64 5, .int .i64 1, .int .i64 2, .int .i64 0, .int .i64 0, .int .i64 1, .int .i64 7, .int .i64 2, .int .i64 1, .int .i64 1] 58 (0, 0)) → H 8 #[true, false, true, true, true, true, true, false, false, false, false, false, false, false] { tmps := ((T.setIfInBounds 14 (.slice (some ⟨bx, 0, none⟩) 3 3)).setIfInBounds 20 (.slice (some ⟨bz, 0, none⟩) 4 4)), defers := [] } u := by
      clear HBu
      intro u bx bz HBu HF0 HF6
      rw [HH.out, HT.out]
      simp only [List.setIfInBounds_toArray, List.set_cons_zero, List.set_cons_succ]
      refine heldD_one (i := 1) (by kernel_rfl) ?_
      have hb : Below u.heap.size u (u.alloc (.cells #[.int .i64 0, .int .i64 0, .int .i64 0] 2)) := (Below.refl _ _).alloc (Nat.le_refl _) _
      have hf : Blk (u.alloc (.cells #[.int .i64 0, .int .i64 0, .int .i64 0] 2)) u.heap.size #[.int .i64 0, .int .i64 0, .int .i64 0] 2 (0, 0) := Blk.new _ _ _ _
      refine wpOpIn_value (v := .slice (some ⟨u.heap.size, 0, none⟩) 3 3) (w' := (u.alloc (.cells #[.int .i64 0, .int .i64 0, .int .i64 0] 2))) rfl rfl rfl (by rfl) (by rfl) (by go_simp) ?_
      have HBu0 := HBu
      have HBu : Hid (Below w.heap.size w (u.alloc (.cells #[.int .i64 0, .int .i64 0, .int .i64 0] 2))) := Lib.hid (HBu0.out.trans (hb.mono HBu0.out.size))
      refine ⟨fun _ => HSS.out _ HBu.out, ?_⟩
      simp only [List.setIfInBounds_toArray, List.set_cons_zero, List.set_cons_succ]
      refine heldD_takeF (i := 7) (v := .agg #[.int .i64 3, .slice (some ⟨bx, 0, none⟩) 3 3, .slice (some ⟨u.heap.size, 0, none⟩) 3 3, .slice (some ⟨bz, 0, none⟩) 4 4]) rfl rfl rfl (by kernel_rfl) (by kernel_rfl) (by kernel_rfl) (by kernel_rfl) (fun _ _ _ h => h) (by rfl) (fun w => ⟨by rfl, by go_simp⟩) (fun _ => HSS.out _ HBu.out) ?_
      simp only [List.setIfInBounds_toArray, List.set_cons_zero, List.set_cons_succ]
      have q := nw_0_1_6 _ bx u.heap.size bz HBu (Lib.hid (HF0.out.below hb HF0.out.lt)) (Lib.hid hf) (Lib.hid (HF6.out.below hb HF6.out.lt))
      rw [HH.out, HT.out] at q
      simp only [List.setIfInBounds_toArray, List.set_cons_zero, List.set_cons_succ] at q ⊢
      exact q
    have nw_0_1 : ∀ (u : World) (bx : Nat) (by_ : Nat), Hid (Below w.heap.size w u) → Hid (Blk u bx #[.int .i64 0, .int .i64 0, .int .i64 0] 2 (0, 0)) → Hid (Blk u by_ #[.int .i64 0, .int .i64 0, .int .i64 0] 2 (0, 0)) → H 8 #[true, true, true, true, true, true, false, false, false, false, false, false, false, false] { tmps := ((T.setIfInBounds 14 (.slice (some ⟨bx, 0, none⟩) 3 3)).setIfInBounds 15 (.slice (some ⟨by_, 0, none⟩) 3 3)), defers := [] } u := by
      clear HBu
      intro u bx by_ HBu HF0 HF1
      rw [HH.out, HT.out]
      simp only [List.setIfInBounds_toArray, List.set_cons_zero, List.set_cons_succ]
      refine heldD_one (i := 6) (by kernel_rfl) ?_
      have hb : Below u.heap.size u (u.alloc (.cells #[.int .i64 0, .int .i64 1, .int .i64 5, .int .i64 1, .int .i64 2, .int .i64 0, .int .i64 0, .int .i64 1, .int .i64 7, .int .i64 2, .int .i64 1, .int .i64 1] 58)) := (Below.refl _ _).alloc (Nat.le_refl _) _
      have hf : Blk (u.alloc (.cells #[.int .i64 0, .int .i64 1, .int .i64 5, .int .i64 1, .int .i64 2, .int .i64 0, .int .i64 0, .int .i64 1, .int .i64 7, .int .i64 2, .int .i64 1, .int .i64 1] 58)) u.heap.size #[.int .i64 0, .int .i64 1, .int .i64 5, .int .i64 1, .int .i64 2, .int .i64 0, .int .i64 0, .int .i64 1, .int .i64 7, .int .i64 2, .int .i64 1, .int .i64 1] 58 (0, 0) := Blk.new _ _ _ _
      refine wpOpIn_value (v := .slice (some ⟨u.heap.size, 0, none⟩) 4 4) (w' := (u.alloc (.cells #[.int .i64 0, .int .i64 1, .int .i64 5, .int .i64 1, .int .i64 2, .int .i64 0, .int .i64 0, .int .i64 1, .int .i64 7, .int .i64 2, .int .i64 1, .int .i64 1] 58))) rfl rfl rfl (by rfl) (by rfl) (by go_simp) ?_
      have HBu0 := HBu
      have HBu : Hid (Below w.heap.size w (u.alloc (.cells #[.int .i64 0, .int .i64 1, .int .i64 5, .int .i64 1, .int .i64 2, .int .i64 0, .int .i64 0, .int .i64 1, .int .i64 7, .int .i64 2, .int .i64 1, .int .i64 1] 58))) := Lib.hid (HBu0.out.trans (hb.mono HBu0.out.size))
      refine ⟨fun _ => HSS.out _ HBu.out, ?_⟩
      simp only [List.setIfInBounds_toArray, List.set_cons_zero, List.set_cons_succ]
      refine heldD_takeF (i := 7) (v := .agg #[.int .i64 3, .slice (some ⟨bx, 0, none⟩) 3 3, .slice (some ⟨by_, 0, none⟩) 3 3, .slice (some ⟨u.heap.size, 0, none⟩) 4 4]) rfl rfl rfl (by kernel_rfl) (by kernel_rfl) (by kernel_rfl) (by kernel_rfl) (fun _ _ _ h => h) (by rfl) (fun w => ⟨by rfl, by go_simp⟩) (fun _ => HSS.out _ HBu.out) ?_
      simp only [List.setIfInBounds_toArray, List.set_cons_zero, List.set_cons_succ]
      have q := nw_0_1_6 _ bx by_ u.heap.size HBu (Lib.hid (HF0.out.below hb HF0.out.lt)) (Lib.hid (HF1.out.below hb HF1.out.lt)) (Lib.hid hf)
      rw [HH.out, HT.out] at q
      simp only [List.setIfInBounds_toArray, List.set_cons_zero, List.set_cons_succ] at q ⊢
      exact q
    have nw_6 : ∀ (u : World) (bz : Nat), Hid (Below w.heap.size w u) → Hid (Blk u bz #[.int .i64 0, .int .i64 1, .int .i64 5, .int .i64 1, .int .i64 2, .int .i64 0, .int .i64 0, .int .i64 1, .int .i64 7, .int .i64 2, .int .i64 1, .int .i64 1] 58 (0, 0)) → H 9 #[false, false, true, true, true, true, true, false, false, false, false, false, false, false] { tmps := (T.setIfInBounds 20 (.slice (some ⟨bz, 0, none⟩) 4 4)), defers := [] } u := by
      clear HBu
      intro u bz HBu HF6
      rw [HH.out, HT.out]
      simp only [List.setIfInBounds_toArray, List.set_cons_zero, List.set_cons_succ]
      refine heldD_two (i := 0) (k := 1) (by kernel_rfl) ?_ ?_
      · have hb : Below u.heap.size u (u.alloc (.cells #[.int .i64 0, .int .i64 0, .int .i64 0] 2)) := (Below.refl _ _).alloc (Nat.le_refl _) _
        have hf : Blk (u.alloc (.cells #[.int .i64 0, .int .i64 0, .int .i64 0] 2)) u.heap.size #[.int .i64 0, .int .i64 0, .int .i64 0] 2 (0, 0) := Blk.new _ _ _ _
        refine wpOpIn_value (v := .slice (some ⟨u.heap.size, 0, none⟩) 3 3) (w' := (u.alloc (.cells #[.int .i64 0, .int .i64 0, .int .i64 0] 2))) rfl rfl rfl (by rfl) (by rfl) (by go_simp) ?_
        have HBu0 := HBu
        have HBu : Hid (Below w.heap.size w (u.alloc (.cells #[.int .i64 0, .int .i64 0, .int .i64 0] 2))) := Lib.hid (HBu0.out.trans (hb.mono HBu0.out.size))
        refine ⟨fun _ => HSS.out _ HBu.out, ?_⟩
        simp only [List.setIfInBounds_toArray, List.set_cons_zero, List.set_cons_succ]
        have q := nw_0_6 _ u.heap.size bz HBu (Lib.hid hf) (Lib.hid (HF6.out.below hb HF6.out.lt))
        rw [HH.out, HT.out] at q
        simp only [List.setIfInBounds_toArray, List.set_cons_zero, List.set_cons_succ] at q ⊢
        exact q
      · have hb : Below u.heap.size u (u.alloc (.cells #[.int .i64 0, .int .i64 0, .int .i64 0] 2)) := (Below.refl _ _).alloc (Nat.le_refl _) _
        have hf : Blk (u.alloc (.cells #[.int .i64 0, .int .i64 0, .int .i64 0] 2)) u.heap.size #[.int .i64 0, .int .i64 0, .int .i64 0] 2 (0, 0) := Blk.new _ _ _ _
        refine wpOpIn_value (v := .slice (some ⟨u.heap.size, 0, none⟩) 3 3) (w' := (u.alloc (.cells #[.int .i64 0, .int .i64 0, .int .i64 0] 2))) rfl rfl rfl (by rfl) (by rfl) (by go_simp) ?_
        have HBu0 := HBu
        have HBu : Hid (Below w.heap.size w (u.alloc (.cells #[.int .i64 0, .int .i64 0, .int .i64 0] 2))) := Lib.hid (HBu0.out.trans (hb.mono HBu0.out.size))
        refine ⟨fun _ => HSS.out _ HBu.out, ?_⟩
        simp only [List.setIfInBounds_toArray, List.set_cons_zero, List.set_cons_succ]
        have q := nw_1_6 _ u.heap.size bz HBu (Lib.hid hf) (Lib.hid (HF6.out.below hb HF6.out.lt))
        rw [HH.out, HT.out] at q
        simp only [List.setIfInBounds_toArray, List.set_cons_zero, List.set_cons_succ] at q ⊢
        exact q
    have nw_1 : ∀ (u : World) (by_ : Nat), Hid (Below w.heap.size w u) → Hid (Blk u by_ #[.int .i64 0, .int .i64 0, .int .i64 0] 2 (0, 0)) → H 9 #[false, true, true, true, true, true, false, false, false, false, false, false, false, false] { tmps := (T.setIfInBounds 15 (.slice (some ⟨by_, 0, none⟩) 3 3)), defers := [] } u := by
      clear HBu
      intro u by_ HBu HF1
      rw [HH.out, HT.out]
      simp only [List.setIfInBounds_toArray, List.set_cons_zero, List.set_cons_succ]
      refine heldD_two (i := 0) (k := 6) (by kernel_rfl) ?_ ?_
      · have hb : Below u.heap.size u (u.alloc (.cells #[.int .i64 0, .int .i64 0, .int .i64 0] 2)) := (Below.refl _ _).alloc (Nat.le_refl _) _
        have hf : Blk (u.alloc (.cells #[.int .i64 0, .int .i64 0, .int .i64 0] 2)) u.heap.size #[.int .i64 0, .int .i64 0, .int .i64 0] 2 (0, 0) := Blk.new _ _ _ _
        refine wpOpIn_value (v := .slice (some ⟨u.heap.size, 0, none⟩) 3 3) (w' := (u.alloc (.cells #[.int .i64 0, .int .i64 0, .int .i64 0] 2))) rfl rfl rfl (by rfl) (by rfl) (by go_simp) ?_
        have HBu0 := HBu
        have HBu : Hid (Below w.heap.size w (u.alloc (.cells #[.int .i64 0, .int .i64 0, .int .i64 0] 2))) := Lib.hid (HBu0.out.trans (hb.mono HBu0.out.size))
        refine ⟨fun _ => HSS.out _ HBu.out, ?_⟩
        simp only [List.setIfInBounds_toArray, List.set_cons_zero, List.set_cons_succ]
        have q := nw_0_1 _ u.heap.size by_ HBu (Lib.hid hf) (Lib.hid (HF1.out.below hb HF1.out.lt))
        rw [HH.out, HT.out] at q
        simp only [List.setIfInBounds_toArray, List.set_cons_zero, List.set_cons_succ] at q ⊢
        exact q
      · have hb : Below u.heap.size u (u.alloc (.cells #[.int .i64 0, .int .i64 1, .int .i64 5, .int .i64 1, .int .i64 2, .int .i64 0, .int .i64 0, .int .i64 1, .int .i64 7, .int .i64 2, .int .i64 1, .int .i64 1] 58)) := (Below.refl _ _).alloc (Nat.le_refl _) _
        have hf : Blk (u.alloc (.cells #[.int .i64 0, .int .i64 1, .int .i64 5, .int .i64 1, .int .i64 2, .int .i64 0, .int .i64 0, .int .i64 1, .int .i64 7, .int .i64 2, .int .i64 1, .int .i64 1] 58)) u.heap.size #[.int .i64 0, .int .i64 1, .int .i64 5, .int .i64 1, .int .i64 2, .int .i64 0, .int .i64 0, .int .i64 1, .int .i64 7, .int .i64 2, .int .i64 1, .int .i64 1] 58 (0, 0) := Blk.new _ _ _ _
        refine wpOpIn_value (v := .slice (some ⟨u.heap.size, 0, none⟩) 4 4) (w' := (u.alloc (.cells #[.int .i64 0, .int .i64 1, .int .i64 5, .int .i64 1, .int .i64 2, .int .i64 0, .int .i64 0, .int .i64 1, .int .i64 7, .int .i64 2, .int .i64 1, .int .i64 1] 58))) rfl rfl rfl (by rfl) (by rfl) (by go_simp) ?_
        have HBu0 := HBu
        have HBu : Hid (Below w.heap.size w (u.alloc (.cells #[.int .i64 0, .int .i64 1, .int .i64 5, .int .i64 1, .int .i64 2, .int .i64 0, .int .i64 0, .int .i64 1, .int .i64 7, .int .i64 2, .int .i64 1, .int .i64 1] 58))) := Lib.hid (HBu0.out.trans (hb.mono HBu0.out.size))
        refine ⟨fun _ => HSS.out _ HBu.out, ?_⟩
        simp only [List.setIfInBounds_toArray, List.set_cons_zero, List.set_cons_succ]
        have q := nw_1_6 _ by_ u.heap.size HBu (Lib.hid (HF1.out.below hb HF1.out.lt)) (Lib.hid hf)
        rw [HH.out, HT.out] at q
        simp only [List.setIfInBounds_toArray, List.set_cons_zero, List.set_cons_succ] at q ⊢
        exact q
    have nw_0 : ∀ (u : World) (bx : Nat), Hid (Below w.heap.size w u) → Hid (Blk u bx #[.int .i64 0, .int .i64 0, .int .i64 0] 2 (0, 0)) → H 9 #[true, false, true, true, true, true, false, false, false, false, false, false, false, false] { tmps := (T.setIfInBounds 14 (.slice (some ⟨bx, 0, none⟩) 3 3)), defers := [] } u := by
      clear HBu
      intro u bx HBu HF0
      rw [HH.out, HT.out]
      simp only [List.setIfInBounds_toArray, List.set_cons_zero, List.set_cons_succ]
      refine heldD_two (i := 1) (k := 6) (by kernel_rfl) ?_ ?_
      · have hb : Below u.heap.size u (u.alloc (.cells #[.int .i64 0, .int .i64 0, .int .i64 0] 2)) := (Below.refl _ _).alloc (Nat.le_refl _) _
        have hf : Blk (u.alloc (.cells #[.int .i64 0, .int .i64 0, .int .i64 0] 2)) u.heap.size #[.int .i64 0, .int .i64 0, .int .i64 0] 2 (0, 0) := Blk.new _ _ _ _
        refine wpOpIn_value (v := .slice (some ⟨u.heap.size, 0, none⟩) 3 3) (w' := (u.alloc (.cells #[.int .i64 0, .int .i64 0, .int .i64 0] 2))) rfl rfl rfl (by rfl) (by rfl) (by go_simp) ?_
        have HBu0 := HBu
        have HBu : Hid (Below w.heap.size w (u.alloc (.cells #[.int .i64 0, .int .i64 0, .int .i64 0] 2))) := Lib.hid (HBu0.out.trans (hb.mono HBu0.out.size))
        refine ⟨fun _ => HSS.out _ HBu.out, ?_⟩
        simp only [List.setIfInBounds_toArray, List.set_cons_zero, List.set_cons_succ]
        have q := nw_0_1 _ bx u.heap.size HBu (Lib.hid (HF0.out.below hb HF0.out.lt)) (Lib.hid hf)
        rw [HH.out, HT.out] at q
        simp only [List.setIfInBounds_toArray, List.set_cons_zero, List.set_cons_succ] at q ⊢
        exact q
      · have hb : Below u.heap.size u (u.alloc (.cells #[.int .i64 0, .int .i64 1, .int .i64 5, .int .i64 1, .int .i64 2, .int .i64 0, .int .i64 0, .int .i64 1, .int .i64 7, .int .i64 2, .int .i64 1, .int .i64 1] 58)) := (Below.refl _ _).alloc (Nat.le_refl _) _
        have hf : Blk (u.alloc (.cells #[.int .i64 0, .int .i64 1, .int .i64 5, .int .i64 1, .int .i64 2, .int .i64 0, .int .i64 0, .int .i64 1, .int .i64 7, .int .i64 2, .int .i64 1, .int .i64 1] 58)) u.heap.size #[.int .i64 0, .int .i64 1, .int .i64 5, .int .i64 1, .int .i64 2, .int .i64 0, .int .i64 0, .int .i64 1, .int .i64 7, .int .i64 2, .int .i64 1, .int .i64 1] 58 (0, 0) := Blk.new _ _ _ _
        refine wpOpIn_value (v := .slice (some ⟨u.heap.size, 0, none⟩) 4 4) (w' := (u.alloc (.cells #[.int .i64 0, .int .i64 1, .int .i64 5, .int .i64 1, .int .i64 2, .int .i64 0, .int .i64 0, .int .i64 1, .int .i64 7, .int .i64 2, .int .i64 1, .int .i64 1] 58))) rfl rfl rfl (by rfl) (by rfl) (by go_simp) ?_
        have HBu0 := HBu
        have HBu : Hid (Below w.heap.size w (u.alloc (.cells #[.int .i64 0, .int .i64 1, .int .i64 5, .int .i64 1, .int .i64 2, .int .i64 0, .int .i64 0, .int .i64 1, .int .i64 7, .int .i64 2, .int .i64 1, .int .i64 1] 58))) := Lib.hid (HBu0.out.trans (hb.mono HBu0.out.size))
        refine ⟨fun _ => HSS.out _ HBu.out, ?_⟩
        simp only [List.setIfInBounds_toArray, List.set_cons_zero, List.set_cons_succ]
        have q := nw_0_6 _ bx u.heap.size HBu (Lib.hid (HF0.out.below hb HF0.out.lt)) (Lib.hid hf)
        rw [HH.out, HT.out] at q
        simp only [List.setIfInBounds_toArray, List.set_cons_zero, List.set_cons_succ] at q ⊢
        exact q
    have nw_ : ∀ (u : World), Hid (Below w.heap.size w u) → H 10 #[false, false, true, true, true, true, false, false, false, false, false, false, false, false] { tmps := T, defers := [] } u := by
      clear HBu
      intro u HBu
      rw [HH.out, HT.out]
      refine heldD_three (i := 0) (k := 1) (m := 6) (by kernel_rfl) ?_ ?_ ?_
      · have hb : Below u.heap.size u (u.alloc (.cells #[.int .i64 0, .int .i64 0, .int .i64 0] 2)) := (Below.refl _ _).alloc (Nat.le_refl _) _
        have hf : Blk (u.alloc (.cells #[.int .i64 0, .int .i64 0, .int .i64 0] 2)) u.heap.size #[.int .i64 0, .int .i64 0, .int .i64 0] 2 (0, 0) := Blk.new _ _ _ _
        refine wpOpIn_value (v := .slice (some ⟨u.heap.size, 0, none⟩) 3 3) (w' := (u.alloc (.cells #[.int .i64 0, .int .i64 0, .int .i64 0] 2))) rfl rfl rfl (by rfl) (by rfl) (by go_simp) ?_
        have HBu0 := HBu
        have HBu : Hid (Below w.heap.size w (u.alloc (.cells #[.int .i64 0, .int .i64 0, .int .i64 0] 2))) := Lib.hid (HBu0.out.trans (hb.mono HBu0.out.size))
        refine ⟨fun _ => HSS.out _ HBu.out, ?_⟩
        simp only [List.setIfInBounds_toArray, List.set_cons_zero, List.set_cons_succ]
        have q := nw_0 _ u.heap.size HBu (Lib.hid hf)
        rw [HH.out, HT.out] at q
        simp only [List.setIfInBounds_toArray, List.set_cons_zero, List.set_cons_succ] at q ⊢
        exact q
      · have hb : Below u.heap.size u (u.alloc (.cells #[.int .i64 0, .int .i64 0, .int .i64 0] 2)) := (Below.refl _ _).alloc (Nat.le_refl _) _
        have hf : Blk (u.alloc (.cells #[.int .i64 0, .int .i64 0, .int .i64 0] 2)) u.heap.size #[.int .i64 0, .int .i64 0, .int .i64 0] 2 (0, 0) := Blk.new _ _ _ _
        refine wpOpIn_value (v := .slice (some ⟨u.heap.size, 0, none⟩) 3 3) (w' := (u.alloc (.cells #[.int .i64 0, .int .i64 0, .int .i64 0] 2))) rfl rfl rfl (by rfl) (by rfl) (by go_simp) ?_
        have HBu0 := HBu
        have HBu : Hid (Below w.heap.size w (u.alloc (.cells #[.int .i64 0, .int .i64 0, .int .i64 0] 2))) := Lib.hid (HBu0.out.trans (hb.mono HBu0.out.size))
        refine ⟨fun _ => HSS.out _ HBu.out, ?_⟩
        simp only [List.setIfInBounds_toArray, List.set_cons_zero, List.set_cons_succ]
        have q := nw_1 _ u.heap.size HBu (Lib.hid hf)
        rw [HH.out, HT.out] at q
        simp only [List.setIfInBounds_toArray, List.set_cons_zero, List.set_cons_succ] at q ⊢
        exact q
      · have hb : Below u.heap.size u (u.alloc (.cells #[.int .i64 0, .int .i64 1, .int .i64 5, .int .i64 1, .int .i64 2, .int .i64 0, .int .i64 0, .int .i64 1, .int .i64 7, .int .i64 2, .int .i64 1, .int .i64 1] 58)) := (Below.refl _ _).alloc (Nat.le_refl _) _
        have hf : Blk (u.alloc (.cells #[.int .i64 0, .int .i64 1, .int .i64 5, .int .i64 1, .int .i64 2, .int .i64 0, .int .i64 0, .int .i64 1, .int .i64 7, .int .i64 2, .int .i64 1, .int .i64 1] 58)) u.heap.size #[.int .i64 0, .int .i64 1, .int .i64 5, .int .i64 1, .int .i64 2, .int .i64 0, .int .i64 0, .int .i64 1, .int .i64 7, .int .i64 2, .int .i64 1, .int .i64 1] 58 (0, 0) := Blk.new _ _ _ _
        refine wpOpIn_value (v := .slice (some ⟨u.heap.size, 0, none⟩) 4 4) (w' := (u.alloc (.cells #[.int .i64 0, .int .i64 1, .int .i64 5, .int .i64 1, .int .i64 2, .int .i64 0, .int .i64 0, .int .i64 1, .int .i64 7, .int .i64 2, .int .i64 1, .int .i64 1] 58))) rfl rfl rfl (by rfl) (by rfl) (by go_simp) ?_
        have HBu0 := HBu
        have HBu : Hid (Below w.heap.size w (u.alloc (.cells #[.int .i64 0, .int .i64 1, .int .i64 5, .int .i64 1, .int .i64 2, .int .i64 0, .int .i64 0, .int .i64 1, .int .i64 7, .int .i64 2, .int .i64 1, .int .i64 1] 58))) := Lib.hid (HBu0.out.trans (hb.mono HBu0.out.size))
        refine ⟨fun _ => HSS.out _ HBu.out, ?_⟩
        simp only [List.setIfInBounds_toArray, List.set_cons_zero, List.set_cons_succ]
        have q := nw_6 _ u.heap.size HBu (Lib.hid hf)
        rw [HH.out, HT.out] at q
        simp only [List.setIfInBounds_toArray, List.set_cons_zero, List.set_cons_succ] at q ⊢
        exact q
    exact nw_ wk0 HBu
  clear HBu
  intro u bx by_ bz p HBu HF0 HF1 HF6 HF8
  rw [HH.out, HT.out]
  simp only [List.setIfInBounds_toArray, List.set_cons_zero, List.set_cons_succ]
  clear HH HT
  refine heldD_one (i := 13) (by kernel_rfl) ?_
  refine wpOpIn_value (v := .nilIface) (w' := u) rfl rfl rfl (by rfl) (by rfl) (by go_simp) ?_
  refine ⟨fun h => (by cases h), ?_⟩
  simp only [List.setIfInBounds_toArray, List.set_cons_zero, List.set_cons_succ]
  refine heldD_done (by kernel_rfl) ?_ _
  have HNp := HF8
  have HB0 := HBu
  clear HBu HF0 HF1 HF6 HF8 HSS
  have HBu := HB0; clear HB0
  obtain ⟨u1l, hu1l⟩ : ∃ x, x = u.alloc (.cells #[.int .i64 2, .int .i64 1] 3) := ⟨_, rfl⟩
  have hbl : Below u.heap.size u u1l := by rw [hu1l]; exact (Below.refl _ _).alloc (Nat.le_refl _) _
  have kl : SlX u1l (.slice (some ⟨u.heap.size, 0, none⟩) 2 2) [2, 1] := by rw [hu1l]; exact slX_new (Blk.new _ _ _ _) rfl rfl (by decide)
  have hnp := HNp.out.keep (KpC.of_below hbl); clear HNp; have HNp := Lib.hid hnp; clear hnp
  have HC := Lib.hid (check_is (g := rWork) (s := 0) (t := 2) (L := [2, 1]) (some 7) 7 true (by decide +kernel) (by decide +kernel) rfl (by decide) p _ u1l HNp.out kl)
  have HW := Lib.hid hu1l; have HBu1l := Lib.hid (HBu.out.next' hbl)
  clear hu1l hbl kl HBu
  go_wp2_with fail
  rw [← HW.out]
  refine HC.out.mono ?_
  rintro e u1 ⟨rfl, hb⟩
  have HBu1 := Lib.hid (HBu1l.out.next' hb); clear HBu1l HC HW
  have hnp := HNp.out.keep (KpC.of_below hb); clear HNp; have HNp := Lib.hid hnp; clear hnp
  clear hb
  go_wp2_with fail
  refine (check_is (g := rWork) (s := 0) (t := 0) (L := []) (some 0) 0 true (by decide +kernel) (by decide +kernel) rfl (by decide) p _ u1 HNp.out (slX_nil _)).mono ?_
  rintro e u2 ⟨rfl, hb⟩
  have HBu2 := Lib.hid (HBu1.out.next' hb); clear HBu1
  have hnp := HNp.out.keep (KpC.of_below hb); clear HNp; have HNp := Lib.hid hnp; clear hnp
  clear hb
  obtain ⟨u3l, hu3l⟩ : ∃ x, x = u2.alloc (.cells #[.int .i64 1] 3) := ⟨_, rfl⟩
  have hbl : Below u2.heap.size u2 u3l := by rw [hu3l]; exact (Below.refl _ _).alloc (Nat.le_refl _) _
  have kl : SlX u3l (.slice (some ⟨u2.heap.size, 0, none⟩) 1 1) [1] := by rw [hu3l]; exact slX_new (Blk.new _ _ _ _) rfl rfl (by decide)
  have hnp := HNp.out.keep (KpC.of_below hbl); clear HNp; have HNp := Lib.hid hnp; clear hnp
  have HC := Lib.hid (check_is (g := rWork) (s := 0) (t := 2) (L := [1]) none 0 false (by decide +kernel) (by decide +kernel) rfl (by decide) p _ u3l HNp.out kl)
  have HW := Lib.hid hu3l; have HBu3l := Lib.hid (HBu2.out.next' hbl)
  clear hu3l hbl kl HBu2
  go_wp2_with fail
  rw [← HW.out]
  refine HC.out.mono ?_
  rintro e u3 ⟨rfl, hb⟩
  have HBu3 := Lib.hid (HBu3l.out.next' hb); clear HBu3l HC HW
  have hnp := HNp.out.keep (KpC.of_below hb); clear HNp; have HNp := Lib.hid hnp; clear hnp
  clear hb
  obtain ⟨u4l, hu4l⟩ : ∃ x, x = u3.alloc (.cells #[.int .i64 0, .int .i64 1, .int .i64 3, .int .i64 1] 3) := ⟨_, rfl⟩
  have hbl : Below u3.heap.size u3 u4l := by rw [hu4l]; exact (Below.refl _ _).alloc (Nat.le_refl _) _
  have kl : SlX u4l (.slice (some ⟨u3.heap.size, 0, none⟩) 4 4) [0, 1, 3, 1] := by rw [hu4l]; exact slX_new (Blk.new _ _ _ _) rfl rfl (by decide)
  have hnp := HNp.out.keep (KpC.of_below hbl); clear HNp; have HNp := Lib.hid hnp; clear hnp
  have HC := Lib.hid (nodes_is (g := rWork) (s := 0) (L := [0, 1, 3, 1]) (some [0, 1, 2, 1, 2]) (by decide +kernel) (by decide) p _ u4l HNp.out kl)
  have HW := Lib.hid hu4l; have HBu4l := Lib.hid (HBu3.out.next' hbl)
  clear hu4l hbl kl HBu3
  go_wp2_with fail
  rw [← HW.out]
  refine HC.out.mono ?_
  rintro e u4 ⟨a1, c1, rfl, hs1, hb⟩
  have HBu4 := Lib.hid (HBu4l.out.next' hb); clear HBu4l HC HW
  have hnp := HNp.out.keep (KpC.of_below hb); clear HNp; have HNp := Lib.hid hnp; clear hnp
  clear hb
  have HSn := Lib.hid hs1; clear hs1
  obtain ⟨u5l, hu5l⟩ : ∃ x, x = u4.alloc (.cells #[.int .i64 0, .int .i64 1, .int .i64 3, .int .i64 1] 3) := ⟨_, rfl⟩
  have hbl : Below u4.heap.size u4 u5l := by rw [hu5l]; exact (Below.refl _ _).alloc (Nat.le_refl _) _
  have kl : SlX u5l (.slice (some ⟨u4.heap.size, 0, none⟩) 4 4) [0, 1, 3, 1] := by rw [hu5l]; exact slX_new (Blk.new _ _ _ _) rfl rfl (by decide)
  have hn := HSn.out.keep (KpC.of_below hbl); clear HSn; have HSn := Lib.hid hn; clear hn
  have hnp := HNp.out.keep (KpC.of_below hbl); clear HNp; have HNp := Lib.hid hnp; clear hnp
  have HC := Lib.hid (bare_is (g := rWork) (s := 0) (L := [0, 1, 3, 1]) (some [0, 1]) (by decide +kernel) (by decide) (by decide) (by decide) p _ u5l HNp.out kl)
  have HW := Lib.hid hu5l; have HBu5l := Lib.hid (HBu4.out.next' hbl)
  clear hu5l hbl kl HBu4
  go_wp2_with fail
  rw [← HW.out]
  refine HC.out.mono ?_
  rintro e u5 ⟨a2, c2, rfl, hs2, hb⟩
  have HBu5 := Lib.hid (HBu5l.out.next' hb); clear HBu5l HC HW
  have hn := HSn.out.keep (KpC.of_below hb); clear HSn; have HSn := Lib.hid hn; clear hn
  have hnp := HNp.out.keep (KpC.of_below hb); clear HNp; have HNp := Lib.hid hnp; clear hnp
  clear hb
  have HSb := Lib.hid hs2; clear hs2
  obtain ⟨u6l, hu6l⟩ : ∃ x, x = u5.alloc (.cells #[.int .i64 0, .int .i64 1, .int .i64 2, .int .i64 1, .int .i64 2] 3) := ⟨_, rfl⟩
  have hbl : Below u5.heap.size u5 u6l := by rw [hu6l]; exact (Below.refl _ _).alloc (Nat.le_refl _) _
  have kl : SlX u6l (.slice (some ⟨u5.heap.size, 0, none⟩) 5 5) [0, 1, 2, 1, 2] := by rw [hu6l]; exact slX_new (Blk.new _ _ _ _) rfl rfl (by decide)
  have hn := HSn.out.keep (KpC.of_below hbl); clear HSn; have HSn := Lib.hid hn; clear hn
  have hb := HSb.out.keep (KpC.of_below hbl); clear HSb; have HSb := Lib.hid hb; clear hb
  have hnp := HNp.out.keep (KpC.of_below hbl); clear HNp; have HNp := Lib.hid hnp; clear hnp
  have HC := Lib.hid (ints_any _ _ [0, 1, 2, 1, 2] [0, 1, 2, 1, 2] u6l (HSn.out) kl)
  have HW := Lib.hid hu6l; have HBu6l := Lib.hid (HBu5.out.next' hbl)
  clear hu6l hbl kl HBu5
  go_wp2_with fail
  rw [← HW.out]
  refine HC.out.mono ?_
  rintro e u6 ⟨rfl, hb⟩
  have HBu6 := Lib.hid (HBu6l.out.next' hb); clear HBu6l HC HW
  have hn := HSn.out.keep (KpC.of_below hb); clear HSn; have HSn := Lib.hid hn; clear hn
  have hb := HSb.out.keep (KpC.of_below hb); clear HSb; have HSb := Lib.hid hb; clear hb
  have hnp := HNp.out.keep (KpC.of_below hb); clear HNp; have HNp := Lib.hid hnp; clear hnp
  clear hb
  obtain ⟨u7l, hu7l⟩ : ∃ x, x = u6.alloc (.cells #[.int .i64 0, .int .i64 1] 3) := ⟨_, rfl⟩
  have hbl : Below u6.heap.size u6 u7l := by rw [hu7l]; exact (Below.refl _ _).alloc (Nat.le_refl _) _
  have kl : SlX u7l (.slice (some ⟨u6.heap.size, 0, none⟩) 2 2) [0, 1] := by rw [hu7l]; exact slX_new (Blk.new _ _ _ _) rfl rfl (by decide)
  have hb := HSb.out.keep (KpC.of_below hbl); clear HSb; have HSb := Lib.hid hb; clear hb
  have hnp := HNp.out.keep (KpC.of_below hbl); clear HNp; have HNp := Lib.hid hnp; clear hnp
  have HC := Lib.hid (ints_any _ _ [0, 1] [0, 1] u7l (HSb.out) kl)
  have HW := Lib.hid hu7l; have HBu7l := Lib.hid (HBu6.out.next' hbl)
  clear hu7l hbl kl HBu6
  go_wp2_with fail
  rw [← HW.out]
  refine HC.out.mono ?_
  rintro e u7 ⟨rfl, hb⟩
  have HBu7 := Lib.hid (HBu7l.out.next' hb); clear HBu7l HC HW
  have hb := HSb.out.keep (KpC.of_below hb); clear HSb; have HSb := Lib.hid hb; clear hb
  have hnp := HNp.out.keep (KpC.of_below hb); clear HNp; have HNp := Lib.hid hnp; clear hnp
  clear hb
  go_wp2_with fail
  go_ret
  exact ⟨by simp, HBu7.out⟩
end Go.Proofs.YtlddcnkiigamjaaDoor
/- the walk laws' drawn: a graph, and its net. -/
namespace Go.Proofs.YtlddcnkiigamjaaDoor
open Go.RowKit
attribute [local go_sem] Oper.semAt_some
theorem new_okB (v : Value) (r : Raw) (w : World) (hg : HG w) (h : RawV w v r) (hok : r.Ok) (hf : r.few) : Calls Tryd.prog 12 #[v] w fun e w' => ∃ p, e = .returned (.tuple #[.pointer (some ⟨p, 0, none⟩), .nilIface]) ∧ NetB w.heap.size w' p r ∧ Below w.heap.size w w' := by
  refine (new_any v _ w hg h hf).mono ?_
  rintro e w' ⟨⟨hk, _⟩ | ⟨_, p, rfl, hn⟩, hb⟩
  · exact absurd ((Raw.ok_iff _).2 hok) hk
  · exact ⟨p, rfl, hn, hb⟩
set_option maxRecDepth 100000 in
set_option maxHeartbeats 4000000 in
theorem drawn09_any (v : Value) (l : List Int) (w : World) (hg : HG w) (h : SlI w v .u8 l) :
    Calls Tryd.prog 18 #[v] w fun e w' => ∃ v' g q, e = .returned (.tuple #[v', .pointer (some ⟨q, 0, none⟩)]) ∧ RawV w' v' g ∧ NetAt w' q g ∧ g.Ok ∧ (g.nodes ≤ 12 ∧ g.arcs.length ≤ 84) ∧ Below w.heap.size w w' := by
  have HG0 := Lib.hid hg
  clear hg
  obtain ⟨a, cap, rfl, h1, h2, h3⟩ := h
  unfold maxLen at h2
  obtain ⟨m, hm⟩ : ∃ m : Nat, m = min l.length 60 := ⟨_, rfl⟩
  have f1 : (if (60 : Int) < (l.length : Int) then (60 : Int) else (l.length : Int)) = (m : Int) := by split <;> omega
  have hm1 : m ≤ cap := by omega
  have hm2 : (m : Int) ≤ (cap : Int) := by omega
  have hm0 : (0 : Int) ≤ (m : Int) := by omega
  obtain ⟨B2, hB2⟩ : ∃ b, b = w.heap.size := ⟨_, rfl⟩
  obtain ⟨p, hp⟩ : ∃ b, b = w.heap.size + 1 := ⟨_, rfl⟩
  obtain ⟨w1, hw1⟩ : ∃ w1, w1 = (w.alloc (.cells #[.int .i64 0, .slice none 0 0, .slice none 0 0, .slice none 0 0] 26)).alloc (.cells #[.slice a m cap, .int .i64 0] 80) := ⟨_, rfl⟩
  have hb1 : Below w.heap.size w w1 := by rw [hw1]; exact ((Below.refl _ _).alloc (Nat.le_refl _) _).alloc (by simp) _
  have K2 : Blk w1 B2 #[.int .i64 0, .slice none 0 0, .slice none 0 0, .slice none 0 0] 26 (0, 0) := by rw [hw1, hB2]; exact (Blk.new _ _ _ _).alloc _
  have Kp : Blk w1 p #[.slice a m cap, .int .i64 0] 80 (0, 0) := by
    rw [hw1, hp]
    have h := Blk.new (w.alloc (.cells #[.int .i64 0, .slice none 0 0, .slice none 0 0, .slice none 0 0] 26)) #[.slice a m cap, .int .i64 0] 80 (0, 0)
    rwa [World.size_alloc] at h
  have htl : (l.take m).length = m := by rw [List.length_take]; omega
  have hD : DrS w1 p ⟨w.heap.size, a, cap, l.take m⟩ 0 := by
    refine ⟨by dsimp only; rw [htl]; exact Kp, by dsimp only; omega, by omega, fun i hi => ?_⟩
    dsimp only at hi ⊢
    obtain ⟨b, off, ha, hc⟩ := h3 i (by omega)
    have hlt := block_lt_of_cell hc
    refine ⟨b, off, ha, by have := hlt; dsimp only at this; omega, hlt, ?_⟩
    rw [List.getElem_take]
    exact (World.cell?_of_block (hb1.block b hlt)).trans hc
  have C := Lib.hid (rawD_any p ⟨w.heap.size, a, cap, l.take m⟩ w1 hD hb1.size)
  have HB1 := Lib.hid hb1; have HK2 := Lib.hid K2; have HW1 := Lib.hid hw1; have HB2 := Lib.hid hB2; have HP := Lib.hid hp; have HM := Lib.hid hm
  clear hb1 K2 Kp hw1 hB2 hp htl hD h3
  go_enter Tryd.func18, Tryd.ntmps18
  go_wp2_with fail
  rw [← HM.out, ← HW1.out, ← HP.out, ← HB2.out]
  clear hm f1 hm1 hm2 hm0
  refine C.out.mono ?_
  rintro e w2 ⟨v, g, rfl, ⟨vx, vy, va, rfl, o1, o2, o3, o4⟩, hok, hgl, hkk⟩
  have fx := ownForm o1; have fy := ownForm o2; have fa := ownForm o3
  obtain ⟨xa, xc, rfl, _⟩ := fx
  obtain ⟨ya, yc, rfl, _⟩ := fy
  obtain ⟨za, zc, rfl, _⟩ := fa
  obtain ⟨w3, hw3⟩ : ∃ u, u = w2.alloc (.cells #[.int .i64 g.nodes, .slice xa g.X.length xc, .slice ya g.Y.length yc, .slice za g.arcs.length zc] 26) := ⟨_, rfl⟩
  have hb3 : Below w2.heap.size w2 w3 := by rw [hw3]; exact (Below.refl _ _).alloc (Nat.le_refl _) _
  have k5 : Blk w3 w2.heap.size #[.int .i64 g.nodes, .slice xa g.X.length xc, .slice ya g.Y.length yc, .slice za g.arcs.length zc] 26 (0, 0) := by rw [hw3]; exact Blk.new _ _ _ _
  have hle : w.heap.size ≤ B2 := by have := HB2.out; omega
  have hb2 : Below w.heap.size w w2 := below_of HB1.out hkk (by have := HP.out; omega)
  have hb03 : Below w.heap.size w w3 := hb2.next' hb3
  have hO3 : Own3 w1.heap.size w3 (.slice xa g.X.length xc) (.slice ya g.Y.length yc) (.slice za g.arcs.length zc) g := ⟨ownsRow_below o1 hb3, ownsRow_below o2 hb3, ownsRow_below o3 hb3, o4⟩
  have hraw : RawV w3 (.agg #[.int .i64 g.nodes, .slice xa g.X.length xc, .slice ya g.Y.length yc, .slice za g.arcs.length zc]) g := ⟨_, _, _, rfl, slX_own rfl hO3.1, slX_own rfl hO3.2.1, slA_own rfl hO3.2.2.1⟩
  have hfew : g.few := ⟨by have := hok.lenX; omega, by have := hok.lenY; omega, by omega⟩
  have C2 := Lib.hid (new_okB _ g w3 (HG0.out.later hb03) hraw hok hfew)
  have bC3 := (hkk.blk HK2.out (by have := HB2.out; have := HP.out; omega)).below hb3 (by have := (hkk.blk HK2.out (by have := HB2.out; have := HP.out; omega)).lt; exact this)
  have HB2l := Lib.hid (show B2 < w2.heap.size ∧ B2 < w1.heap.size from ⟨(hkk.blk HK2.out (by have := HB2.out; have := HP.out; omega)).lt, HK2.out.lt⟩)
  have HK5 := Lib.hid k5; have HO3 := Lib.hid hO3; have HC3 := Lib.hid bC3; have HB03 := Lib.hid hb03; have HW3 := Lib.hid hw3; have HOk := Lib.hid hok; have HGl := Lib.hid hgl; have HLe := Lib.hid hle
  clear hw3 hb3 k5 hle hb2 hb03 hO3 hraw hfew bC3 hkk o1 o2 o3 o4 hok hgl C
  go_wp2_with fail
  rw [← HW3.out]
  refine C2.out.mono ?_
  rintro e w4 ⟨q, rfl, hn, hb4⟩
  have k5 := HK5.out.below hb4 HK5.out.lt
  have k2 := HC3.out.below hb4 HC3.out.lt
  have g0 := k5.cell 0; have g1 := k5.cell 1; have g2 := k5.cell 2; have g3 := k5.cell 3
  have e0 := k2.cell 0; have e1 := k2.cell 1; have e2 := k2.cell 2; have e3 := k2.cell 3
  simp only [List.getElem?_toArray, List.getElem?_cons_succ, List.getElem?_cons_zero] at g0 g1 g2 g3 e0 e1 e2 e3
  have fr := fun i => k2.free i (Or.inr (Nat.zero_le _))
  have f0 := fr 0; have f1 := fr 1; have f2 := fr 2; have f3 := fr 3
  have hne : B2 ≠ w2.heap.size := by have := HB2l.out.1; omega
  have bZ := (((k2.set 0 (.int .i64 g.nodes)).set 1 (.slice xa g.X.length xc)).set 2 (.slice ya g.Y.length yc)).set 3 (.slice za g.arcs.length zc)
  have hOther : ∀ j, j ≠ B2 → ((((w4.setCell ⟨B2, 0, none⟩ (.int .i64 g.nodes)).setCell ⟨B2, 1, none⟩ (.slice xa g.X.length xc)).setCell ⟨B2, 2, none⟩ (.slice ya g.Y.length yc)).setCell ⟨B2, 3, none⟩ (.slice za g.arcs.length zc)).heap[j]? = w4.heap[j]? := fun j hj =>
    (heap_setCell_other _ _ _ _ hj).trans ((heap_setCell_other _ _ _ _ hj).trans ((heap_setCell_other _ _ _ _ hj).trans (heap_setCell_other _ _ _ _ hj)))
  have KZ := ((((HB03.out.next' hb4).setCell (p := ⟨B2, 0, none⟩) HLe.out (.int .i64 g.nodes)).setCell (p := ⟨B2, 1, none⟩) HLe.out (.slice xa g.X.length xc)).setCell (p := ⟨B2, 2, none⟩) HLe.out (.slice ya g.Y.length yc)).setCell (p := ⟨B2, 3, none⟩) HLe.out (.slice za g.arcs.length zc)
  have hsz : ((((w4.setCell ⟨B2, 0, none⟩ (.int .i64 g.nodes)).setCell ⟨B2, 1, none⟩ (.slice xa g.X.length xc)).setCell ⟨B2, 2, none⟩ (.slice ya g.Y.length yc)).setCell ⟨B2, 3, none⟩ (.slice za g.arcs.length zc)).heap.size = w4.heap.size := by simp
  have HZ := Lib.hid bZ; have HOt := Lib.hid hOther; have HKZ := Lib.hid KZ; have HSz := Lib.hid hsz; have HNb := Lib.hid hn; have HB4 := Lib.hid hb4; have HB2g := Lib.hid hne
  clear bZ hOther KZ hsz hn hb4 k2 k5 fr hne
  go_wp2_with fail
  generalize (((w4.setCell ⟨B2, 0, none⟩ (.int .i64 g.nodes)).setCell ⟨B2, 1, none⟩ (.slice xa g.X.length xc)).setCell ⟨B2, 2, none⟩ (.slice ya g.Y.length yc)).setCell ⟨B2, 3, none⟩ (.slice za g.arcs.length zc) = wz at *
  have z0 := HZ.out.cell 0; have z1 := HZ.out.cell 1; have z2 := HZ.out.cell 2; have z3 := HZ.out.cell 3
  change wz.cell? ⟨B2, 0, none⟩ = some (.int .i64 g.nodes) at z0
  change wz.cell? ⟨B2, 1, none⟩ = some (.slice xa g.X.length xc) at z1
  change wz.cell? ⟨B2, 2, none⟩ = some (.slice ya g.Y.length yc) at z2
  change wz.cell? ⟨B2, 3, none⟩ = some (.slice za g.arcs.length zc) at z3
  have hrow : ∀ {e : TypeId} {size : Nat} {x : Value} {n : Nat} {xs : List Value}, w3.ownsRow w1.heap.size e size x n xs → wz.ownsRow w1.heap.size e size x n xs := fun hr => ownsRow_agree' hr fun k hb => by
    obtain ⟨q1, _, q2⟩ := ownsRow_blk' hr hb
    exact (HOt.out k (by have := HB2l.out.2; omega)).trans (HB4.out.block k q2.lt)
  have hnet : NetAt wz q g := HNb.out wz (by rw [HSz.out]; exact Nat.le_refl _) (fun k hk _ => HOt.out k (fun e => by subst e; have := HB2l.out.1; rw [HW3.out] at hk; simp at hk; omega))
  exact bodyPost_ret (v := .tuple #[.agg #[.int .i64 g.nodes, .slice xa g.X.length xc, .slice ya g.Y.length yc, .slice za g.arcs.length zc], .pointer (some ⟨q, 0, none⟩)]) (by simp [results, Tryd.results18, go_sem, z0, z1, z2, z3]) rfl ⟨_, g, q, rfl, ⟨_, _, _, rfl, slX_own rfl (hrow HO3.out.1), slX_own rfl (hrow HO3.out.2.1), slA_own rfl (hrow HO3.out.2.2.1)⟩, hnet, HOk.out, HGl.out, HKZ.out⟩
end Go.Proofs.YtlddcnkiigamjaaDoor
