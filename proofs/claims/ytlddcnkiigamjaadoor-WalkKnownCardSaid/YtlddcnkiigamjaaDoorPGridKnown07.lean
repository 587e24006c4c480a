/- Texts of the law GridKnown, merged: HeldAny, HeldC, HeldE, RoundReg, NetInts, PushInt. -/
import Derived.OrdersHeld
import Derived.Deep.RegionHeld
import Derived.Test.YtlddcnkiigamjaaDoorPGridKnown01
import Derived.RangeFuncCalls
import Derived.BigQuiet
import Derived.Deep.QuietTactic
import Derived.WalkSmall
import Derived.Test.YtlddcnkiigamjaaDoorPGridKnown05
import Derived.RangeFuncBox
/-
  A region that draws its order, by hand: its reads taken first where a condition on the world holds (S), which may GROW on the way; calls one by one. Over the kit's OrdersHeld.
-/
namespace Go.Proofs.YtlddcnkiigamjaaDoor
section
variable {P : Program} {ops : Array Oper} {Q : Exit → Act → World → Prop} {S S1 : World → Prop}
theorem heldA_grow (h : ∀ w, S1 w → S w) : ∀ (fuel : Nat) (listed : Array Bool) (a : Act) (w : World), wpAnyH P .any ops Q S1 fuel listed a w → wpAnyH P .any ops Q S fuel listed a w
  | 0, _, _, _, hh => hh
  | fuel + 1, _, _, _, hh => ⟨hh.1, fun i hi => wpOp_mono (fun a' w' h' => ⟨h w' h'.1, heldA_grow h fuel _ a' w' h'.2⟩) (hh.2 i hi)⟩
theorem heldA_take {i d : Nat} {oi : Oper} {v : Value} {fuel : Nat} {listed : Array Bool} {tmps : Array Value} {ds : List Deferred} {w : World} (hi : ops[i]? = some oi) (hd : oi.dst = some d) (hs : Region.noSelect ops = true) (hf : Region.free .any ops listed i = true)
    (hr : (Region.ready .any ops listed).contains i = true) (hQ : ∀ c a w, Q (.panic c) (a.put oi.dst v) w → Q (.panic c) a w) (hw : Region.wanted oi (yielded ops tmps) = true) (hy : ∀ w, S w → (execOp (Act.eval { tmps := tmps, defers := ds }) oi).run P w = .ok (.value v) w) (hS : S w)
    (h : wpAnyH P .any ops Q S fuel (listed.setIfInBounds i true) { tmps := tmps.setIfInBounds d v, defers := ds } w) : wpAnyH P .any ops Q S (fuel + 1) listed { tmps := tmps, defers := ds } w :=
  wpAnyH_take hi hs hf hr hQ (Or.inl ⟨hw, hy⟩) hS (by rw [hd]; exact h)
theorem heldA_one {i : Nat} {fuel : Nat} {listed : Array Bool} {a : Act} {w : World} (hr : Region.ready .any ops listed = [i])
    (h : wpOp P ops Q i (fun a' w' => S w' ∧ wpAnyH P .any ops Q S fuel (listed.setIfInBounds i true) a' w') a w) : wpAnyH P .any ops Q S (fuel + 1) listed a w :=
  ⟨fun h0 => (by rw [hr] at h0; cases h0), fun j hj => by rw [hr] at hj; obtain rfl : j = i := by simpa using hj
                                                          exact h⟩
theorem heldA_two {i k : Nat} {fuel : Nat} {listed : Array Bool} {a : Act} {w : World} (hr : Region.ready .any ops listed = [i, k])
    (h1 : wpOp P ops Q i (fun a' w' => S w' ∧ wpAnyH P .any ops Q S fuel (listed.setIfInBounds i true) a' w') a w) (h2 : wpOp P ops Q k (fun a' w' => S w' ∧ wpAnyH P .any ops Q S fuel (listed.setIfInBounds k true) a' w') a w) : wpAnyH P .any ops Q S (fuel + 1) listed a w :=
  ⟨fun h0 => (by rw [hr] at h0; cases h0), fun j hj => by
    rw [hr] at hj
    rcases List.mem_cons.1 hj with rfl | hj
    · exact h1
    · obtain rfl : j = k := by simpa using hj
      exact h2⟩
/-- a call of a Go function that comes back -/
theorem wpOp_calls {i : Nat} {o : Oper} {d : Nat} {tmps : Array Value} {ds : List Deferred} {w w' : World} {f : FuncId} {args : Array Value} {K : Act → World → Prop} {R : Ending → World → Prop} (hi : ops[i]? = some o) (hd : o.dst = some d) (hw : Region.wanted o (yielded ops tmps) = true)
    (he : (execOp (Act.eval { tmps := tmps, defers := ds }) o).run P w = .ok (.enter f args) w') (hc : Calls P f args w' R) (hk : ∀ v w'', R (.returned v) w'' → K { tmps := tmps.setIfInBounds d v, defers := ds } w'') (hp : ∀ ch w'', R (.panicked ch) w'' → False) (ho : ∀ w'', R .outgrown w'' → False) :
    wpOp P ops Q i K { tmps := tmps, defers := ds } w := by
  unfold wpOp
  rw [hi]
  simp only [hw, if_true]
  refine .inl ?_
  unfold Oper.wp
  rw [he]
  simp only [Oper.upon]
  refine hc.mono fun e w'' hr => ?_
  cases e with
  | returned v => dsimp only; rw [hd]; exact hk v w'' hr
  | panicked ch => exact (hp ch w'' hr).elim
  | outgrown => exact (ho w'' hr).elim
end
end Go.Proofs.YtlddcnkiigamjaaDoor
/- A region that draws: reads that the first store does not wait for itself, but through others (C). A value made in a region of reads. -/
namespace Go.Proofs.YtlddcnkiigamjaaDoor
section
variable {F : Fence} {n : Nat} {P : Program} {ops : Array Oper} {Q : Exit → Act → World → Prop} {S : World → Prop} {D : Nat}
theorem heldD_firstC {i : Nat} {oi : Oper} {v : Value} (C : List Nat) (hro : F.round = none) (hi : ops[i]? = some oi) (hsel : ∀ (j : Nat) (o : Oper) cs b, ops[j]? = some o → o.op ≠ .select cs b) (hQ : ∀ c a w, Q (.panic c) (a.put oi.dst v) w → Q (.panic c) a w)
    (hDC : D ∈ C) (hiC : i ∉ C) (hW : ∀ c ∈ C, ∀ oc, ops[c]? = some oc → ∃ e ∈ oc.after, Region.binds .any e = true ∧ (e.on = i ∨ e.on ∈ C)) :
    ∀ (fuel : Nat) (listed : Array Bool) (a : Act) (w : World), (∀ j oj, ops[j]? = some oj → j ≠ i → listed.getD j true = false → (∀ e ∈ oj.after, Region.binds .any e = true → e.on ≠ i) → oi.apart ops oj = true) →
      i ∈ Region.ready .any ops listed → ReadsIn P ops S oi v a → (∀ c ∈ C, listed.getD c true = false) → S w → heldD F n P ops Q S D fuel (listed.setIfInBounds i true) (a.put oi.dst v) w → heldD F n P ops Q S D (fuel + 1) listed a w := by
  intro fuel
  induction fuel with
  | zero =>
    intro listed a w _ hr hy _ hS H
    refine ⟨fun h => (by rw [h] at hr; cases hr), fun j hj => ?_⟩
    by_cases hji : j = i
    · subst hji; exact hy.op hro hi hS ⟨fun _ => hS, H⟩
    · have := ready_mono hj hji
      rw [H.1] at this; cases this
  | succ fuel ih =>
    intro listed a w hfree hr hy hC hS H
    refine ⟨fun h => (by rw [h] at hr; cases hr), fun j hj => ?_⟩
    by_cases hji : j = i
    · subst hji; exact hy.op hro hi hS ⟨fun _ => hS, H⟩
    obtain ⟨hjun, oj, hoj, hall⟩ := mem_ready.1 hj
    have hnot : ∀ e ∈ oj.after, Region.binds .any e = true → e.on ≠ i := fun e he hb heq => by
      have h1 := hall e he hb
      have h0 := (mem_ready.1 hr).1
      rw [heq] at h1
      rcases Nat.lt_or_ge i listed.size with h' | h'
      · simp [h'] at h0 h1; rw [h0] at h1; cases h1
      · simp [Array.getElem?_eq_none h'] at h1
    have hjC : j ∉ C := fun hc => by
      obtain ⟨e, he, hb, h | h⟩ := hW j hc oj hoj
      · exact hnot e he hb h
      · have h1 := hall e he hb
        have h0 := hC _ h
        rcases Nat.lt_or_ge e.on listed.size with h' | h'
        · simp [h'] at h0 h1; rw [h0] at h1; cases h1
        · simp [Array.getElem?_eq_none h'] at h1
    have hjD : j ≠ D := fun e => hjC (e ▸ hDC)
    have hDi : D ≠ i := fun e => hiC (e ▸ hDC)
    refine wpOpIn_mono (fun a' w' h3 => ?_)
      (swapIn hro hoj (hfree j oj hoj hji hjun hnot) (fun cs b => hsel i oi cs b hi) (fun cs b => hsel j oj cs b hoj) hQ hy (H.2 j (ready_mono hj hji)))
    have hS' : S w' := h3.2.1 (by rw [getD_set_ne true hjD, getD_set_ne true (Ne.symm hDi)]; exact hC D hDC)
    refine ⟨fun _ => hS', ih _ a' w' (fun k ok hk hki hun hno => hfree k ok hk hki ?_ hno) (ready_mono hr (Ne.symm hji)) h3.1 (fun c hc => by rw [getD_set_ne true (fun e : j = c => hjC (by rw [e]; exact hc))]; exact hC c hc) hS' ?_⟩
    · by_cases hjk : j = k
      · subst hjk; exact hjun
      · rwa [getD_set_ne true hjk] at hun
    · rw [Array.setIfInBounds_comm _ _ hji]; exact h3.2.2
/-- each of C waits for i, or for one of C -/
def waitsC (ops : Array Oper) (C : List Nat) (i : Nat) : Bool := C.all fun c => match ops[c]? with
  | some o => o.after.any fun e => Region.binds .any e && (e.on == i || C.contains e.on)
  | none => true
theorem heldD_takeC {i d : Nat} {oi : Oper} {v : Value} {fuel : Nat} {listed : Array Bool} {tmps : Array Value} {ds : List Deferred} {w : World} (C : List Nat) (hro : F.round = none) (hi : ops[i]? = some oi) (hd : oi.dst = some d) (hs : Region.noSelect ops = true) (hf : Region.free .any ops listed i = true)
    (hr : (Region.ready .any ops listed).contains i = true) (hDC : (C.contains D && !C.contains i) = true) (hW : waitsC ops C i = true) (hC : C.all (fun c => !listed.getD c true) = true) (hQ : ∀ c a w, Q (.panic c) (a.put oi.dst v) w → Q (.panic c) a w) (hw : Region.wanted oi (yielded ops tmps) = true)
    (hy : ∀ w, S w → oi.about P w (Act.eval { tmps := tmps, defers := ds }) = none ∧ (execOp (Act.eval { tmps := tmps, defers := ds }) oi).run P w = .ok (.value v) w) (hS : S w)
    (h : heldD F n P ops Q S D fuel (listed.setIfInBounds i true) { tmps := tmps.setIfInBounds d v, defers := ds } w) : heldD F n P ops Q S D (fuel + 1) listed { tmps := tmps, defers := ds } w := by
  simp only [Bool.and_eq_true, Bool.not_eq_true', List.contains_eq_mem, decide_eq_true_eq, decide_eq_false_iff_not] at hDC
  refine heldD_firstC C hro hi (Region.noSelect_spec hs) hQ hDC.1 hDC.2 (fun c hc oc hoc => ?_) fuel listed _ w (Region.free_spec hi hf) (by simpa using hr) ⟨hw, hy⟩ (fun c hc => ?_) hS (by rw [hd]; exact h)
  · have hq := List.all_eq_true.1 hW c hc
    rw [hoc] at hq
    simp only [Array.any_eq_true, Bool.and_eq_true, Bool.or_eq_true, beq_iff_eq, List.contains_eq_mem, decide_eq_true_eq] at hq
    obtain ⟨k, hk, h1, h2⟩ := hq
    exact ⟨_, Array.getElem_mem hk, h1, h2⟩
  · have hq := List.all_eq_true.1 hC c hc
    simpa using hq
theorem wpOp_valueA {i : Nat} {o : Oper} {d : Nat} {tmps : Array Value} {ds : List Deferred} {w w' : World} {v : Value} {K : Act → World → Prop} (hi : ops[i]? = some o) (hd : o.dst = some d) (hw : Region.wanted o (yielded ops tmps) = true)
    (he : (execOp (Act.eval { tmps := tmps, defers := ds }) o).run P w = .ok (.value v) w') (hk : K { tmps := tmps.setIfInBounds d v, defers := ds } w') : wpOp P ops Q i K { tmps := tmps, defers := ds } w := by
  unfold wpOp
  rw [hi]
  simp only [hw, if_true]
  refine .inl ?_
  unfold Oper.wp
  rw [he]
  simp only [Oper.upon]
  rw [hd]; exact hk
end
end Go.Proofs.YtlddcnkiigamjaaDoor
/- A region that draws: three, four that may come up; the rest of a region, by a name. -/
namespace Go.Proofs.YtlddcnkiigamjaaDoor
section
variable {F : Fence} {n : Nat} {P : Program} {ops : Array Oper} {Q : Exit → Act → World → Prop} {S : World → Prop} {D : Nat}
/-- the rest of a region, by a name -/
theorem heldD_H {fuel : Nat} {listed : Array Bool} {a : Act} {w : World} (h : ∀ H : Nat → Array Bool → Act → World → Prop, H = heldD F n P ops Q S D → H fuel listed a w) : heldD F n P ops Q S D fuel listed a w := h _ rfl
theorem heldD_HT {fuel : Nat} {listed : Array Bool} {tmps : Array Value} {ds : List Deferred} {w : World} (h : ∀ H : Nat → Array Bool → Act → World → Prop, H = heldD F n P ops Q S D → ∀ T : Array Value, T = tmps → H fuel listed { tmps := T, defers := ds } w) : heldD F n P ops Q S D fuel listed { tmps := tmps, defers := ds } w := h _ rfl _ rfl
theorem heldD_four {i k m o : Nat} {fuel : Nat} {listed : Array Bool} {a : Act} {w : World} (hr : Region.ready .any ops listed = [i, k, m, o])
    (h1 : wpOpIn F n P ops Q i (fun a' w' => ((listed.setIfInBounds i true).getD D true = false → S w') ∧ heldD F n P ops Q S D fuel (listed.setIfInBounds i true) a' w') a w)
    (h2 : wpOpIn F n P ops Q k (fun a' w' => ((listed.setIfInBounds k true).getD D true = false → S w') ∧ heldD F n P ops Q S D fuel (listed.setIfInBounds k true) a' w') a w)
    (h3 : wpOpIn F n P ops Q m (fun a' w' => ((listed.setIfInBounds m true).getD D true = false → S w') ∧ heldD F n P ops Q S D fuel (listed.setIfInBounds m true) a' w') a w)
    (h4 : wpOpIn F n P ops Q o (fun a' w' => ((listed.setIfInBounds o true).getD D true = false → S w') ∧ heldD F n P ops Q S D fuel (listed.setIfInBounds o true) a' w') a w) : heldD F n P ops Q S D (fuel + 1) listed a w :=
  ⟨fun h0 => (by rw [hr] at h0; cases h0), fun j hj => by
    rw [hr] at hj
    rcases List.mem_cons.1 hj with rfl | hj
    · exact h1
    · rcases List.mem_cons.1 hj with rfl | hj
      · exact h2
      · rcases List.mem_cons.1 hj with rfl | hj
        · exact h3
        · obtain rfl : j = o := by simpa using hj
          exact h4⟩
theorem heldD_three {i k m : Nat} {fuel : Nat} {listed : Array Bool} {a : Act} {w : World} (hr : Region.ready .any ops listed = [i, k, m])
    (h1 : wpOpIn F n P ops Q i (fun a' w' => ((listed.setIfInBounds i true).getD D true = false → S w') ∧ heldD F n P ops Q S D fuel (listed.setIfInBounds i true) a' w') a w)
    (h2 : wpOpIn F n P ops Q k (fun a' w' => ((listed.setIfInBounds k true).getD D true = false → S w') ∧ heldD F n P ops Q S D fuel (listed.setIfInBounds k true) a' w') a w)
    (h3 : wpOpIn F n P ops Q m (fun a' w' => ((listed.setIfInBounds m true).getD D true = false → S w') ∧ heldD F n P ops Q S D fuel (listed.setIfInBounds m true) a' w') a w) : heldD F n P ops Q S D (fuel + 1) listed a w :=
  ⟨fun h0 => (by rw [hr] at h0; cases h0), fun j hj => by
    rw [hr] at hj
    rcases List.mem_cons.1 hj with rfl | hj
    · exact h1
    · rcases List.mem_cons.1 hj with rfl | hj
      · exact h2
      · obtain rfl : j = m := by simpa using hj
        exact h3⟩
end
end Go.Proofs.YtlddcnkiigamjaaDoor
/-
  A REGION THAT DRAWS ITS ORDER, IN THE ROUND OF A RANGE OVER A FUNCTION: as everywhere, where no operation of it defers.
-/
namespace Go.Proofs.YtlddcnkiigamjaaDoor
section
variable {P : Program} {ops : Array Oper} {Q : Exit → Act → World → Prop} {S : World → Prop} {D : Nat}
theorem callsIn_anyN {n m : Nat} {f : FuncId} {args : Array Value} {w : World} {R : Ending → World → Prop} (h : CallsIn Fence.wide n P f args w R) : CallsIn Fence.wide m P f args w R := callsIn_wide.2 (callsIn_wide.1 h)
theorem rowsIn_anyN {n m : Nat} {r : String} {args : Array Value} {w : World} {R : Value → World → Prop} (h : RowsIn Fence.wide n P r args w R) : RowsIn Fence.wide m P r args w R := fun c cs _ => h c cs (room_wide _)
theorem roundIn_anyN {n m l : Nat} {f : FuncId} {t : Array Value} {a b : Code} {w : World} {R : Ending → World → Prop} (h : RoundIn Fence.wide n P l f t a b w R) : RoundIn Fence.wide m P l f t a b w R := ⟨trivial, fun c cs _ => h.2 c cs (room_wide _)⟩
/-- no operation defers -/
def noDefer (ops : Array Oper) : Bool := ops.all fun o => match o.op with | .defer _ => false | _ => true
theorem uponIn_round {n m l : Nat} {o : Oper} {a : Act} {K : Act → World → Prop} {r : Result Next} (h : o.uponIn Fence.wide n P a K Q r) : o.uponIn (Fence.wide.inRound l) m P a K Q r := by
  cases r with
  | ok x w' =>
    cases x with
    | enter f args => exact ⟨fun h => (by cases h), (callsIn_anyN (n := n - 1) (m := m - 1) h.2).inRound l⟩
    | row r args => exact ⟨fun h => (by cases h), rowsIn_anyN (m := m - 1) h.2⟩
    | round l' f t ad bd => exact ⟨fun h => (by cases h), roundIn_anyN (m := m - 1) h.2⟩
    | _ => exact h
  | halt x w' => cases x <;> exact h
theorem wpOpIn_inRound {n m l i : Nat} {K : Act → World → Prop} {a : Act} {w : World} (hd : noDefer ops = true) (h : wpOpIn Fence.wide n P ops Q i K a w) : wpOpIn (Fence.wide.inRound l) m P ops Q i K a w := by
  unfold wpOpIn at *
  cases ho : ops[i]? with
  | none => simp only [ho] at h ⊢; exact h
  | some o =>
    simp only [ho] at h ⊢
    have hnd : ∀ c, o.op ≠ .defer c := fun c e => by
      obtain ⟨hi, e2⟩ := Array.getElem?_eq_some_iff.1 ho
      have := Array.all_eq_true.1 hd i hi
      rw [e2, e] at this
      cases this
    split
    · rename_i hw
      rw [if_pos hw] at h
      refine ⟨fun _ _ => trivial, ?_⟩
      have h2 := h.2
      rw [Oper.semAt_eq _ _ _ hnd] at h2
      rw [Oper.semAt_eq _ _ _ hnd]
      exact uponIn_round h2
    · rename_i hw
      rw [if_neg hw] at h
      exact ⟨fun _ _ => trivial, h.2⟩
theorem wpAnyIn_inRound {n m l : Nat} (hd : noDefer ops = true) : ∀ (fuel : Nat) (listed : Array Bool) (a : Act) (w : World), wpAnyIn Fence.wide n P .any ops Q fuel listed a w → wpAnyIn (Fence.wide.inRound l) m P .any ops Q fuel listed a w
  | 0, _, _, _, h => h
  | fuel + 1, _, _, _, h => ⟨h.1, fun i hi => wpOpIn_inRound hd (wpOpIn_mono (fun a' w' h' => wpAnyIn_inRound hd fuel _ a' w' h') (h.2 i hi))⟩
/-- the region, in a round -/
theorem round_region_heldD {id m l : Nat} {a : Act} {w : World} (S : World → Prop) (D : Nat) (hm : P.follows .mixedOrders = true) (hd : noDefer ops = true) (h : heldD Fence.wide 9 P ops Q S D ops.size (Array.replicate ops.size false) a { w with drawn := w.drawn + 1 }) : (Code.region id ops true).wpIn (Fence.wide.inRound l) m P Q a w :=
  wpIn_region_any hm (wpAnyIn_inRound hd _ _ _ _ (any_of_heldD _ _ _ _ h))
/-- the region, in a fenced walk -/
theorem wide_region_heldD {id m : Nat} {a : Act} {w : World} (S : World → Prop) (D : Nat) (hm : P.follows .mixedOrders = true) (h : heldD Fence.wide 9 P ops Q S D ops.size (Array.replicate ops.size false) a { w with drawn := w.drawn + 1 }) : (Code.region id ops true).wpIn Fence.wide m P Q a w :=
  wpIn_wide.2 (wp_region_heldD S D hm h)
end
end Go.Proofs.YtlddcnkiigamjaaDoor
/- milestoneref07.Ints -/
namespace Go.Proofs.YtlddcnkiigamjaaDoor
open Go.RowKit
set_option maxHeartbeats 1000000 in
theorem ints_any (va vb : Value) (A B : List Int) (w : World) (ha : SlX w va A) (hb : SlX w vb B) : Calls Tryd.prog 16 #[va, vb] w fun e w' => e = .returned (.bool (decide (A = B))) ∧ Below w.heap.size w w' := by
  have haw := ha; have hbw := hb
  obtain ⟨aa, ca, rfl, hca, hma, _⟩ := ha
  obtain ⟨ab, cb, rfl, hcb, hmb, _⟩ := hb
  unfold maxLen at hma hmb
  by_cases hlen : A.length = B.length
  · have hl2 : (B.length : Int) = A.length := by omega
    rw [show B.length = A.length from hlen.symm] at hbw
    rw [← hlen] at hcb
    have HAW := Lib.hid haw; have HBW := Lib.hid hbw
    have HLen := Lib.hid hlen
    have hBl : ∀ k, k < A.length → k < B.length := fun k h => by omega
    have HBl := Lib.hid hBl
    rw [show B.length = A.length from hlen.symm]
    clear haw hbw hlen hl2 hBl
    go_enter Tryd.func16, Tryd.ntmps16
    go_wp2_with fail
    go_loopw [5] (fun i wr => ∃ (k : Nat), k ≤ A.length ∧ i = .int .i64 k ∧ Hid (A.take k = B.take k) ∧ Hid (Below w.heap.size w wr)) (fun i _ => A.length - (intOf i).toNat)
    case atStart => exact ⟨0, Nat.zero_le _, rfl, Lib.hid rfl, Lib.hid (Below.refl _ _)⟩
    case round =>
      obtain ⟨k, hk, rfl, hpre, hbel⟩ := hrel
      by_cases hlt : k < A.length
      · have hkw := KpC.of_below hbel.out
        obtain ⟨ba, oa, rfl, da⟩ := (HAW.out.keep hkw).at k hlt
        obtain ⟨bb, ob, rfl, db⟩ := (HBW.out.keep hkw).at k (HBl.out k hlt)
        have hBd := Lib.hid (hbel.out.drew)
        have i1 : (0 : Int) ≤ (k : Int) := by omega
        have i2 : (k : Int) < (A.length : Int) := by omega
        have hA1 : Hid (A.take (k + 1) = A.take k ++ [A[k]]) := Lib.hid (List.take_succ_eq_append_getElem hlt)
        have hB1 : Hid (B.take (k + 1) = B.take k ++ [B[k]'(HBl.out k hlt)]) := Lib.hid (List.take_succ_eq_append_getElem (HBl.out k hlt))
        obtain ⟨x, hx⟩ : ∃ x, x = A[k] := ⟨_, rfl⟩
        obtain ⟨y, hy⟩ : ∃ y, y = B[k]'(HBl.out k hlt) := ⟨_, rfl⟩
        rw [← hx] at da; rw [← hy] at db
        have HX := Lib.hid hx.symm; have HY := Lib.hid hy.symm
        clear hx hy
        clear hkw
        go_wp2_with fail
        go_quiet (fail)
        generalize hwd : wr.drewN _ = wd at *
        by_cases hxy : x = y
        · subst hxy
          have hbq : (x == x) = true := by simp
          go_wp2_with fail
          go_roundw
          case rel =>
            refine ⟨k + 1, by omega, by go_num, Lib.hid ?_, Lib.hid ?_⟩
            · rw [hA1.out, hB1.out, hpre.out, HX.out, HY.out]
            · rw [← hwd]; exact below_drewN hbel.out _
          case measure => simp [intOf]; omega
        · have hne : Hid (A ≠ B) := Lib.hid (fun e => hxy (by rw [← HX.out, ← HY.out]; simp [e]))
          have hbq : (x == y) = false := by simpa using hxy
          go_wp2_with fail
          go_ret
          refine ⟨?_, by rw [← hwd]; exact below_drewN hbel.out _⟩
          rw [decide_eq_false hne.out]; rfl
      · obtain rfl : k = A.length := by omega
        go_wp2_with fail
        go_ret
        refine ⟨?_, hbel.out⟩
        have h := hpre.out
        rw [List.take_length, HLen.out, List.take_length] at h
        rw [decide_eq_true h]; rfl
  · have hne : A ≠ B := fun h => hlen (by rw [h])
    have hn : ¬ (A.length : Int) = (B.length : Int) := by omega
    have hn2 : ((A.length : Int) == (B.length : Int)) = false := by simpa using hn
    rw [decide_eq_false hne]
    clear haw hbw hne hn
    go_enter Tryd.func16, Tryd.ntmps16
    go_wp2_with fail
    go_ret
    exact ⟨rfl, Below.refl _ _⟩

/- one of some -/
end Go.Proofs.YtlddcnkiigamjaaDoor
/- append of one number onto a row of ours. -/
namespace Go.Proofs.YtlddcnkiigamjaaDoor
open Go.RowKit
theorem push_intG (base : Nat) (v : Value) (L : List Int) (x : Int) (u : World) (B : Nat) {fr : Nat × Nat} (hown : u.ownsRow base 3 1 v L.length (L.flatMap inC)) (hB : Blk u B #[.int .i64 x] 3 fr) (hl : L.length ≤ 1000000) (hbase : base ≤ u.heap.size) :
    ∃ a n c w', (Builtin.append_ #[35, 35] 35 #[v, .slice (some ⟨B, 0, none⟩) 1 1]).run Tryd.prog u = .ok (.slice a n c) w' ∧ w'.ownsRow base 3 1 (.slice a n c) (L ++ [x]).length ((L ++ [x]).flatMap inC) ∧ u.grownBy w' v.ownBlock ∧ ((Value.slice a n c).ownBlock = v.ownBlock ∨ (Value.slice a n c).ownBlock = some u.heap.size) := by
  obtain ⟨i0, hi, hz0, hz1, hz2⟩ := info_parts infoInt
  have hs : SlF 1 u (.slice (some ⟨B, 0, none⟩) 1 1) 1 (inC x) := ⟨inC_len x, fun u hu => by simp only [inC, List.mem_cons, List.not_mem_nil, or_false] at hu; rw [hu]; rfl, _, 1, rfl, Nat.le_refl _, by unfold maxLen; omega, fun j q hq => ⟨B, 0, rfl, by rw [Nat.zero_add, hB.cell, List.getElem?_toArray]; exact hq⟩⟩
  obtain ⟨v', w', hr, ho, hg, hat, _⟩ := run_append_row (P := Tryd.prog) base 35 35 3 i0 _ 1 8 Tryd.underlying35 hi hz0 hz1 hz2 rfl (by omega) v L.length _ hown _ 1 _ hs (by unfold maxLen; omega) (by omega) hbase
  obtain ⟨a, n, c, rfl⟩ := ho.one'
  exact ⟨a, n, c, w', hr, by rw [List.length_append, List.flatMap_append]; simpa using ho, hg, hat⟩
/-- the blocks of another type are kept by an append -/
theorem grown_blk {base : Nat} {v : Value} {n size : Nat} {xs : List Value} {e : TypeId} {u w' : World} (hown : u.ownsRow base e size v n xs) (hg : u.grownBy w' v.ownBlock) {b : Nat} {cs : Array Value} {t : TypeId} {fr : Nat × Nat} (hb : Blk u b cs t fr) (ht : t ≠ e) : Blk w' b cs t fr :=
  (hg.block b hb.lt (fun e' => by obtain ⟨_, _, hq⟩ := ownsRow_blk' hown e'.symm; exact ht (blk_type hb hq))).trans hb
end Go.Proofs.YtlddcnkiigamjaaDoor
