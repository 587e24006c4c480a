/- Texts of the law GraphFirst, merged: HeldAny. -/
import Derived.OrdersHeld
import Derived.Deep.RegionHeld
/-
  A region that draws its order, by hand: its reads taken first where a condition on the world holds (S), which may GROW on the way; calls one by one. Over the kit's OrdersHeld.
-/
namespace Go.Proofs.YtnkcmlngoeofgaaDoor
section
variable {P : Program} {ops : Array Oper} {Q : Exit → Act → World → Prop} {S S1 : World → Prop}
theorem heldA_grow (h : ∀ w, S1 w → S w) : ∀ (fuel : Nat) (listed : Array Bool) (a : Act) (w : World), wpAnyH P .any ops Q S1 fuel listed a w → wpAnyH P .any ops Q S fuel listed a w
  | 0, _, _, _, hh => hh
  | fuel + 1, _, _, _, hh => ⟨hh.1, fun i hi => wpOp_mono (fun a' w' h' => ⟨h w' h'.1, heldA_grow h fuel _ a' w' h'.2⟩) (hh.2 i hi)⟩
theorem heldA_take {i d : Nat} {oi : Oper} {v : Value} {fuel : Nat} {listed : Array Bool} {tmps : Array Value} {ds : List Deferred} {w : World} (hi : ops[i]? = some oi) (hd : oi.dst = some d) (hs : Region.noSelect ops = true) (hf : Region.free .any ops listed i = true)
    (hr : (Region.ready .any ops listed).contains i = true) (hQ : ∀ c a w, Q (.panic c) (a.put oi.dst v) w → Q (.panic c) a w) (hw : Region.wanted oi (yielded ops tmps) = true) (hy : ∀ w, S w → (execOp (Act.eval { tmps := tmps, defers := ds }) oi).run P w = .ok (.value v) w) (hS : S w)
    (h : wpAnyH P .any ops Q S fuel (listed.setIfInBounds i true) { tmps := tmps.setIfInBounds d v, defers := ds } w) : wpAnyH P .any ops Q S (fuel + 1) listed { tmps := tmps, defers := ds } w :=
  wpAnyH_take hi hs hf hr hQ (Or.inl ⟨hw, hy⟩) hS (by rw [hd]; exact h)
theorem heldA_one {i : Nat} {fuel : Nat} {listed : Array Bool} {a : Act} {w : World} (hr : Region.ready .any ops listed = [i])
    (h : wpOp P ops Q i (fun a' w' => S w' ∧ wpAnyH P .any ops Q S fuel (listed.setIfInBounds i true) a' w') a w) : wpAnyH P .any ops Q S (fuel + 1) listed a w :=
  ⟨fun h0 => (by rw [hr] at h0; cases h0), fun j hj => by rw [hr] at hj; obtain rfl : j = i := by simpa using hj
                                                          exact h⟩
theorem heldA_two {i k : Nat} {fuel : Nat} {listed : Array Bool} {a : Act} {w : World} (hr : Region.ready .any ops listed = [i, k])
    (h1 : wpOp P ops Q i (fun a' w' => S w' ∧ wpAnyH P .any ops Q S fuel (listed.setIfInBounds i true) a' w') a w) (h2 : wpOp P ops Q k (fun a' w' => S w' ∧ wpAnyH P .any ops Q S fuel (listed.setIfInBounds k true) a' w') a w) : wpAnyH P .any ops Q S (fuel + 1) listed a w :=
  ⟨fun h0 => (by rw [hr] at h0; cases h0), fun j hj => by
    rw [hr] at hj
    rcases List.mem_cons.1 hj with rfl | hj
    · exact h1
    · obtain rfl : j = k := by simpa using hj
      exact h2⟩
/-- a call of a Go function that comes back -/
theorem wpOp_calls {i : Nat} {o : Oper} {d : Nat} {tmps : Array Value} {ds : List Deferred} {w w' : World} {f : FuncId} {args : Array Value} {K : Act → World → Prop} {R : Ending → World → Prop} (hi : ops[i]? = some o) (hd : o.dst = some d) (hw : Region.wanted o (yielded ops tmps) = true)
    (he : (execOp (Act.eval { tmps := tmps, defers := ds }) o).run P w = .ok (.enter f args) w') (hc : Calls P f args w' R) (hk : ∀ v w'', R (.returned v) w'' → K { tmps := tmps.setIfInBounds d v, defers := ds } w'') (hp : ∀ ch w'', R (.panicked ch) w'' → False) (ho : ∀ w'', R .outgrown w'' → False) :
    wpOp P ops Q i K { tmps := tmps, defers := ds } w := by
  unfold wpOp
  rw [hi]
  simp only [hw, if_true]
  refine .inl ?_
  unfold Oper.wp
  rw [he]
  simp only [Oper.upon]
  refine hc.mono fun e w'' hr => ?_
  cases e with
  | returned v => dsimp only; rw [hd]; exact hk v w'' hr
  | panicked ch => exact (hp ch w'' hr).elim
  | outgrown => exact (ho w'' hr).elim
end
end Go.Proofs.YtnkcmlngoeofgaaDoor
