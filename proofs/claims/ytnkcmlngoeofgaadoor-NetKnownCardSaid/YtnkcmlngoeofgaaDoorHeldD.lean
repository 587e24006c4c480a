/-
  INSIDE A FENCE: a region that draws its order, its reads taken first where a condition on the world (S) holds behind every operation that is carried out ahead of the first store D. After XHeldIn.
-/
import Derived.Test.YtnkcmlngoeofgaaDoorHeldIn
namespace Go.Proofs.YtnkcmlngoeofgaaDoor
section
variable {F : Fence} {n : Nat} {P : Program} {ops : Array Oper} {Q : Exit → Act → World → Prop} {S : World → Prop} {D : Nat}
/-- whatever order is picked from here on; S holds behind each operation, till D is carried out -/
def heldD (F : Fence) (n : Nat) (P : Program) (ops : Array Oper) (Q : Exit → Act → World → Prop) (S : World → Prop) (D : Nat) : Nat → Array Bool → Act → World → Prop
  | 0, listed, a, w => Region.ready .any ops listed = [] ∧ Q .normal a w
  | fuel + 1, listed, a, w => (Region.ready .any ops listed = [] → Q .normal a w) ∧ ∀ i ∈ Region.ready .any ops listed, wpOpIn F n P ops Q i (fun a' w' => ((listed.setIfInBounds i true).getD D true = false → S w') ∧ heldD F n P ops Q S D fuel (listed.setIfInBounds i true) a' w') a w
theorem any_of_heldD : ∀ (fuel : Nat) (listed : Array Bool) (a : Act) (w : World), heldD F n P ops Q S D fuel listed a w → wpAnyIn F n P .any ops Q fuel listed a w
  | 0, _, _, _, h => h
  | fuel + 1, _, _, _, h => ⟨h.1, fun i hi => wpOpIn_mono (fun a' w' h' => any_of_heldD fuel _ a' w' h'.2) (h.2 i hi)⟩
theorem getD_set_self {l : Array Bool} {i : Nat} : (l.setIfInBounds i true).getD i true = true := by
  rcases Nat.lt_or_ge i l.size with h | h
  · simp [h]
  · simp
theorem heldD_first {i : Nat} {oi : Oper} {v : Value} (hro : F.round = none) (hi : ops[i]? = some oi) (hsel : ∀ (j : Nat) (o : Oper) cs b, ops[j]? = some o → o.op ≠ .select cs b) (hQ : ∀ c a w, Q (.panic c) (a.put oi.dst v) w → Q (.panic c) a w)
    (hDi : D ≠ i) (hDe : ∀ oD, ops[D]? = some oD → ∃ e ∈ oD.after, Region.binds .any e = true ∧ e.on = i) :
    ∀ (fuel : Nat) (listed : Array Bool) (a : Act) (w : World), (∀ j oj, ops[j]? = some oj → j ≠ i → listed.getD j true = false → (∀ e ∈ oj.after, Region.binds .any e = true → e.on ≠ i) → oi.apart ops oj = true) →
      i ∈ Region.ready .any ops listed → ReadsIn P ops S oi v a → listed.getD D true = false → S w → heldD F n P ops Q S D fuel (listed.setIfInBounds i true) (a.put oi.dst v) w → heldD F n P ops Q S D (fuel + 1) listed a w := by
  intro fuel
  induction fuel with
  | zero =>
    intro listed a w _ hr hy hD hS H
    refine ⟨fun h => (by rw [h] at hr; cases hr), fun j hj => ?_⟩
    by_cases hji : j = i
    · subst hji; exact hy.op hro hi hS ⟨fun _ => hS, H⟩
    · have := ready_mono hj hji
      rw [H.1] at this; cases this
  | succ fuel ih =>
    intro listed a w hfree hr hy hD hS H
    refine ⟨fun h => (by rw [h] at hr; cases hr), fun j hj => ?_⟩
    by_cases hji : j = i
    · subst hji; exact hy.op hro hi hS ⟨fun _ => hS, H⟩
    obtain ⟨hjun, oj, hoj, hall⟩ := mem_ready.1 hj
    have hnot : ∀ e ∈ oj.after, Region.binds .any e = true → e.on ≠ i := fun e he hb heq => by
      have h1 := hall e he hb
      have h0 := (mem_ready.1 hr).1
      rw [heq] at h1
      rcases Nat.lt_or_ge i listed.size with h' | h'
      · simp [h'] at h0 h1; rw [h0] at h1; cases h1
      · simp [Array.getElem?_eq_none h'] at h1
    have hjD : j ≠ D := fun e => by
      subst e
      obtain ⟨e, he, hb, heq⟩ := hDe oj hoj
      exact hnot e he hb heq
    refine wpOpIn_mono (fun a' w' h3 => ?_)
      (swapIn hro hoj (hfree j oj hoj hji hjun hnot) (fun cs b => hsel i oi cs b hi) (fun cs b => hsel j oj cs b hoj) hQ hy (H.2 j (ready_mono hj hji)))
    have hS' : S w' := h3.2.1 (by rw [getD_set_ne true hjD, getD_set_ne true (Ne.symm hDi)]; exact hD)
    refine ⟨fun _ => hS', ih _ a' w' (fun k ok hk hki hun hno => hfree k ok hk hki ?_ hno) (ready_mono hr (Ne.symm hji)) h3.1 (by rw [getD_set_ne true hjD]; exact hD) hS' ?_⟩
    · by_cases hjk : j = k
      · subst hjk; exact hjun
      · rwa [getD_set_ne true hjk] at hun
    · rw [Array.setIfInBounds_comm _ _ hji]; exact h3.2.2
/-- that D waits for i -/
def waits (ops : Array Oper) (D i : Nat) : Bool := match ops[D]? with
  | some o => o.after.any fun e => Region.binds .any e && e.on == i
  | none => true
/-- take the read i -/
theorem heldD_take {i d : Nat} {oi : Oper} {v : Value} {fuel : Nat} {listed : Array Bool} {tmps : Array Value} {ds : List Deferred} {w : World} (hro : F.round = none) (hi : ops[i]? = some oi) (hd : oi.dst = some d) (hs : Region.noSelect ops = true) (hf : Region.free .any ops listed i = true)
    (hr : (Region.ready .any ops listed).contains i = true) (hDi : (D != i) = true) (hDe : waits ops D i = true) (hD : listed.getD D true = false) (hQ : ∀ c a w, Q (.panic c) (a.put oi.dst v) w → Q (.panic c) a w) (hw : Region.wanted oi (yielded ops tmps) = true)
    (hy : ∀ w, S w → oi.about P w (Act.eval { tmps := tmps, defers := ds }) = none ∧ (execOp (Act.eval { tmps := tmps, defers := ds }) oi).run P w = .ok (.value v) w) (hS : S w)
    (h : heldD F n P ops Q S D fuel (listed.setIfInBounds i true) { tmps := tmps.setIfInBounds d v, defers := ds } w) : heldD F n P ops Q S D (fuel + 1) listed { tmps := tmps, defers := ds } w :=
  heldD_first hro hi (Region.noSelect_spec hs) hQ (by simpa using hDi) (fun oD hoD => by
    unfold waits at hDe
    rw [hoD] at hDe
    simp only [Array.any_eq_true, Bool.and_eq_true, beq_iff_eq] at hDe
    obtain ⟨k, hk, h1, h2⟩ := hDe
    exact ⟨_, Array.getElem_mem hk, h1, h2⟩) fuel listed _ w (Region.free_spec hi hf) (by simpa using hr) ⟨hw, hy⟩ hD hS (by rw [hd]; exact h)
theorem heldD_firstF {i : Nat} {oi : Oper} {v : Value} (hro : F.round = none) (hi : ops[i]? = some oi) (hsel : ∀ (j : Nat) (o : Oper) cs b, ops[j]? = some o → o.op ≠ .select cs b) (hQ : ∀ c a w, Q (.panic c) (a.put oi.dst v) w → Q (.panic c) a w)
    (hDi : D ≠ i) :
    ∀ (fuel : Nat) (listed : Array Bool) (a : Act) (w : World), (∀ j oj, ops[j]? = some oj → j ≠ i → listed.getD j true = false → (∀ e ∈ oj.after, Region.binds .any e = true → e.on ≠ i) → oi.apart ops oj = true) →
      i ∈ Region.ready .any ops listed → ReadsIn P ops (fun _ => True) oi v a → (listed.getD D true = false → S w) → heldD F n P ops Q S D fuel (listed.setIfInBounds i true) (a.put oi.dst v) w → heldD F n P ops Q S D (fuel + 1) listed a w := by
  intro fuel
  induction fuel with
  | zero =>
    intro listed a w _ hr hy hS H
    refine ⟨fun h => (by rw [h] at hr; cases hr), fun j hj => ?_⟩
    by_cases hji : j = i
    · subst hji; exact hy.op hro hi trivial ⟨fun h => hS (by rwa [getD_set_ne true (Ne.symm hDi)] at h), H⟩
    · have := ready_mono hj hji
      rw [H.1] at this; cases this
  | succ fuel ih =>
    intro listed a w hfree hr hy hS H
    refine ⟨fun h => (by rw [h] at hr; cases hr), fun j hj => ?_⟩
    by_cases hji : j = i
    · subst hji; exact hy.op hro hi trivial ⟨fun h => hS (by rwa [getD_set_ne true (Ne.symm hDi)] at h), H⟩
    obtain ⟨hjun, oj, hoj, hall⟩ := mem_ready.1 hj
    have hnot : ∀ e ∈ oj.after, Region.binds .any e = true → e.on ≠ i := fun e he hb heq => by
      have h1 := hall e he hb
      have h0 := (mem_ready.1 hr).1
      rw [heq] at h1
      rcases Nat.lt_or_ge i listed.size with h' | h'
      · simp [h'] at h0 h1; rw [h0] at h1; cases h1
      · simp [Array.getElem?_eq_none h'] at h1
    refine wpOpIn_mono (fun a' w' h3 => ?_)
      (swapIn hro hoj (hfree j oj hoj hji hjun hnot) (fun cs b => hsel i oi cs b hi) (fun cs b => hsel j oj cs b hoj) hQ hy (H.2 j (ready_mono hj hji)))
    have hS' : (listed.setIfInBounds j true).getD D true = false → S w' := fun h => h3.2.1 (by
      by_cases hjD : j = D
      · subst hjD
        rw [getD_set_self] at h; cases h
      · rw [getD_set_ne true hjD, getD_set_ne true (Ne.symm hDi)]
        rwa [getD_set_ne true hjD] at h)
    refine ⟨hS', ih _ a' w' (fun k ok hk hki hun hno => hfree k ok hk hki ?_ hno) (ready_mono hr (Ne.symm hji)) h3.1 hS' ?_⟩
    · by_cases hjk : j = k
      · subst hjk; exact hjun
      · rwa [getD_set_ne true hjk] at hun
    · rw [Array.setIfInBounds_comm _ _ hji]; exact h3.2.2
/-- take an operation that looks at no memory -/
theorem heldD_takeF {i d : Nat} {oi : Oper} {v : Value} {fuel : Nat} {listed : Array Bool} {tmps : Array Value} {ds : List Deferred} {w : World} (hro : F.round = none) (hi : ops[i]? = some oi) (hd : oi.dst = some d) (hs : Region.noSelect ops = true) (hf : Region.free .any ops listed i = true)
    (hr : (Region.ready .any ops listed).contains i = true) (hDi : (D != i) = true) (hQ : ∀ c a w, Q (.panic c) (a.put oi.dst v) w → Q (.panic c) a w) (hw : Region.wanted oi (yielded ops tmps) = true)
    (hy : ∀ w, oi.about P w (Act.eval { tmps := tmps, defers := ds }) = none ∧ (execOp (Act.eval { tmps := tmps, defers := ds }) oi).run P w = .ok (.value v) w) (hS : listed.getD D true = false → S w)
    (h : heldD F n P ops Q S D fuel (listed.setIfInBounds i true) { tmps := tmps.setIfInBounds d v, defers := ds } w) : heldD F n P ops Q S D (fuel + 1) listed { tmps := tmps, defers := ds } w :=
  heldD_firstF hro hi (Region.noSelect_spec hs) hQ (by simpa using hDi) fuel listed _ w (Region.free_spec hi hf) (by simpa using hr) ⟨hw, fun w _ => hy w⟩ hS (by rw [hd]; exact h)
/-- the one that may come up -/
theorem heldD_one {i : Nat} {fuel : Nat} {listed : Array Bool} {a : Act} {w : World} (hr : Region.ready .any ops listed = [i])
    (h : wpOpIn F n P ops Q i (fun a' w' => ((listed.setIfInBounds i true).getD D true = false → S w') ∧ heldD F n P ops Q S D fuel (listed.setIfInBounds i true) a' w') a w) : heldD F n P ops Q S D (fuel + 1) listed a w :=
  ⟨fun h0 => (by rw [hr] at h0; cases h0), fun j hj => by rw [hr] at hj; obtain rfl : j = i := by simpa using hj
                                                          exact h⟩
theorem heldD_two {i k : Nat} {fuel : Nat} {listed : Array Bool} {a : Act} {w : World} (hr : Region.ready .any ops listed = [i, k])
    (h1 : wpOpIn F n P ops Q i (fun a' w' => ((listed.setIfInBounds i true).getD D true = false → S w') ∧ heldD F n P ops Q S D fuel (listed.setIfInBounds i true) a' w') a w)
    (h2 : wpOpIn F n P ops Q k (fun a' w' => ((listed.setIfInBounds k true).getD D true = false → S w') ∧ heldD F n P ops Q S D fuel (listed.setIfInBounds k true) a' w') a w) : heldD F n P ops Q S D (fuel + 1) listed a w :=
  ⟨fun h0 => (by rw [hr] at h0; cases h0), fun j hj => by
    rw [hr] at hj
    rcases List.mem_cons.1 hj with rfl | hj
    · exact h1
    · obtain rfl : j = k := by simpa using hj
      exact h2⟩
theorem heldD_done {listed : Array Bool} {a : Act} {w : World} (hr : Region.ready .any ops listed = []) (h : Q .normal a w) : ∀ fuel, heldD F n P ops Q S D fuel listed a w
  | 0 => ⟨hr, h⟩
  | _ + 1 => ⟨fun _ => h, by rw [hr]; simp⟩
theorem region_heldD {id : Nat} {a : Act} {w : World} (S : World → Prop) (D : Nat) (hm : P.follows .mixedOrders = true) (h : heldD F n P ops Q S D ops.size (Array.replicate ops.size false) a { w with drawn := w.drawn + 1 }) : (Code.region id ops true).wpIn F n P Q a w :=
  wpIn_region_any hm (any_of_heldD _ _ _ _ h)
/-- the region, in a walk without a fence -/
theorem wp_region_heldD {id : Nat} {a : Act} {w : World} (S : World → Prop) (D : Nat) (hm : P.follows .mixedOrders = true) (h : heldD Fence.wide 9 P ops Q S D ops.size (Array.replicate ops.size false) a { w with drawn := w.drawn + 1 }) : (Code.region id ops true).wp P Q a w :=
  wpIn_wide.1 (region_heldD (F := Fence.wide) (n := 9) S D hm h)
theorem wpOpIn_calls' {i : Nat} {o : Oper} {d : Nat} {tmps : Array Value} {ds : List Deferred} {w w' : World} {f : FuncId} {args : Array Value} {K : Act → World → Prop} {R : Ending → World → Prop} (hi : ops[i]? = some o) (hd : o.dst = some d) (hw : Region.wanted o (yielded ops tmps) = true)
    (he : (execOp (Act.eval { tmps := tmps, defers := ds }) o).run P w = .ok (.enter f args) w') (hc : Calls P f args w' R) (hk : ∀ e w'', R e w'' → ∃ v, e = .returned v ∧ K { tmps := tmps.setIfInBounds d v, defers := ds } w'') :
    wpOpIn Fence.wide 9 P ops Q i K { tmps := tmps, defers := ds } w :=
  wpOpIn_calls (R := R) hi hd hw he (by decide) (callsIn_wide.2 hc) (fun v w'' hr => by obtain ⟨_, e, h⟩ := hk _ _ hr; cases e; exact h) (fun _ _ hr => by obtain ⟨_, e, _⟩ := hk _ _ hr; cases e) (fun _ hr => by obtain ⟨_, e, _⟩ := hk _ _ hr; cases e)
/-- a store, or what else leaves no value -/
theorem wpOpIn_skip {i : Nat} {o : Oper} {tmps : Array Value} {ds : List Deferred} {w w' : World} {K : Act → World → Prop} (hro : F.round = none) (hi : ops[i]? = some o) (hd : o.dst = none) (hw : Region.wanted o (yielded ops tmps) = true)
    (hb : o.about P w (Act.eval { tmps := tmps, defers := ds }) = none) (he : (execOp (Act.eval { tmps := tmps, defers := ds }) o).run P w = .ok .skip w') (hk : K { tmps := tmps, defers := ds } w') : wpOpIn F n P ops Q i K { tmps := tmps, defers := ds } w := by
  unfold wpOpIn
  simp only [hi, hw, if_true, Oper.wpIn, hro, Oper.semAt_none, he, Oper.uponIn]
  refine ⟨fun f hf => (by rw [hb] at hf; cases hf), ?_⟩
  rw [hd]; exact hk
end
end Go.Proofs.YtnkcmlngoeofgaaDoor
