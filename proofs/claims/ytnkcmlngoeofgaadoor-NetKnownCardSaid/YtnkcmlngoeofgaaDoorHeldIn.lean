/-
  INSIDE A FENCE: a region that draws its order, its reads taken first where a condition on the world (S: these cells hold these values) holds behind every operation that is carried out. After the kit's OrdersIn and OrdersHeld.
-/
import Derived.OrdersIn
import Derived.OrdersHeld
namespace Go.Proofs.YtnkcmlngoeofgaaDoor
section
variable {F : Fence} {n : Nat} {P : Program} {ops : Array Oper} {Q : Exit → Act → World → Prop} {S : World → Prop}
/-- in every world of S the operation leaves v, and makes no call -/
def ReadsIn (P : Program) (ops : Array Oper) (S : World → Prop) (o : Oper) (v : Value) (a : Act) : Prop :=
  Region.wanted o (yielded ops a.tmps) = true ∧ ∀ w, S w → o.about P w a.eval = none ∧ (execOp a.eval o).run P w = .ok (.value v) w
theorem ReadsIn.op {i : Nat} {o : Oper} {v : Value} {a : Act} (hro : F.round = none) (hi : ops[i]? = some o) (hy : ReadsIn P ops S o v a) {K : Act → World → Prop} {w : World} (hS : S w) (h : K (a.put o.dst v) w) :
    wpOpIn F n P ops Q i K a w := by
  obtain ⟨hw, hv⟩ := hy
  obtain ⟨h1, h2⟩ := hv w hS
  unfold wpOpIn
  simp only [hi, hw, if_true, Oper.wpIn, hro, Oper.semAt_none, h2, Oper.uponIn]
  exact ⟨fun f hf => (by rw [h1] at hf; cases hf), h⟩
theorem ReadsIn.turn {o : Oper} {v : Value} {a a' : Act} (hy : ReadsIn P ops S o v a) (he : execOp a'.eval o = execOp a.eval o) (hw : Region.wanted o (yielded ops a'.tmps) = Region.wanted o (yielded ops a.tmps)) (hb : ∀ w, o.about P w a'.eval = o.about P w a.eval) : ReadsIn P ops S o v a' := by
  unfold ReadsIn at *; rw [hw]; exact ⟨hy.1, fun w hS => ⟨by rw [hb]; exact (hy.2 w hS).1, by rw [he]; exact (hy.2 w hS).2⟩⟩
/-- another operation, apart from the read, ahead of it or behind it -/
theorem swapIn {j : Nat} {oi oj : Oper} {v : Value} (hro : F.round = none) (hj : ops[j]? = some oj) (hap : oi.apart ops oj = true) (hsi : ∀ cs b, oi.op ≠ .select cs b) (hsj : ∀ cs b, oj.op ≠ .select cs b)
    (hQ : ∀ c a w, Q (.panic c) (a.put oi.dst v) w → Q (.panic c) a w) {K : Act → World → Prop} {a : Act} {w : World} (hy : ReadsIn P ops S oi v a) (h : wpOpIn F n P ops Q j K (a.put oi.dst v) w) :
    wpOpIn F n P ops Q j (fun a' w' => ReadsIn P ops S oi v a' ∧ K (a'.put oi.dst v) w') a w := by
  obtain ⟨h1, h2, h3⟩ := Oper.apart_spec hap
  have keep : ∀ b : Act, ReadsIn P ops S oi v b → ∀ u, ReadsIn P ops S oi v (b.put oj.dst u) := fun b hb u => hb.turn (execOp_put oi hsi b oj.dst u h3) (wanted_put oi b oj.dst u h3) (fun w => about_put oi w b oj.dst u h3)
  have put1 : ∀ (b : Act) u, K ((b.put oi.dst v).put oj.dst u) = K ((b.put oj.dst u).put oi.dst v) := fun b u => by rw [Act.put_comm b v u h2]
  unfold wpOpIn at *
  simp only [hj] at *
  rw [wanted_put oj a oi.dst v h1, about_put oj w a oi.dst v h1] at h
  by_cases hw : Region.wanted oj (yielded ops a.tmps) = true
  · rw [if_pos hw] at h ⊢
    unfold Oper.wpIn at *
    rw [about_put oj w a oi.dst v h1, hro, Oper.semAt_none, execOp_put oj hsj a oi.dst v h1] at h
    rw [hro, Oper.semAt_none]
    refine ⟨h.1, ?_⟩
    replace h := h.2
    cases hr : (execOp a.eval oj).run P w with
    | halt x w' =>
      rw [hr] at h
      cases x <;> simp only [Oper.uponIn] at h ⊢
      exact hQ _ _ _ h
    | ok x w' =>
      rw [hr] at h
      cases x with
      | value u => exact ⟨keep a hy u, by have := h; simp only [Oper.uponIn] at this; rwa [put1] at this⟩
      | skip => exact ⟨keep a hy _, by have := h; simp only [Oper.uponIn] at this; rwa [put1] at this⟩
      | defer d =>
        simp only [Oper.uponIn] at h ⊢
        refine ⟨keep { a with defers := d :: a.defers } (hy.turn rfl rfl (fun _ => rfl)) _, ?_⟩
        rw [← put1, ← Act.put_defers]; exact h
      | enter f args =>
        refine ⟨h.1, CallsIn.mono h.2 fun e w'' he => ?_⟩
        cases e with
        | returned u => exact ⟨keep a hy u, by have := he; (try simp only at this); rwa [put1] at this⟩
        | panicked c => exact hQ _ _ _ he
        | outgrown => exact he
      | row r args => exact ⟨h.1, RowsIn.mono h.2 fun u w'' he => ⟨keep a hy u, by have := he; (try simp only at this); rwa [put1] at this⟩⟩
      | round l f tmps assign body =>
        refine ⟨h.1, RoundIn.mono h.2 fun e w'' he => ?_⟩
        cases e with
        | returned u => exact ⟨keep a hy u, by have := he; (try simp only at this); rwa [put1] at this⟩
        | panicked c => exact hQ _ _ _ he
        | outgrown => exact he
      | _ => simp only [Oper.uponIn] at h
  · rw [if_neg hw] at h ⊢
    exact ⟨h.1, keep a hy _, by have := h.2; rwa [put1] at this⟩
/-- whatever order is picked from here on; S holds behind each operation -/
def heldIn (F : Fence) (n : Nat) (P : Program) (ops : Array Oper) (Q : Exit → Act → World → Prop) (S : World → Prop) : Nat → Array Bool → Act → World → Prop
  | 0, listed, a, w => Region.ready .any ops listed = [] ∧ Q .normal a w
  | fuel + 1, listed, a, w => (Region.ready .any ops listed = [] → Q .normal a w) ∧ ∀ i ∈ Region.ready .any ops listed, wpOpIn F n P ops Q i (fun a' w' => S w' ∧ heldIn F n P ops Q S fuel (listed.setIfInBounds i true) a' w') a w
theorem any_of_heldIn : ∀ (fuel : Nat) (listed : Array Bool) (a : Act) (w : World), heldIn F n P ops Q S fuel listed a w → wpAnyIn F n P .any ops Q fuel listed a w
  | 0, _, _, _, h => h
  | fuel + 1, _, _, _, h => ⟨h.1, fun i hi => wpOpIn_mono (fun a' w' h' => any_of_heldIn fuel _ a' w' h'.2) (h.2 i hi)⟩
theorem heldIn_first {i : Nat} {oi : Oper} {v : Value} (hro : F.round = none) (hi : ops[i]? = some oi) (hsel : ∀ (j : Nat) (o : Oper) cs b, ops[j]? = some o → o.op ≠ .select cs b) (hQ : ∀ c a w, Q (.panic c) (a.put oi.dst v) w → Q (.panic c) a w) :
    ∀ (fuel : Nat) (listed : Array Bool) (a : Act) (w : World), (∀ j oj, ops[j]? = some oj → j ≠ i → listed.getD j true = false → (∀ e ∈ oj.after, Region.binds .any e = true → e.on ≠ i) → oi.apart ops oj = true) →
      i ∈ Region.ready .any ops listed → ReadsIn P ops S oi v a → S w → heldIn F n P ops Q S fuel (listed.setIfInBounds i true) (a.put oi.dst v) w → heldIn F n P ops Q S (fuel + 1) listed a w := by
  intro fuel
  induction fuel with
  | zero =>
    intro listed a w _ hr hy hS H
    refine ⟨fun h => (by rw [h] at hr; cases hr), fun j hj => ?_⟩
    by_cases hji : j = i
    · subst hji; exact hy.op hro hi hS ⟨hS, H⟩
    · have := ready_mono hj hji
      rw [H.1] at this; cases this
  | succ fuel ih =>
    intro listed a w hfree hr hy hS H
    refine ⟨fun h => (by rw [h] at hr; cases hr), fun j hj => ?_⟩
    by_cases hji : j = i
    · subst hji; exact hy.op hro hi hS ⟨hS, H⟩
    obtain ⟨hjun, oj, hoj, hall⟩ := mem_ready.1 hj
    have hnot : ∀ e ∈ oj.after, Region.binds .any e = true → e.on ≠ i := fun e he hb heq => by
      have h1 := hall e he hb
      have h0 := (mem_ready.1 hr).1
      rw [heq] at h1
      rcases Nat.lt_or_ge i listed.size with h' | h'
      · simp [h'] at h0 h1; rw [h0] at h1; cases h1
      · simp [Array.getElem?_eq_none h'] at h1
    refine wpOpIn_mono (fun a' w' h3 => ⟨h3.2.1, ih _ a' w' (fun k ok hk hki hun hno => hfree k ok hk hki ?_ hno) (ready_mono hr (Ne.symm hji)) h3.1 h3.2.1 ?_⟩)
      (swapIn hro hoj (hfree j oj hoj hji hjun hnot) (fun cs b => hsel i oi cs b hi) (fun cs b => hsel j oj cs b hoj) hQ hy (H.2 j (ready_mono hj hji)))
    · by_cases hjk : j = k
      · subst hjk; exact hjun
      · rwa [getD_set_ne true hjk] at hun
    · rw [Array.setIfInBounds_comm _ _ hji]; exact h3.2.2
/-- take the read i -/
theorem heldIn_take {i : Nat} {oi : Oper} {v : Value} {fuel : Nat} {listed : Array Bool} {a : Act} {w : World} (hro : F.round = none) (hi : ops[i]? = some oi) (hs : Region.noSelect ops = true) (hf : Region.free .any ops listed i = true)
    (hr : (Region.ready .any ops listed).contains i = true) (hQ : ∀ c a w, Q (.panic c) (a.put oi.dst v) w → Q (.panic c) a w) (hy : ReadsIn P ops S oi v a) (hS : S w)
    (h : heldIn F n P ops Q S fuel (listed.setIfInBounds i true) (a.put oi.dst v) w) : heldIn F n P ops Q S (fuel + 1) listed a w :=
  heldIn_first hro hi (Region.noSelect_spec hs) hQ fuel listed a w (Region.free_spec hi hf) (by simpa using hr) hy hS h
theorem heldIn_takeD {i d : Nat} {oi : Oper} {v : Value} {fuel : Nat} {listed : Array Bool} {tmps : Array Value} {ds : List Deferred} {w : World} (hro : F.round = none) (hi : ops[i]? = some oi) (hd : oi.dst = some d) (hs : Region.noSelect ops = true) (hf : Region.free .any ops listed i = true)
    (hr : (Region.ready .any ops listed).contains i = true) (hQ : ∀ c a w, Q (.panic c) (a.put oi.dst v) w → Q (.panic c) a w) (hy : ReadsIn P ops S oi v { tmps := tmps, defers := ds }) (hS : S w)
    (h : heldIn F n P ops Q S fuel (listed.setIfInBounds i true) { tmps := tmps.setIfInBounds d v, defers := ds } w) : heldIn F n P ops Q S (fuel + 1) listed { tmps := tmps, defers := ds } w :=
  heldIn_take hro hi hs hf hr hQ hy hS (by rw [hd]; exact h)
/-- the one that may come up -/
theorem heldIn_one {i : Nat} {fuel : Nat} {listed : Array Bool} {a : Act} {w : World} (hr : Region.ready .any ops listed = [i])
    (h : wpOpIn F n P ops Q i (fun a' w' => S w' ∧ heldIn F n P ops Q S fuel (listed.setIfInBounds i true) a' w') a w) : heldIn F n P ops Q S (fuel + 1) listed a w :=
  ⟨fun h0 => (by rw [hr] at h0; cases h0), fun j hj => by rw [hr] at hj; obtain rfl : j = i := by simpa using hj
                                                          exact h⟩
theorem heldIn_done {listed : Array Bool} {a : Act} {w : World} (hr : Region.ready .any ops listed = []) (h : Q .normal a w) : ∀ fuel, heldIn F n P ops Q S fuel listed a w
  | 0 => ⟨hr, h⟩
  | _ + 1 => ⟨fun _ => h, by rw [hr]; simp⟩
theorem region_heldIn {id : Nat} {a : Act} {w : World} (hm : P.follows .mixedOrders = true) (h : heldIn F n P ops Q S ops.size (Array.replicate ops.size false) a { w with drawn := w.drawn + 1 }) : (Code.region id ops true).wpIn F n P Q a w :=
  wpIn_region_any hm (any_of_heldIn _ _ _ _ h)
/-- a call of a Go function that comes back -/
theorem wpOpIn_calls {i : Nat} {o : Oper} {d : Nat} {tmps : Array Value} {ds : List Deferred} {w w' : World} {f : FuncId} {args : Array Value} {K : Act → World → Prop} {R : Ending → World → Prop} (hi : ops[i]? = some o) (hd : o.dst = some d) (hw : Region.wanted o (yielded ops tmps) = true)
    (he : (execOp (Act.eval { tmps := tmps, defers := ds }) o).run P w = .ok (.enter f args) w') (h1 : 1 ≤ n) (hc : CallsIn Fence.wide (n - 1) P f args w' R) (hk : ∀ v w'', R (.returned v) w'' → K { tmps := tmps.setIfInBounds d v, defers := ds } w'') (hp : ∀ ch w'', R (.panicked ch) w'' → Q (.panic ch) { tmps := tmps, defers := ds } w'') (ho : ∀ w'', R .outgrown w'' → False) :
    wpOpIn Fence.wide n P ops Q i K { tmps := tmps, defers := ds } w := by
  unfold wpOpIn
  have hro : Fence.wide.round = none := rfl
  simp only [hi, hw, if_true, Oper.wpIn, hro, Oper.semAt_none, he, Oper.uponIn]
  refine ⟨fun _ _ => trivial, fun _ => h1, CallsIn.mono hc fun e w'' hr => ?_⟩
  cases e with
  | returned v => dsimp only; rw [hd]; exact hk v w'' hr
  | panicked ch => exact hp ch w'' hr
  | outgrown => exact (ho w'' hr).elim
/-- an operation that leaves a value, and another world -/
theorem wpOpIn_value {i : Nat} {o : Oper} {d : Nat} {tmps : Array Value} {ds : List Deferred} {w w' : World} {v : Value} {K : Act → World → Prop} (hro : F.round = none) (hi : ops[i]? = some o) (hd : o.dst = some d) (hw : Region.wanted o (yielded ops tmps) = true)
    (hb : o.about P w (Act.eval { tmps := tmps, defers := ds }) = none) (he : (execOp (Act.eval { tmps := tmps, defers := ds }) o).run P w = .ok (.value v) w') (hk : K { tmps := tmps.setIfInBounds d v, defers := ds } w') : wpOpIn F n P ops Q i K { tmps := tmps, defers := ds } w := by
  unfold wpOpIn
  simp only [hi, hw, if_true, Oper.wpIn, hro, Oper.semAt_none, he, Oper.uponIn]
  refine ⟨fun f hf => (by rw [hb] at hf; cases hf), ?_⟩
  rw [hd]; exact hk
/-- an append -/
theorem wpOpIn_append {i : Nat} {o : Oper} {d : Nat} {tmps : Array Value} {ds : List Deferred} {w w' : World} {v' : Value} {K : Act → World → Prop} (hro : F.round = none) (hi : ops[i]? = some o) (hd : o.dst = some d) (hw : Region.wanted o (yielded ops tmps) = true)
    (s x : Operand) (t tx : TypeId) (ho : o.op = .call { callee := .builtin .append, args := #[s, x], argTypes := #[t, tx] }) (hrun : (Builtin.append_ #[t, tx] o.type #[Act.eval { tmps := tmps, defers := ds } s, Act.eval { tmps := tmps, defers := ds } x]).run P w = .ok v' w')
    (hk : K { tmps := tmps.setIfInBounds d v', defers := ds } w') : wpOpIn F n P ops Q i K { tmps := tmps, defers := ds } w := by
  refine wpOpIn_value hro hi hd hw (by simp [Oper.about, ho, resolve, Target.leads, Sem.run_pure]) ?_ hk
  unfold execOp
  simp only [ho, resolve, invoke, builtin, Sem.run_bind, Sem.run_pure, Result.andThen_ok, List.map_toArray, List.map_cons, List.map_nil, hrun]
/-- a round of the caller's loop that comes back -/
theorem wpOpIn_round {i : Nat} {o : Oper} {d : Nat} {tmps : Array Value} {ds : List Deferred} {w w' : World} {l : Nat} {f : FuncId} {ts : Array Value} {assign body : Code} {K : Act → World → Prop} {R : Ending → World → Prop} (hi : ops[i]? = some o) (hd : o.dst = some d) (hw : Region.wanted o (yielded ops tmps) = true)
    (he : (execOp (Act.eval { tmps := tmps, defers := ds }) o).run P w = .ok (  .round l f ts assign body) w') (h1 : 1 ≤ n) (hc : RoundIn Fence.wide (n - 1) P l f ts assign body w' R) (hk : ∀ v w'', R (.returned v) w'' → K { tmps := tmps.setIfInBounds d v, defers := ds } w'') (hp : ∀ ch w'', R (.panicked ch) w'' → Q (.panic ch) { tmps := tmps, defers := ds } w'') (ho : ∀ w'', R .outgrown w'' → False) :
    wpOpIn Fence.wide n P ops Q i K { tmps := tmps, defers := ds } w := by
  unfold wpOpIn
  have hro : Fence.wide.round = none := rfl
  simp only [hi, hw, if_true, Oper.wpIn, hro, Oper.semAt_none, he, Oper.uponIn]
  refine ⟨fun _ _ => trivial, fun _ => h1, RoundIn.mono hc fun e w'' hr => ?_⟩
  cases e with
  | returned v => dsimp only; rw [hd]; exact hk v w'' hr
  | panicked ch => exact hp ch w'' hr
  | outgrown => exact (ho w'' hr).elim
/-- Q, but at a panic what does not hang on the frame -/
def PanTo (ds : List Deferred) (A : List PanicEntry → World → Prop) (Q : Exit → Act → World → Prop) : Exit → Act → World → Prop
  | .panic c, a, w => a.defers = ds ∧ A c w
  | e, a, w => Q e a w
theorem PanTo.normal {ds : List Deferred} {A : List PanicEntry → World → Prop} {Q : Exit → Act → World → Prop} {a : Act} {w : World} (h : Q .normal a w) : PanTo ds A Q .normal a w := h
theorem region_panTo {c : Code} {a : Act} {w : World} (ds : List Deferred) (A : List PanicEntry → World → Prop) (hA : ∀ ch a w, a.defers = ds → A ch w → Q (.panic ch) a w) (h : c.wpIn F n P (PanTo ds A Q) a w) : c.wpIn F n P Q a w := by
  refine wpIn_mono h fun e a w hp => ?_
  cases e with
  | panic ch => exact hA ch a w hp.1 hp.2
  | normal => exact hp
  | ret => exact hp
  | exit _ => exact hp
  | goto _ => exact hp
  | outgrown => exact hp
end
end Go.Proofs.YtnkcmlngoeofgaaDoor
