/- Texts of the law CellNorms, merged: HeldD, Kept, GrCopiedP, GrOut, Append, GrRightP, GrTurnedP, GrMoveP. -/
import Derived.Test.YtjobijmmjebpaaaDoorPCellNorms01
import Derived.Test.YtjobijmmjebpaaaDoorPCellNorms00
import Derived.Lib.Hide
import Derived.Deep.AppendSrc
import Derived.Maps.AppendAt
import Derived.RegionTactic
import Derived.Deep.RegionLaw
import Derived.BigQuiet
import Derived.Deep.QuietTactic
/-
  INSIDE A FENCE: a region that draws its order, its reads taken first where a condition on the world (S) holds behind every operation that is carried out ahead of the first store D. After XHeldIn.
-/
namespace Go.Proofs.YtjobijmmjebpaaaDoor
section
variable {F : Fence} {n : Nat} {P : Program} {ops : Array Oper} {Q : Exit → Act → World → Prop} {S : World → Prop} {D : Nat}
/-- whatever order is picked from here on; S holds behind each operation, till D is carried out -/
def heldD (F : Fence) (n : Nat) (P : Program) (ops : Array Oper) (Q : Exit → Act → World → Prop) (S : World → Prop) (D : Nat) : Nat → Array Bool → Act → World → Prop
  | 0, listed, a, w => Region.ready .any ops listed = [] ∧ Q .normal a w
  | fuel + 1, listed, a, w => (Region.ready .any ops listed = [] → Q .normal a w) ∧ ∀ i ∈ Region.ready .any ops listed, wpOpIn F n P ops Q i (fun a' w' => ((listed.setIfInBounds i true).getD D true = false → S w') ∧ heldD F n P ops Q S D fuel (listed.setIfInBounds i true) a' w') a w
theorem any_of_heldD : ∀ (fuel : Nat) (listed : Array Bool) (a : Act) (w : World), heldD F n P ops Q S D fuel listed a w → wpAnyIn F n P .any ops Q fuel listed a w
  | 0, _, _, _, h => h
  | fuel + 1, _, _, _, h => ⟨h.1, fun i hi => wpOpIn_mono (fun a' w' h' => any_of_heldD fuel _ a' w' h'.2) (h.2 i hi)⟩
theorem getD_set_self {l : Array Bool} {i : Nat} : (l.setIfInBounds i true).getD i true = true := by
  rcases Nat.lt_or_ge i l.size with h | h
  · simp [h]
  · simp
theorem heldD_first {i : Nat} {oi : Oper} {v : Value} (hro : F.round = none) (hi : ops[i]? = some oi) (hsel : ∀ (j : Nat) (o : Oper) cs b, ops[j]? = some o → o.op ≠ .select cs b) (hQ : ∀ c a w, Q (.panic c) (a.put oi.dst v) w → Q (.panic c) a w)
    (hDi : D ≠ i) (hDe : ∀ oD, ops[D]? = some oD → ∃ e ∈ oD.after, Region.binds .any e = true ∧ e.on = i) :
    ∀ (fuel : Nat) (listed : Array Bool) (a : Act) (w : World), (∀ j oj, ops[j]? = some oj → j ≠ i → listed.getD j true = false → (∀ e ∈ oj.after, Region.binds .any e = true → e.on ≠ i) → oi.apart ops oj = true) →
      i ∈ Region.ready .any ops listed → ReadsIn P ops S oi v a → listed.getD D true = false → S w → heldD F n P ops Q S D fuel (listed.setIfInBounds i true) (a.put oi.dst v) w → heldD F n P ops Q S D (fuel + 1) listed a w := by
  intro fuel
  induction fuel with
  | zero =>
    intro listed a w _ hr hy hD hS H
    refine ⟨fun h => (by rw [h] at hr; cases hr), fun j hj => ?_⟩
    by_cases hji : j = i
    · subst hji; exact hy.op hro hi hS ⟨fun _ => hS, H⟩
    · have := ready_mono hj hji
      rw [H.1] at this; cases this
  | succ fuel ih =>
    intro listed a w hfree hr hy hD hS H
    refine ⟨fun h => (by rw [h] at hr; cases hr), fun j hj => ?_⟩
    by_cases hji : j = i
    · subst hji; exact hy.op hro hi hS ⟨fun _ => hS, H⟩
    obtain ⟨hjun, oj, hoj, hall⟩ := mem_ready.1 hj
    have hnot : ∀ e ∈ oj.after, Region.binds .any e = true → e.on ≠ i := fun e he hb heq => by
      have h1 := hall e he hb
      have h0 := (mem_ready.1 hr).1
      rw [heq] at h1
      rcases Nat.lt_or_ge i listed.size with h' | h'
      · simp [h'] at h0 h1; rw [h0] at h1; cases h1
      · simp [Array.getElem?_eq_none h'] at h1
    have hjD : j ≠ D := fun e => by
      subst e
      obtain ⟨e, he, hb, heq⟩ := hDe oj hoj
      exact hnot e he hb heq
    refine wpOpIn_mono (fun a' w' h3 => ?_)
      (swapIn hro hoj (hfree j oj hoj hji hjun hnot) (fun cs b => hsel i oi cs b hi) (fun cs b => hsel j oj cs b hoj) hQ hy (H.2 j (ready_mono hj hji)))
    have hS' : S w' := h3.2.1 (by rw [getD_set_ne true hjD, getD_set_ne true (Ne.symm hDi)]; exact hD)
    refine ⟨fun _ => hS', ih _ a' w' (fun k ok hk hki hun hno => hfree k ok hk hki ?_ hno) (ready_mono hr (Ne.symm hji)) h3.1 (by rw [getD_set_ne true hjD]; exact hD) hS' ?_⟩
    · by_cases hjk : j = k
      · subst hjk; exact hjun
      · rwa [getD_set_ne true hjk] at hun
    · rw [Array.setIfInBounds_comm _ _ hji]; exact h3.2.2
/-- that D waits for i -/
def waits (ops : Array Oper) (D i : Nat) : Bool := match ops[D]? with
  | some o => o.after.any fun e => Region.binds .any e && e.on == i
  | none => true
/-- take the read i -/
theorem heldD_take {i d : Nat} {oi : Oper} {v : Value} {fuel : Nat} {listed : Array Bool} {tmps : Array Value} {ds : List Deferred} {w : World} (hro : F.round = none) (hi : ops[i]? = some oi) (hd : oi.dst = some d) (hs : Region.noSelect ops = true) (hf : Region.free .any ops listed i = true)
    (hr : (Region.ready .any ops listed).contains i = true) (hDi : (D != i) = true) (hDe : waits ops D i = true) (hD : listed.getD D true = false) (hQ : ∀ c a w, Q (.panic c) (a.put oi.dst v) w → Q (.panic c) a w) (hw : Region.wanted oi (yielded ops tmps) = true)
    (hy : ∀ w, S w → oi.about P w (Act.eval { tmps := tmps, defers := ds }) = none ∧ (execOp (Act.eval { tmps := tmps, defers := ds }) oi).run P w = .ok (.value v) w) (hS : S w)
    (h : heldD F n P ops Q S D fuel (listed.setIfInBounds i true) { tmps := tmps.setIfInBounds d v, defers := ds } w) : heldD F n P ops Q S D (fuel + 1) listed { tmps := tmps, defers := ds } w :=
  heldD_first hro hi (Region.noSelect_spec hs) hQ (by simpa using hDi) (fun oD hoD => by
    unfold waits at hDe
    rw [hoD] at hDe
    simp only [Array.any_eq_true, Bool.and_eq_true, beq_iff_eq] at hDe
    obtain ⟨k, hk, h1, h2⟩ := hDe
    exact ⟨_, Array.getElem_mem hk, h1, h2⟩) fuel listed _ w (Region.free_spec hi hf) (by simpa using hr) ⟨hw, hy⟩ hD hS (by rw [hd]; exact h)
theorem heldD_firstF {i : Nat} {oi : Oper} {v : Value} (hro : F.round = none) (hi : ops[i]? = some oi) (hsel : ∀ (j : Nat) (o : Oper) cs b, ops[j]? = some o → o.op ≠ .select cs b) (hQ : ∀ c a w, Q (.panic c) (a.put oi.dst v) w → Q (.panic c) a w)
    (hDi : D ≠ i) :
    ∀ (fuel : Nat) (listed : Array Bool) (a : Act) (w : World), (∀ j oj, ops[j]? = some oj → j ≠ i → listed.getD j true = false → (∀ e ∈ oj.after, Region.binds .any e = true → e.on ≠ i) → oi.apart ops oj = true) →
      i ∈ Region.ready .any ops listed → ReadsIn P ops (fun _ => True) oi v a → (listed.getD D true = false → S w) → heldD F n P ops Q S D fuel (listed.setIfInBounds i true) (a.put oi.dst v) w → heldD F n P ops Q S D (fuel + 1) listed a w := by
  intro fuel
  induction fuel with
  | zero =>
    intro listed a w _ hr hy hS H
    refine ⟨fun h => (by rw [h] at hr; cases hr), fun j hj => ?_⟩
    by_cases hji : j = i
    · subst hji; exact hy.op hro hi trivial ⟨fun h => hS (by rwa [getD_set_ne true (Ne.symm hDi)] at h), H⟩
    · have := ready_mono hj hji
      rw [H.1] at this; cases this
  | succ fuel ih =>
    intro listed a w hfree hr hy hS H
    refine ⟨fun h => (by rw [h] at hr; cases hr), fun j hj => ?_⟩
    by_cases hji : j = i
    · subst hji; exact hy.op hro hi trivial ⟨fun h => hS (by rwa [getD_set_ne true (Ne.symm hDi)] at h), H⟩
    obtain ⟨hjun, oj, hoj, hall⟩ := mem_ready.1 hj
    have hnot : ∀ e ∈ oj.after, Region.binds .any e = true → e.on ≠ i := fun e he hb heq => by
      have h1 := hall e he hb
      have h0 := (mem_ready.1 hr).1
      rw [heq] at h1
      rcases Nat.lt_or_ge i listed.size with h' | h'
      · simp [h'] at h0 h1; rw [h0] at h1; cases h1
      · simp [Array.getElem?_eq_none h'] at h1
    refine wpOpIn_mono (fun a' w' h3 => ?_)
      (swapIn hro hoj (hfree j oj hoj hji hjun hnot) (fun cs b => hsel i oi cs b hi) (fun cs b => hsel j oj cs b hoj) hQ hy (H.2 j (ready_mono hj hji)))
    have hS' : (listed.setIfInBounds j true).getD D true = false → S w' := fun h => h3.2.1 (by
      by_cases hjD : j = D
      · subst hjD
        rw [getD_set_self] at h; cases h
      · rw [getD_set_ne true hjD, getD_set_ne true (Ne.symm hDi)]
        rwa [getD_set_ne true hjD] at h)
    refine ⟨hS', ih _ a' w' (fun k ok hk hki hun hno => hfree k ok hk hki ?_ hno) (ready_mono hr (Ne.symm hji)) h3.1 hS' ?_⟩
    · by_cases hjk : j = k
      · subst hjk; exact hjun
      · rwa [getD_set_ne true hjk] at hun
    · rw [Array.setIfInBounds_comm _ _ hji]; exact h3.2.2
/-- take an operation that looks at no memory -/
theorem heldD_takeF {i d : Nat} {oi : Oper} {v : Value} {fuel : Nat} {listed : Array Bool} {tmps : Array Value} {ds : List Deferred} {w : World} (hro : F.round = none) (hi : ops[i]? = some oi) (hd : oi.dst = some d) (hs : Region.noSelect ops = true) (hf : Region.free .any ops listed i = true)
    (hr : (Region.ready .any ops listed).contains i = true) (hDi : (D != i) = true) (hQ : ∀ c a w, Q (.panic c) (a.put oi.dst v) w → Q (.panic c) a w) (hw : Region.wanted oi (yielded ops tmps) = true)
    (hy : ∀ w, oi.about P w (Act.eval { tmps := tmps, defers := ds }) = none ∧ (execOp (Act.eval { tmps := tmps, defers := ds }) oi).run P w = .ok (.value v) w) (hS : listed.getD D true = false → S w)
    (h : heldD F n P ops Q S D fuel (listed.setIfInBounds i true) { tmps := tmps.setIfInBounds d v, defers := ds } w) : heldD F n P ops Q S D (fuel + 1) listed { tmps := tmps, defers := ds } w :=
  heldD_firstF hro hi (Region.noSelect_spec hs) hQ (by simpa using hDi) fuel listed _ w (Region.free_spec hi hf) (by simpa using hr) ⟨hw, fun w _ => hy w⟩ hS (by rw [hd]; exact h)
/-- the one that may come up -/
theorem heldD_one {i : Nat} {fuel : Nat} {listed : Array Bool} {a : Act} {w : World} (hr : Region.ready .any ops listed = [i])
    (h : wpOpIn F n P ops Q i (fun a' w' => ((listed.setIfInBounds i true).getD D true = false → S w') ∧ heldD F n P ops Q S D fuel (listed.setIfInBounds i true) a' w') a w) : heldD F n P ops Q S D (fuel + 1) listed a w :=
  ⟨fun h0 => (by rw [hr] at h0; cases h0), fun j hj => by rw [hr] at hj; obtain rfl : j = i := by simpa using hj
                                                          exact h⟩
theorem heldD_two {i k : Nat} {fuel : Nat} {listed : Array Bool} {a : Act} {w : World} (hr : Region.ready .any ops listed = [i, k])
    (h1 : wpOpIn F n P ops Q i (fun a' w' => ((listed.setIfInBounds i true).getD D true = false → S w') ∧ heldD F n P ops Q S D fuel (listed.setIfInBounds i true) a' w') a w)
    (h2 : wpOpIn F n P ops Q k (fun a' w' => ((listed.setIfInBounds k true).getD D true = false → S w') ∧ heldD F n P ops Q S D fuel (listed.setIfInBounds k true) a' w') a w) : heldD F n P ops Q S D (fuel + 1) listed a w :=
  ⟨fun h0 => (by rw [hr] at h0; cases h0), fun j hj => by
    rw [hr] at hj
    rcases List.mem_cons.1 hj with rfl | hj
    · exact h1
    · obtain rfl : j = k := by simpa using hj
      exact h2⟩
theorem heldD_done {listed : Array Bool} {a : Act} {w : World} (hr : Region.ready .any ops listed = []) (h : Q .normal a w) : ∀ fuel, heldD F n P ops Q S D fuel listed a w
  | 0 => ⟨hr, h⟩
  | _ + 1 => ⟨fun _ => h, by rw [hr]; simp⟩
theorem region_heldD {id : Nat} {a : Act} {w : World} (S : World → Prop) (D : Nat) (hm : P.follows .mixedOrders = true) (h : heldD F n P ops Q S D ops.size (Array.replicate ops.size false) a { w with drawn := w.drawn + 1 }) : (Code.region id ops true).wpIn F n P Q a w :=
  wpIn_region_any hm (any_of_heldD _ _ _ _ h)
/-- the region, in a walk without a fence -/
theorem wp_region_heldD {id : Nat} {a : Act} {w : World} (S : World → Prop) (D : Nat) (hm : P.follows .mixedOrders = true) (h : heldD Fence.wide 9 P ops Q S D ops.size (Array.replicate ops.size false) a { w with drawn := w.drawn + 1 }) : (Code.region id ops true).wp P Q a w :=
  wpIn_wide.1 (region_heldD (F := Fence.wide) (n := 9) S D hm h)
theorem wpOpIn_calls' {i : Nat} {o : Oper} {d : Nat} {tmps : Array Value} {ds : List Deferred} {w w' : World} {f : FuncId} {args : Array Value} {K : Act → World → Prop} {R : Ending → World → Prop} (hi : ops[i]? = some o) (hd : o.dst = some d) (hw : Region.wanted o (yielded ops tmps) = true)
    (he : (execOp (Act.eval { tmps := tmps, defers := ds }) o).run P w = .ok (.enter f args) w') (hc : Calls P f args w' R) (hk : ∀ e w'', R e w'' → ∃ v, e = .returned v ∧ K { tmps := tmps.setIfInBounds d v, defers := ds } w'') :
    wpOpIn Fence.wide 9 P ops Q i K { tmps := tmps, defers := ds } w :=
  wpOpIn_calls (R := R) hi hd hw he (by decide) (callsIn_wide.2 hc) (fun v w'' hr => by obtain ⟨_, e, h⟩ := hk _ _ hr; cases e; exact h) (fun _ _ hr => by obtain ⟨_, e, _⟩ := hk _ _ hr; cases e) (fun _ hr => by obtain ⟨_, e, _⟩ := hk _ _ hr; cases e)
/-- a store, or what else leaves no value -/
theorem wpOpIn_skip {i : Nat} {o : Oper} {tmps : Array Value} {ds : List Deferred} {w w' : World} {K : Act → World → Prop} (hro : F.round = none) (hi : ops[i]? = some o) (hd : o.dst = none) (hw : Region.wanted o (yielded ops tmps) = true)
    (hb : o.about P w (Act.eval { tmps := tmps, defers := ds }) = none) (he : (execOp (Act.eval { tmps := tmps, defers := ds }) o).run P w = .ok .skip w') (hk : K { tmps := tmps, defers := ds } w') : wpOpIn F n P ops Q i K { tmps := tmps, defers := ds } w := by
  unfold wpOpIn
  simp only [hi, hw, if_true, Oper.wpIn, hro, Oper.semAt_none, he, Oper.uponIn]
  refine ⟨fun f hf => (by rw [hb] at hf; cases hf), ?_⟩
  rw [hd]; exact hk
end
end Go.Proofs.YtjobijmmjebpaaaDoor
/- Kept S w w': w' is as w was but for the blocks of S (and new ones). -/
namespace Go.Proofs.YtjobijmmjebpaaaDoor
open Go.RowKit
/-- w' is as w was but for the blocks of S (and new ones) -/
structure Kept (S : Nat → Prop) (w w' : World) : Prop where
  os : w'.os = w.os
  tape : w'.tape = w.tape
  output : w'.output = w.output
  size : w.heap.size ≤ w'.heap.size
  block : ∀ k, k < w.heap.size → ¬ S k → w'.heap[k]? = w.heap[k]?

theorem Kept.refl (S : Nat → Prop) (w : World) : Kept S w w := ⟨rfl, rfl, rfl, Nat.le_refl _, fun _ _ _ => rfl⟩
theorem Kept.trans {S : Nat → Prop} {a b c : World} (h : Kept S a b) (k : Kept S b c) : Kept S a c :=
  ⟨k.os.trans h.os, k.tape.trans h.tape, k.output.trans h.output, Nat.le_trans h.size k.size, fun i hi hs => (k.block i (Nat.lt_of_lt_of_le hi h.size) hs).trans (h.block i hi hs)⟩
theorem Kept.drew {S : Nat → Prop} {a w : World} (h : Kept S a w) : Kept S a w.drew := ⟨h.os, h.tape, h.output, h.size, h.block⟩
theorem Kept.setCell {S : Nat → Prop} {a w : World} (h : Kept S a w) {p : Addr} (hp : S p.block) (u : Value) : Kept S a (w.setCell p u) :=
  ⟨h.os, h.tape, h.output, by simpa [World.setCell] using h.size, fun k hk hs => (heap_setCell_other _ _ _ _ (fun e => hs (by rw [e]; exact hp))).trans (h.block k hk hs)⟩
theorem Kept.below {S : Nat → Prop} {B : Nat} {a w : World} (h : Kept S a w) (hB : B ≤ a.heap.size) (hS : ∀ k, S k → B ≤ k) : Below B a w :=
  ⟨h.os, h.tape, h.output, h.size, fun k hk => h.block k (by omega) (fun hs => by have := hS k hs; omega)⟩
theorem Kept.of_below {S : Nat → Prop} {a w : World} (h : Below a.heap.size a w) : Kept S a w := ⟨h.os, h.tape, h.output, h.size, fun k hk _ => h.block k hk⟩
theorem Kept.blk {S : Nat → Prop} {a w : World} (h : Kept S a w) {b : Nat} {cs : Array Value} {t : TypeId} {fr : Nat × Nat} (hb : Blk a b cs t fr) (hs : ¬ S b) : Blk w b cs t fr := (h.block b hb.lt hs).trans hb

theorem Kept.alloc {S : Nat → Prop} {a w : World} (h : Kept S a w) (o : Obj) : Kept S a (w.alloc o) :=
  ⟨h.os, h.tape, h.output, by simp; have := h.size; omega, fun k hk hs => (Below.heap_alloc _ _ _ (Nat.lt_of_lt_of_le hk h.size)).trans (h.block k hk hs)⟩
theorem Kept.mono {S T : Nat → Prop} {a w : World} (h : Kept S a w) (hi : ∀ k, S k → T k) : Kept T a w := ⟨h.os, h.tape, h.output, h.size, fun k hk hs => h.block k hk (fun e => hs (hi k e))⟩
/-- what is new does not count -/
theorem Kept.new {S : Nat → Prop} {a w : World} (h : Kept (fun k => S k ∨ a.heap.size ≤ k) a w) : Kept S a w := ⟨h.os, h.tape, h.output, h.size, fun k hk hs => h.block k hk (fun e => e.elim hs (fun g => by omega))⟩
theorem Kept.next {B p : Nat} {w0 w w' : World} (hb : Below B w0 w) (hB : B ≤ w.heap.size) (hp : B ≤ p) (h : Kept (· = p) w w') : Below B w0 w' := hb.trans (h.below hB (fun k hk => by omega))
end Go.Proofs.YtjobijmmjebpaaaDoor
/- raw graphs and their lists, in plain words -/
namespace Go.Proofs.YtjobijmmjebpaaaDoor
open Go.RowKit
theorem SlX.form {w : World} {v : Value} {L : List Int} (h : SlX w v L) : ∃ a n c, v = .slice a n c := by obtain ⟨a, c, e, _⟩ := h; exact ⟨_, _, _, e⟩
theorem SlA.form {w : World} {v : Value} {L : List Ar} (h : SlA w v L) : ∃ a n c, v = .slice a n c := by obtain ⟨a, c, e, _⟩ := h; exact ⟨_, _, _, e⟩
theorem _root_.Go.World.ownsRow.one' {w : World} {base : Nat} {e : TypeId} {size : Nat} {v : Value} {n : Nat} {xs : List Value} (h : w.ownsRow base e size v n xs) : ∃ a n c, v = .slice a n c := by
  rcases h.2 with ⟨h, _⟩ | ⟨g, cap, cur, h, _⟩
  · exact ⟨_, _, _, h⟩
  · exact ⟨_, _, _, h⟩
theorem ownsRow_le {w : World} {base base' : Nat} {e : TypeId} {size : Nat} {v : Value} {n : Nat} {xs : List Value} (h : w.ownsRow base' e size v n xs) (hb : base ≤ base') : w.ownsRow base e size v n xs :=
  ⟨h.1, h.2.imp id fun ⟨g, cap, cur, h1, h2, h3⟩ => ⟨g, cap, cur, h1, Nat.le_trans hb h2, h3⟩⟩
theorem ownsRow_blk' {w : World} {base : Nat} {e : TypeId} {size : Nat} {v : Value} {n : Nat} {xs : List Value} (h : w.ownsRow base e size v n xs) {g : Nat} (hg : v.ownBlock = some g) : base ≤ g ∧ ∃ cur, Blk w g cur e (0, 0) := by
  rcases h.2 with ⟨rfl, _⟩ | ⟨g', cap, cur, rfl, h1, h2, _⟩
  · cases hg
  · obtain rfl : g' = g := by simpa [Value.ownBlock] using hg
    exact ⟨h1, cur, h2⟩
theorem ownsRow_agree' {w w' : World} {base : Nat} {e : TypeId} {size : Nat} {v : Value} {n : Nat} {xs : List Value} (h : w.ownsRow base e size v n xs) (hb : ∀ k, v.ownBlock = some k → w'.heap[k]? = w.heap[k]?) : w'.ownsRow base e size v n xs := by
  refine ⟨h.1, ?_⟩
  rcases h.2 with h0 | ⟨g, cap, cur, rfl, h1, h2, h3⟩
  · exact .inl h0
  · exact .inr ⟨g, cap, cur, rfl, h1, (hb g (by simp [Value.ownBlock])).trans h2, h3⟩
theorem ownsRow_below {w w' : World} {base : Nat} {e : TypeId} {size : Nat} {v : Value} {n : Nat} {xs : List Value} (h : w.ownsRow base e size v n xs) (hb : Below w.heap.size w w') : w'.ownsRow base e size v n xs :=
  ownsRow_agree' h fun _ hk => hb.block _ (ownsRow_blk' h hk).2.choose_spec.lt
/-- v is a raw graph -/
def RawV (w : World) (v : Value) (r : Raw) : Prop := ∃ vx vy va, v = .agg #[.int .i64 r.nodes, vx, vy, va] ∧ SlX w vx r.X ∧ SlX w vy r.Y ∧ SlA w va r.arcs
/-- a raw graph whose lists are ours -/
def RawO (base : Nat) (w : World) (v : Value) (r : Raw) : Prop :=
  ∃ vx vy va, v = .agg #[.int .i64 r.nodes, vx, vy, va] ∧ w.ownsRow base 2 1 vx r.X.length (r.X.flatMap inC) ∧ w.ownsRow base 2 1 vy r.Y.length (r.Y.flatMap inC) ∧ w.ownsRow base 45 3 va r.arcs.length (r.arcs.flatMap arC) ∧ (∀ b, vx.ownBlock = some b → vy.ownBlock = some b → False)
theorem RawO.raw {base : Nat} {w : World} {v : Value} {r : Raw} (h : RawO base w v r) : RawV w v r := by
  obtain ⟨vx, vy, va, e, h1, h2, h3, _⟩ := h
  exact ⟨vx, vy, va, e, slX_own rfl h1, slX_own rfl h2, slA_own rfl h3⟩
theorem RawO.below {base : Nat} {w w' : World} {v : Value} {r : Raw} (h : RawO base w v r) (hb : Below w.heap.size w w') : RawO base w' v r := by
  obtain ⟨vx, vy, va, e, h1, h2, h3, h4⟩ := h
  exact ⟨vx, vy, va, e, ownsRow_below h1 hb, ownsRow_below h2 hb, ownsRow_below h3 hb, h4⟩
theorem RawV.below {w w' : World} {v : Value} {r : Raw} (h : RawV w v r) (hb : Below w.heap.size w w') : RawV w' v r := by
  obtain ⟨vx, vy, va, e, h1, h2, h3⟩ := h
  have hk := KpC.of_below hb
  exact ⟨vx, vy, va, e, h1.keep hk, h2.keep hk, h3.keep hk⟩
/-- not more than memory holds -/
def Raw.few (r : Raw) : Prop := r.X.length ≤ 1000000000000 ∧ r.Y.length ≤ 1000000000000 ∧ r.arcs.length ≤ 1000000000000
/-- three rows are a graph's -/
def Own3 (base : Nat) (w : World) (vx vy va : Value) (r : Raw) : Prop := w.ownsRow base 2 1 vx r.X.length (r.X.flatMap inC) ∧ w.ownsRow base 2 1 vy r.Y.length (r.Y.flatMap inC) ∧ w.ownsRow base 45 3 va r.arcs.length (r.arcs.flatMap arC) ∧ (∀ b, vx.ownBlock = some b → vy.ownBlock = some b → False)
theorem ownsRow_set {w : World} {base : Nat} {e : TypeId} {size : Nat} {v : Value} {n : Nat} {xs : List Value} (h : w.ownsRow base e size v n xs) {p : Addr} {cs : Array Value} {t : TypeId} {fr : Nat × Nat} (hb : Blk w p.block cs t fr) (ht : t ≠ e) (x : Value) : (w.setCell p x).ownsRow base e size v n xs :=
  ownsRow_agree' h fun k hk => heap_setCell_other _ _ _ _ (fun e => by
    subst e
    obtain ⟨_, cur, hc⟩ := ownsRow_blk' h hk
    have e2 := (show w.heap[p.block]? = some _ from hb).symm.trans (show w.heap[p.block]? = some _ from hc)
    cases e2; exact ht rfl)
theorem Own3.set {base : Nat} {w : World} {vx vy va : Value} {r : Raw} (h : Own3 base w vx vy va r) {p : Addr} {cs : Array Value} {t : TypeId} {fr : Nat × Nat} (hb : Blk w p.block cs t fr) (h1 : t ≠ 2) (h2 : t ≠ 45) (x : Value) : Own3 base (w.setCell p x) vx vy va r :=
  ⟨ownsRow_set h.1 hb h1 x, ownsRow_set h.2.1 hb h1 x, ownsRow_set h.2.2.1 hb h2 x, h.2.2.2⟩
theorem rawO_mk {base : Nat} {w : World} {vx vy va : Value} {r : Raw} (h1 : w.ownsRow base 2 1 vx r.X.length (r.X.flatMap inC)) (h2 : w.ownsRow base 2 1 vy r.Y.length (r.Y.flatMap inC)) (h3 : w.ownsRow base 45 3 va r.arcs.length (r.arcs.flatMap arC)) (h4 : ∀ b, vx.ownBlock = some b → vy.ownBlock = some b → False) : Own3 base w vx vy va r := ⟨h1, h2, h3, h4⟩
theorem SlA.at {w : World} {a : Option Addr} {n cap : Nat} {L : List Ar} (h : SlA w (.slice a n cap) L) (k : Nat) (hk : k < L.length) : ∃ b off, a = some ⟨b, off, none⟩ ∧ w.cell? ⟨b, off + k * 3, none⟩ = some (.int .i64 L[k].1) ∧ w.cell? ⟨b, off + k * 3 + 1, none⟩ = some (.int .i64 L[k].2.1) ∧ w.cell? ⟨b, off + k * 3 + 2, none⟩ = some (.int .i64 L[k].2.2) := by
  obtain ⟨a', cap', e, _, _, h3⟩ := h
  obtain ⟨b, off, cs, t, fr, ea, hb, c0, c1, c2⟩ := h3 k hk
  have e3 := (Value.slice.inj e).1
  exact ⟨b, off, by rw [e3, ea], by rw [hb.cell]; exact c0, by rw [hb.cell]; exact c1, by rw [hb.cell]; exact c2⟩

end Go.Proofs.YtjobijmmjebpaaaDoor
/- a raw graph in a variable of the call's own, its lists ours: what it is, one element more. -/
namespace Go.Proofs.YtjobijmmjebpaaaDoor
open Go.RowKit
/-- the graph r lies in the variable Bo, its lists made behind w1 -/
structure OutI (w1 : World) (Bo : Nat) (vx vy va : Value) (r : Raw) (W : World) : Prop where
  blk : Blk W Bo #[.int .i64 r.nodes, vx, vy, va] 26 (0, 0)
  own : Own3 w1.heap.size W vx vy va r
  kept : Kept (· = Bo) w1 W
theorem Own3.below {base : Nat} {w w' : World} {vx vy va : Value} {r : Raw} (h : Own3 base w vx vy va r) (hb : Below w.heap.size w w') : Own3 base w' vx vy va r :=
  ⟨ownsRow_below h.1 hb, ownsRow_below h.2.1 hb, ownsRow_below h.2.2.1 hb, h.2.2.2⟩
theorem OutI.below {w1 : World} {Bo : Nat} {vx vy va : Value} {r : Raw} {W W' : World} (h : OutI w1 Bo vx vy va r W) (hb : Below W.heap.size W W') : OutI w1 Bo vx vy va r W' :=
  ⟨h.blk.below hb h.blk.lt, h.own.below hb, ⟨hb.os.trans h.kept.os, hb.tape.trans h.kept.tape, hb.output.trans h.kept.output, Nat.le_trans h.kept.size hb.size, fun k hk hs => (hb.block k (Nat.lt_of_lt_of_le hk h.kept.size)).trans (h.kept.block k hk hs)⟩⟩
theorem OutI.raw {w1 : World} {Bo : Nat} {vx vy va : Value} {r : Raw} {W : World} (h : OutI w1 Bo vx vy va r W) : RawO w1.heap.size W (.agg #[.int .i64 r.nodes, vx, vy, va]) r := ⟨vx, vy, va, rfl, h.own.1, h.own.2.1, h.own.2.2.1, h.own.2.2.2⟩

theorem OutI.pushX {w1 W : World} {Bo B : Nat} {vx vy va : Value} {r : Raw} {t : TypeId} {fr : Nat × Nat} {x : Int} (h : OutI w1 Bo vx vy va r W) (hB : Blk W B (inC x).toArray t fr) (hl : r.X.length ≤ 1000000) :
    ∃ v' W', (Builtin.append_ #[23, 23] 23 #[vx, .slice (some ⟨B, 0, none⟩) 1 1]).run Tryd.prog W = .ok v' W' ∧ (∃ a n c, v' = .slice a n c) ∧ Blk W' Bo #[.int .i64 r.nodes, vx, vy, va] 26 (0, 0) ∧ W.grownBy W' vx.ownBlock ∧ OutI w1 Bo v' vy va { r with X := r.X ++ [x] } (W'.setCell ⟨Bo, 1, none⟩ v') := by
  obtain ⟨i0, hi, hz0, hz1, hz2⟩ := info_parts infoI
  have hbase := h.kept.size
  have hs : SlF 1 W (.slice (some ⟨B, 0, none⟩) 1 1) 1 (inC x) := ⟨inC_len x, fun u hu => by simp only [inC, List.mem_cons, List.not_mem_nil, or_false] at hu; rw [hu]; rfl, _, 1, rfl, Nat.le_refl _, by unfold maxLen; omega, fun j u hu => ⟨B, 0, rfl, by rw [Nat.zero_add, hB.cell, List.getElem?_toArray]; exact hu⟩⟩
  obtain ⟨v', W', hr, hown, hg, hat, _⟩ := run_append_row (P := Tryd.prog) w1.heap.size 23 23 2 i0 _ 1 8 Tryd.underlying23 hi hz0 hz1 hz2 rfl (by omega) vx r.X.length _ h.own.1 _ 1 _ hs (by unfold maxLen; omega) (by omega) hbase
  have hBo : some Bo ≠ vx.ownBlock := fun e => by
    obtain ⟨_, c2, q2⟩ := ownsRow_blk' h.own.1 e.symm
    have e2 := (show W.heap[Bo]? = some _ from h.blk).symm.trans (show W.heap[Bo]? = some _ from q2)
    cases e2
  have hBlk : Blk W' Bo #[.int .i64 r.nodes, vx, vy, va] 26 (0, 0) := (hg.block Bo h.blk.lt hBo).trans h.blk
  have oth : ∀ {e : TypeId} {size : Nat} {v : Value} {n : Nat} {xs : List Value}, W.ownsRow w1.heap.size e size v n xs → (∀ b, v.ownBlock = some b → some b ≠ vx.ownBlock) → W'.ownsRow w1.heap.size e size v n xs := fun ho hd =>
    ownsRow_agree' ho fun k hk => hg.block k (ownsRow_blk' ho hk).2.choose_spec.lt (hd k hk)
  have oy := oth h.own.2.1 (fun b hb e => h.own.2.2.2 b e.symm hb)
  have oa := oth h.own.2.2.1 (fun b hb e => by
      obtain ⟨_, c1, q1⟩ := ownsRow_blk' h.own.2.2.1 hb
      obtain ⟨_, c2, q2⟩ := ownsRow_blk' h.own.1 e.symm
      have e2 := (show W.heap[b]? = some _ from q1).symm.trans (show W.heap[b]? = some _ from q2)
      cases e2)
  have hnew : W'.ownsRow w1.heap.size 2 1 v' (r.X ++ [x]).length ((r.X ++ [x]).flatMap inC) := by
    rw [List.length_append, List.flatMap_append]; simpa using hown
  have hK : Kept (· = Bo) w1 W' := ⟨hg.os.trans h.kept.os, hg.tape.trans h.kept.tape, hg.output.trans h.kept.output, Nat.le_trans h.kept.size hg.size, fun k hk hs => (hg.block k (by omega) (fun e => by have := (ownsRow_blk' h.own.1 e.symm).1; omega)).trans (h.kept.block k hk hs)⟩
  have hdx : ∀ b, v'.ownBlock = some b → ∀ {e : TypeId} {size : Nat} {v : Value} {n : Nat} {xs : List Value}, W.ownsRow w1.heap.size e size v n xs → (∀ b, v.ownBlock = some b → some b ≠ vx.ownBlock) → v.ownBlock = some b → False := fun b hb _ _ _ _ _ ho hd hv => by
    rcases hat with hat | hat
    · exact hd b hv (by rw [← hat, hb])
    · have e : b = W.heap.size := by rw [hat] at hb; exact (Option.some.inj hb).symm
      have := (ownsRow_blk' ho hv).2.choose_spec.lt
      omega
  obtain ⟨a', n', c', hv'⟩ := hown.one'
  refine ⟨v', W', hr, ⟨a', n', c', hv'⟩, hBlk, hg, ⟨?_, ?_, ?_⟩⟩
  · have h2 := hBlk.set 1 v'
    exact h2
  · exact Own3.set (r := { r with X := r.X ++ [x] }) (p := ⟨Bo, 1, none⟩) ⟨hnew, oy, oa, fun b h1 h2 => hdx b h1 h.own.2.1 (fun b hb e => h.own.2.2.2 b e.symm hb) h2⟩ hBlk (by decide) (by decide) v'
  · exact hK.setCell (p := ⟨Bo, 1, none⟩) rfl v'

theorem OutI.pushY {w1 W : World} {Bo B : Nat} {vx vy va : Value} {r : Raw} {t : TypeId} {fr : Nat × Nat} {x : Int} (h : OutI w1 Bo vx vy va r W) (hB : Blk W B (inC x).toArray t fr) (hl : r.Y.length ≤ 1000000) :
    ∃ v' W', (Builtin.append_ #[23, 23] 23 #[vy, .slice (some ⟨B, 0, none⟩) 1 1]).run Tryd.prog W = .ok v' W' ∧ (∃ a n c, v' = .slice a n c) ∧ Blk W' Bo #[.int .i64 r.nodes, vx, vy, va] 26 (0, 0) ∧ W.grownBy W' vy.ownBlock ∧ OutI w1 Bo vx v' va { r with Y := r.Y ++ [x] } (W'.setCell ⟨Bo, 2, none⟩ v') := by
  obtain ⟨i0, hi, hz0, hz1, hz2⟩ := info_parts infoI
  have hbase := h.kept.size
  have hs : SlF 1 W (.slice (some ⟨B, 0, none⟩) 1 1) 1 (inC x) := ⟨inC_len x, fun u hu => by simp only [inC, List.mem_cons, List.not_mem_nil, or_false] at hu; rw [hu]; rfl, _, 1, rfl, Nat.le_refl _, by unfold maxLen; omega, fun j u hu => ⟨B, 0, rfl, by rw [Nat.zero_add, hB.cell, List.getElem?_toArray]; exact hu⟩⟩
  obtain ⟨v', W', hr, hown, hg, hat, _⟩ := run_append_row (P := Tryd.prog) w1.heap.size 23 23 2 i0 _ 1 8 Tryd.underlying23 hi hz0 hz1 hz2 rfl (by omega) vy r.Y.length _ h.own.2.1 _ 1 _ hs (by unfold maxLen; omega) (by omega) hbase
  have hBo : some Bo ≠ vy.ownBlock := fun e => by
    obtain ⟨_, c2, q2⟩ := ownsRow_blk' h.own.2.1 e.symm
    have e2 := (show W.heap[Bo]? = some _ from h.blk).symm.trans (show W.heap[Bo]? = some _ from q2)
    cases e2
  have hBlk : Blk W' Bo #[.int .i64 r.nodes, vx, vy, va] 26 (0, 0) := (hg.block Bo h.blk.lt hBo).trans h.blk
  have oth : ∀ {e : TypeId} {size : Nat} {v : Value} {n : Nat} {xs : List Value}, W.ownsRow w1.heap.size e size v n xs → (∀ b, v.ownBlock = some b → some b ≠ vy.ownBlock) → W'.ownsRow w1.heap.size e size v n xs := fun ho hd =>
    ownsRow_agree' ho fun k hk => hg.block k (ownsRow_blk' ho hk).2.choose_spec.lt (hd k hk)
  have ox := oth h.own.1 (fun b hb e => h.own.2.2.2 b hb e.symm)
  have oa := oth h.own.2.2.1 (fun b hb e => by
      obtain ⟨_, c1, q1⟩ := ownsRow_blk' h.own.2.2.1 hb
      obtain ⟨_, c2, q2⟩ := ownsRow_blk' h.own.2.1 e.symm
      have e2 := (show W.heap[b]? = some _ from q1).symm.trans (show W.heap[b]? = some _ from q2)
      cases e2)
  have hnew : W'.ownsRow w1.heap.size 2 1 v' (r.Y ++ [x]).length ((r.Y ++ [x]).flatMap inC) := by
    rw [List.length_append, List.flatMap_append]; simpa using hown
  have hK : Kept (· = Bo) w1 W' := ⟨hg.os.trans h.kept.os, hg.tape.trans h.kept.tape, hg.output.trans h.kept.output, Nat.le_trans h.kept.size hg.size, fun k hk hs => (hg.block k (by omega) (fun e => by have := (ownsRow_blk' h.own.2.1 e.symm).1; omega)).trans (h.kept.block k hk hs)⟩
  have hdx : ∀ b, v'.ownBlock = some b → ∀ {e : TypeId} {size : Nat} {v : Value} {n : Nat} {xs : List Value}, W.ownsRow w1.heap.size e size v n xs → (∀ b, v.ownBlock = some b → some b ≠ vy.ownBlock) → v.ownBlock = some b → False := fun b hb _ _ _ _ _ ho hd hv => by
    rcases hat with hat | hat
    · exact hd b hv (by rw [← hat, hb])
    · have e : b = W.heap.size := by rw [hat] at hb; exact (Option.some.inj hb).symm
      have := (ownsRow_blk' ho hv).2.choose_spec.lt
      omega
  obtain ⟨a', n', c', hv'⟩ := hown.one'
  refine ⟨v', W', hr, ⟨a', n', c', hv'⟩, hBlk, hg, ⟨?_, ?_, ?_⟩⟩
  · have h2 := hBlk.set 2 v'
    exact h2
  · exact Own3.set (r := { r with Y := r.Y ++ [x] }) (p := ⟨Bo, 2, none⟩) ⟨ox, hnew, oa, fun b h1 h2 => hdx b h2 h.own.1 (fun b hb e => h.own.2.2.2 b hb e.symm) h1⟩ hBlk (by decide) (by decide) v'
  · exact hK.setCell (p := ⟨Bo, 2, none⟩) rfl v'

theorem OutI.pushA {w1 W : World} {Bo B : Nat} {vx vy va : Value} {r : Raw} {t : TypeId} {fr : Nat × Nat} {x : Ar} (h : OutI w1 Bo vx vy va r W) (hB : Blk W B (arC x).toArray t fr) (hl : r.arcs.length ≤ 1000000) :
    ∃ v' W', (Builtin.append_ #[24, 24] 24 #[va, .slice (some ⟨B, 0, none⟩) 1 1]).run Tryd.prog W = .ok v' W' ∧ (∃ a n c, v' = .slice a n c) ∧ Blk W' Bo #[.int .i64 r.nodes, vx, vy, va] 26 (0, 0) ∧ W.grownBy W' va.ownBlock ∧ OutI w1 Bo vx vy v' { r with arcs := r.arcs ++ [x] } (W'.setCell ⟨Bo, 3, none⟩ v') := by
  obtain ⟨i0, hi, hz0, hz1, hz2⟩ := info_parts infoA
  have hbase := h.kept.size
  have hs : SlF 3 W (.slice (some ⟨B, 0, none⟩) 1 1) 1 (arC x) := ⟨arC_len x, fun u hu => by simp only [arC, List.mem_cons, List.not_mem_nil, or_false] at hu; rcases hu with rfl | rfl | rfl <;> rfl, _, 1, rfl, Nat.le_refl _, by unfold maxLen; omega, fun j u hu => ⟨B, 0, rfl, by rw [Nat.zero_add, hB.cell, List.getElem?_toArray]; exact hu⟩⟩
  obtain ⟨v', W', hr, hown, hg, hat, _⟩ := run_append_row (P := Tryd.prog) w1.heap.size 24 24 45 i0 _ 3 24 Tryd.underlying24 hi hz0 hz1 hz2 rfl (by omega) va r.arcs.length _ h.own.2.2.1 _ 1 _ hs (by unfold maxLen; omega) (by omega) hbase
  have hBo : some Bo ≠ va.ownBlock := fun e => by
    obtain ⟨_, c2, q2⟩ := ownsRow_blk' h.own.2.2.1 e.symm
    have e2 := (show W.heap[Bo]? = some _ from h.blk).symm.trans (show W.heap[Bo]? = some _ from q2)
    cases e2
  have hBlk : Blk W' Bo #[.int .i64 r.nodes, vx, vy, va] 26 (0, 0) := (hg.block Bo h.blk.lt hBo).trans h.blk
  have oth : ∀ {e : TypeId} {size : Nat} {v : Value} {n : Nat} {xs : List Value}, W.ownsRow w1.heap.size e size v n xs → (∀ b, v.ownBlock = some b → some b ≠ va.ownBlock) → W'.ownsRow w1.heap.size e size v n xs := fun ho hd =>
    ownsRow_agree' ho fun k hk => hg.block k (ownsRow_blk' ho hk).2.choose_spec.lt (hd k hk)
  have ox := oth h.own.1 (fun b hb e => by
      obtain ⟨_, c1, q1⟩ := ownsRow_blk' h.own.1 hb
      obtain ⟨_, c2, q2⟩ := ownsRow_blk' h.own.2.2.1 e.symm
      have e2 := (show W.heap[b]? = some _ from q1).symm.trans (show W.heap[b]? = some _ from q2)
      cases e2)
  have oy := oth h.own.2.1 (fun b hb e => by
      obtain ⟨_, c1, q1⟩ := ownsRow_blk' h.own.2.1 hb
      obtain ⟨_, c2, q2⟩ := ownsRow_blk' h.own.2.2.1 e.symm
      have e2 := (show W.heap[b]? = some _ from q1).symm.trans (show W.heap[b]? = some _ from q2)
      cases e2)
  have hnew : W'.ownsRow w1.heap.size 45 3 v' (r.arcs ++ [x]).length ((r.arcs ++ [x]).flatMap arC) := by
    rw [List.length_append, List.flatMap_append]; simpa using hown
  have hK : Kept (· = Bo) w1 W' := ⟨hg.os.trans h.kept.os, hg.tape.trans h.kept.tape, hg.output.trans h.kept.output, Nat.le_trans h.kept.size hg.size, fun k hk hs => (hg.block k (by omega) (fun e => by have := (ownsRow_blk' h.own.2.2.1 e.symm).1; omega)).trans (h.kept.block k hk hs)⟩
  have hdx : ∀ b, v'.ownBlock = some b → ∀ {e : TypeId} {size : Nat} {v : Value} {n : Nat} {xs : List Value}, W.ownsRow w1.heap.size e size v n xs → (∀ b, v.ownBlock = some b → some b ≠ va.ownBlock) → v.ownBlock = some b → False := fun b hb _ _ _ _ _ ho hd hv => by
    rcases hat with hat | hat
    · exact hd b hv (by rw [← hat, hb])
    · have e : b = W.heap.size := by rw [hat] at hb; exact (Option.some.inj hb).symm
      have := (ownsRow_blk' ho hv).2.choose_spec.lt
      omega
  obtain ⟨a', n', c', hv'⟩ := hown.one'
  refine ⟨v', W', hr, ⟨a', n', c', hv'⟩, hBlk, hg, ⟨?_, ?_, ?_⟩⟩
  · have h2 := hBlk.set 3 v'
    exact h2
  · exact Own3.set (r := { r with arcs := r.arcs ++ [x] }) (p := ⟨Bo, 3, none⟩) ⟨ox, oy, hnew, h.own.2.2.2⟩ hBlk (by decide) (by decide) v'
  · exact hK.setCell (p := ⟨Bo, 3, none⟩) rfl v'
end Go.Proofs.YtjobijmmjebpaaaDoor
/-
  append ONTO A SLICE THAT IS OURS, OF WHATEVER SOURCE (a slice, a string): one law; and as a step of a region, drawn or not.
-/
namespace Go.Proofs.YtjobijmmjebpaaaDoor
open Go.RowKit
/-- the cells from o on written over -/
def putAt (cs : Array Value) (o : Nat) : List Value → Array Value
  | [] => cs
  | v :: vs => putAt (cs.setIfInBounds o v) (o + 1) vs
theorem putAt_size (vs : List Value) : ∀ (cs : Array Value) (o : Nat), (putAt cs o vs).size = cs.size := by
  induction vs with
  | nil => intro cs o; rfl
  | cons v vs ih => intro cs o; show (putAt _ _ vs).size = _; rw [ih]; simp
theorem putAt_get (vs : List Value) : ∀ (cs : Array Value) (o j : Nat), o + vs.length ≤ cs.size → (putAt cs o vs)[j]? = if o ≤ j ∧ j < o + vs.length then vs[j - o]? else cs[j]? := by
  induction vs with
  | nil => intro cs o j _; rw [if_neg (by simp <;> omega)]; first | done | rfl
  | cons v vs ih =>
    intro cs o j h
    simp only [List.length_cons] at h
    show (putAt _ _ vs)[j]? = _
    rw [ih _ _ _ (by simp; omega)]
    simp only [List.length_cons]
    by_cases h1 : o + 1 ≤ j ∧ j < o + 1 + vs.length
    · rw [if_pos h1, if_pos (by omega)]
      obtain ⟨d, rfl⟩ : ∃ d, j = o + 1 + d := ⟨j - (o + 1), by omega⟩
      rw [show o + 1 + d - (o + 1) = d by omega, show o + 1 + d - o = d + 1 by omega]; rfl
    · rw [if_neg h1]
      by_cases h2 : j = o
      · subst h2
        rw [if_pos (by omega), Nat.sub_self]
        simp [show j < cs.size by omega]
      · rw [if_neg (by omega), Array.getElem?_setIfInBounds_ne (Ne.symm h2)]
theorem setCells_blk (t : TypeId) (fr : Nat × Nat) (b : Nat) (vs : List Value) : ∀ (w : World) (o : Nat) (cs : Array Value), Blk w b cs t fr → Blk (w.setCells b o vs) b (putAt cs o vs) t fr := by
  induction vs with
  | nil => intro w o cs h; exact h
  | cons v vs ih => intro w o cs h; exact ih _ _ _ (h.set o v)
theorem setCells_grown (b : Nat) (vs : List Value) : ∀ (w : World) (o : Nat), w.grownBy (w.setCells b o vs) (some b) := by
  induction vs with
  | nil => intro w o; exact ⟨rfl, rfl, rfl, Nat.le_refl _, fun _ _ _ => rfl⟩
  | cons v vs ih =>
    intro w o
    have h := ih (w.setCell ⟨b, o, none⟩ v) (o + 1)
    have hs : (w.setCell ⟨b, o, none⟩ v).heap.size = w.heap.size := by simp [World.setCell]
    exact ⟨h.os, h.tape, h.output, by rw [← hs]; exact h.size, fun k hk hne => (h.block k (by rw [hs]; exact hk) hne).trans (heap_setCell_other _ _ _ _ (fun e => hne (by rw [e])))⟩
theorem firstCells_own {P : Program} {w : World} {base : Nat} {e : TypeId} {v : Value} {n : Nat} {xs : List Value} (h : w.ownsRow base e 1 v n xs) {a : Option Addr} {cap : Nat} (hv : v = .slice a n cap) :
    (Builtin.firstCells 1 n v).run P w.drew = .ok xs.toArray w.drew := by
  subst hv
  have hx : xs.length = n * 1 := h.1
  cases a with
  | none =>
    rcases h.2 with ⟨_, h0⟩ | ⟨g, c, cur, e2, _⟩
    · subst h0
      have : xs = [] := List.eq_nil_of_length_eq_zero (by simpa using hx)
      subst this
      exact run_firstCells_none w.drew 1 0 0 cap
    · cases e2
  | some a =>
    rcases h.2 with ⟨e2, _⟩ | ⟨g, c, cur, e2, _⟩
    · cases e2
    · obtain rfl : a = ⟨g, 0, none⟩ := by simpa using (Value.slice.inj e2).1
      exact run_firstCells_some w.drew 1 n _ n cap xs hx (by simpa using h.cells (g := g) rfl)
/-- THE LAW -/
theorem run_append_src {P : Program} {w : World} (base : Nat) (t tx ty e : TypeId) (i : TypeInfo) (z : Value) (bytes : Nat) (ht : P.underlying t = some (.slice e)) (hi : P.info? e = some i) (hz : i.zero = some z)
    (hsize : i.size = 1) (hby : i.bytes = bytes) (hzs : z.cells.size = 1) (v : Value) (n : Nat) (xs : List Value) (hown : w.ownsRow base e 1 v n xs)
    (x : Value) (m : Nat) (news : List Value) (hs : Src P 1 tx x m news w) (h63 : n + m ≤ maxLen) (hbytes : (n + m) * bytes ≤ 140737488355328) (hbase : base ≤ w.heap.size) :
    ∃ v' w', (Builtin.append_ #[t, tx] ty #[v, x]).run P w = .ok v' w' ∧ w'.ownsRow base e 1 v' (n + m) (xs ++ news) ∧ w.grownBy w' v.ownBlock ∧ (v'.ownBlock = v.ownBlock ∨ v'.ownBlock = some w.heap.size) := by
  subst hby
  have hsmall : n + m ≤ 9223372036854775807 := by simp only [maxLen] at h63; omega
  have hnl : news.length = m := by have := hs.newsLen; omega
  have hxl : xs.length = n := by have := hown.1; omega
  have hs' : Src P i.size tx x m news w := by rw [hsize]; exact hs
  have hlen : (xs ++ news).length = (n + m) * 1 := by rw [List.length_append, hxl, hnl, Nat.mul_one]
  have grown : ∀ (a : Option Addr) (old : Nat), v = .slice a n old → old < n + m →
      ∃ v' w', (Builtin.append_ #[t, tx] ty #[v, x]).run P w = .ok v' w' ∧ w'.ownsRow base e 1 v' (n + m) (xs ++ news) ∧ w.grownBy w' v.ownBlock ∧ (v'.ownBlock = v.ownBlock ∨ v'.ownBlock = some w.heap.size) := by
    intro a old hv ho
    have hge := grownCap_ge w (n + m) old e
    have hcm : grownCap w (n + m) old e ≤ maxLen := grownCap_le_maxLen w (n + m) old e h63
    have hold := firstCells_own (P := P) hown hv
    have hr := run_append_grow_src (P := P) w t tx ty e i z ht hi hz a n old xs (by rw [hsize, ← hv]; exact hold) x m news hs' ho (by omega) (growslice_fits (by omega) hbytes)
    rw [← hv] at hr
    refine ⟨_, _, hr, ⟨hlen, .inr ⟨w.heap.size, _, _, rfl, hbase, heap_alloc_new w.drew _, hge, hcm, ?_, ?_⟩⟩, ⟨rfl, rfl, rfl, by simp, fun k hk _ => Below.heap_alloc w.drew _ k hk⟩, .inr rfl⟩
    · simp only [Array.size_append, List.size_toArray, size_zeroCells, hzs, Nat.mul_one, List.length_append, hxl, hnl]; omega
    · simp only [Array.toList_append]
      rw [show (n + m) * 1 = (xs ++ news).length from hlen.symm]
      exact List.take_left
  have hown' := hown
  rcases hown'.2 with ⟨hv, hn⟩ | ⟨g, cap, cur, hv, hbg, hg, hnc, hcm, hcs, htake⟩
  · by_cases hm : m = 0
    · subst hn hm
      have hn0 : news = [] := List.eq_nil_of_length_eq_zero hnl
      have hx0 : xs = [] := List.eq_nil_of_length_eq_zero hxl
      subst hn0 hx0 hv
      refine ⟨.slice none 0 0, w, ?_, World.ownsRow_nil w base e 1, ⟨rfl, rfl, rfl, Nat.le_refl _, fun _ _ _ => rfl⟩, .inl rfl⟩
      rcases hs.kind with ⟨e', hk⟩ | hk <;> simp [Builtin.append_, run_underlying ht, run_underlying hk, sizeOf, typeInfo, hi, hsize, hs.len, hs.cells]
    · exact grown none 0 (by rw [hv, hn]) (by omega)
  · by_cases hroom : n + m ≤ cap
    · subst hv
      rw [Nat.mul_one] at hcs htake
      have hb : Blk w g cur e (0, 0) := hg
      have hr := run_append_room_src (P := P) w t tx ty e i ht hi g 0 n cap x m news hs' hroom
        (fun j hj => by rw [hsize, Nat.mul_one, Nat.zero_add, hb.cell]; rw [Array.getElem?_eq_getElem (by omega)]; rfl)
        (fun j _ => by exact hb.free _ (Or.inr (Nat.zero_le _)))
      rw [hsize, Nat.mul_one, Nat.zero_add] at hr
      have hb' := setCells_blk e (0, 0) g news w n cur hb
      refine ⟨_, _, hr, ⟨hlen, .inr ⟨g, cap, _, rfl, hbg, hb', hroom, hcm, by rw [putAt_size, hcs, Nat.mul_one], ?_⟩⟩, setCells_grown g news w n, .inl rfl⟩
      rw [Nat.mul_one]
      apply List.ext_getElem?
      intro j
      rw [List.getElem?_take]
      rw [show (putAt cur n news).toList[j]? = (putAt cur n news)[j]? by simp]
      rw [putAt_get news cur n j (by omega)]
      rw [hnl]
      by_cases hj : j < n + m
      · rw [if_pos hj]
        by_cases h1 : n ≤ j
        · rw [if_pos ⟨h1, hj⟩, List.getElem?_append_right (by omega), hxl]
        · rw [if_neg (by omega), List.getElem?_append_left (by omega), ← htake, List.getElem?_take, if_pos (by omega)]; simp
      · rw [if_neg hj]
        exact (List.getElem?_eq_none (by rw [List.length_append, hxl, hnl]; omega)).symm
    · exact grown _ cap hv (by omega)
/-- at a plain region's list -/
theorem wpList_append_src {P : Program} {w : World} {ops : Array Oper} {rest : List Oper} {o : Oper} {a : Act} {Q : Exit → Act → World → Prop} (hgd : o.guard = none) (s x : Operand) (t tx : TypeId)
    (ho : o.op = .call { callee := .builtin .append, args := #[s, x], argTypes := #[t, tx] }) {v' : Value} {w' : World} (hrun : (Builtin.append_ #[t, tx] o.type #[a.eval s, a.eval x]).run P w = .ok v' w')
    (h : wpList P ops Q rest (a.put o.dst v') w') : wpList P ops Q (o :: rest) a w := wpList_append_run hgd s x t tx ho hrun h
/-- at a step of a region that draws -/
theorem step_append_run {P : Program} {w : World} {ops : Array Oper} {o : Oper} {a : Act} {K : Act → World → Prop} {Q : Exit → Act → World → Prop} {E : Prop} (hgd : o.guard = none) (s x : Operand) (t tx : TypeId)
    (ho : o.op = .call { callee := .builtin .append, args := #[s, x], argTypes := #[t, tx] }) {v' : Value} {w' : World} (hrun : (Builtin.append_ #[t, tx] o.type #[a.eval s, a.eval x]).run P w = .ok v' w')
    (h : K (a.put o.dst v') w') : if Region.wanted o (yielded ops a.tmps) = true then Oper.wp P o a w K Q else E := by
  have hw : Region.wanted o (yielded ops a.tmps) = true := by simp [Region.wanted, hgd]
  rw [if_pos hw]
  unfold Oper.wp execOp
  simp only [ho, resolve, invoke, builtin, Sem.run_bind, Sem.run_pure, Result.andThen_ok, List.map_toArray, List.map_cons, List.map_nil, hrun]
  exact h
end Go.Proofs.YtjobijmmjebpaaaDoor
/- what the graph laws' right makes, in plain words -/
namespace Go.Proofs.YtjobijmmjebpaaaDoor
open Go.RowKit
/-- a graph's right one, of so many nodes as n says -/
def w32 (x : Int) : Int := IntKind.i32.wrap x
def u64 (x : Int) : Int := x % 18446744073709551616
def rightA (n : Nat) (a : Ar) : Ar := (u64 a.1 % n, u64 a.2.1 % n, u64 a.2.2 % 2147483648)
def rightV (r : Raw) (n : Nat) : Raw :=
  ⟨(1 + n % 12 : Nat), (List.range (1 + n % 12)).map fun i => w32 (r.X[i]?.getD 0), (List.range (1 + n % 12)).map fun i => w32 (r.Y[i]?.getD 0), (r.arcs.take 40).map (rightA (1 + n % 12))⟩
theorem kpc_of {w w1 wr : World} {Bo : Nat} (hb : Below w.heap.size w w1) (hk : Kept (· = Bo) w1 wr) (hB : w.heap.size ≤ Bo) : KpC w wr :=
  ⟨Nat.le_trans hb.size hk.size, fun k cs t fr h => by
    have hlt := (Array.getElem?_eq_some_iff.1 h).1
    have h1 := hb.size
    exact (hk.block k (by omega) (by omega)).trans (hb.block k hlt)⟩
theorem below_of {w w1 wr : World} {Bo : Nat} (hb : Below w.heap.size w w1) (hk : Kept (· = Bo) w1 wr) (hB : w.heap.size ≤ Bo) : Below w.heap.size w wr :=
  ⟨hk.os.trans hb.os, hk.tape.trans hb.tape, hk.output.trans hb.output, Nat.le_trans hb.size hk.size, fun k hlt => by
    have h1 := hb.size
    exact (hk.block k (by omega) (by omega)).trans (hb.block k hlt)⟩
theorem range_push {f : Nat → Int} (k : Nat) : (List.range (k + 1)).map f = (List.range k).map f ++ [f k] := by rw [List.range_succ, List.map_append]; rfl
theorem w32_lt (x : Int) : IntKind.i64.wrap (w32 x) = w32 x := by
  have h : -2147483648 ≤ w32 x ∧ w32 x ≤ 2147483647 := by
    unfold w32
    rw [IntKind.wrap_i32]
    omega
  rw [IntKind.wrap_i64]; omega
end Go.Proofs.YtjobijmmjebpaaaDoor
/- an arc of a graph of ours set; turned, in plain words -/
namespace Go.Proofs.YtjobijmmjebpaaaDoor
open Go.RowKit
theorem ownsRow_setAt {w : World} {base : Nat} {e : TypeId} {size : Nat} {g n cap : Nat} {xs : List Value} (h : w.ownsRow base e size (.slice (some ⟨g, 0, none⟩) n cap) n xs) (j : Nat) (x : Value) :
    (w.setCell ⟨g, j, none⟩ x).ownsRow base e size (.slice (some ⟨g, 0, none⟩) n cap) n (xs.set j x) := by
  obtain ⟨hl, h2⟩ := h
  refine ⟨by rw [List.length_set]; exact hl, ?_⟩
  rcases h2 with ⟨e, _⟩ | ⟨g', cap', cur, ev, h3, h4, h5, h6, h7, h8⟩
  · cases e
  · obtain ⟨rfl, rfl⟩ : g = g' ∧ cap = cap' := by simpa using ev
    refine .inr ⟨g, cap, cur.setIfInBounds j x, rfl, h3, (show Blk w g cur e (0, 0) from h4).set j x, h5, h6, by simpa using h7, ?_⟩
    rw [Array.toList_setIfInBounds, List.take_set, h8]
theorem flat_set {α : Type} (m : Nat) (f : α → List Value) (hf : ∀ x, (f x).length = m) : ∀ (L : List α) (k d : Nat) (y : α) (u : Value), k < L.length → d < m → (∀ x, L[k]? = some x → (f x).set d u = f y) → (L.flatMap f).set (k * m + d) u = (L.set k y).flatMap f
  | x :: L, 0, d, y, u, _, hd, h => by
    rw [List.set_cons_zero, List.flatMap_cons, List.flatMap_cons, Nat.zero_mul, Nat.zero_add, List.set_append_left _ _ (by rw [hf]; exact hd), h x rfl]
  | x :: L, k + 1, d, y, u, hk, hd, h => by
    rw [List.set_cons_succ, List.flatMap_cons, List.flatMap_cons, List.set_append_right _ _ (by rw [hf, Nat.succ_mul]; omega), hf, show (k + 1) * m + d - m = k * m + d by rw [Nat.succ_mul]; omega, flat_set m f hf L k d y u (by simpa using hk) hd (fun x' hx' => h x' (by simpa using hx'))]
/-- an arc's end, or its weight, another one -/
def setArc (d : Nat) (u : Int) (a : Ar) : Ar := match d with
  | 0 => (u, a.2)
  | 1 => (a.1, u, a.2.2)
  | _ => (a.1, a.2.1, u)
theorem setArc_cells (d : Nat) (hd : d < 3) (u : Int) (a : Ar) : (arC a).set d (.int .i64 u) = arC (setArc d u a) := by
  match d, hd with
  | 0, _ => rfl
  | 1, _ => rfl
  | 2, _ => rfl
theorem OutI.setA {w1 W : World} {Bo : Nat} {vx vy : Value} {g n cap : Nat} {r : Raw} (h : OutI w1 Bo vx vy (.slice (some ⟨g, 0, none⟩) n cap) r W) (hn : r.arcs.length = n) (k d : Nat) (hk : k < r.arcs.length) (hd : d < 3) (u : Int) {o : Nat} (ho : o = k * 3 + d) :
    OutI w1 Bo vx vy (.slice (some ⟨g, 0, none⟩) n cap) { r with arcs := r.arcs.set k (setArc d u r.arcs[k]) } (W.setCell ⟨g, o, none⟩ (.int .i64 u)) := by
  subst ho
  have hown := h.own.2.2.1
  obtain ⟨hgb, cur, hc⟩ := ownsRow_blk' hown (g := g) rfl
  have hgBo : Bo ≠ g := fun e => by
    subst e
    have e2 := (show W.heap[Bo]? = some _ from h.blk).symm.trans (show W.heap[Bo]? = some _ from hc)
    cases e2
  have ox := ownsRow_set h.own.1 (p := ⟨g, k * 3 + d, none⟩) hc (by decide) (.int .i64 u)
  have oy := ownsRow_set h.own.2.1 (p := ⟨g, k * 3 + d, none⟩) hc (by decide) (.int .i64 u)
  have oa := ownsRow_setAt (n := n) (by rw [← hn]; rw [← hn] at hown; exact hown) (k * 3 + d) (.int .i64 u)
  rw [flat_set 3 arC arC_len r.arcs k d (setArc d u r.arcs[k]) (.int .i64 u) hk hd (fun x hx => by
    rw [List.getElem?_eq_getElem hk] at hx
    rw [← Option.some.inj hx]; exact setArc_cells d hd u _)] at oa
  refine ⟨h.blk.setOther ⟨g, k * 3 + d, none⟩ (.int .i64 u) hgBo, ⟨ox, oy, ?_, h.own.2.2.2⟩, ?_⟩
  · show World.ownsRow _ _ _ _ _ (r.arcs.set k _).length _
    rw [List.length_set, hn]; exact oa
  · have hk := h.kept
    exact ⟨hk.os, hk.tape, hk.output, by simpa using hk.size, fun j hj hs => (heap_setCell_other _ _ _ _ (show j ≠ g by omega)).trans (hk.block j hj hs)⟩
/-- all arcs the other way -/
def turnA (a : Ar) : Ar := (a.2.1, a.1, a.2.2)
def Raw.turned (r : Raw) : Raw := { r with arcs := r.arcs.map turnA }
theorem turn_step (L : List Ar) (k : Nat) (hk : k < L.length) : (((L.take k).map turnA ++ L.drop k).set k (setArc 0 L[k].2.1 L[k])).set k (setArc 1 L[k].1 (setArc 0 L[k].2.1 L[k])) = (L.take (k + 1)).map turnA ++ L.drop (k + 1) := by
  rw [List.set_set]
  have hl : ((L.take k).map turnA).length = k := by rw [List.length_map, List.length_take]; omega
  rw [List.set_append_right _ _ (by omega), hl, Nat.sub_self, List.drop_eq_getElem_cons hk, List.set_cons_zero, List.take_succ_eq_append_getElem hk, List.map_append, List.append_assoc]
  rfl
end Go.Proofs.YtjobijmmjebpaaaDoor
/- a node's other number, in plain words -/
namespace Go.Proofs.YtjobijmmjebpaaaDoor
open Go.RowKit
/-- a node's other number -/
def mvI (n by_ v : Int) : Int := (v + by_) % n
theorem mvI_range (n by_ v : Int) (hn : 1 ≤ n) : 0 ≤ mvI n by_ v ∧ mvI n by_ v < n := ⟨Int.emod_nonneg _ (by omega), Int.emod_lt_of_pos _ (by omega)⟩
theorem tmod_bounds (a n : Int) (hn : 1 ≤ n) : -n < a.tmod n ∧ a.tmod n < n ∧ a.tmod n = a - n * a.tdiv n := by
  have h1 := Int.tmod_lt_of_pos a (show 0 < n by omega)
  have h2 : -n < a.tmod n := by
    have h := Int.tmod_lt_of_pos (-a) (show 0 < n by omega)
    rw [Int.neg_tmod] at h
    omega
  exact ⟨h2, h1, by have := Int.tmod_add_mul_tdiv a n; omega⟩
theorem mv_eq (n by_ v : Int) (hn : 1 ≤ n) : ((v + by_.tmod n).tmod n + n).tmod n = mvI n by_ v := by
  obtain ⟨a1, a2, a3⟩ := tmod_bounds by_ n hn
  obtain ⟨b1, b2, b3⟩ := tmod_bounds (v + by_.tmod n) n hn
  rw [Int.tmod_eq_emod_of_nonneg (by omega)]
  unfold mvI
  rw [b3, a3]
  rw [show v + (by_ - n * by_.tdiv n) - n * (v + (by_ - n * by_.tdiv n)).tdiv n + n = (v + by_) + n * (1 - by_.tdiv n - (v + (by_ - n * by_.tdiv n)).tdiv n) by rw [Int.mul_sub, Int.mul_sub, Int.mul_one]; omega]
  exact Int.add_mul_emod_self_left _ _ _
end Go.Proofs.YtjobijmmjebpaaaDoor
