/- Texts of the law WalkKnown, merged: WalkBareP. -/
import Derived.Test.YtlddcnkiigamjaaDoorPWalkKnown00
import Derived.Maps.OwnSet
import Derived.Maps.Views
/- walk.Bare, in plain words: where a node lies in the trail, as a map keeps it; a row cut short. -/
namespace Go.Proofs.YtlddcnkiigamjaaDoor
open Go.RowKit Go.Shelf
/-- a row of ours, cut short -/
theorem ownsRow_take {w : World} {base : Nat} {e : TypeId} {a : Option Addr} {n c : Nat} {xs : List Value} (h : w.ownsRow base e 1 (.slice a n c) n xs) (k : Nat) (hk : k ≤ n) : w.ownsRow base e 1 (.slice a k c) k (xs.take k) := by
  obtain ⟨hl, h⟩ := h
  refine ⟨by rw [List.length_take]; omega, ?_⟩
  rcases h with ⟨h, h0⟩ | ⟨g, cap, cur, h, h1, h2, h3, h4, h5, h6⟩
  · obtain rfl : k = 0 := by omega
    refine .inl ⟨?_, rfl⟩
    simp at h ⊢
    exact ⟨h.1, h.2.2⟩
  · simp at h
    obtain ⟨rfl, rfl⟩ := h
    refine .inr ⟨g, c, cur, rfl, h1, h2, by omega, h4, h5, ?_⟩
    rw [← h6, List.take_take]
    congr 1
    omega
theorem flat_take (L : List Int) (k : Nat) : (L.flatMap inC).take k = (L.take k).flatMap inC := by
  induction L generalizing k with
  | nil => simp
  | cons x L ih =>
    cases k with
    | zero => rfl
    | succ k => rw [List.flatMap_cons, List.take_succ_cons, List.flatMap_cons, ← ih]; rfl
theorem idx_in {A B : List Int} {v : Int} (h : v ∈ A) : (A ++ B).idxOf v = A.idxOf v := by rw [List.idxOf_append, if_pos h]
theorem idx_out {A B : List Int} {v : Int} (h : v ∉ A) : (A ++ B).idxOf v = B.idxOf v + A.length := by rw [List.idxOf_append, if_neg h]
def kOf (v : Int) : Lit := .int .i64 v
theorem kOf_key (v : Int) : WideAt.IsKeyLit (kOf v) := by unfold kOf WideAt.IsKeyLit; trivial
theorem kOf_ne {v u : Int} (h : v ≠ u) : kOf v ≠ kOf u := fun e => h (by unfold kOf at e; injection e)
/-- the map says where each of them lies in the trail: those that p holds for -/
def PlaceP (D : DataW Unit) (T : List Int) (p : Int → Bool) : Prop := ∀ v : Int, Maps.has D (kOf v) = (decide (v ∈ T) && p v) ∧ (v ∈ T → p v = true → ∀ z, D.atKey (kOf v) z = .lit (.int .i64 (T.idxOf v)))
def PlaceOf (D : DataW Unit) (T : List Int) : Prop := PlaceP D T fun _ => true
theorem PlaceOf.one {D : DataW Unit} (hD : Maps.IsMap D) (h0 : ∀ k, Maps.has D k = false) (s : Int) : PlaceOf (D.put (kOf s) (.lit (.int .i64 0))) [s] := fun v => by
  by_cases e : v = s
  · subst e
    refine ⟨by rw [Maps.has_put_same hD (kOf_key v)]; simp, fun _ _ z => ?_⟩
    rw [Maps.atKey_put_same hD (kOf_key v)]; simp
  · refine ⟨by rw [Maps.has_put_other (kOf_ne e), h0]; simp [e], fun hm => ?_⟩
    simp at hm; exact absurd hm e
theorem PlaceOf.put {D : DataW Unit} {T : List Int} (h : PlaceOf D T) (hD : Maps.IsMap D) {u : Int} (hu : u ∉ T) : PlaceOf (D.put (kOf u) (.lit (.int .i64 T.length))) (T ++ [u]) := fun v => by
  by_cases e : v = u
  · subst e
    refine ⟨by rw [Maps.has_put_same hD (kOf_key v)]; simp, fun _ _ z => ?_⟩
    rw [Maps.atKey_put_same hD (kOf_key v), idx_out hu]; simp
  · obtain ⟨h1, h2⟩ := h v
    refine ⟨by rw [Maps.has_put_other (kOf_ne e), h1]; simp [e], fun hm hp z => ?_⟩
    have hm' : v ∈ T := by simpa [e] using hm
    rw [Maps.atKey_put_other (kOf_ne e), h2 hm' hp, idx_in hm']
theorem PlaceP.del {D : DataW Unit} {T : List Int} {p : Int → Bool} (h : PlaceP D T p) (u : Int) : PlaceP (D.del (kOf u)) T (fun v => p v && !decide (v = u)) := fun v => by
  by_cases e : v = u
  · subst e
    exact ⟨by rw [Maps.has_del_same]; simp, fun _ hp => by simp at hp⟩
  · obtain ⟨h1, h2⟩ := h v
    exact ⟨by rw [Maps.has_del_other (kOf_ne e), h1]; simp [e], fun hm hp z => by rw [Maps.atKey_del_other (kOf_ne e)]; exact h2 hm (by simpa [e] using hp) z⟩
theorem PlaceP.congr {D : DataW Unit} {T : List Int} {p q : Int → Bool} (h : PlaceP D T p) (he : ∀ v, v ∈ T → p v = q v) : PlaceP D T q := fun v => by
  obtain ⟨h1, h2⟩ := h v
  refine ⟨?_, fun hm hp => h2 hm (by rw [he v hm]; exact hp)⟩
  rw [h1]
  by_cases hm : v ∈ T
  · rw [he v hm]
  · simp [hm]
/-- those that are left when the rest of the trail is struck -/
theorem PlaceP.cut {D : DataW Unit} {T : List Int} (hT : T.Nodup) {a : Nat} (h : PlaceP D T (fun v => !decide (v ∈ T.drop a))) : PlaceOf D (T.take a) := fun v => by
  obtain ⟨h1, h2⟩ := h v
  have hsp : v ∈ T ↔ v ∈ T.take a ∨ v ∈ T.drop a := by rw [← List.mem_append, List.take_append_drop]
  have hdj : v ∈ T.take a → v ∉ T.drop a := fun ha hb => by
    have := hT
    rw [← List.take_append_drop a T, List.nodup_append] at this
    exact this.2.2 v ha v hb rfl
  refine ⟨?_, fun hm _ z => ?_⟩
  · rw [h1]
    by_cases ha : v ∈ T.take a
    · simp [ha, hdj ha, hsp.2 (.inl ha)]
    · by_cases hb : v ∈ T.drop a
      · simp [ha, hb]
      · simp [ha, hsp]
  · rw [h2 (hsp.2 (.inl hm)) (by simp [hdj hm])]
    have : T.idxOf v = (T.take a).idxOf v := by
      conv => lhs; rw [← List.take_append_drop a T]
      rw [idx_in hm]
    rw [this]
/-- what the map keeps, behind j strikes -/
def PlaceK (D : DataW Unit) (T : List Int) (a j : Nat) : Prop := PlaceP D T fun v => !decide (v ∈ (T.drop a).take j)
theorem PlaceK.start {D : DataW Unit} {T : List Int} (h : PlaceOf D T) (a : Nat) : PlaceK D T a 0 := PlaceP.congr h fun v _ => by simp
theorem PlaceK.step {D : DataW Unit} {T : List Int} {a j : Nat} (h : PlaceK D T a j) {u : Int} (hu : (T.drop a)[j]? = some u) : PlaceK (D.del (kOf u)) T a (j + 1) := PlaceP.congr (PlaceP.del h u) fun v _ => by
  obtain ⟨hj, e⟩ := List.getElem?_eq_some_iff.1 hu
  rw [List.take_succ_eq_append_getElem hj, e]
  simp only [List.mem_append, List.mem_singleton]
  by_cases h1 : v ∈ (T.drop a).take j <;> by_cases h2 : v = u <;> simp [h1, h2]
theorem PlaceK.done {D : DataW Unit} {T : List Int} (hT : T.Nodup) {a j : Nat} (h : PlaceK D T a j) (hj : (T.drop a).length ≤ j) : PlaceOf D (T.take a) := PlaceP.cut hT (PlaceP.congr h fun v _ => by rw [List.take_of_length_le hj])
/-- the map keeps a row's keys, its cells are another's -/
theorem turned_heap {w w' : World} {b : Nat} (h : w.mapTurned w' b) {k : Nat} (hk : k ≠ b) : w'.heap[k]? = w.heap[k]? := by
  obtain ⟨es, cl, es', cl', hb, rfl⟩ := h
  exact ChangeMaps.heap_setBlock_other hb _ hk
end Go.Proofs.YtlddcnkiigamjaaDoor
