/- net, in plain words: the rows of arcs by an end. -/
import Derived.Test.YtnkcmlngoeofgaaDoorGrOk
namespace Go.Proofs.YtnkcmlngoeofgaaDoor
/-- the first k arcs whose end is v -/
def rowK (E : Ar → Int) (L : List Ar) (v : Nat) : Nat → List Int
  | 0 => []
  | k + 1 => if E (L[k]?.getD (0, 0, 0)) = (v : Int) then rowK E L v k ++ [(k : Int)] else rowK E L v k
theorem rowK_hit {E : Ar → Int} {L : List Ar} {v k : Nat} (h : E (L[k]?.getD (0, 0, 0)) = (v : Int)) : rowK E L v (k + 1) = rowK E L v k ++ [(k : Int)] := by
  show (if _ then _ else _) = _; rw [if_pos h]
theorem rowK_miss {E : Ar → Int} {L : List Ar} {v k : Nat} (h : ¬ E (L[k]?.getD (0, 0, 0)) = (v : Int)) : rowK E L v (k + 1) = rowK E L v k := by
  show (if _ then _ else _) = _; rw [if_neg h]
theorem rowK_mono (E : Ar → Int) (L : List Ar) (v : Nat) (k d : Nat) : (rowK E L v k).length ≤ (rowK E L v (k + d)).length := by
  induction d with
  | zero => exact Nat.le_refl _
  | succ d ih =>
    refine Nat.le_trans ih ?_
    show _ ≤ (rowK E L v (k + d + 1)).length
    by_cases h : E (L[k + d]?.getD (0, 0, 0)) = (v : Int)
    · rw [rowK_hit h, List.length_append]; omega
    · rw [rowK_miss h]; exact Nat.le_refl _
theorem rowK_le (E : Ar → Int) (L : List Ar) (v k : Nat) : (rowK E L v k).length ≤ k := by
  induction k with
  | zero => exact Nat.le_refl _
  | succ k ih =>
    by_cases h : E (L[k]?.getD (0, 0, 0)) = (v : Int)
    · rw [rowK_hit h, List.length_append, List.length_singleton]; omega
    · rw [rowK_miss h]; omega
/-- where v's row begins -/
def atK (E : Ar → Int) (L : List Ar) (k : Nat) : Nat → Nat
  | 0 => 0
  | v + 1 => atK E L k v + (rowK E L v k).length
theorem atK_succ (E : Ar → Int) (L : List Ar) (k v : Nat) : atK E L k (v + 1) = atK E L k v + (rowK E L v k).length := rfl
theorem atK_zero (E : Ar → Int) (L : List Ar) : ∀ v, atK E L 0 v = 0
  | 0 => rfl
  | v + 1 => by rw [atK_succ, atK_zero E L v]; rfl
theorem atK_step (E : Ar → Int) (L : List Ar) (k : Nat) (h : 0 ≤ E (L[k]?.getD (0, 0, 0))) : ∀ v : Nat, atK E L (k + 1) v = atK E L k v + (if E (L[k]?.getD (0, 0, 0)) < (v : Int) then 1 else 0)
  | 0 => by rw [if_neg (by omega)]; rfl
  | v + 1 => by
    rw [atK_succ, atK_succ, atK_step E L k h v]
    by_cases e : E (L[k]?.getD (0, 0, 0)) = (v : Int)
    · rw [rowK_hit e, List.length_append, List.length_singleton, if_neg (by omega), if_pos (by omega)]; omega
    · rw [rowK_miss e]
      by_cases l : E (L[k]?.getD (0, 0, 0)) < (v : Int)
      · rw [if_pos l, if_pos (by omega)]; omega
      · rw [if_neg l, if_neg (by omega)]; omega
/-- all arcs have their ends below N -/
def EndsOk (E : Ar → Int) (L : List Ar) (N : Nat) : Prop := ∀ k, k < L.length → 0 ≤ E (L[k]?.getD (0, 0, 0)) ∧ E (L[k]?.getD (0, 0, 0)) < (N : Int)
theorem atK_all {E : Ar → Int} {L : List Ar} {N : Nat} (h : EndsOk E L N) : ∀ k, k ≤ L.length → atK E L k N = k
  | 0, _ => atK_zero E L N
  | k + 1, hk => by
    have h1 := h k (by omega)
    rw [atK_step E L k h1.1 N, atK_all h k (by omega), if_pos h1.2]
theorem atK_le (E : Ar → Int) (L : List Ar) (k v d : Nat) : atK E L k v ≤ atK E L k (v + d) := by
  induction d with
  | zero => exact Nat.le_refl _
  | succ d ih =>
    refine Nat.le_trans ih ?_
    show _ ≤ atK E L k (v + d + 1)
    rw [atK_succ]; omega
/-- v's row ends where u's begins, or before it -/
theorem atK_apart (E : Ar → Int) (L : List Ar) (k : Nat) {u v : Nat} (h : v < u) : atK E L k v + (rowK E L v k).length ≤ atK E L k u := by
  rw [← atK_succ]
  obtain ⟨d, rfl⟩ : ∃ d, u = v + 1 + d := ⟨u - (v + 1), by omega⟩
  exact atK_le E L k (v + 1) d
theorem atK_in {E : Ar → Int} {L : List Ar} {N : Nat} (h : EndsOk E L N) {v : Nat} (hv : v < N) : atK E L L.length v + (rowK E L v L.length).length ≤ L.length := by
  have h1 := atK_apart E L L.length hv
  rw [atK_all h L.length (Nat.le_refl _)] at h1
  exact h1
/-- how many there are by now -/
def manyL (E : Ar → Int) (L : List Ar) (N k : Nat) : List Int := (List.range N).map fun v => ((rowK E L v k).length : Int)
theorem manyL_len (E : Ar → Int) (L : List Ar) (N k : Nat) : (manyL E L N k).length = N := by unfold manyL; rw [List.length_map, List.length_range]
theorem manyL_get (E : Ar → Int) (L : List Ar) (N k v : Nat) (hv : v < N) : (manyL E L N k)[v]? = some ((rowK E L v k).length : Int) := by
  unfold manyL; rw [List.getElem?_map, List.getElem?_range hv]; rfl
theorem manyL_zero (E : Ar → Int) (L : List Ar) (N : Nat) : manyL E L N 0 = List.replicate N 0 := by
  unfold manyL
  apply List.ext_getElem?
  intro i
  rw [List.getElem?_map]
  by_cases h : i < N
  · rw [List.getElem?_range h, List.getElem?_replicate, if_pos h]; rfl
  · rw [List.getElem?_eq_none (by simpa using h), List.getElem?_eq_none (by simpa using h)]; rfl
theorem manyL_step (E : Ar → Int) (L : List Ar) (N k : Nat) (v : Nat) (hv : v < N) (h : E (L[k]?.getD (0, 0, 0)) = (v : Int)) : manyL E L N (k + 1) = (manyL E L N k).set v (((rowK E L v k).length : Int) + 1) := by
  apply List.ext_getElem?
  intro i
  by_cases hi : i < N
  · rw [manyL_get E L N (k + 1) i hi]
    by_cases e : i = v
    · subst e
      rw [List.getElem?_set_self (by rw [manyL_len]; exact hi), rowK_hit h, List.length_append, List.length_singleton]
      rfl
    · rw [List.getElem?_set_ne (Ne.symm e), manyL_get E L N k i hi, rowK_miss (by omega)]
  · rw [List.getElem?_eq_none (by rw [manyL_len]; omega), List.getElem?_eq_none (by rw [List.length_set, manyL_len]; omega)]
/-- the rows of a graph -/
def rowsOf (E : Ar → Int) (L : List Ar) (N : Nat) : List (List Int) := (List.range N).map fun v => rowK E L v L.length
theorem rowsOf_len (E : Ar → Int) (L : List Ar) (N : Nat) : (rowsOf E L N).length = N := by unfold rowsOf; rw [List.length_map, List.length_range]
theorem rowsOf_get (E : Ar → Int) (L : List Ar) (N v : Nat) (hv : v < N) : (rowsOf E L N)[v]? = some (rowK E L v L.length) := by
  unfold rowsOf; rw [List.getElem?_map, List.getElem?_range hv]; rfl
def endF (a : Ar) : Int := a.1
def endT (a : Ar) : Int := a.2.1
theorem ends_ok {r : Raw} (h : r.Ok) {N : Nat} (hN : (N : Int) = r.nodes) : EndsOk endF r.arcs N ∧ EndsOk endT r.arcs N := by
  constructor <;> intro k hk <;> rw [List.getElem?_eq_getElem hk] <;> have ha := h.arc _ (List.getElem_mem hk)
  · exact ⟨ha.1.1, by have := ha.1.2; show r.arcs[k].1 < _; omega⟩
  · exact ⟨ha.2.1.1, by have := ha.2.1.2; show r.arcs[k].2.1 < _; omega⟩
end Go.Proofs.YtnkcmlngoeofgaaDoor
