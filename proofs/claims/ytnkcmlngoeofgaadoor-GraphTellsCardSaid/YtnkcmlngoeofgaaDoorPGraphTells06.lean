/- Texts of the law GraphTells, merged: GrFirstR. -/
import Derived.Test.YtnkcmlngoeofgaaDoorPGraphTells05
import Derived.Test.YtnkcmlngoeofgaaDoorPGraphTells03
/- GraphFirst, in plain words: of two bad places the first one is told. -/
namespace Go.Proofs.YtnkcmlngoeofgaaDoor
open Go.RowKit
/-- may that number be, in a list of that kind? (0: X, 1: Y, 2: From, 3: To, 4: Weight) -/
def goodU (n : Int) (t : Nat) (u : Int) : Prop := if t ≤ 1 then coordOk u else if t ≤ 3 then 0 ≤ u ∧ u < n else 0 ≤ u ∧ u < 2147483648
def getK (r : Raw) (t i : Nat) : Int := if t = 0 then r.X[i]?.getD 0 else if t = 1 then r.Y[i]?.getD 0 else if t = 2 then (r.arcs[i]?.getD (0, 0, 0)).1 else if t = 3 then (r.arcs[i]?.getD (0, 0, 0)).2.1 else (r.arcs[i]?.getD (0, 0, 0)).2.2
def setK (r : Raw) (t i : Nat) (u : Int) : Raw := if t = 0 then { r with X := r.X.set i u } else if t = 1 then { r with Y := r.Y.set i u } else { r with arcs := r.arcs.set i (setArc (t - 2) u (r.arcs[i]?.getD (0, 0, 0))) }
def lenK (r : Raw) (t : Nat) : Nat := if t = 0 then r.X.length else if t = 1 then r.Y.length else r.arcs.length
def posK (t i : Nat) : Int × Int × Int := if t ≤ 1 then (2, (i : Int), (t : Int)) else (4, (i : Int), (t : Int) - 2)
def codeK (t : Nat) : Int := if t ≤ 1 then 7 else if t ≤ 3 then 9 else 10
theorem getK_set (r : Raw) {t t' i i' : Nat} (u : Int) (ht : t ≤ 4) (ht' : t' ≤ 4) (hi : i < lenK r t) : getK (setK r t i u) t' i' = if t' = t ∧ i' = i then u else getK r t' i' := by
  have h5 : t = 0 ∨ t = 1 ∨ t = 2 ∨ t = 3 ∨ t = 4 := by omega
  have h5' : t' = 0 ∨ t' = 1 ∨ t' = 2 ∨ t' = 3 ∨ t' = 4 := by omega
  have sx : ∀ (L : List Int), i < L.length → (L.set i u)[i']?.getD 0 = if i' = i then u else L[i']?.getD 0 := fun L hL => by
    rw [List.getElem?_set]
    by_cases h : i = i'
    · subst h; simp [hL]
    · rw [if_neg h, if_neg (fun e => h e.symm)]
  have sa : ∀ (a : Ar), i < r.arcs.length → (r.arcs.set i a)[i']?.getD (0, 0, 0) = if i' = i then a else r.arcs[i']?.getD (0, 0, 0) := fun a hL => by
    rw [List.getElem?_set]
    by_cases h : i = i'
    · subst h; simp [hL]
    · rw [if_neg h, if_neg (fun e => h e.symm)]
  by_cases h : i' = i
  · subst h
    rcases h5 with rfl | rfl | rfl | rfl | rfl <;> rcases h5' with rfl | rfl | rfl | rfl | rfl <;> simp [lenK] at hi <;> simp [getK, setK, setArc, hi]
  · rcases h5 with rfl | rfl | rfl | rfl | rfl <;> rcases h5' with rfl | rfl | rfl | rfl | rfl <;> simp [lenK] at hi <;> simp [getK, setK, setArc, sx, sa, hi, h]
theorem setK_nodes (r : Raw) (t i : Nat) (u : Int) : (setK r t i u).nodes = r.nodes := by unfold setK; split <;> (try split) <;> rfl
theorem setK_len (r : Raw) (t i : Nat) (u : Int) : (setK r t i u).X.length = r.X.length ∧ (setK r t i u).Y.length = r.Y.length ∧ (setK r t i u).arcs.length = r.arcs.length := by
  unfold setK; split <;> (try split) <;> simp
theorem setK_sized {r : Raw} (h : r.sized) (t i : Nat) (u : Int) : (setK r t i u).sized := by
  obtain ⟨h1, h2, h3⟩ := h
  obtain ⟨l1, l2, l3⟩ := setK_len r t i u
  exact ⟨by rw [setK_nodes]; exact h1, by rw [setK_nodes, l1]; exact h2, by rw [setK_nodes, l2]; exact h3⟩
/-- of a graph whose lengths are right the first bad place is told -/
theorem first_place {r : Raw} (h : r.sized) (hl : r.arcs.length ≤ 67108864) {t i : Nat} (ht : t ≤ 4) (hi : i < lenK r t) (hg : ∀ t' i', t' ≤ 4 → aheadB (posK t' i') (posK t i) = true → goodU r.nodes t' (getK r t' i')) (hb : ¬ goodU r.nodes t (getK r t i)) : r.wrong = (codeK t, posK t i) := by
  have h5 : t = 0 ∨ t = 1 ∨ t = 2 ∨ t = 3 ∨ t = 4 := by omega
  have hlen : r.Y.length = r.X.length := by have := h.2.1; have := h.2.2; omega
  have gx := fun j => hg 0 j (by omega); have gy := fun j => hg 1 j (by omega); have g2 := fun j => hg 2 j (by omega); have g3 := fun j => hg 3 j (by omega); have g4 := fun j => hg 4 j (by omega)
  simp only [posK, aheadB, goodU, getK] at gx gy g2 g3 g4 hb
  have nOk : ∀ m : Nat, (∀ j : Nat, j < m → coordOk (r.X[j]?.getD 0) ∧ coordOk (r.Y[j]?.getD 0)) → nodesOk r m := fun m hm j hj => hm j hj
  rcases h5 with rfl | rfl | rfl | rfl | rfl
  · simp [lenK] at hi
    simp at gx gy hb
    exact first_x h hi (fun j hj => ⟨(by first | exact gx j hj | exact gx j (by omega) hj | exact gx j (by omega) (by omega) | exact gx j | (refine gx j ?_; split <;> omega) | (refine gx j ?_; omega)), (by first | exact gy j hj | exact gy j (by omega) hj | exact gy j (by omega) (by omega) | exact gy j | (refine gy j ?_; split <;> omega) | (refine gy j ?_; omega))⟩) hb
  · simp [lenK] at hi
    simp at gx gy hb
    exact first_y h (by omega) (fun j hj => ⟨(by first | exact gx j hj | exact gx j (by omega) hj | exact gx j (by omega) (by omega) | exact gx j | (refine gx j ?_; split <;> omega) | (refine gx j ?_; omega)), (by first | exact gy j hj | exact gy j (by omega) hj | exact gy j (by omega) (by omega) | exact gy j | (refine gy j ?_; split <;> omega) | (refine gy j ?_; omega))⟩) (by first | exact gx i | exact gx i (by simp) | exact gx | (refine gx i ?_; split <;> omega) | (refine gx i ?_; omega)) hb
  · simp [lenK] at hi
    simp at gx gy g2 g3 g4 hb
    exact first_from h (fun j hj => ⟨(by first | exact gx j hj | exact gx j (by omega) hj | exact gx j (by omega) (by omega) | exact gx j | (refine gx j ?_; split <;> omega) | (refine gx j ?_; omega)), (by first | exact gy j hj | exact gy j (by omega) hj | exact gy j (by omega) (by omega) | exact gy j | (refine gy j ?_; split <;> omega) | (refine gy j ?_; omega))⟩) hl hi (fun j hj => ⟨(by first | exact g2 j hj | exact g2 j (by omega) hj | exact g2 j (by omega) (by omega) | exact g2 j | (refine g2 j ?_; split <;> omega) | (refine g2 j ?_; omega)), (by first | exact g3 j hj | exact g3 j (by omega) hj | exact g3 j (by omega) (by omega) | exact g3 j | (refine g3 j ?_; split <;> omega) | (refine g3 j ?_; omega)), (by first | exact g4 j hj | exact g4 j (by omega) hj | exact g4 j (by omega) (by omega) | exact g4 j | (refine g4 j ?_; split <;> omega) | (refine g4 j ?_; omega))⟩) (by omega)
  · simp [lenK] at hi
    simp at gx gy g2 g3 g4 hb
    exact first_to h (fun j hj => ⟨(by first | exact gx j hj | exact gx j (by omega) hj | exact gx j (by omega) (by omega) | exact gx j | (refine gx j ?_; split <;> omega) | (refine gx j ?_; omega)), (by first | exact gy j hj | exact gy j (by omega) hj | exact gy j (by omega) (by omega) | exact gy j | (refine gy j ?_; split <;> omega) | (refine gy j ?_; omega))⟩) hl hi (fun j hj => ⟨(by first | exact g2 j hj | exact g2 j (by omega) hj | exact g2 j (by omega) (by omega) | exact g2 j | (refine g2 j ?_; split <;> omega) | (refine g2 j ?_; omega)), (by first | exact g3 j hj | exact g3 j (by omega) hj | exact g3 j (by omega) (by omega) | exact g3 j | (refine g3 j ?_; split <;> omega) | (refine g3 j ?_; omega)), (by first | exact g4 j hj | exact g4 j (by omega) hj | exact g4 j (by omega) (by omega) | exact g4 j | (refine g4 j ?_; split <;> omega) | (refine g4 j ?_; omega))⟩) (by first | exact g2 i | exact g2 i (by simp) | exact g2 | (refine g2 i ?_; split <;> omega) | (refine g2 i ?_; omega)) (by omega)
  · simp [lenK] at hi
    simp at gx gy g2 g3 g4 hb
    exact first_weight h (fun j hj => ⟨(by first | exact gx j hj | exact gx j (by omega) hj | exact gx j (by omega) (by omega) | exact gx j | (refine gx j ?_; split <;> omega) | (refine gx j ?_; omega)), (by first | exact gy j hj | exact gy j (by omega) hj | exact gy j (by omega) (by omega) | exact gy j | (refine gy j ?_; split <;> omega) | (refine gy j ?_; omega))⟩) hl hi (fun j hj => ⟨(by first | exact g2 j hj | exact g2 j (by omega) hj | exact g2 j (by omega) (by omega) | exact g2 j | (refine g2 j ?_; split <;> omega) | (refine g2 j ?_; omega)), (by first | exact g3 j hj | exact g3 j (by omega) hj | exact g3 j (by omega) (by omega) | exact g3 j | (refine g3 j ?_; split <;> omega) | (refine g3 j ?_; omega)), (by first | exact g4 j hj | exact g4 j (by omega) hj | exact g4 j (by omega) (by omega) | exact g4 j | (refine g4 j ?_; split <;> omega) | (refine g4 j ?_; omega))⟩) (by first | exact g2 i | exact g2 i (by simp) | exact g2 | (refine g2 i ?_; split <;> omega) | (refine g2 i ?_; omega)) (by first | exact g3 i | exact g3 i (by simp) | exact g3 | (refine g3 i ?_; split <;> omega) | (refine g3 i ?_; omega)) (by omega)
theorem ok_good {r : Raw} (h : r.Ok) (t i : Nat) : goodU r.nodes t (getK r t i) := by
  have hn := h.nodes
  have hX : coordOk (r.X[i]?.getD 0) := by
    rcases Nat.lt_or_ge i r.X.length with hi | hi
    · rw [List.getElem?_eq_getElem hi]; exact h.x _ (List.getElem_mem hi)
    · rw [List.getElem?_eq_none hi]; exact ⟨by decide, by decide⟩
  have hY : coordOk (r.Y[i]?.getD 0) := by
    rcases Nat.lt_or_ge i r.Y.length with hi | hi
    · rw [List.getElem?_eq_getElem hi]; exact h.y _ (List.getElem_mem hi)
    · rw [List.getElem?_eq_none hi]; exact ⟨by decide, by decide⟩
  have hA : arcOk r.nodes (r.arcs[i]?.getD (0, 0, 0)) := by
    rcases Nat.lt_or_ge i r.arcs.length with hi | hi
    · rw [List.getElem?_eq_getElem hi]; exact h.arc _ (List.getElem_mem hi)
    · rw [List.getElem?_eq_none hi]
      exact ⟨⟨Int.le_refl _, by show (0 : Int) < _; omega⟩, ⟨Int.le_refl _, by show (0 : Int) < _; omega⟩, ⟨Int.le_refl _, by show (0 : Int) < _; omega⟩⟩
  obtain ⟨h1, h2, h3⟩ := hA
  unfold goodU getK
  split
  · split
    · exact hX
    · split
      · exact hY
      · omega
  · split
    · split
      · omega
      · split
        · omega
        · split
          · exact h1
          · split
            · exact h2
            · omega
    · split
      · omega
      · split
        · omega
        · split
          · omega
          · split
            · omega
            · exact h3
/-- a place, and a number that may not be there -/
structure Bad (r : Raw) (t i : Nat) (u : Int) : Prop where
  kind : t ≤ 4
  lt : i < lenK r t
  bad : ¬ goodU r.nodes t u
theorem Bad.set {r : Raw} {t i : Nat} {u : Int} (h : Bad r t i u) (t' i' : Nat) (u' : Int) : Bad (setK r t' i' u') t i u := by
  obtain ⟨l1, l2, l3⟩ := setK_len r t' i' u'
  refine ⟨h.kind, ?_, by rw [setK_nodes]; exact h.bad⟩
  have := h.lt
  unfold lenK at this ⊢
  rw [l1, l2, l3]; exact this
theorem ahead_asymm {a b : Int × Int × Int} (h : aheadB a b = true) : aheadB b a = false := by
  unfold aheadB at h ⊢
  split at h
  · rename_i e
    rw [if_pos e.symm]
    split at h
    · rename_i e2
      rw [if_pos e2.symm]
      simp only [decide_eq_true_eq, decide_eq_false_iff_not] at h ⊢; omega
    · rename_i e2
      rw [if_neg (fun x => e2 x.symm)]
      simp only [decide_eq_true_eq, decide_eq_false_iff_not] at h ⊢; omega
  · rename_i e
    rw [if_neg (fun x => e x.symm)]
    simp only [decide_eq_true_eq, decide_eq_false_iff_not] at h ⊢; omega
theorem ahead_irr (a : Int × Int × Int) : aheadB a a = false := by unfold aheadB; simp
/-- THE STAGE'S THEOREM: of two bad places the first one is told -/
theorem first_of_two {g : Raw} (hk : g.Ok) {t1 i1 t2 i2 : Nat} {u1 u2 : Int} (h1 : Bad g t1 i1 u1) (h2 : Bad g t2 i2 u2) :
    (setK (setK g t1 i1 u1) t2 i2 u2).wrong = if aheadB (posK t2 i2) (posK t1 i1) = true then (codeK t2, posK t2 i2) else (codeK t1, posK t1 i1) := by
  have hs : g.sized := ⟨hk.nodes, hk.lenX, hk.lenY⟩
  have hs2 := setK_sized (setK_sized hs t1 i1 u1) t2 i2 u2
  have hl : (setK (setK g t1 i1 u1) t2 i2 u2).arcs.length ≤ 67108864 := by
    rw [(setK_len _ _ _ _).2.2, (setK_len _ _ _ _).2.2]; exact hk.arcs
  have e2 : ∀ t i, t ≤ 4 → getK (setK (setK g t1 i1 u1) t2 i2 u2) t i = if t = t2 ∧ i = i2 then u2 else if t = t1 ∧ i = i1 then u1 else getK g t i := fun t i ht => by
    rw [getK_set _ _ h2.kind ht (h2.set t1 i1 u1).lt, getK_set _ _ h1.kind ht h1.lt]
  have hn : (setK (setK g t1 i1 u1) t2 i2 u2).nodes = g.nodes := by rw [setK_nodes, setK_nodes]
  split
  · rename_i ha
    refine first_place hs2 hl h2.kind ((h2.set t1 i1 u1).set t2 i2 u2).lt (fun t' i' ht' ha' => ?_) ?_
    · rw [hn, e2 _ _ ht']
      split
      · rename_i e
        rw [e.1, e.2, ahead_irr] at ha'; cases ha'
      · split
        · rename_i e
          rw [e.1, e.2, ahead_asymm ha] at ha'; cases ha'
        · exact ok_good hk _ _
    · rw [hn, e2 _ _ h2.kind, if_pos ⟨rfl, rfl⟩]; exact h2.bad
  · rename_i ha
    refine first_place hs2 hl h1.kind ((h1.set t1 i1 u1).set t2 i2 u2).lt (fun t' i' ht' ha' => ?_) ?_
    · rw [hn, e2 _ _ ht']
      split
      · rename_i e
        rw [e.1, e.2] at ha'; exact absurd ha' ha
      · split
        · rename_i e
          rw [e.1, e.2, ahead_irr] at ha'; cases ha'
        · exact ok_good hk _ _
    · rw [hn, e2 _ _ h1.kind]
      split
      · rename_i e
        have := h2.bad
        rwa [← e.1] at this
      · rw [if_pos ⟨rfl, rfl⟩]; exact h1.bad
end Go.Proofs.YtnkcmlngoeofgaaDoor
