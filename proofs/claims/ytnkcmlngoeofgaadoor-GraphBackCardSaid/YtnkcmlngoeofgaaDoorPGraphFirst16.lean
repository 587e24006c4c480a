/- Texts of the law GraphFirst, merged: GrFirstQ, GrAhead, GrFirstR. -/
import Derived.Test.YtnkcmlngoeofgaaDoorPGraphFirst15
import Derived.Test.YtnkcmlngoeofgaaDoorPGraphFirst03
/- GraphFirst, in plain words: the five kinds of first bad places. -/
namespace Go.Proofs.YtnkcmlngoeofgaaDoor
theorem bad_coord {i f : Nat} {x : Int} (h : ¬ coordOk x) : (⟨i, f, 7, x, -2147483648, 2147483648⟩ : Pl).bad = true := by
  unfold coordOk at h
  unfold Pl.bad
  simp only [Bool.or_eq_true, decide_eq_true_eq]
  omega
theorem good_coord {i f : Nat} {x : Int} (h : coordOk x) : (⟨i, f, 7, x, -2147483648, 2147483648⟩ : Pl).bad = false := good_of h
/-- all nodes below i are right -/
def nodesOk (r : Raw) (i : Nat) : Prop := ∀ j, j < i → coordOk (r.X[j]?.getD 0) ∧ coordOk (r.Y[j]?.getD 0)
/-- all arcs below i are right -/
def arcsOk (r : Raw) (i : Nat) : Prop := ∀ j, j < i → arcOk r.nodes (r.arcs[j]?.getD (0, 0, 0))
theorem nodes_good {r : Raw} {i : Nat} (h : nodesOk r i) : ∀ q ∈ nodesP r.X r.Y i, q.bad = false := fun q hq => by
  obtain ⟨j, hj, hq⟩ := mem_nodesP _ _ _ _ hq
  simp only [nodeP, List.mem_cons, List.not_mem_nil, or_false] at hq
  rcases hq with rfl | rfl
  · exact good_coord (h j hj).1
  · exact good_coord (h j hj).2
theorem arcs_good {r : Raw} {i : Nat} (h : arcsOk r i) : ∀ q ∈ arcsP r.nodes r.arcs i, q.bad = false := fun q hq => by
  obtain ⟨j, hj, hq⟩ := mem_arcsP _ _ _ _ hq
  obtain ⟨h1, h2, h3⟩ := h j hj
  simp only [arcP, List.mem_cons, List.not_mem_nil, or_false] at hq
  rcases hq with rfl | rfl | rfl
  · exact good_of h1
  · exact good_of h2
  · exact good_of h3
theorem first_x {r : Raw} (h : r.sized) {i : Nat} (hi : i < r.X.length) (hn : nodesOk r i) (hb : ¬ coordOk (r.X[i]?.getD 0)) : r.wrong = (7, 2, (i : Int), 0) :=
  first_node h hi (pre := []) (p := ⟨i, 0, 7, r.X[i]?.getD 0, -2147483648, 2147483648⟩) ⟨[⟨i, 1, 7, r.Y[i]?.getD 0, -2147483648, 2147483648⟩], by simp [nodesP, nodeP]⟩ (by simpa using nodes_good hn) (bad_coord hb)
theorem first_y {r : Raw} (h : r.sized) {i : Nat} (hi : i < r.X.length) (hn : nodesOk r i) (hx : coordOk (r.X[i]?.getD 0)) (hb : ¬ coordOk (r.Y[i]?.getD 0)) : r.wrong = (7, 2, (i : Int), 1) :=
  first_node h hi (pre := [⟨i, 0, 7, r.X[i]?.getD 0, -2147483648, 2147483648⟩]) (p := ⟨i, 1, 7, r.Y[i]?.getD 0, -2147483648, 2147483648⟩) ⟨[], by simp [nodesP, nodeP]⟩ (fun q hq => by
    rcases List.mem_append.1 hq with hq | hq
    · exact nodes_good hn q hq
    · rw [List.mem_singleton.1 hq]; exact good_coord hx) (bad_coord hb)
theorem first_from {r : Raw} (h : r.sized) (hg : nodesOk r r.X.length) (hl : r.arcs.length ≤ 67108864) {i : Nat} (hi : i < r.arcs.length) (hn : arcsOk r i) (hb : ¬ (0 ≤ (r.arcs[i]?.getD (0, 0, 0)).1 ∧ (r.arcs[i]?.getD (0, 0, 0)).1 < r.nodes)) : r.wrong = (9, 4, (i : Int), 0) :=
  first_arc h (nodes_good hg) hl hi (pre := []) (p := ⟨i, 0, 9, (r.arcs[i]?.getD (0, 0, 0)).1, 0, r.nodes⟩) ⟨[⟨i, 1, 9, (r.arcs[i]?.getD (0, 0, 0)).2.1, 0, r.nodes⟩, ⟨i, 2, 10, (r.arcs[i]?.getD (0, 0, 0)).2.2, 0, 2147483648⟩], by simp [arcsP, arcP]⟩ (by simpa using arcs_good hn) (by
    unfold Pl.bad
    simp only [Bool.or_eq_true, decide_eq_true_eq]
    omega)
theorem first_to {r : Raw} (h : r.sized) (hg : nodesOk r r.X.length) (hl : r.arcs.length ≤ 67108864) {i : Nat} (hi : i < r.arcs.length) (hn : arcsOk r i) (hf : 0 ≤ (r.arcs[i]?.getD (0, 0, 0)).1 ∧ (r.arcs[i]?.getD (0, 0, 0)).1 < r.nodes) (hb : ¬ (0 ≤ (r.arcs[i]?.getD (0, 0, 0)).2.1 ∧ (r.arcs[i]?.getD (0, 0, 0)).2.1 < r.nodes)) : r.wrong = (9, 4, (i : Int), 1) :=
  first_arc h (nodes_good hg) hl hi (pre := [⟨i, 0, 9, (r.arcs[i]?.getD (0, 0, 0)).1, 0, r.nodes⟩]) (p := ⟨i, 1, 9, (r.arcs[i]?.getD (0, 0, 0)).2.1, 0, r.nodes⟩) ⟨[⟨i, 2, 10, (r.arcs[i]?.getD (0, 0, 0)).2.2, 0, 2147483648⟩], by simp [arcsP, arcP]⟩ (fun q hq => by
    rcases List.mem_append.1 hq with hq | hq
    · exact arcs_good hn q hq
    · rw [List.mem_singleton.1 hq]; exact good_of hf) (by
    unfold Pl.bad
    simp only [Bool.or_eq_true, decide_eq_true_eq]
    omega)
theorem first_weight {r : Raw} (h : r.sized) (hg : nodesOk r r.X.length) (hl : r.arcs.length ≤ 67108864) {i : Nat} (hi : i < r.arcs.length) (hn : arcsOk r i) (hf : 0 ≤ (r.arcs[i]?.getD (0, 0, 0)).1 ∧ (r.arcs[i]?.getD (0, 0, 0)).1 < r.nodes) (ht : 0 ≤ (r.arcs[i]?.getD (0, 0, 0)).2.1 ∧ (r.arcs[i]?.getD (0, 0, 0)).2.1 < r.nodes) (hb : ¬ (0 ≤ (r.arcs[i]?.getD (0, 0, 0)).2.2 ∧ (r.arcs[i]?.getD (0, 0, 0)).2.2 < 2147483648)) : r.wrong = (10, 4, (i : Int), 2) :=
  first_arc h (nodes_good hg) hl hi (pre := [⟨i, 0, 9, (r.arcs[i]?.getD (0, 0, 0)).1, 0, r.nodes⟩, ⟨i, 1, 9, (r.arcs[i]?.getD (0, 0, 0)).2.1, 0, r.nodes⟩]) (p := ⟨i, 2, 10, (r.arcs[i]?.getD (0, 0, 0)).2.2, 0, 2147483648⟩) ⟨[], by simp [arcsP, arcP]⟩ (fun q hq => by
    rcases List.mem_append.1 hq with hq | hq
    · exact arcs_good hn q hq
    · simp only [List.mem_cons, List.not_mem_nil, or_false] at hq
      rcases hq with rfl | rfl
      · exact good_of hf
      · exact good_of ht) (by
    unfold Pl.bad
    simp only [Bool.or_eq_true, decide_eq_true_eq]
    omega)
/-- the lists' lengths -/
theorem first_shape {r : Raw} (h : 1 ≤ r.nodes ∧ r.nodes ≤ 16777216) (hb : ¬ (r.X.length : Int) = r.nodes) : r.wrong = (6, 1, 0, 0) := by
  unfold Raw.wrong phases
  rw [lookV_cons (find_none fun p hp => by
    simp only [List.mem_cons, List.not_mem_nil, or_false] at hp
    subst hp; exact good_of (by dsimp only; omega))]
  have hbad : (⟨0, 0, 6, (r.X.length : Int), r.nodes, r.nodes + 1⟩ : Pl).bad = true := by
    unfold Pl.bad
    simp only [Bool.or_eq_true, decide_eq_true_eq]
    omega
  rw [lookV]
  simp only [List.find?_cons, hbad]
  rfl
theorem first_shapeY {r : Raw} (h : 1 ≤ r.nodes ∧ r.nodes ≤ 16777216) (hx : (r.X.length : Int) = r.nodes) (hb : ¬ (r.Y.length : Int) = r.nodes) : r.wrong = (6, 1, 0, 1) := by
  unfold Raw.wrong phases
  rw [lookV_cons (find_none fun p hp => by
    simp only [List.mem_cons, List.not_mem_nil, or_false] at hp
    subst hp; exact good_of (by dsimp only; omega))]
  have hgood : (⟨0, 0, 6, (r.X.length : Int), r.nodes, r.nodes + 1⟩ : Pl).bad = false := good_of (by dsimp only; omega)
  have hbad : (⟨0, 1, 6, (r.Y.length : Int), r.nodes, r.nodes + 1⟩ : Pl).bad = true := by
    unfold Pl.bad
    simp only [Bool.or_eq_true, decide_eq_true_eq]
    omega
  rw [lookV]
  simp only [List.find?_cons, hgood, hbad]
  rfl
end Go.Proofs.YtnkcmlngoeofgaaDoor
/- GraphFirst's ahead. -/
namespace Go.Proofs.YtnkcmlngoeofgaaDoor
open Go.RowKit
/-- is a violation (phase, index, field) ahead of another one? -/
def aheadB (a b : Int × Int × Int) : Bool := if a.1 = b.1 then (if a.2.1 = b.2.1 then decide (a.2.2 < b.2.2) else decide (a.2.1 < b.2.1)) else decide (a.1 < b.1)
set_option maxHeartbeats 4000000 in
theorem ahead_any (a0 a1 a2 a3 b0 b1 b2 b3 : Int) (w : World) : Calls Tryd.prog 17 #[.agg #[.int .i64 a0, .int .i64 a1, .int .i64 a2, .int .i64 a3], .agg #[.int .i64 b0, .int .i64 b1, .int .i64 b2, .int .i64 b3]] w fun e w' => e = .returned (.bool (aheadB (a0, a1, a2) (b0, b1, b2))) ∧ Below w.heap.size w w' := by
  obtain ⟨B1, hB1⟩ : ∃ b, b = w.heap.size := ⟨_, rfl⟩
  obtain ⟨B2, hB2⟩ : ∃ b, b = w.heap.size + 1 := ⟨_, rfl⟩
  obtain ⟨w1, hw1⟩ : ∃ u, u = (w.alloc (.cells #[.int .i64 a0, .int .i64 a1, .int .i64 a2, .int .i64 a3] 35)).alloc (.cells #[.int .i64 b0, .int .i64 b1, .int .i64 b2, .int .i64 b3] 35) := ⟨_, rfl⟩
  have hb1 : Below w.heap.size w w1 := by rw [hw1]; exact ((Below.refl _ _).alloc (Nat.le_refl _) _).alloc (by simp) _
  have K1 : Blk w1 B1 #[.int .i64 a0, .int .i64 a1, .int .i64 a2, .int .i64 a3] 35 (0, 0) := by rw [hw1, hB1]; exact (Blk.new _ _ _ _).alloc _
  have K2 : Blk w1 B2 #[.int .i64 b0, .int .i64 b1, .int .i64 b2, .int .i64 b3] 35 (0, 0) := by
    rw [hw1, hB2]
    have h := Blk.new (w.alloc (.cells #[.int .i64 a0, .int .i64 a1, .int .i64 a2, .int .i64 a3] 35)) #[.int .i64 b0, .int .i64 b1, .int .i64 b2, .int .i64 b3] 35 (0, 0)
    rwa [World.size_alloc] at h
  have HW1 := Lib.hid hw1; have HE1 := Lib.hid hB1; have HE2 := Lib.hid hB2; have HB := Lib.hid hb1
  have c0 := K1.cell 0; have c1 := K1.cell 1; have c2 := K1.cell 2
  have d0 := K2.cell 0; have d1 := K2.cell 1; have d2 := K2.cell 2
  simp only [List.getElem?_toArray, List.getElem?_cons_succ, List.getElem?_cons_zero] at c0 c1 c2 d0 d1 d2
  clear K1 K2 hw1 hb1 hB1 hB2
  go_enter Tryd.func17, Tryd.ntmps17
  go_upto_region 1 with fail
  rw [← HW1.out, ← HE2.out, ← HE1.out]
  by_cases h0 : a0 = b0
  case neg =>
    have q0 : (a0 != b0) = true := by simpa using h0
    have hs : aheadB (a0, a1, a2) (b0, b1, b2) = decide (a0 < b0) := by unfold aheadB; rw [if_neg h0]
    have HS := Lib.hid hs
    clear hs h0
    go_wp2_with fail
    go_ret
    exact ⟨by rw [HS.out]; first | done | rfl, HB.out⟩
  have q0 : (a0 != b0) = false := by simpa using h0
  have H0 := Lib.hid h0
  clear h0
  by_cases h1 : a1 = b1
  case neg =>
    have q1 : (a1 != b1) = true := by simpa using h1
    have hs : aheadB (a0, a1, a2) (b0, b1, b2) = decide (a1 < b1) := by unfold aheadB; rw [if_pos H0.out, if_neg h1]
    have HS := Lib.hid hs
    clear hs h1
    go_wp2_with fail
    go_ret
    exact ⟨by rw [HS.out]; first | done | rfl, HB.out⟩
  have q1 : (a1 != b1) = false := by simpa using h1
  have hs : aheadB (a0, a1, a2) (b0, b1, b2) = decide (a2 < b2) := by unfold aheadB; rw [if_pos H0.out, if_pos h1]
  have HS := Lib.hid hs
  clear hs h1
  go_wp2_with fail
  go_ret
  exact ⟨by rw [HS.out]; first | done | rfl, HB.out⟩
end Go.Proofs.YtnkcmlngoeofgaaDoor
/- GraphFirst, in plain words: of two bad places the first one is told. -/
namespace Go.Proofs.YtnkcmlngoeofgaaDoor
open Go.RowKit
/-- may that number be, in a list of that kind? (0: X, 1: Y, 2: From, 3: To, 4: Weight) -/
def goodU (n : Int) (t : Nat) (u : Int) : Prop := if t ≤ 1 then coordOk u else if t ≤ 3 then 0 ≤ u ∧ u < n else 0 ≤ u ∧ u < 2147483648
def getK (r : Raw) (t i : Nat) : Int := if t = 0 then r.X[i]?.getD 0 else if t = 1 then r.Y[i]?.getD 0 else if t = 2 then (r.arcs[i]?.getD (0, 0, 0)).1 else if t = 3 then (r.arcs[i]?.getD (0, 0, 0)).2.1 else (r.arcs[i]?.getD (0, 0, 0)).2.2
def setK (r : Raw) (t i : Nat) (u : Int) : Raw := if t = 0 then { r with X := r.X.set i u } else if t = 1 then { r with Y := r.Y.set i u } else { r with arcs := r.arcs.set i (setArc (t - 2) u (r.arcs[i]?.getD (0, 0, 0))) }
def lenK (r : Raw) (t : Nat) : Nat := if t = 0 then r.X.length else if t = 1 then r.Y.length else r.arcs.length
def posK (t i : Nat) : Int × Int × Int := if t ≤ 1 then (2, (i : Int), (t : Int)) else (4, (i : Int), (t : Int) - 2)
def codeK (t : Nat) : Int := if t ≤ 1 then 7 else if t ≤ 3 then 9 else 10
theorem getK_set (r : Raw) {t t' i i' : Nat} (u : Int) (ht : t ≤ 4) (ht' : t' ≤ 4) (hi : i < lenK r t) : getK (setK r t i u) t' i' = if t' = t ∧ i' = i then u else getK r t' i' := by
  have h5 : t = 0 ∨ t = 1 ∨ t = 2 ∨ t = 3 ∨ t = 4 := by omega
  have h5' : t' = 0 ∨ t' = 1 ∨ t' = 2 ∨ t' = 3 ∨ t' = 4 := by omega
  have sx : ∀ (L : List Int), i < L.length → (L.set i u)[i']?.getD 0 = if i' = i then u else L[i']?.getD 0 := fun L hL => by
    rw [List.getElem?_set]
    by_cases h : i = i'
    · subst h; simp [hL]
    · rw [if_neg h, if_neg (fun e => h e.symm)]
  have sa : ∀ (a : Ar), i < r.arcs.length → (r.arcs.set i a)[i']?.getD (0, 0, 0) = if i' = i then a else r.arcs[i']?.getD (0, 0, 0) := fun a hL => by
    rw [List.getElem?_set]
    by_cases h : i = i'
    · subst h; simp [hL]
    · rw [if_neg h, if_neg (fun e => h e.symm)]
  by_cases h : i' = i
  · subst h
    rcases h5 with rfl | rfl | rfl | rfl | rfl <;> rcases h5' with rfl | rfl | rfl | rfl | rfl <;> simp [lenK] at hi <;> simp [getK, setK, setArc, hi]
  · rcases h5 with rfl | rfl | rfl | rfl | rfl <;> rcases h5' with rfl | rfl | rfl | rfl | rfl <;> simp [lenK] at hi <;> simp [getK, setK, setArc, sx, sa, hi, h]
theorem setK_nodes (r : Raw) (t i : Nat) (u : Int) : (setK r t i u).nodes = r.nodes := by unfold setK; split <;> (try split) <;> rfl
theorem setK_len (r : Raw) (t i : Nat) (u : Int) : (setK r t i u).X.length = r.X.length ∧ (setK r t i u).Y.length = r.Y.length ∧ (setK r t i u).arcs.length = r.arcs.length := by
  unfold setK; split <;> (try split) <;> simp
theorem setK_sized {r : Raw} (h : r.sized) (t i : Nat) (u : Int) : (setK r t i u).sized := by
  obtain ⟨h1, h2, h3⟩ := h
  obtain ⟨l1, l2, l3⟩ := setK_len r t i u
  exact ⟨by rw [setK_nodes]; exact h1, by rw [setK_nodes, l1]; exact h2, by rw [setK_nodes, l2]; exact h3⟩
/-- of a graph whose lengths are right the first bad place is told -/
theorem first_place {r : Raw} (h : r.sized) (hl : r.arcs.length ≤ 67108864) {t i : Nat} (ht : t ≤ 4) (hi : i < lenK r t) (hg : ∀ t' i', t' ≤ 4 → aheadB (posK t' i') (posK t i) = true → goodU r.nodes t' (getK r t' i')) (hb : ¬ goodU r.nodes t (getK r t i)) : r.wrong = (codeK t, posK t i) := by
  have h5 : t = 0 ∨ t = 1 ∨ t = 2 ∨ t = 3 ∨ t = 4 := by omega
  have hlen : r.Y.length = r.X.length := by have := h.2.1; have := h.2.2; omega
  have gx := fun j => hg 0 j (by omega); have gy := fun j => hg 1 j (by omega); have g2 := fun j => hg 2 j (by omega); have g3 := fun j => hg 3 j (by omega); have g4 := fun j => hg 4 j (by omega)
  simp only [posK, aheadB, goodU, getK] at gx gy g2 g3 g4 hb
  have nOk : ∀ m : Nat, (∀ j : Nat, j < m → coordOk (r.X[j]?.getD 0) ∧ coordOk (r.Y[j]?.getD 0)) → nodesOk r m := fun m hm j hj => hm j hj
  rcases h5 with rfl | rfl | rfl | rfl | rfl
  · simp [lenK] at hi
    simp at gx gy hb
    exact first_x h hi (fun j hj => ⟨(by first | exact gx j hj | exact gx j (by omega) hj | exact gx j (by omega) (by omega) | exact gx j | (refine gx j ?_; split <;> omega) | (refine gx j ?_; omega)), (by first | exact gy j hj | exact gy j (by omega) hj | exact gy j (by omega) (by omega) | exact gy j | (refine gy j ?_; split <;> omega) | (refine gy j ?_; omega))⟩) hb
  · simp [lenK] at hi
    simp at gx gy hb
    exact first_y h (by omega) (fun j hj => ⟨(by first | exact gx j hj | exact gx j (by omega) hj | exact gx j (by omega) (by omega) | exact gx j | (refine gx j ?_; split <;> omega) | (refine gx j ?_; omega)), (by first | exact gy j hj | exact gy j (by omega) hj | exact gy j (by omega) (by omega) | exact gy j | (refine gy j ?_; split <;> omega) | (refine gy j ?_; omega))⟩) (by first | exact gx i | exact gx i (by simp) | exact gx | (refine gx i ?_; split <;> omega) | (refine gx i ?_; omega)) hb
  · simp [lenK] at hi
    simp at gx gy g2 g3 g4 hb
    exact first_from h (fun j hj => ⟨(by first | exact gx j hj | exact gx j (by omega) hj | exact gx j (by omega) (by omega) | exact gx j | (refine gx j ?_; split <;> omega) | (refine gx j ?_; omega)), (by first | exact gy j hj | exact gy j (by omega) hj | exact gy j (by omega) (by omega) | exact gy j | (refine gy j ?_; split <;> omega) | (refine gy j ?_; omega))⟩) hl hi (fun j hj => ⟨(by first | exact g2 j hj | exact g2 j (by omega) hj | exact g2 j (by omega) (by omega) | exact g2 j | (refine g2 j ?_; split <;> omega) | (refine g2 j ?_; omega)), (by first | exact g3 j hj | exact g3 j (by omega) hj | exact g3 j (by omega) (by omega) | exact g3 j | (refine g3 j ?_; split <;> omega) | (refine g3 j ?_; omega)), (by first | exact g4 j hj | exact g4 j (by omega) hj | exact g4 j (by omega) (by omega) | exact g4 j | (refine g4 j ?_; split <;> omega) | (refine g4 j ?_; omega))⟩) (by omega)
  · simp [lenK] at hi
    simp at gx gy g2 g3 g4 hb
    exact first_to h (fun j hj => ⟨(by first | exact gx j hj | exact gx j (by omega) hj | exact gx j (by omega) (by omega) | exact gx j | (refine gx j ?_; split <;> omega) | (refine gx j ?_; omega)), (by first | exact gy j hj | exact gy j (by omega) hj | exact gy j (by omega) (by omega) | exact gy j | (refine gy j ?_; split <;> omega) | (refine gy j ?_; omega))⟩) hl hi (fun j hj => ⟨(by first | exact g2 j hj | exact g2 j (by omega) hj | exact g2 j (by omega) (by omega) | exact g2 j | (refine g2 j ?_; split <;> omega) | (refine g2 j ?_; omega)), (by first | exact g3 j hj | exact g3 j (by omega) hj | exact g3 j (by omega) (by omega) | exact g3 j | (refine g3 j ?_; split <;> omega) | (refine g3 j ?_; omega)), (by first | exact g4 j hj | exact g4 j (by omega) hj | exact g4 j (by omega) (by omega) | exact g4 j | (refine g4 j ?_; split <;> omega) | (refine g4 j ?_; omega))⟩) (by first | exact g2 i | exact g2 i (by simp) | exact g2 | (refine g2 i ?_; split <;> omega) | (refine g2 i ?_; omega)) (by omega)
  · simp [lenK] at hi
    simp at gx gy g2 g3 g4 hb
    exact first_weight h (fun j hj => ⟨(by first | exact gx j hj | exact gx j (by omega) hj | exact gx j (by omega) (by omega) | exact gx j | (refine gx j ?_; split <;> omega) | (refine gx j ?_; omega)), (by first | exact gy j hj | exact gy j (by omega) hj | exact gy j (by omega) (by omega) | exact gy j | (refine gy j ?_; split <;> omega) | (refine gy j ?_; omega))⟩) hl hi (fun j hj => ⟨(by first | exact g2 j hj | exact g2 j (by omega) hj | exact g2 j (by omega) (by omega) | exact g2 j | (refine g2 j ?_; split <;> omega) | (refine g2 j ?_; omega)), (by first | exact g3 j hj | exact g3 j (by omega) hj | exact g3 j (by omega) (by omega) | exact g3 j | (refine g3 j ?_; split <;> omega) | (refine g3 j ?_; omega)), (by first | exact g4 j hj | exact g4 j (by omega) hj | exact g4 j (by omega) (by omega) | exact g4 j | (refine g4 j ?_; split <;> omega) | (refine g4 j ?_; omega))⟩) (by first | exact g2 i | exact g2 i (by simp) | exact g2 | (refine g2 i ?_; split <;> omega) | (refine g2 i ?_; omega)) (by first | exact g3 i | exact g3 i (by simp) | exact g3 | (refine g3 i ?_; split <;> omega) | (refine g3 i ?_; omega)) (by omega)
theorem ok_good {r : Raw} (h : r.Ok) (t i : Nat) : goodU r.nodes t (getK r t i) := by
  have hn := h.nodes
  have hX : coordOk (r.X[i]?.getD 0) := by
    rcases Nat.lt_or_ge i r.X.length with hi | hi
    · rw [List.getElem?_eq_getElem hi]; exact h.x _ (List.getElem_mem hi)
    · rw [List.getElem?_eq_none hi]; exact ⟨by decide, by decide⟩
  have hY : coordOk (r.Y[i]?.getD 0) := by
    rcases Nat.lt_or_ge i r.Y.length with hi | hi
    · rw [List.getElem?_eq_getElem hi]; exact h.y _ (List.getElem_mem hi)
    · rw [List.getElem?_eq_none hi]; exact ⟨by decide, by decide⟩
  have hA : arcOk r.nodes (r.arcs[i]?.getD (0, 0, 0)) := by
    rcases Nat.lt_or_ge i r.arcs.length with hi | hi
    · rw [List.getElem?_eq_getElem hi]; exact h.arc _ (List.getElem_mem hi)
    · rw [List.getElem?_eq_none hi]
      exact ⟨⟨Int.le_refl _, by show (0 : Int) < _; omega⟩, ⟨Int.le_refl _, by show (0 : Int) < _; omega⟩, ⟨Int.le_refl _, by show (0 : Int) < _; omega⟩⟩
  obtain ⟨h1, h2, h3⟩ := hA
  unfold goodU getK
  split
  · split
    · exact hX
    · split
      · exact hY
      · omega
  · split
    · split
      · omega
      · split
        · omega
        · split
          · exact h1
          · split
            · exact h2
            · omega
    · split
      · omega
      · split
        · omega
        · split
          · omega
          · split
            · omega
            · exact h3
/-- a place, and a number that may not be there -/
structure Bad (r : Raw) (t i : Nat) (u : Int) : Prop where
  kind : t ≤ 4
  lt : i < lenK r t
  bad : ¬ goodU r.nodes t u
theorem Bad.set {r : Raw} {t i : Nat} {u : Int} (h : Bad r t i u) (t' i' : Nat) (u' : Int) : Bad (setK r t' i' u') t i u := by
  obtain ⟨l1, l2, l3⟩ := setK_len r t' i' u'
  refine ⟨h.kind, ?_, by rw [setK_nodes]; exact h.bad⟩
  have := h.lt
  unfold lenK at this ⊢
  rw [l1, l2, l3]; exact this
theorem ahead_asymm {a b : Int × Int × Int} (h : aheadB a b = true) : aheadB b a = false := by
  unfold aheadB at h ⊢
  split at h
  · rename_i e
    rw [if_pos e.symm]
    split at h
    · rename_i e2
      rw [if_pos e2.symm]
      simp only [decide_eq_true_eq, decide_eq_false_iff_not] at h ⊢; omega
    · rename_i e2
      rw [if_neg (fun x => e2 x.symm)]
      simp only [decide_eq_true_eq, decide_eq_false_iff_not] at h ⊢; omega
  · rename_i e
    rw [if_neg (fun x => e x.symm)]
    simp only [decide_eq_true_eq, decide_eq_false_iff_not] at h ⊢; omega
theorem ahead_irr (a : Int × Int × Int) : aheadB a a = false := by unfold aheadB; simp
/-- THE STAGE'S THEOREM: of two bad places the first one is told -/
theorem first_of_two {g : Raw} (hk : g.Ok) {t1 i1 t2 i2 : Nat} {u1 u2 : Int} (h1 : Bad g t1 i1 u1) (h2 : Bad g t2 i2 u2) :
    (setK (setK g t1 i1 u1) t2 i2 u2).wrong = if aheadB (posK t2 i2) (posK t1 i1) = true then (codeK t2, posK t2 i2) else (codeK t1, posK t1 i1) := by
  have hs : g.sized := ⟨hk.nodes, hk.lenX, hk.lenY⟩
  have hs2 := setK_sized (setK_sized hs t1 i1 u1) t2 i2 u2
  have hl : (setK (setK g t1 i1 u1) t2 i2 u2).arcs.length ≤ 67108864 := by
    rw [(setK_len _ _ _ _).2.2, (setK_len _ _ _ _).2.2]; exact hk.arcs
  have e2 : ∀ t i, t ≤ 4 → getK (setK (setK g t1 i1 u1) t2 i2 u2) t i = if t = t2 ∧ i = i2 then u2 else if t = t1 ∧ i = i1 then u1 else getK g t i := fun t i ht => by
    rw [getK_set _ _ h2.kind ht (h2.set t1 i1 u1).lt, getK_set _ _ h1.kind ht h1.lt]
  have hn : (setK (setK g t1 i1 u1) t2 i2 u2).nodes = g.nodes := by rw [setK_nodes, setK_nodes]
  split
  · rename_i ha
    refine first_place hs2 hl h2.kind ((h2.set t1 i1 u1).set t2 i2 u2).lt (fun t' i' ht' ha' => ?_) ?_
    · rw [hn, e2 _ _ ht']
      split
      · rename_i e
        rw [e.1, e.2, ahead_irr] at ha'; cases ha'
      · split
        · rename_i e
          rw [e.1, e.2, ahead_asymm ha] at ha'; cases ha'
        · exact ok_good hk _ _
    · rw [hn, e2 _ _ h2.kind, if_pos ⟨rfl, rfl⟩]; exact h2.bad
  · rename_i ha
    refine first_place hs2 hl h1.kind ((h1.set t1 i1 u1).set t2 i2 u2).lt (fun t' i' ht' ha' => ?_) ?_
    · rw [hn, e2 _ _ ht']
      split
      · rename_i e
        rw [e.1, e.2] at ha'; exact absurd ha' ha
      · split
        · rename_i e
          rw [e.1, e.2, ahead_irr] at ha'; cases ha'
        · exact ok_good hk _ _
    · rw [hn, e2 _ _ h1.kind]
      split
      · rename_i e
        have := h2.bad
        rwa [← e.1] at this
      · rw [if_pos ⟨rfl, rfl⟩]; exact h1.bad
end Go.Proofs.YtnkcmlngoeofgaaDoor
