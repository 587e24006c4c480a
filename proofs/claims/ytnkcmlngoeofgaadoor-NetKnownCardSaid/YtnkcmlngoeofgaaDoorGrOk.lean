/- a graph that may be: what Check's nil says; a list's element another one. -/
import Derived.Test.YtnkcmlngoeofgaaDoorGrMove
import Derived.Test.YtnkcmlngoeofgaaDoorGrFails
namespace Go.Proofs.YtnkcmlngoeofgaaDoor
open Go.RowKit
/-- a graph that may be -/
def Raw.ok (r : Raw) : Prop := lookV (phases r.nodes r.X r.Y r.arcs) 0 = none
theorem lookV_none : ∀ {L : List (List Pl)} {j : Nat}, lookV L j = none → ∀ ps ∈ L, ∀ p ∈ ps, p.bad = false
  | [], _, _, ps, h => by cases h
  | qs :: L, j, h, ps, hps => by
    rw [lookV] at h
    split at h
    · cases h
    · rename_i hq
      intro p hp
      rcases List.mem_cons.1 hps with rfl | hps
      · have := List.find?_eq_none.1 hq p hp
        simpa using this
      · exact lookV_none h ps hps p hp
theorem none_lookV : ∀ {L : List (List Pl)} {j : Nat}, (∀ ps ∈ L, ∀ p ∈ ps, p.bad = false) → lookV L j = none
  | [], _, _ => rfl
  | qs :: L, j, h => by rw [lookV_cons (find_none (h qs (by simp)))]; exact none_lookV fun ps hps => h ps (by simp [hps])
theorem nodesP_mem (X Y : List Int) : ∀ (k i : Nat), i < k → ∀ p ∈ nodeP i (X[i]?.getD 0, Y[i]?.getD 0), p ∈ nodesP X Y k
  | k + 1, i, hi, p, hp => by
    refine List.mem_append.2 ?_
    rcases Nat.lt_or_ge i k with h | h
    · exact .inl (nodesP_mem X Y k i h p hp)
    · obtain rfl : i = k := by omega
      exact .inr hp
theorem mem_nodesP (X Y : List Int) : ∀ (k : Nat), ∀ p ∈ nodesP X Y k, ∃ i, i < k ∧ p ∈ nodeP i (X[i]?.getD 0, Y[i]?.getD 0)
  | 0, p, hp => by cases hp
  | k + 1, p, hp => by
    rcases List.mem_append.1 hp with h | h
    · obtain ⟨i, hi, hp⟩ := mem_nodesP X Y k p h
      exact ⟨i, by omega, hp⟩
    · exact ⟨k, by omega, h⟩
theorem arcsP_mem (n : Int) (L : List Ar) : ∀ (k i : Nat), i < k → ∀ p ∈ arcP n i (L[i]?.getD (0, 0, 0)), p ∈ arcsP n L k
  | k + 1, i, hi, p, hp => by
    refine List.mem_append.2 ?_
    rcases Nat.lt_or_ge i k with h | h
    · exact .inl (arcsP_mem n L k i h p hp)
    · obtain rfl : i = k := by omega
      exact .inr hp
theorem mem_arcsP (n : Int) (L : List Ar) : ∀ (k : Nat), ∀ p ∈ arcsP n L k, ∃ i, i < k ∧ p ∈ arcP n i (L[i]?.getD (0, 0, 0))
  | 0, p, hp => by cases hp
  | k + 1, p, hp => by
    rcases List.mem_append.1 hp with h | h
    · obtain ⟨i, hi, hp⟩ := mem_arcsP n L k p h
      exact ⟨i, by omega, hp⟩
    · exact ⟨k, by omega, h⟩
/-- a coordinate, an end, a weight that may be -/
def coordOk (x : Int) : Prop := -2147483648 ≤ x ∧ x < 2147483648
def arcOk (n : Int) (a : Ar) : Prop := (0 ≤ a.1 ∧ a.1 < n) ∧ (0 ≤ a.2.1 ∧ a.2.1 < n) ∧ (0 ≤ a.2.2 ∧ a.2.2 < 2147483648)
/-- it in plain words -/
structure Raw.Ok (r : Raw) : Prop where
  nodes : 1 ≤ r.nodes ∧ r.nodes ≤ 16777216
  lenX : (r.X.length : Int) = r.nodes
  lenY : (r.Y.length : Int) = r.nodes
  x : ∀ x ∈ r.X, coordOk x
  y : ∀ y ∈ r.Y, coordOk y
  arcs : r.arcs.length ≤ 67108864
  arc : ∀ a ∈ r.arcs, arcOk r.nodes a
theorem good_of {p : Pl} (h : p.lo ≤ p.n ∧ p.n < p.hi) : p.bad = false := by
  unfold Pl.bad
  simp only [Bool.or_eq_false_iff, decide_eq_false_iff_not]
  omega
theorem Raw.ok_iff (r : Raw) : r.ok ↔ r.Ok := by
  constructor
  · intro h
    have h0 := lookV_none h
    simp only [phases, List.mem_cons, List.not_mem_nil, or_false] at h0
    have a1 := bad_out (h0 _ (.inl rfl) ⟨0, 0, 5, r.nodes, 1, 16777217⟩ (by simp))
    have a2 := bad_out (h0 _ (.inr (.inl rfl)) ⟨0, 0, 6, r.X.length, r.nodes, r.nodes + 1⟩ (by simp))
    have a3 := bad_out (h0 _ (.inr (.inl rfl)) ⟨0, 1, 6, r.Y.length, r.nodes, r.nodes + 1⟩ (by simp))
    have a4 := fun p hp => bad_out (h0 _ (.inr (.inr (.inl rfl))) p hp)
    have a5 := bad_out (h0 _ (.inr (.inr (.inr (.inl rfl)))) ⟨0, 0, 8, r.arcs.length, 0, 67108865⟩ (by simp))
    have a6 := fun p hp => bad_out (h0 _ (.inr (.inr (.inr (.inr rfl)))) p hp)
    dsimp only at a1 a2 a3 a5
    have hxy : r.X.length = r.Y.length := by omega
    refine ⟨by omega, by omega, by omega, fun x hx => ?_, fun y hy => ?_, by omega, fun a ha => ?_⟩
    · obtain ⟨i, hi, rfl⟩ := List.mem_iff_getElem.1 hx
      have := a4 _ (nodesP_mem r.X r.Y r.X.length i hi ⟨i, 0, 7, r.X[i]?.getD 0, -2147483648, 2147483648⟩ (by simp [nodeP]))
      rw [List.getElem?_eq_getElem hi] at this
      exact this
    · obtain ⟨i, hi, rfl⟩ := List.mem_iff_getElem.1 hy
      have := a4 _ (nodesP_mem r.X r.Y r.X.length i (by omega) ⟨i, 1, 7, r.Y[i]?.getD 0, -2147483648, 2147483648⟩ (by simp [nodeP]))
      rw [List.getElem?_eq_getElem hi] at this
      exact this
    · obtain ⟨i, hi, rfl⟩ := List.mem_iff_getElem.1 ha
      have b1 := a6 _ (arcsP_mem r.nodes r.arcs r.arcs.length i hi ⟨i, 0, 9, (r.arcs[i]?.getD (0, 0, 0)).1, 0, r.nodes⟩ (by simp [arcP]))
      have b2 := a6 _ (arcsP_mem r.nodes r.arcs r.arcs.length i hi ⟨i, 1, 9, (r.arcs[i]?.getD (0, 0, 0)).2.1, 0, r.nodes⟩ (by simp [arcP]))
      have b3 := a6 _ (arcsP_mem r.nodes r.arcs r.arcs.length i hi ⟨i, 2, 10, (r.arcs[i]?.getD (0, 0, 0)).2.2, 0, 2147483648⟩ (by simp [arcP]))
      rw [List.getElem?_eq_getElem hi] at b1 b2 b3
      exact ⟨b1, b2, b3⟩
  · intro h
    refine none_lookV fun ps hps p hp => ?_
    simp only [phases, List.mem_cons, List.not_mem_nil, or_false] at hps
    have h1 := h.nodes; have h2 := h.lenX; have h3 := h.lenY; have h4 := h.arcs
    rcases hps with rfl | rfl | rfl | rfl | rfl
    · simp only [List.mem_cons, List.not_mem_nil, or_false] at hp; subst hp; exact good_of (by dsimp only; omega)
    · simp only [List.mem_cons, List.not_mem_nil, or_false] at hp; rcases hp with rfl | rfl <;> exact good_of (by dsimp only; omega)
    · obtain ⟨i, hi, hp⟩ := mem_nodesP _ _ _ _ hp
      have hy : i < r.Y.length := by omega
      rw [List.getElem?_eq_getElem hi, List.getElem?_eq_getElem hy] at hp
      simp only [nodeP, Option.getD_some, List.mem_cons, List.not_mem_nil, or_false] at hp
      rcases hp with rfl | rfl
      · exact good_of (h.x _ (List.getElem_mem hi))
      · exact good_of (h.y _ (List.getElem_mem hy))
    · simp only [List.mem_cons, List.not_mem_nil, or_false] at hp; subst hp; exact good_of (by dsimp only; omega)
    · obtain ⟨i, hi, hp⟩ := mem_arcsP _ _ _ _ hp
      rw [List.getElem?_eq_getElem hi] at hp
      have ha := h.arc _ (List.getElem_mem hi)
      simp only [arcP, Option.getD_some, List.mem_cons, List.not_mem_nil, or_false] at hp
      rcases hp with rfl | rfl | rfl
      · exact good_of ha.1
      · exact good_of ha.2.1
      · exact good_of ha.2.2
theorem Raw.wrong_zero (r : Raw) : r.wrong.1 = 0 ↔ r.ok := by
  unfold Raw.wrong Raw.ok
  cases h : lookV (phases r.nodes r.X r.Y r.arcs) 0 with
  | none => simp [faultOf]
  | some kp =>
    obtain ⟨k, p⟩ := kp
    simp only [faultOf]
    exact ⟨fun e => (lookV_co h e).elim, fun e => by cases e⟩
theorem Raw.ok_wrong {r : Raw} (h : r.ok) : r.wrong = (0, 0, 0, 0) := by unfold Raw.wrong; rw [show lookV _ 0 = none from h]; rfl
theorem inC_set (L : List Int) (k : Nat) (u : Int) (hk : k < L.length) : (L.flatMap inC).set k (.int .i64 u) = (L.set k u).flatMap inC := by
  have h := flat_set 1 inC inC_len L k 0 u (.int .i64 u) hk (by omega) (fun x _ => rfl)
  rwa [Nat.mul_one, Nat.add_zero] at h
theorem OutI.setX {w1 W : World} {Bo : Nat} {vy va : Value} {g n cap : Nat} {r : Raw} (h : OutI w1 Bo (.slice (some ⟨g, 0, none⟩) n cap) vy va r W) (hn : r.X.length = n) (k : Nat) (hk : k < r.X.length) (u : Int) :
    OutI w1 Bo (.slice (some ⟨g, 0, none⟩) n cap) vy va { r with X := r.X.set k u } (W.setCell ⟨g, k, none⟩ (.int .i64 u)) := by
  have hown := h.own.1
  obtain ⟨hgb, cur, hc⟩ := ownsRow_blk' hown (g := g) rfl
  have hgBo : Bo ≠ g := fun e => by
    subst e
    have e2 := (show W.heap[Bo]? = some _ from h.blk).symm.trans (show W.heap[Bo]? = some _ from hc)
    cases e2
  have oy := ownsRow_agree' h.own.2.1 (w' := W.setCell ⟨g, k, none⟩ (.int .i64 u)) fun b hb => heap_setCell_other _ _ _ _ (fun e => h.own.2.2.2 g rfl (by rw [hb]; exact congrArg some e))
  have oa := ownsRow_set h.own.2.2.1 (p := ⟨g, k, none⟩) hc (by decide) (.int .i64 u)
  have ox := ownsRow_setAt (n := n) (by rw [← hn]; rw [← hn] at hown; exact hown) k (.int .i64 u)
  rw [inC_set _ _ _ hk] at ox
  refine ⟨h.blk.setOther ⟨g, k, none⟩ (.int .i64 u) hgBo, ⟨?_, oy, oa, h.own.2.2.2⟩, ?_⟩
  · show World.ownsRow _ _ _ _ _ (r.X.set k _).length _
    rw [List.length_set, hn]; exact ox
  · have hk := h.kept
    exact ⟨hk.os, hk.tape, hk.output, by simpa using hk.size, fun j hj hs => (heap_setCell_other _ _ _ _ (show j ≠ g by omega)).trans (hk.block j hj hs)⟩
theorem OutI.setY {w1 W : World} {Bo : Nat} {vx va : Value} {g n cap : Nat} {r : Raw} (h : OutI w1 Bo vx (.slice (some ⟨g, 0, none⟩) n cap) va r W) (hn : r.Y.length = n) (k : Nat) (hk : k < r.Y.length) (u : Int) :
    OutI w1 Bo vx (.slice (some ⟨g, 0, none⟩) n cap) va { r with Y := r.Y.set k u } (W.setCell ⟨g, k, none⟩ (.int .i64 u)) := by
  have hown := h.own.2.1
  obtain ⟨hgb, cur, hc⟩ := ownsRow_blk' hown (g := g) rfl
  have hgBo : Bo ≠ g := fun e => by
    subst e
    have e2 := (show W.heap[Bo]? = some _ from h.blk).symm.trans (show W.heap[Bo]? = some _ from hc)
    cases e2
  have ox := ownsRow_agree' h.own.1 (w' := W.setCell ⟨g, k, none⟩ (.int .i64 u)) fun b hb => heap_setCell_other _ _ _ _ (fun e => h.own.2.2.2 b hb (by rw [e]; rfl))
  have oa := ownsRow_set h.own.2.2.1 (p := ⟨g, k, none⟩) hc (by decide) (.int .i64 u)
  have oy := ownsRow_setAt (n := n) (by rw [← hn]; rw [← hn] at hown; exact hown) k (.int .i64 u)
  rw [inC_set _ _ _ hk] at oy
  refine ⟨h.blk.setOther ⟨g, k, none⟩ (.int .i64 u) hgBo, ⟨ox, ?_, oa, h.own.2.2.2⟩, ?_⟩
  · show World.ownsRow _ _ _ _ _ (r.Y.set k _).length _
    rw [List.length_set, hn]; exact oy
  · have hk := h.kept
    exact ⟨hk.os, hk.tape, hk.output, by simpa using hk.size, fun j hj hs => (heap_setCell_other _ _ _ _ (show j ≠ g by omega)).trans (hk.block j hj hs)⟩
/-- moved: what was at v is at the place of v's other number -/
structure MovedTo (by_ : Int) (r r' : Raw) : Prop where
  nodes : r'.nodes = r.nodes
  lenX : r'.X.length = r.X.length
  lenY : r'.Y.length = r.Y.length
  x : ∀ v : Nat, (v : Int) < r.nodes → r'.X[(mvI r.nodes by_ v).toNat]? = r.X[v]?
  y : ∀ v : Nat, (v : Int) < r.nodes → r'.Y[(mvI r.nodes by_ v).toNat]? = r.Y[v]?
  arcs : r'.arcs = r.arcs.map fun a => (mvI r.nodes by_ a.1, mvI r.nodes by_ a.2.1, a.2.2)
theorem mv_inj {n by_ u v : Int} (hu : 0 ≤ u ∧ u < n) (hv : 0 ≤ v ∧ v < n) (h : mvI n by_ u = mvI n by_ v) : u = v := by
  unfold mvI at h
  have h2 := Int.emod_emod_of_dvd
  have h1 := (Int.emod_eq_emod_iff_emod_sub_eq_zero).1 h
  rw [show u + by_ - (v + by_) = u - v by omega] at h1
  obtain ⟨c, hc⟩ := Int.dvd_of_emod_eq_zero h1
  have hc0 : c = 0 := by
    rcases Int.lt_trichotomy c 0 with h | h | h
    · have : n * c ≤ n * (-1) := Int.mul_le_mul_of_nonneg_left (by omega) (by omega)
      omega
    · exact h
    · have : n * 1 ≤ n * c := Int.mul_le_mul_of_nonneg_left (by omega) (by omega)
      omega
  rw [hc0] at hc; omega
end Go.Proofs.YtnkcmlngoeofgaaDoor
