/- slices of numbers and of arcs, as rows of cells: what reads, what is ours; append of a whole row onto ours. -/
import Derived.Test.YtnkcmlngoeofgaaDoorGrNodes
import Derived.Test.YtnkcmlngoeofgaaDoorOwn
import Derived.Maps.AppendAt
import Derived.Deep.AppendSrc
import Derived.Deep.AppendLies
namespace Go.Proofs.YtnkcmlngoeofgaaDoor
open Go.RowKit
/-- an arc's cells -/
def arC (a : Ar) : List Value := [.int .i64 a.1, .int .i64 a.2.1, .int .i64 a.2.2]
def inC (x : Int) : List Value := [.int .i64 x]
theorem flatN_get {α : Type} (m : Nat) (f : α → List Value) (hf : ∀ x, (f x).length = m) : ∀ (l : List α) (i d : Nat), d < m → (l.flatMap f)[i * m + d]? = (l[i]?).bind fun x => (f x)[d]? := by
  intro l
  induction l with
  | nil => intro i d _; simp
  | cons x l ih =>
    intro i d hd
    rw [List.flatMap_cons]
    cases i with
    | zero => rw [Nat.zero_mul, Nat.zero_add, List.getElem?_append_left (by rw [hf]; exact hd)]; rfl
    | succ i =>
      rw [List.getElem?_append_right (by rw [hf, Nat.succ_mul]; omega), hf, show (i + 1) * m + d - m = i * m + d by rw [Nat.succ_mul]; omega, ih i d hd]
      simp
theorem flatN_len {α : Type} (m : Nat) (f : α → List Value) (hf : ∀ x, (f x).length = m) (l : List α) : (l.flatMap f).length = l.length * m := by
  induction l with
  | nil => simp
  | cons x l ih => rw [List.flatMap_cons, List.length_append, hf, ih, List.length_cons, Nat.succ_mul]; omega
theorem inC_len (x : Int) : (inC x).length = 1 := rfl
theorem arC_len (x : Ar) : (arC x).length = 3 := rfl
/-- v is a slice whose cells are xs, k to an element -/
def SlF (k : Nat) (w : World) (v : Value) (n : Nat) (xs : List Value) : Prop :=
  xs.length = n * k ∧ (∀ u ∈ xs, u.oneCell' = true) ∧ ∃ a cap, v = .slice a n cap ∧ n ≤ cap ∧ cap ≤ maxLen ∧ ∀ j u, xs[j]? = some u → ∃ b off, a = some ⟨b, off, none⟩ ∧ w.cell? ⟨b, off + j, none⟩ = some u
theorem SlX.row {w : World} {v : Value} {L : List Int} (h : SlX w v L) : SlF 1 w v L.length (L.flatMap inC) := by
  obtain ⟨a, cap, rfl, h1, h2, h3⟩ := h
  refine ⟨flatN_len 1 inC inC_len L, fun u hu => ?_, a, cap, rfl, h1, h2, fun j u hu => ?_⟩
  · obtain ⟨x, _, hx⟩ := List.mem_flatMap.1 hu
    obtain rfl := List.mem_singleton.1 hx
    rfl
  · have e := flatN_get 1 inC inC_len L j 0 (by omega)
    rw [Nat.mul_one, Nat.add_zero, hu] at e
    have hj : j < L.length := by
      rcases Nat.lt_or_ge j L.length with h | h
      · exact h
      · rw [List.getElem?_eq_none h] at e; cases e
    rw [List.getElem?_eq_getElem hj] at e
    obtain rfl : u = .int .i64 L[j] := Option.some.inj e
    obtain ⟨b, off, cs, t, fr, ea, hb, hc⟩ := h3 j hj
    exact ⟨b, off, ea, by rw [hb.cell]; exact hc⟩
theorem SlA.row {w : World} {v : Value} {L : List Ar} (h : SlA w v L) : SlF 3 w v L.length (L.flatMap arC) := by
  obtain ⟨a, cap, rfl, h1, h2, h3⟩ := h
  refine ⟨flatN_len 3 arC arC_len L, fun u hu => ?_, a, cap, rfl, h1, h2, fun j u hu => ?_⟩
  · obtain ⟨x, _, hx⟩ := List.mem_flatMap.1 hu
    simp only [arC, List.mem_cons, List.not_mem_nil, or_false] at hx
    rcases hx with rfl | rfl | rfl <;> rfl
  · have hjl := (List.getElem?_eq_some_iff.1 hu).1
    rw [flatN_len 3 arC arC_len L] at hjl
    obtain ⟨i, d, rfl, hd⟩ : ∃ i d, j = i * 3 + d ∧ d < 3 := ⟨j / 3, j % 3, by omega, by omega⟩
    have hi : i < L.length := by omega
    rw [flatN_get 3 arC arC_len L i d hd, List.getElem?_eq_getElem hi] at hu
    obtain ⟨b, off, cs, t, fr, ea, hb, c0, c1, c2⟩ := h3 i hi
    refine ⟨b, off, ea, ?_⟩
    rw [hb.cell, ← hu]
    match d, hd with
    | 0, _ => exact c0
    | 1, _ => exact c1
    | 2, _ => exact c2
theorem slX_own {w : World} {base : Nat} {e : TypeId} {v : Value} {n : Nat} {L : List Int} (hn : L.length = n) (h : w.ownsRow base e 1 v n (L.flatMap inC)) : SlX w v L := by
  subst hn
  rcases id h.2 with ⟨hv, h0⟩ | ⟨g, cap, cur, hv, h1, h2, h3, h4, _⟩
  · exact ⟨none, 0, by rw [hv, h0], by omega, Nat.zero_le _, fun i hi => by omega⟩
  · subst hv
    refine ⟨_, cap, rfl, h3, h4, fun i hi => ⟨g, 0, cur, _, _, rfl, h2, ?_⟩⟩
    have h5 := h.cellAt i (by have := h.1; omega)
    have e := flatN_get 1 inC inC_len L i 0 (by omega)
    rw [Nat.mul_one, Nat.add_zero] at e
    rw [e, List.getElem?_eq_getElem hi, (show Blk w g cur _ _ from h2).cell] at h5
    rw [Nat.zero_add]; exact h5
theorem slA_own {w : World} {base : Nat} {e : TypeId} {v : Value} {n : Nat} {L : List Ar} (hn : L.length = n) (h : w.ownsRow base e 3 v n (L.flatMap arC)) : SlA w v L := by
  subst hn
  rcases id h.2 with ⟨hv, h0⟩ | ⟨g, cap, cur, hv, h1, h2, h3, h4, _⟩
  · exact ⟨none, 0, by rw [hv, h0], by omega, Nat.zero_le _, fun i hi => by omega⟩
  · subst hv
    have hc : ∀ i (hi : i < L.length) d, d < 3 → cur[0 + i * 3 + d]? = (arC L[i])[d]? := fun i hi d hd => by
      have h5 := h.cellAt (i * 3 + d) (by have := h.1; omega)
      rw [flatN_get 3 arC arC_len L i d hd, List.getElem?_eq_getElem hi, (show Blk w g cur _ _ from h2).cell] at h5
      rw [Nat.zero_add]; exact h5
    exact ⟨_, cap, rfl, h3, h4, fun i hi => ⟨g, 0, cur, _, _, rfl, h2, hc i hi 0 (by omega), hc i hi 1 (by omega), hc i hi 2 (by omega)⟩⟩
/-- append of a whole row onto ours -/
theorem run_append_row {P : Program} {w : World} (base : Nat) (t ty e : TypeId) (i : TypeInfo) (z : Value) (size bytes : Nat) (ht : P.underlying t = some (.slice e)) (hi : P.info? e = some i) (hz : i.zero = some z)
    (hsize : i.size = size) (hby : i.bytes = bytes) (hzs : z.cells.size = size) (hsz : 0 < size) (v : Value) (n : Nat) (xs : List Value) (hown : w.ownsRow base e size v n xs)
    (src : Value) (m : Nat) (news : List Value) (hs : SlF size w src m news) (h63 : n + m ≤ maxLen) (hbytes : (n + m) * bytes ≤ 140737488355328) (hbase : base ≤ w.heap.size) :
    ∃ v' w', (Builtin.append_ #[t, t] ty #[v, src]).run P w = .ok v' w' ∧ w'.ownsRow base e size v' (n + m) (xs ++ news) ∧ w.grownBy w' v.ownBlock ∧ (v'.ownBlock = v.ownBlock ∨ v'.ownBlock = some w.heap.size) ∧ (v ≠ .slice none 0 0 → v' ≠ .slice none 0 0) := by
  obtain ⟨hl, h1, a, cap, rfl, hc1, hc2, hcell⟩ := hs
  cases a with
  | some ad =>
    obtain ⟨v', w', hr, h2, h3, h4, h5⟩ := run_append_own_at (P := P) w base t ty e i z size bytes ht hi hz hsize hby hzs hsz v n xs hown ad m cap news hl (fun j u hu => by
      obtain ⟨b, off, ea, hc⟩ := hcell j u hu
      obtain rfl := Option.some.inj ea
      have : (⟨b, off, none⟩ : Addr).add j = ⟨b, off + j, none⟩ := by unfold Addr.add; split <;> simp_all
      rw [this]; exact hc) h1 h63 hbytes hbase
    exact ⟨v', w', hr, h2, h3, h5, fun hv hv' => hv (h4.1 hv').1⟩
  | none =>
    have hn0 : news = [] := by
      cases news with
      | nil => rfl
      | cons u us => obtain ⟨b, off, e, _⟩ := hcell 0 u rfl; cases e
    subst hn0
    have hm : m = 0 := by
      rcases Nat.eq_zero_or_pos m with h | h
      · exact h
      · have := Nat.mul_pos h hsz; simp at hl; omega
    subst hm
    rcases id hown.2 with ⟨hv, h0⟩ | ⟨g, c, cur, hv, hbg, hg, hnc, hcm, hcs, htake⟩
    · subst hv h0
      refine ⟨.slice none 0 0, w, ?_, by simpa using hown, ⟨rfl, rfl, rfl, Nat.le_refl _, fun _ _ _ => rfl⟩, .inl rfl, fun h => (h rfl).elim⟩
      have hs := Src.ofNil (P := P) w (size := i.size) (tx := t) ht cap
      simp [Builtin.append_, run_underlying ht, sizeOf, typeInfo, hi, hs.len, hs.cells]
    · subst hv
      have hr := run_append_room_src (P := P) w t t ty e i ht hi g 0 n c (.slice none 0 cap) 0 [] (Src.ofNil w ht cap) (by omega) (fun j hj => by simp at hj) (fun j hj => by simp at hj)
      exact ⟨_, _, hr, by simpa [World.setCells] using hown, ⟨rfl, rfl, rfl, Nat.le_refl _, fun _ _ _ => rfl⟩, .inl rfl, fun _ h => by cases h⟩
/-- a slice just built, without elements -/
theorem ownsRow_zero (w : World) (base : Nat) (e : TypeId) (size : Nat) (h : base ≤ w.heap.size) : (w.alloc (.cells #[] e)).ownsRow base e size (.slice (some ⟨w.heap.size, 0, none⟩) 0 0) 0 [] :=
  ⟨by simp, .inr ⟨_, 0, _, rfl, h, heap_alloc_new w _, Nat.le_refl _, Nat.zero_le _, by simp, by simp⟩⟩
end Go.Proofs.YtnkcmlngoeofgaaDoor
