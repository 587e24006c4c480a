/- Texts of the law GridKnown, merged: Own, GrSl, GrClone, HeldIn, HeldD, Kept, GrCopiedP. -/
import Derived.Test.YtlddcnkiigamjaaDoorPGridKnown00
import Derived.WalkKit
import Derived.Maps.AppendAt
import Derived.Deep.AppendSrc
import Derived.Deep.AppendLies
import Derived.WalkSpells
import Derived.OrdersIn
import Derived.OrdersHeld
import Derived.Lib.Hide
/-
  SLICES OF NUMBERS THAT THE CALL ITSELF HAS MADE, from their block's head on: read, written, appended to.
-/
namespace Go.Proofs.YtlddcnkiigamjaaDoor
open Go.RowKit

/-- v is a slice of the numbers l, from the head of block g on, which is ours -/
def OwnI (w : World) (v : Value) (g : Nat) (e : TypeId) (k : IntKind) (l : List Int) : Prop :=
  ∃ (cap : Nat) (ex : Array Value), v = .slice (some ⟨g, 0, none⟩) l.length cap ∧ Blk w g (icells k l ++ ex) e (0, 0) ∧ l.length + ex.size = cap ∧ cap ≤ maxLen
theorem icells_get' (k : IntKind) (l : List Int) (ex : Array Value) (i : Nat) (hi : i < l.length) : (icells k l ++ ex)[i]? = some (.int k l[i]) := by
  rw [Array.getElem?_append_left (by rw [icells_size]; exact hi)]; exact icells_get k l i hi
theorem icells_set' (k : IntKind) (l : List Int) (ex : Array Value) (i : Nat) (hi : i < l.length) (x : Int) : (icells k l ++ ex).setIfInBounds i (.int k x) = icells k (l.set i x) ++ ex := by
  rw [Array.setIfInBounds_append_left (by rw [icells_size]; exact hi), icells_set]
theorem OwnI.sl {w : World} {v : Value} {g : Nat} {e : TypeId} {k : IntKind} {l : List Int} (h : OwnI w v g e k l) : SlI w v k l := by
  obtain ⟨cap, ex, rfl, hb, h1, h2⟩ := h
  exact ⟨_, cap, rfl, by omega, h2, fun i hi => ⟨g, 0, rfl, by rw [Nat.zero_add, hb.cell, icells_get' _ _ _ _ hi]⟩⟩
theorem OwnI.lt {w : World} {v : Value} {g : Nat} {e : TypeId} {k : IntKind} {l : List Int} (h : OwnI w v g e k l) : g < w.heap.size := by
  obtain ⟨cap, ex, rfl, hb, h1, h2⟩ := h; exact hb.lt
theorem OwnI.block {w : World} {v : Value} {g : Nat} {e : TypeId} {k : IntKind} {l : List Int} (h : OwnI w v g e k l) : v.ownBlock = some g := by
  obtain ⟨cap, ex, rfl, hb, h1, h2⟩ := h; rfl
theorem OwnI.agree {w w' : World} {v : Value} {g : Nat} {e : TypeId} {k : IntKind} {l : List Int} (h : OwnI w v g e k l) (hb : w'.heap[g]? = w.heap[g]?) : OwnI w' v g e k l := by
  obtain ⟨cap, ex, rfl, h0, h1, h2⟩ := h
  exact ⟨cap, ex, rfl, hb.trans h0, h1, h2⟩
theorem OwnI.later {w w' : World} {v : Value} {g : Nat} {e : TypeId} {k : IntKind} {l : List Int} (h : OwnI w v g e k l) (hb : Below w.heap.size w w') : OwnI w' v g e k l := h.agree (hb.block g h.lt)
/-- a literal, a make: new -/
theorem OwnI.new (w : World) (e : TypeId) (k : IntKind) (l : List Int) (hl : l.length ≤ maxLen) : OwnI (w.alloc (.cells (icells k l) e)) (.slice (some ⟨w.heap.size, 0, none⟩) l.length l.length) w.heap.size e k l :=
  ⟨l.length, #[], rfl, by rw [Array.append_empty]; exact Blk.new _ _ _ _, by simp, hl⟩
/-- one store -/
theorem OwnI.set {w : World} {g n cap : Nat} {e : TypeId} {k : IntKind} {l : List Int} (h : OwnI w (.slice (some ⟨g, 0, none⟩) n cap) g e k l) (i : Nat) (hi : i < l.length) (x : Int) :
    OwnI (w.setCell ⟨g, i, none⟩ (.int k x)) (.slice (some ⟨g, 0, none⟩) n cap) g e k (l.set i x) := by
  obtain ⟨cap', ex, e1, h0, h1, h2⟩ := h
  refine ⟨cap', ex, by rw [List.length_set]; exact e1, ?_, by rw [List.length_set]; exact h1, h2⟩
  have := h0.set i (.int k x)
  rwa [icells_set' _ _ _ _ hi] at this
theorem OwnI.cell {w : World} {g n cap : Nat} {e : TypeId} {k : IntKind} {l : List Int} (h : OwnI w (.slice (some ⟨g, 0, none⟩) n cap) g e k l) (i : Nat) (hi : i < l.length) : w.cell? ⟨g, i, none⟩ = some (.int k l[i]) := by
  obtain ⟨cap', ex, e1, h0, h1, h2⟩ := h
  rw [h0.cell, icells_get' _ _ _ _ hi]
theorem OwnI.free {w : World} {g n cap : Nat} {e : TypeId} {k : IntKind} {l : List Int} (h : OwnI w (.slice (some ⟨g, 0, none⟩) n cap) g e k l) (i : Nat) : w.frozen? ⟨g, i, none⟩ = false := by
  obtain ⟨cap', ex, e1, h0, h1, h2⟩ := h
  exact h0.free i (.inr (Nat.zero_le _))

theorem ownsRow_of {w : World} {v : Value} {g : Nat} {e : TypeId} {k : IntKind} {l : List Int} (h : OwnI w v g e k l) : w.ownsRow g e 1 v l.length (l.map (Value.int k)) := by
  obtain ⟨cap, ex, rfl, h0, h1, h2⟩ := h
  refine ⟨by simp, .inr ⟨g, cap, _, rfl, Nat.le_refl _, h0, by omega, h2, by simp [icells_size]; omega, ?_⟩⟩
  simp [icells]
theorem ownI_of {w : World} {v : Value} {base n : Nat} {e : TypeId} {k : IntKind} {l : List Int} (h : w.ownsRow base e 1 v n (l.map (Value.int k))) (hv : v ≠ .slice none 0 0) : ∃ g, base ≤ g ∧ OwnI w v g e k l := by
  have hn : n = l.length := by have := h.1; simp at this; omega
  subst hn
  rcases h.2 with ⟨h0, _⟩ | ⟨g, cap, cur, rfl, hb, hg, hl, hm, hs, ht⟩
  · exact absurd h0 hv
  · refine ⟨g, hb, cap, (cur.toList.drop l.length).toArray, rfl, ?_, by simp; omega, hm⟩
    have e : icells k l ++ (cur.toList.drop l.length).toArray = cur := by
      apply Array.ext'
      rw [Nat.mul_one] at ht
      simp only [icells, Array.toList_append]
      rw [← ht]
      exact List.take_append_drop _ _
    rw [e]; exact hg
theorem run_append_none_any {P : Program} (w : World) (t ty e : TypeId) (i : TypeInfo) (v : Value) (c : Nat) (ht : P.underlying t = some (.slice e)) (hi : P.info? e = some i) {g : Nat} {k : IntKind} {l : List Int} (h : OwnI w v g e k l) :
    (Builtin.append_ #[t, t] ty #[v, .slice none 0 c]).run P w = .ok v w := by
  obtain ⟨cap, ex, rfl, h0, h1, h2⟩ := h
  have hle : l.length ≤ cap := by omega
  simp [Builtin.append_, run_underlying ht, sizeOf, typeInfo, hi, Builtin.lenOf, Builtin.firstCells, hle, storeCells]
/-- s[:m], whatever s starts at -/
theorem run_slice_to {P : Program} (t e : TypeId) (a : Option Addr) (n cap m : Nat) (ht : P.underlying t = some (.slice e)) (hs : (P.info? e).isSome = true) (hm : m ≤ cap) (u : World) :
    (Instr.slice t (.slice a n cap) none (some (.int .i64 m)) none).run P u = .ok (.slice a m cap) u := by
  have he : P.elem t = e := by unfold Program.elem; rw [ht]
  have ht' : P.underlying t = some (.slice (P.elem t)) := by rw [he]; exact ht
  rw [run_slice_h u t a n cap ht' .i64 (m : Int) (by omega) (by omega)]
  rw [he]
  cases hq : P.info? e with
  | none => simp [hq] at hs
  | some i =>
    cases a <;> simp [sizeOf, typeInfo, hq, sliced, Addr.add]
/-- append(v, s...) of a slice that is ours and a slice of numbers -/
theorem run_append_ints {P : Program} {w : World} {v s : Value} {g : Nat} {t e ty : TypeId} {k : IntKind} {l m : List Int} (bytes : Nat) (ht : P.underlying t = some (.slice e)) (hi : (P.info? e).map (fun i => (i.zero, i.size, i.bytes)) = some (some (.int k 0), 1, bytes))
    (h : OwnI w v g e k l) (hs : SlI w s k m) (hlen : l.length + m.length ≤ maxLen) (hby : (l.length + m.length) * bytes ≤ 140737488355328) :
    ∃ v' w' g', (Builtin.append_ #[t, t] ty #[v, s]).run P w = .ok v' w' ∧ OwnI w' v' g' e k (l ++ m) ∧ g ≤ g' ∧ w.grownBy w' (some g) := by
  obtain ⟨i0, hi, hz0, hz1, hz2⟩ := info_parts hi
  have hv : v ≠ .slice none 0 0 := by obtain ⟨cap, ex, rfl, _⟩ := h; simp
  have hb := h.block
  have hlt := h.lt
  obtain ⟨a, c, rfl, h1, h2, h3⟩ := hs
  cases a with
  | none =>
    have hm : m = [] := by
      cases m with
      | nil => rfl
      | cons x r => obtain ⟨b, off, e, _⟩ := h3 0 (by simp); cases e
    subst hm
    have hr := run_append_none_any (P := P) w t ty e i0 v c ht hi h
    exact ⟨v, w, g, hr, by simpa using h, Nat.le_refl _, ⟨rfl, rfl, rfl, Nat.le_refl _, fun _ _ _ => rfl⟩⟩
  | some a =>
    obtain ⟨v', w', hr, ho, hg, hn⟩ := run_append_own (P := P) w g t ty e i0 (.int k 0) 1 bytes ht hi hz0 hz1 hz2 rfl (by decide) v l.length (l.map (Value.int k)) (ownsRow_of h) a m.length c (m.map (Value.int k)) (by simp)
      (fun j u hj => by
        have hj' : j < m.length := by simpa using (List.getElem?_eq_some_iff.1 hj).1
        obtain ⟨b, off, e1, hc⟩ := h3 j hj'
        obtain rfl : a = ⟨b, off, none⟩ := by simpa using e1
        have ea : (⟨b, off, none⟩ : Addr).add j = ⟨b, off + j, none⟩ := by unfold Addr.add; split <;> simp_all
        rw [ea, hc]
        simpa [List.getElem?_eq_getElem hj'] using hj)
      (fun u hu => by obtain ⟨x, _, rfl⟩ := List.mem_map.1 hu; rfl) hlen hby (by omega)
    have hv' : v' ≠ .slice none 0 0 := fun e => hv (hn.1 e).1
    rw [← List.map_append] at ho
    obtain ⟨g', hg', hown⟩ := ownI_of ho hv'
    rw [hb] at hg
    exact ⟨v', w', g', hr, hown, hg', hg⟩
/-- an append whose run is known -/
theorem wpList_append_run {P : Program} {w : World} {ops : Array Oper} {rest : List Oper} {o : Oper} {a : Act} {Q : Exit → Act → World → Prop} (hgd : o.guard = none) (s x : Operand) (t u : TypeId)
    (ho : o.op = .call { callee := .builtin .append, args := #[s, x], argTypes := #[t, u] }) {v' : Value} {w' : World} (hrun : (Builtin.append_ #[t, u] o.type #[a.eval s, a.eval x]).run P w = .ok v' w')
    (h : wpList P ops Q rest (a.put o.dst v') w') : wpList P ops Q (o :: rest) a w := by
  refine wpList_plain hgd fun K hK => ?_
  unfold Oper.wp execOp
  simp only [ho, resolve, invoke, builtin, Sem.run_bind, Sem.run_pure, Result.andThen_ok, List.map_toArray, List.map_cons, List.map_nil, hrun]
  exact hK _ _ h
end Go.Proofs.YtlddcnkiigamjaaDoor
/- slices of numbers and of arcs, as rows of cells: what reads, what is ours; append of a whole row onto ours. -/
namespace Go.Proofs.YtlddcnkiigamjaaDoor
open Go.RowKit
/-- an arc's cells -/
def arC (a : Ar) : List Value := [.int .i64 a.1, .int .i64 a.2.1, .int .i64 a.2.2]
def inC (x : Int) : List Value := [.int .i64 x]
theorem flatN_get {α : Type} (m : Nat) (f : α → List Value) (hf : ∀ x, (f x).length = m) : ∀ (l : List α) (i d : Nat), d < m → (l.flatMap f)[i * m + d]? = (l[i]?).bind fun x => (f x)[d]? := by
  intro l
  induction l with
  | nil => intro i d _; simp
  | cons x l ih =>
    intro i d hd
    rw [List.flatMap_cons]
    cases i with
    | zero => rw [Nat.zero_mul, Nat.zero_add, List.getElem?_append_left (by rw [hf]; exact hd)]; rfl
    | succ i =>
      rw [List.getElem?_append_right (by rw [hf, Nat.succ_mul]; omega), hf, show (i + 1) * m + d - m = i * m + d by rw [Nat.succ_mul]; omega, ih i d hd]
      simp
theorem flatN_len {α : Type} (m : Nat) (f : α → List Value) (hf : ∀ x, (f x).length = m) (l : List α) : (l.flatMap f).length = l.length * m := by
  induction l with
  | nil => simp
  | cons x l ih => rw [List.flatMap_cons, List.length_append, hf, ih, List.length_cons, Nat.succ_mul]; omega
theorem inC_len (x : Int) : (inC x).length = 1 := rfl
theorem arC_len (x : Ar) : (arC x).length = 3 := rfl
/-- v is a slice whose cells are xs, k to an element -/
def SlF (k : Nat) (w : World) (v : Value) (n : Nat) (xs : List Value) : Prop :=
  xs.length = n * k ∧ (∀ u ∈ xs, u.oneCell' = true) ∧ ∃ a cap, v = .slice a n cap ∧ n ≤ cap ∧ cap ≤ maxLen ∧ ∀ j u, xs[j]? = some u → ∃ b off, a = some ⟨b, off, none⟩ ∧ w.cell? ⟨b, off + j, none⟩ = some u
theorem SlX.row {w : World} {v : Value} {L : List Int} (h : SlX w v L) : SlF 1 w v L.length (L.flatMap inC) := by
  obtain ⟨a, cap, rfl, h1, h2, h3⟩ := h
  refine ⟨flatN_len 1 inC inC_len L, fun u hu => ?_, a, cap, rfl, h1, h2, fun j u hu => ?_⟩
  · obtain ⟨x, _, hx⟩ := List.mem_flatMap.1 hu
    obtain rfl := List.mem_singleton.1 hx
    rfl
  · have e := flatN_get 1 inC inC_len L j 0 (by omega)
    rw [Nat.mul_one, Nat.add_zero, hu] at e
    have hj : j < L.length := by
      rcases Nat.lt_or_ge j L.length with h | h
      · exact h
      · rw [List.getElem?_eq_none h] at e; cases e
    rw [List.getElem?_eq_getElem hj] at e
    obtain rfl : u = .int .i64 L[j] := Option.some.inj e
    obtain ⟨b, off, cs, t, fr, ea, hb, hc⟩ := h3 j hj
    exact ⟨b, off, ea, by rw [hb.cell]; exact hc⟩
theorem SlA.row {w : World} {v : Value} {L : List Ar} (h : SlA w v L) : SlF 3 w v L.length (L.flatMap arC) := by
  obtain ⟨a, cap, rfl, h1, h2, h3⟩ := h
  refine ⟨flatN_len 3 arC arC_len L, fun u hu => ?_, a, cap, rfl, h1, h2, fun j u hu => ?_⟩
  · obtain ⟨x, _, hx⟩ := List.mem_flatMap.1 hu
    simp only [arC, List.mem_cons, List.not_mem_nil, or_false] at hx
    rcases hx with rfl | rfl | rfl <;> rfl
  · have hjl := (List.getElem?_eq_some_iff.1 hu).1
    rw [flatN_len 3 arC arC_len L] at hjl
    obtain ⟨i, d, rfl, hd⟩ : ∃ i d, j = i * 3 + d ∧ d < 3 := ⟨j / 3, j % 3, by omega, by omega⟩
    have hi : i < L.length := by omega
    rw [flatN_get 3 arC arC_len L i d hd, List.getElem?_eq_getElem hi] at hu
    obtain ⟨b, off, cs, t, fr, ea, hb, c0, c1, c2⟩ := h3 i hi
    refine ⟨b, off, ea, ?_⟩
    rw [hb.cell, ← hu]
    match d, hd with
    | 0, _ => exact c0
    | 1, _ => exact c1
    | 2, _ => exact c2
theorem slX_own {w : World} {base : Nat} {e : TypeId} {v : Value} {n : Nat} {L : List Int} (hn : L.length = n) (h : w.ownsRow base e 1 v n (L.flatMap inC)) : SlX w v L := by
  subst hn
  rcases id h.2 with ⟨hv, h0⟩ | ⟨g, cap, cur, hv, h1, h2, h3, h4, _⟩
  · exact ⟨none, 0, by rw [hv, h0], by omega, Nat.zero_le _, fun i hi => by omega⟩
  · subst hv
    refine ⟨_, cap, rfl, h3, h4, fun i hi => ⟨g, 0, cur, _, _, rfl, h2, ?_⟩⟩
    have h5 := h.cellAt i (by have := h.1; omega)
    have e := flatN_get 1 inC inC_len L i 0 (by omega)
    rw [Nat.mul_one, Nat.add_zero] at e
    rw [e, List.getElem?_eq_getElem hi, (show Blk w g cur _ _ from h2).cell] at h5
    rw [Nat.zero_add]; exact h5
theorem slA_own {w : World} {base : Nat} {e : TypeId} {v : Value} {n : Nat} {L : List Ar} (hn : L.length = n) (h : w.ownsRow base e 3 v n (L.flatMap arC)) : SlA w v L := by
  subst hn
  rcases id h.2 with ⟨hv, h0⟩ | ⟨g, cap, cur, hv, h1, h2, h3, h4, _⟩
  · exact ⟨none, 0, by rw [hv, h0], by omega, Nat.zero_le _, fun i hi => by omega⟩
  · subst hv
    have hc : ∀ i (hi : i < L.length) d, d < 3 → cur[0 + i * 3 + d]? = (arC L[i])[d]? := fun i hi d hd => by
      have h5 := h.cellAt (i * 3 + d) (by have := h.1; omega)
      rw [flatN_get 3 arC arC_len L i d hd, List.getElem?_eq_getElem hi, (show Blk w g cur _ _ from h2).cell] at h5
      rw [Nat.zero_add]; exact h5
    exact ⟨_, cap, rfl, h3, h4, fun i hi => ⟨g, 0, cur, _, _, rfl, h2, hc i hi 0 (by omega), hc i hi 1 (by omega), hc i hi 2 (by omega)⟩⟩
/-- append of a whole row onto ours -/
theorem run_append_row {P : Program} {w : World} (base : Nat) (t ty e : TypeId) (i : TypeInfo) (z : Value) (size bytes : Nat) (ht : P.underlying t = some (.slice e)) (hi : P.info? e = some i) (hz : i.zero = some z)
    (hsize : i.size = size) (hby : i.bytes = bytes) (hzs : z.cells.size = size) (hsz : 0 < size) (v : Value) (n : Nat) (xs : List Value) (hown : w.ownsRow base e size v n xs)
    (src : Value) (m : Nat) (news : List Value) (hs : SlF size w src m news) (h63 : n + m ≤ maxLen) (hbytes : (n + m) * bytes ≤ 140737488355328) (hbase : base ≤ w.heap.size) :
    ∃ v' w', (Builtin.append_ #[t, t] ty #[v, src]).run P w = .ok v' w' ∧ w'.ownsRow base e size v' (n + m) (xs ++ news) ∧ w.grownBy w' v.ownBlock ∧ (v'.ownBlock = v.ownBlock ∨ v'.ownBlock = some w.heap.size) ∧ (v ≠ .slice none 0 0 → v' ≠ .slice none 0 0) := by
  obtain ⟨hl, h1, a, cap, rfl, hc1, hc2, hcell⟩ := hs
  cases a with
  | some ad =>
    obtain ⟨v', w', hr, h2, h3, h4, h5⟩ := run_append_own_at (P := P) w base t ty e i z size bytes ht hi hz hsize hby hzs hsz v n xs hown ad m cap news hl (fun j u hu => by
      obtain ⟨b, off, ea, hc⟩ := hcell j u hu
      obtain rfl := Option.some.inj ea
      have : (⟨b, off, none⟩ : Addr).add j = ⟨b, off + j, none⟩ := by unfold Addr.add; split <;> simp_all
      rw [this]; exact hc) h1 h63 hbytes hbase
    exact ⟨v', w', hr, h2, h3, h5, fun hv hv' => hv (h4.1 hv').1⟩
  | none =>
    have hn0 : news = [] := by
      cases news with
      | nil => rfl
      | cons u us => obtain ⟨b, off, e, _⟩ := hcell 0 u rfl; cases e
    subst hn0
    have hm : m = 0 := by
      rcases Nat.eq_zero_or_pos m with h | h
      · exact h
      · have := Nat.mul_pos h hsz; simp at hl; omega
    subst hm
    rcases id hown.2 with ⟨hv, h0⟩ | ⟨g, c, cur, hv, hbg, hg, hnc, hcm, hcs, htake⟩
    · subst hv h0
      refine ⟨.slice none 0 0, w, ?_, by simpa using hown, ⟨rfl, rfl, rfl, Nat.le_refl _, fun _ _ _ => rfl⟩, .inl rfl, fun h => (h rfl).elim⟩
      have hs := Src.ofNil (P := P) w (size := i.size) (tx := t) ht cap
      simp [Builtin.append_, run_underlying ht, sizeOf, typeInfo, hi, hs.len, hs.cells]
    · subst hv
      have hr := run_append_room_src (P := P) w t t ty e i ht hi g 0 n c (.slice none 0 cap) 0 [] (Src.ofNil w ht cap) (by omega) (fun j hj => by simp at hj) (fun j hj => by simp at hj)
      exact ⟨_, _, hr, by simpa [World.setCells] using hown, ⟨rfl, rfl, rfl, Nat.le_refl _, fun _ _ _ => rfl⟩, .inl rfl, fun _ h => by cases h⟩
/-- a slice just built, without elements -/
theorem ownsRow_zero (w : World) (base : Nat) (e : TypeId) (size : Nat) (h : base ≤ w.heap.size) : (w.alloc (.cells #[] e)).ownsRow base e size (.slice (some ⟨w.heap.size, 0, none⟩) 0 0) 0 [] :=
  ⟨by simp, .inr ⟨_, 0, _, rfl, h, heap_alloc_new w _, Nat.le_refl _, Nat.zero_le _, by simp, by simp⟩⟩
end Go.Proofs.YtlddcnkiigamjaaDoor
/- slices.Clone at numbers, at arcs. -/
namespace Go.Proofs.YtlddcnkiigamjaaDoor
open Go.RowKit
theorem infoI : (Tryd.prog.info? 2).map (fun i => (i.zero, i.size, i.bytes)) = some (some (.int .i64 0), 1, 8) := by kernel_rfl
theorem infoA : (Tryd.prog.info? 58).map (fun i => (i.zero, i.size, i.bytes)) = some (some (.agg #[.int .i64 0, .int .i64 0, .int .i64 0]), 3, 24) := by kernel_rfl

theorem cloneX (v : Value) (L : List Int) (w : World) (h : SlX w v L) (hl : L.length ≤ 1000000000000) : Calls Tryd.prog 45 #[v] w fun e w' => ∃ v', e = .returned v' ∧ w'.ownsRow w.heap.size 2 1 v' L.length (L.flatMap inC) ∧ Below w.heap.size w w' := by
  obtain ⟨i0, hi, hz0, hz1, hz2⟩ := info_parts infoI
  have hs := h.row
  obtain ⟨a, cap, rfl, hc1, hc2, h3⟩ := h
  cases a with
  | none =>
    have h0 : L = [] := by
      cases L with
      | nil => rfl
      | cons x L => obtain ⟨_, _, _, _, _, e, _⟩ := h3 0 (by simp); cases e
    subst h0
    have hn := fun w => Lib.run_eql_slice_nil (P := Tryd.prog) w 22 2 none 0 cap 0 0 Tryd.underlying22
    simp only [List.length_nil]
    clear hs h3
    go_enter Tryd.func45, Tryd.ntmps45
    go_wp2
    go_ret
    exact ⟨_, rfl, World.ownsRow_nil _ _ _ _, Below.refl _ _⟩
  | some ad =>
    have hn := fun w => Lib.run_eql_slice_nil (P := Tryd.prog) w 22 2 (some ad) L.length cap 0 0 Tryd.underlying22
    have hb := (Below.refl w.heap.size w).alloc (Nat.le_refl _) (.cells #[] 2)
    have hs1 : SlF 1 (w.alloc (.cells #[] 2)) (.slice (some ad) L.length cap) L.length (L.flatMap inC) := by
      obtain ⟨q1, q2, a, c, e, q3, q4, q5⟩ := hs
      refine ⟨q1, q2, a, c, e, q3, q4, fun j u hu => ?_⟩
      obtain ⟨b, off, ea, hc⟩ := q5 j u hu
      exact ⟨b, off, ea, cell_later hb hc⟩
    obtain ⟨v', w', hr, hown, hg, _⟩ := run_append_row (P := Tryd.prog) w.heap.size 22 22 2 i0 _ 1 8 Tryd.underlying22 hi hz0 hz1 hz2 rfl (by omega) _ 0 [] (ownsRow_zero w w.heap.size 2 1 (Nat.le_refl _)) _ L.length _ hs1 (by unfold maxLen; omega) (by omega) (by simp)
    have hb' : Below w.heap.size w w' := ⟨hg.os, hg.tape, hg.output, by have := hg.size; simp at this; omega, fun k hk => (hg.block k (by simp; omega) (by simp [Value.ownBlock]; omega)).trans (Below.heap_alloc w _ k hk)⟩
    have HB := Lib.hid hb'; have HO := Lib.hid hown; have HR := Lib.hid hr
    clear hs h3 hb hs1 hown hg hb' hr
    go_enter Tryd.func45, Tryd.ntmps45
    go_wp2_with (at_builtin; refine wpList_append_run rfl _ _ _ _ rfl HR.out ?_)
    go_ret
    exact ⟨_, rfl, by simpa using HO.out, HB.out⟩

theorem cloneA (v : Value) (L : List Ar) (w : World) (h : SlA w v L) (hl : L.length ≤ 1000000000000) : Calls Tryd.prog 46 #[v] w fun e w' => ∃ v', e = .returned v' ∧ w'.ownsRow w.heap.size 58 3 v' L.length (L.flatMap arC) ∧ Below w.heap.size w w' := by
  obtain ⟨i0, hi, hz0, hz1, hz2⟩ := info_parts infoA
  have hs := h.row
  obtain ⟨a, cap, rfl, hc1, hc2, h3⟩ := h
  cases a with
  | none =>
    have h0 : L = [] := by
      cases L with
      | nil => rfl
      | cons x L => obtain ⟨_, _, _, _, _, e, _⟩ := h3 0 (by simp); cases e
    subst h0
    have hn := fun w => Lib.run_eql_slice_nil (P := Tryd.prog) w 24 58 none 0 cap 0 0 Tryd.underlying24
    simp only [List.length_nil]
    clear hs h3
    go_enter Tryd.func46, Tryd.ntmps46
    go_wp2
    go_ret
    exact ⟨_, rfl, World.ownsRow_nil _ _ _ _, Below.refl _ _⟩
  | some ad =>
    have hn := fun w => Lib.run_eql_slice_nil (P := Tryd.prog) w 24 58 (some ad) L.length cap 0 0 Tryd.underlying24
    have hb := (Below.refl w.heap.size w).alloc (Nat.le_refl _) (.cells #[] 58)
    have hs1 : SlF 3 (w.alloc (.cells #[] 58)) (.slice (some ad) L.length cap) L.length (L.flatMap arC) := by
      obtain ⟨q1, q2, a, c, e, q3, q4, q5⟩ := hs
      refine ⟨q1, q2, a, c, e, q3, q4, fun j u hu => ?_⟩
      obtain ⟨b, off, ea, hc⟩ := q5 j u hu
      exact ⟨b, off, ea, cell_later hb hc⟩
    obtain ⟨v', w', hr, hown, hg, _⟩ := run_append_row (P := Tryd.prog) w.heap.size 24 24 58 i0 _ 3 24 Tryd.underlying24 hi hz0 hz1 hz2 rfl (by omega) _ 0 [] (ownsRow_zero w w.heap.size 58 3 (Nat.le_refl _)) _ L.length _ hs1 (by unfold maxLen; omega) (by omega) (by simp)
    have hb' : Below w.heap.size w w' := ⟨hg.os, hg.tape, hg.output, by have := hg.size; simp at this; omega, fun k hk => (hg.block k (by simp; omega) (by simp [Value.ownBlock]; omega)).trans (Below.heap_alloc w _ k hk)⟩
    have HB := Lib.hid hb'; have HO := Lib.hid hown; have HR := Lib.hid hr
    clear hs h3 hb hs1 hown hg hb' hr
    go_enter Tryd.func46, Tryd.ntmps46
    go_wp2_with (at_builtin; refine wpList_append_run rfl _ _ _ _ rfl HR.out ?_)
    go_ret
    exact ⟨_, rfl, by simpa using HO.out, HB.out⟩
end Go.Proofs.YtlddcnkiigamjaaDoor
/-
  INSIDE A FENCE: a region that draws its order, its reads taken first where a condition on the world (S: these cells hold these values) holds behind every operation that is carried out. After the kit's OrdersIn and OrdersHeld.
-/
namespace Go.Proofs.YtlddcnkiigamjaaDoor
section
variable {F : Fence} {n : Nat} {P : Program} {ops : Array Oper} {Q : Exit → Act → World → Prop} {S : World → Prop}
/-- in every world of S the operation leaves v, and makes no call -/
def ReadsIn (P : Program) (ops : Array Oper) (S : World → Prop) (o : Oper) (v : Value) (a : Act) : Prop :=
  Region.wanted o (yielded ops a.tmps) = true ∧ ∀ w, S w → o.about P w a.eval = none ∧ (execOp a.eval o).run P w = .ok (.value v) w
theorem ReadsIn.op {i : Nat} {o : Oper} {v : Value} {a : Act} (hro : F.round = none) (hi : ops[i]? = some o) (hy : ReadsIn P ops S o v a) {K : Act → World → Prop} {w : World} (hS : S w) (h : K (a.put o.dst v) w) :
    wpOpIn F n P ops Q i K a w := by
  obtain ⟨hw, hv⟩ := hy
  obtain ⟨h1, h2⟩ := hv w hS
  unfold wpOpIn
  simp only [hi, hw, if_true, Oper.wpIn, hro, Oper.semAt_none, h2, Oper.uponIn]
  exact ⟨fun f hf => (by rw [h1] at hf; cases hf), h⟩
theorem ReadsIn.turn {o : Oper} {v : Value} {a a' : Act} (hy : ReadsIn P ops S o v a) (he : execOp a'.eval o = execOp a.eval o) (hw : Region.wanted o (yielded ops a'.tmps) = Region.wanted o (yielded ops a.tmps)) (hb : ∀ w, o.about P w a'.eval = o.about P w a.eval) : ReadsIn P ops S o v a' := by
  unfold ReadsIn at *; rw [hw]; exact ⟨hy.1, fun w hS => ⟨by rw [hb]; exact (hy.2 w hS).1, by rw [he]; exact (hy.2 w hS).2⟩⟩
/-- another operation, apart from the read, ahead of it or behind it -/
theorem swapIn {j : Nat} {oi oj : Oper} {v : Value} (hro : F.round = none) (hj : ops[j]? = some oj) (hap : oi.apart ops oj = true) (hsi : ∀ cs b, oi.op ≠ .select cs b) (hsj : ∀ cs b, oj.op ≠ .select cs b)
    (hQ : ∀ c a w, Q (.panic c) (a.put oi.dst v) w → Q (.panic c) a w) {K : Act → World → Prop} {a : Act} {w : World} (hy : ReadsIn P ops S oi v a) (h : wpOpIn F n P ops Q j K (a.put oi.dst v) w) :
    wpOpIn F n P ops Q j (fun a' w' => ReadsIn P ops S oi v a' ∧ K (a'.put oi.dst v) w') a w := by
  obtain ⟨h1, h2, h3⟩ := Oper.apart_spec hap
  have keep : ∀ b : Act, ReadsIn P ops S oi v b → ∀ u, ReadsIn P ops S oi v (b.put oj.dst u) := fun b hb u => hb.turn (execOp_put oi hsi b oj.dst u h3) (wanted_put oi b oj.dst u h3) (fun w => about_put oi w b oj.dst u h3)
  have put1 : ∀ (b : Act) u, K ((b.put oi.dst v).put oj.dst u) = K ((b.put oj.dst u).put oi.dst v) := fun b u => by rw [Act.put_comm b v u h2]
  unfold wpOpIn at *
  simp only [hj] at *
  rw [wanted_put oj a oi.dst v h1, about_put oj w a oi.dst v h1] at h
  by_cases hw : Region.wanted oj (yielded ops a.tmps) = true
  · rw [if_pos hw] at h ⊢
    unfold Oper.wpIn at *
    rw [about_put oj w a oi.dst v h1, hro, Oper.semAt_none, execOp_put oj hsj a oi.dst v h1] at h
    rw [hro, Oper.semAt_none]
    refine ⟨h.1, ?_⟩
    replace h := h.2
    cases hr : (execOp a.eval oj).run P w with
    | halt x w' =>
      rw [hr] at h
      cases x <;> simp only [Oper.uponIn] at h ⊢
      exact hQ _ _ _ h
    | ok x w' =>
      rw [hr] at h
      cases x with
      | value u => exact ⟨keep a hy u, by have := h; simp only [Oper.uponIn] at this; rwa [put1] at this⟩
      | skip => exact ⟨keep a hy _, by have := h; simp only [Oper.uponIn] at this; rwa [put1] at this⟩
      | defer d =>
        simp only [Oper.uponIn] at h ⊢
        refine ⟨keep { a with defers := d :: a.defers } (hy.turn rfl rfl (fun _ => rfl)) _, ?_⟩
        rw [← put1, ← Act.put_defers]; exact h
      | enter f args =>
        refine ⟨h.1, CallsIn.mono h.2 fun e w'' he => ?_⟩
        cases e with
        | returned u => exact ⟨keep a hy u, by have := he; (try simp only at this); rwa [put1] at this⟩
        | panicked c => exact hQ _ _ _ he
        | outgrown => exact he
      | row r args => exact ⟨h.1, RowsIn.mono h.2 fun u w'' he => ⟨keep a hy u, by have := he; (try simp only at this); rwa [put1] at this⟩⟩
      | round l f tmps assign body =>
        refine ⟨h.1, RoundIn.mono h.2 fun e w'' he => ?_⟩
        cases e with
        | returned u => exact ⟨keep a hy u, by have := he; (try simp only at this); rwa [put1] at this⟩
        | panicked c => exact hQ _ _ _ he
        | outgrown => exact he
      | _ => simp only [Oper.uponIn] at h
  · rw [if_neg hw] at h ⊢
    exact ⟨h.1, keep a hy _, by have := h.2; rwa [put1] at this⟩
/-- whatever order is picked from here on; S holds behind each operation -/
def heldIn (F : Fence) (n : Nat) (P : Program) (ops : Array Oper) (Q : Exit → Act → World → Prop) (S : World → Prop) : Nat → Array Bool → Act → World → Prop
  | 0, listed, a, w => Region.ready .any ops listed = [] ∧ Q .normal a w
  | fuel + 1, listed, a, w => (Region.ready .any ops listed = [] → Q .normal a w) ∧ ∀ i ∈ Region.ready .any ops listed, wpOpIn F n P ops Q i (fun a' w' => S w' ∧ heldIn F n P ops Q S fuel (listed.setIfInBounds i true) a' w') a w
theorem any_of_heldIn : ∀ (fuel : Nat) (listed : Array Bool) (a : Act) (w : World), heldIn F n P ops Q S fuel listed a w → wpAnyIn F n P .any ops Q fuel listed a w
  | 0, _, _, _, h => h
  | fuel + 1, _, _, _, h => ⟨h.1, fun i hi => wpOpIn_mono (fun a' w' h' => any_of_heldIn fuel _ a' w' h'.2) (h.2 i hi)⟩
theorem heldIn_first {i : Nat} {oi : Oper} {v : Value} (hro : F.round = none) (hi : ops[i]? = some oi) (hsel : ∀ (j : Nat) (o : Oper) cs b, ops[j]? = some o → o.op ≠ .select cs b) (hQ : ∀ c a w, Q (.panic c) (a.put oi.dst v) w → Q (.panic c) a w) :
    ∀ (fuel : Nat) (listed : Array Bool) (a : Act) (w : World), (∀ j oj, ops[j]? = some oj → j ≠ i → listed.getD j true = false → (∀ e ∈ oj.after, Region.binds .any e = true → e.on ≠ i) → oi.apart ops oj = true) →
      i ∈ Region.ready .any ops listed → ReadsIn P ops S oi v a → S w → heldIn F n P ops Q S fuel (listed.setIfInBounds i true) (a.put oi.dst v) w → heldIn F n P ops Q S (fuel + 1) listed a w := by
  intro fuel
  induction fuel with
  | zero =>
    intro listed a w _ hr hy hS H
    refine ⟨fun h => (by rw [h] at hr; cases hr), fun j hj => ?_⟩
    by_cases hji : j = i
    · subst hji; exact hy.op hro hi hS ⟨hS, H⟩
    · have := ready_mono hj hji
      rw [H.1] at this; cases this
  | succ fuel ih =>
    intro listed a w hfree hr hy hS H
    refine ⟨fun h => (by rw [h] at hr; cases hr), fun j hj => ?_⟩
    by_cases hji : j = i
    · subst hji; exact hy.op hro hi hS ⟨hS, H⟩
    obtain ⟨hjun, oj, hoj, hall⟩ := mem_ready.1 hj
    have hnot : ∀ e ∈ oj.after, Region.binds .any e = true → e.on ≠ i := fun e he hb heq => by
      have h1 := hall e he hb
      have h0 := (mem_ready.1 hr).1
      rw [heq] at h1
      rcases Nat.lt_or_ge i listed.size with h' | h'
      · simp [h'] at h0 h1; rw [h0] at h1; cases h1
      · simp [Array.getElem?_eq_none h'] at h1
    refine wpOpIn_mono (fun a' w' h3 => ⟨h3.2.1, ih _ a' w' (fun k ok hk hki hun hno => hfree k ok hk hki ?_ hno) (ready_mono hr (Ne.symm hji)) h3.1 h3.2.1 ?_⟩)
      (swapIn hro hoj (hfree j oj hoj hji hjun hnot) (fun cs b => hsel i oi cs b hi) (fun cs b => hsel j oj cs b hoj) hQ hy (H.2 j (ready_mono hj hji)))
    · by_cases hjk : j = k
      · subst hjk; exact hjun
      · rwa [getD_set_ne true hjk] at hun
    · rw [Array.setIfInBounds_comm _ _ hji]; exact h3.2.2
/-- take the read i -/
theorem heldIn_take {i : Nat} {oi : Oper} {v : Value} {fuel : Nat} {listed : Array Bool} {a : Act} {w : World} (hro : F.round = none) (hi : ops[i]? = some oi) (hs : Region.noSelect ops = true) (hf : Region.free .any ops listed i = true)
    (hr : (Region.ready .any ops listed).contains i = true) (hQ : ∀ c a w, Q (.panic c) (a.put oi.dst v) w → Q (.panic c) a w) (hy : ReadsIn P ops S oi v a) (hS : S w)
    (h : heldIn F n P ops Q S fuel (listed.setIfInBounds i true) (a.put oi.dst v) w) : heldIn F n P ops Q S (fuel + 1) listed a w :=
  heldIn_first hro hi (Region.noSelect_spec hs) hQ fuel listed a w (Region.free_spec hi hf) (by simpa using hr) hy hS h
theorem heldIn_takeD {i d : Nat} {oi : Oper} {v : Value} {fuel : Nat} {listed : Array Bool} {tmps : Array Value} {ds : List Deferred} {w : World} (hro : F.round = none) (hi : ops[i]? = some oi) (hd : oi.dst = some d) (hs : Region.noSelect ops = true) (hf : Region.free .any ops listed i = true)
    (hr : (Region.ready .any ops listed).contains i = true) (hQ : ∀ c a w, Q (.panic c) (a.put oi.dst v) w → Q (.panic c) a w) (hy : ReadsIn P ops S oi v { tmps := tmps, defers := ds }) (hS : S w)
    (h : heldIn F n P ops Q S fuel (listed.setIfInBounds i true) { tmps := tmps.setIfInBounds d v, defers := ds } w) : heldIn F n P ops Q S (fuel + 1) listed { tmps := tmps, defers := ds } w :=
  heldIn_take hro hi hs hf hr hQ hy hS (by rw [hd]; exact h)
/-- the one that may come up -/
theorem heldIn_one {i : Nat} {fuel : Nat} {listed : Array Bool} {a : Act} {w : World} (hr : Region.ready .any ops listed = [i])
    (h : wpOpIn F n P ops Q i (fun a' w' => S w' ∧ heldIn F n P ops Q S fuel (listed.setIfInBounds i true) a' w') a w) : heldIn F n P ops Q S (fuel + 1) listed a w :=
  ⟨fun h0 => (by rw [hr] at h0; cases h0), fun j hj => by rw [hr] at hj; obtain rfl : j = i := by simpa using hj
                                                          exact h⟩
theorem heldIn_done {listed : Array Bool} {a : Act} {w : World} (hr : Region.ready .any ops listed = []) (h : Q .normal a w) : ∀ fuel, heldIn F n P ops Q S fuel listed a w
  | 0 => ⟨hr, h⟩
  | _ + 1 => ⟨fun _ => h, by rw [hr]; simp⟩
theorem region_heldIn {id : Nat} {a : Act} {w : World} (hm : P.follows .mixedOrders = true) (h : heldIn F n P ops Q S ops.size (Array.replicate ops.size false) a { w with drawn := w.drawn + 1 }) : (Code.region id ops true).wpIn F n P Q a w :=
  wpIn_region_any hm (any_of_heldIn _ _ _ _ h)
/-- a call of a Go function that comes back -/
theorem wpOpIn_calls {i : Nat} {o : Oper} {d : Nat} {tmps : Array Value} {ds : List Deferred} {w w' : World} {f : FuncId} {args : Array Value} {K : Act → World → Prop} {R : Ending → World → Prop} (hi : ops[i]? = some o) (hd : o.dst = some d) (hw : Region.wanted o (yielded ops tmps) = true)
    (he : (execOp (Act.eval { tmps := tmps, defers := ds }) o).run P w = .ok (.enter f args) w') (h1 : 1 ≤ n) (hc : CallsIn Fence.wide (n - 1) P f args w' R) (hk : ∀ v w'', R (.returned v) w'' → K { tmps := tmps.setIfInBounds d v, defers := ds } w'') (hp : ∀ ch w'', R (.panicked ch) w'' → Q (.panic ch) { tmps := tmps, defers := ds } w'') (ho : ∀ w'', R .outgrown w'' → False) :
    wpOpIn Fence.wide n P ops Q i K { tmps := tmps, defers := ds } w := by
  unfold wpOpIn
  have hro : Fence.wide.round = none := rfl
  simp only [hi, hw, if_true, Oper.wpIn, hro, Oper.semAt_none, he, Oper.uponIn]
  refine ⟨fun _ _ => trivial, fun _ => h1, CallsIn.mono hc fun e w'' hr => ?_⟩
  cases e with
  | returned v => dsimp only; rw [hd]; exact hk v w'' hr
  | panicked ch => exact hp ch w'' hr
  | outgrown => exact (ho w'' hr).elim
/-- an operation that leaves a value, and another world -/
theorem wpOpIn_value {i : Nat} {o : Oper} {d : Nat} {tmps : Array Value} {ds : List Deferred} {w w' : World} {v : Value} {K : Act → World → Prop} (hro : F.round = none) (hi : ops[i]? = some o) (hd : o.dst = some d) (hw : Region.wanted o (yielded ops tmps) = true)
    (hb : o.about P w (Act.eval { tmps := tmps, defers := ds }) = none) (he : (execOp (Act.eval { tmps := tmps, defers := ds }) o).run P w = .ok (.value v) w') (hk : K { tmps := tmps.setIfInBounds d v, defers := ds } w') : wpOpIn F n P ops Q i K { tmps := tmps, defers := ds } w := by
  unfold wpOpIn
  simp only [hi, hw, if_true, Oper.wpIn, hro, Oper.semAt_none, he, Oper.uponIn]
  refine ⟨fun f hf => (by rw [hb] at hf; cases hf), ?_⟩
  rw [hd]; exact hk
/-- an append -/
theorem wpOpIn_append {i : Nat} {o : Oper} {d : Nat} {tmps : Array Value} {ds : List Deferred} {w w' : World} {v' : Value} {K : Act → World → Prop} (hro : F.round = none) (hi : ops[i]? = some o) (hd : o.dst = some d) (hw : Region.wanted o (yielded ops tmps) = true)
    (s x : Operand) (t tx : TypeId) (ho : o.op = .call { callee := .builtin .append, args := #[s, x], argTypes := #[t, tx] }) (hrun : (Builtin.append_ #[t, tx] o.type #[Act.eval { tmps := tmps, defers := ds } s, Act.eval { tmps := tmps, defers := ds } x]).run P w = .ok v' w')
    (hk : K { tmps := tmps.setIfInBounds d v', defers := ds } w') : wpOpIn F n P ops Q i K { tmps := tmps, defers := ds } w := by
  refine wpOpIn_value hro hi hd hw (by simp [Oper.about, ho, resolve, Target.leads, Sem.run_pure]) ?_ hk
  unfold execOp
  simp only [ho, resolve, invoke, builtin, Sem.run_bind, Sem.run_pure, Result.andThen_ok, List.map_toArray, List.map_cons, List.map_nil, hrun]
/-- a round of the caller's loop that comes back -/
theorem wpOpIn_round {i : Nat} {o : Oper} {d : Nat} {tmps : Array Value} {ds : List Deferred} {w w' : World} {l : Nat} {f : FuncId} {ts : Array Value} {assign body : Code} {K : Act → World → Prop} {R : Ending → World → Prop} (hi : ops[i]? = some o) (hd : o.dst = some d) (hw : Region.wanted o (yielded ops tmps) = true)
    (he : (execOp (Act.eval { tmps := tmps, defers := ds }) o).run P w = .ok (  .round l f ts assign body) w') (h1 : 1 ≤ n) (hc : RoundIn Fence.wide (n - 1) P l f ts assign body w' R) (hk : ∀ v w'', R (.returned v) w'' → K { tmps := tmps.setIfInBounds d v, defers := ds } w'') (hp : ∀ ch w'', R (.panicked ch) w'' → Q (.panic ch) { tmps := tmps, defers := ds } w'') (ho : ∀ w'', R .outgrown w'' → False) :
    wpOpIn Fence.wide n P ops Q i K { tmps := tmps, defers := ds } w := by
  unfold wpOpIn
  have hro : Fence.wide.round = none := rfl
  simp only [hi, hw, if_true, Oper.wpIn, hro, Oper.semAt_none, he, Oper.uponIn]
  refine ⟨fun _ _ => trivial, fun _ => h1, RoundIn.mono hc fun e w'' hr => ?_⟩
  cases e with
  | returned v => dsimp only; rw [hd]; exact hk v w'' hr
  | panicked ch => exact hp ch w'' hr
  | outgrown => exact (ho w'' hr).elim
/-- Q, but at a panic what does not hang on the frame -/
def PanTo (ds : List Deferred) (A : List PanicEntry → World → Prop) (Q : Exit → Act → World → Prop) : Exit → Act → World → Prop
  | .panic c, a, w => a.defers = ds ∧ A c w
  | e, a, w => Q e a w
theorem PanTo.normal {ds : List Deferred} {A : List PanicEntry → World → Prop} {Q : Exit → Act → World → Prop} {a : Act} {w : World} (h : Q .normal a w) : PanTo ds A Q .normal a w := h
theorem region_panTo {c : Code} {a : Act} {w : World} (ds : List Deferred) (A : List PanicEntry → World → Prop) (hA : ∀ ch a w, a.defers = ds → A ch w → Q (.panic ch) a w) (h : c.wpIn F n P (PanTo ds A Q) a w) : c.wpIn F n P Q a w := by
  refine wpIn_mono h fun e a w hp => ?_
  cases e with
  | panic ch => exact hA ch a w hp.1 hp.2
  | normal => exact hp
  | ret => exact hp
  | exit _ => exact hp
  | goto _ => exact hp
  | outgrown => exact hp
end
end Go.Proofs.YtlddcnkiigamjaaDoor
/-
  INSIDE A FENCE: a region that draws its order, its reads taken first where a condition on the world (S) holds behind every operation that is carried out ahead of the first store D. After XHeldIn.
-/
namespace Go.Proofs.YtlddcnkiigamjaaDoor
section
variable {F : Fence} {n : Nat} {P : Program} {ops : Array Oper} {Q : Exit → Act → World → Prop} {S : World → Prop} {D : Nat}
/-- whatever order is picked from here on; S holds behind each operation, till D is carried out -/
def heldD (F : Fence) (n : Nat) (P : Program) (ops : Array Oper) (Q : Exit → Act → World → Prop) (S : World → Prop) (D : Nat) : Nat → Array Bool → Act → World → Prop
  | 0, listed, a, w => Region.ready .any ops listed = [] ∧ Q .normal a w
  | fuel + 1, listed, a, w => (Region.ready .any ops listed = [] → Q .normal a w) ∧ ∀ i ∈ Region.ready .any ops listed, wpOpIn F n P ops Q i (fun a' w' => ((listed.setIfInBounds i true).getD D true = false → S w') ∧ heldD F n P ops Q S D fuel (listed.setIfInBounds i true) a' w') a w
theorem any_of_heldD : ∀ (fuel : Nat) (listed : Array Bool) (a : Act) (w : World), heldD F n P ops Q S D fuel listed a w → wpAnyIn F n P .any ops Q fuel listed a w
  | 0, _, _, _, h => h
  | fuel + 1, _, _, _, h => ⟨h.1, fun i hi => wpOpIn_mono (fun a' w' h' => any_of_heldD fuel _ a' w' h'.2) (h.2 i hi)⟩
theorem getD_set_self {l : Array Bool} {i : Nat} : (l.setIfInBounds i true).getD i true = true := by
  rcases Nat.lt_or_ge i l.size with h | h
  · simp [h]
  · simp
theorem heldD_first {i : Nat} {oi : Oper} {v : Value} (hro : F.round = none) (hi : ops[i]? = some oi) (hsel : ∀ (j : Nat) (o : Oper) cs b, ops[j]? = some o → o.op ≠ .select cs b) (hQ : ∀ c a w, Q (.panic c) (a.put oi.dst v) w → Q (.panic c) a w)
    (hDi : D ≠ i) (hDe : ∀ oD, ops[D]? = some oD → ∃ e ∈ oD.after, Region.binds .any e = true ∧ e.on = i) :
    ∀ (fuel : Nat) (listed : Array Bool) (a : Act) (w : World), (∀ j oj, ops[j]? = some oj → j ≠ i → listed.getD j true = false → (∀ e ∈ oj.after, Region.binds .any e = true → e.on ≠ i) → oi.apart ops oj = true) →
      i ∈ Region.ready .any ops listed → ReadsIn P ops S oi v a → listed.getD D true = false → S w → heldD F n P ops Q S D fuel (listed.setIfInBounds i true) (a.put oi.dst v) w → heldD F n P ops Q S D (fuel + 1) listed a w := by
  intro fuel
  induction fuel with
  | zero =>
    intro listed a w _ hr hy hD hS H
    refine ⟨fun h => (by rw [h] at hr; cases hr), fun j hj => ?_⟩
    by_cases hji : j = i
    · subst hji; exact hy.op hro hi hS ⟨fun _ => hS, H⟩
    · have := ready_mono hj hji
      rw [H.1] at this; cases this
  | succ fuel ih =>
    intro listed a w hfree hr hy hD hS H
    refine ⟨fun h => (by rw [h] at hr; cases hr), fun j hj => ?_⟩
    by_cases hji : j = i
    · subst hji; exact hy.op hro hi hS ⟨fun _ => hS, H⟩
    obtain ⟨hjun, oj, hoj, hall⟩ := mem_ready.1 hj
    have hnot : ∀ e ∈ oj.after, Region.binds .any e = true → e.on ≠ i := fun e he hb heq => by
      have h1 := hall e he hb
      have h0 := (mem_ready.1 hr).1
      rw [heq] at h1
      rcases Nat.lt_or_ge i listed.size with h' | h'
      · simp [h'] at h0 h1; rw [h0] at h1; cases h1
      · simp [Array.getElem?_eq_none h'] at h1
    have hjD : j ≠ D := fun e => by
      subst e
      obtain ⟨e, he, hb, heq⟩ := hDe oj hoj
      exact hnot e he hb heq
    refine wpOpIn_mono (fun a' w' h3 => ?_)
      (swapIn hro hoj (hfree j oj hoj hji hjun hnot) (fun cs b => hsel i oi cs b hi) (fun cs b => hsel j oj cs b hoj) hQ hy (H.2 j (ready_mono hj hji)))
    have hS' : S w' := h3.2.1 (by rw [getD_set_ne true hjD, getD_set_ne true (Ne.symm hDi)]; exact hD)
    refine ⟨fun _ => hS', ih _ a' w' (fun k ok hk hki hun hno => hfree k ok hk hki ?_ hno) (ready_mono hr (Ne.symm hji)) h3.1 (by rw [getD_set_ne true hjD]; exact hD) hS' ?_⟩
    · by_cases hjk : j = k
      · subst hjk; exact hjun
      · rwa [getD_set_ne true hjk] at hun
    · rw [Array.setIfInBounds_comm _ _ hji]; exact h3.2.2
/-- that D waits for i -/
def waits (ops : Array Oper) (D i : Nat) : Bool := match ops[D]? with
  | some o => o.after.any fun e => Region.binds .any e && e.on == i
  | none => true
/-- take the read i -/
theorem heldD_take {i d : Nat} {oi : Oper} {v : Value} {fuel : Nat} {listed : Array Bool} {tmps : Array Value} {ds : List Deferred} {w : World} (hro : F.round = none) (hi : ops[i]? = some oi) (hd : oi.dst = some d) (hs : Region.noSelect ops = true) (hf : Region.free .any ops listed i = true)
    (hr : (Region.ready .any ops listed).contains i = true) (hDi : (D != i) = true) (hDe : waits ops D i = true) (hD : listed.getD D true = false) (hQ : ∀ c a w, Q (.panic c) (a.put oi.dst v) w → Q (.panic c) a w) (hw : Region.wanted oi (yielded ops tmps) = true)
    (hy : ∀ w, S w → oi.about P w (Act.eval { tmps := tmps, defers := ds }) = none ∧ (execOp (Act.eval { tmps := tmps, defers := ds }) oi).run P w = .ok (.value v) w) (hS : S w)
    (h : heldD F n P ops Q S D fuel (listed.setIfInBounds i true) { tmps := tmps.setIfInBounds d v, defers := ds } w) : heldD F n P ops Q S D (fuel + 1) listed { tmps := tmps, defers := ds } w :=
  heldD_first hro hi (Region.noSelect_spec hs) hQ (by simpa using hDi) (fun oD hoD => by
    unfold waits at hDe
    rw [hoD] at hDe
    simp only [Array.any_eq_true, Bool.and_eq_true, beq_iff_eq] at hDe
    obtain ⟨k, hk, h1, h2⟩ := hDe
    exact ⟨_, Array.getElem_mem hk, h1, h2⟩) fuel listed _ w (Region.free_spec hi hf) (by simpa using hr) ⟨hw, hy⟩ hD hS (by rw [hd]; exact h)
theorem heldD_firstF {i : Nat} {oi : Oper} {v : Value} (hro : F.round = none) (hi : ops[i]? = some oi) (hsel : ∀ (j : Nat) (o : Oper) cs b, ops[j]? = some o → o.op ≠ .select cs b) (hQ : ∀ c a w, Q (.panic c) (a.put oi.dst v) w → Q (.panic c) a w)
    (hDi : D ≠ i) :
    ∀ (fuel : Nat) (listed : Array Bool) (a : Act) (w : World), (∀ j oj, ops[j]? = some oj → j ≠ i → listed.getD j true = false → (∀ e ∈ oj.after, Region.binds .any e = true → e.on ≠ i) → oi.apart ops oj = true) →
      i ∈ Region.ready .any ops listed → ReadsIn P ops (fun _ => True) oi v a → (listed.getD D true = false → S w) → heldD F n P ops Q S D fuel (listed.setIfInBounds i true) (a.put oi.dst v) w → heldD F n P ops Q S D (fuel + 1) listed a w := by
  intro fuel
  induction fuel with
  | zero =>
    intro listed a w _ hr hy hS H
    refine ⟨fun h => (by rw [h] at hr; cases hr), fun j hj => ?_⟩
    by_cases hji : j = i
    · subst hji; exact hy.op hro hi trivial ⟨fun h => hS (by rwa [getD_set_ne true (Ne.symm hDi)] at h), H⟩
    · have := ready_mono hj hji
      rw [H.1] at this; cases this
  | succ fuel ih =>
    intro listed a w hfree hr hy hS H
    refine ⟨fun h => (by rw [h] at hr; cases hr), fun j hj => ?_⟩
    by_cases hji : j = i
    · subst hji; exact hy.op hro hi trivial ⟨fun h => hS (by rwa [getD_set_ne true (Ne.symm hDi)] at h), H⟩
    obtain ⟨hjun, oj, hoj, hall⟩ := mem_ready.1 hj
    have hnot : ∀ e ∈ oj.after, Region.binds .any e = true → e.on ≠ i := fun e he hb heq => by
      have h1 := hall e he hb
      have h0 := (mem_ready.1 hr).1
      rw [heq] at h1
      rcases Nat.lt_or_ge i listed.size with h' | h'
      · simp [h'] at h0 h1; rw [h0] at h1; cases h1
      · simp [Array.getElem?_eq_none h'] at h1
    refine wpOpIn_mono (fun a' w' h3 => ?_)
      (swapIn hro hoj (hfree j oj hoj hji hjun hnot) (fun cs b => hsel i oi cs b hi) (fun cs b => hsel j oj cs b hoj) hQ hy (H.2 j (ready_mono hj hji)))
    have hS' : (listed.setIfInBounds j true).getD D true = false → S w' := fun h => h3.2.1 (by
      by_cases hjD : j = D
      · subst hjD
        rw [getD_set_self] at h; cases h
      · rw [getD_set_ne true hjD, getD_set_ne true (Ne.symm hDi)]
        rwa [getD_set_ne true hjD] at h)
    refine ⟨hS', ih _ a' w' (fun k ok hk hki hun hno => hfree k ok hk hki ?_ hno) (ready_mono hr (Ne.symm hji)) h3.1 hS' ?_⟩
    · by_cases hjk : j = k
      · subst hjk; exact hjun
      · rwa [getD_set_ne true hjk] at hun
    · rw [Array.setIfInBounds_comm _ _ hji]; exact h3.2.2
/-- take an operation that looks at no memory -/
theorem heldD_takeF {i d : Nat} {oi : Oper} {v : Value} {fuel : Nat} {listed : Array Bool} {tmps : Array Value} {ds : List Deferred} {w : World} (hro : F.round = none) (hi : ops[i]? = some oi) (hd : oi.dst = some d) (hs : Region.noSelect ops = true) (hf : Region.free .any ops listed i = true)
    (hr : (Region.ready .any ops listed).contains i = true) (hDi : (D != i) = true) (hQ : ∀ c a w, Q (.panic c) (a.put oi.dst v) w → Q (.panic c) a w) (hw : Region.wanted oi (yielded ops tmps) = true)
    (hy : ∀ w, oi.about P w (Act.eval { tmps := tmps, defers := ds }) = none ∧ (execOp (Act.eval { tmps := tmps, defers := ds }) oi).run P w = .ok (.value v) w) (hS : listed.getD D true = false → S w)
    (h : heldD F n P ops Q S D fuel (listed.setIfInBounds i true) { tmps := tmps.setIfInBounds d v, defers := ds } w) : heldD F n P ops Q S D (fuel + 1) listed { tmps := tmps, defers := ds } w :=
  heldD_firstF hro hi (Region.noSelect_spec hs) hQ (by simpa using hDi) fuel listed _ w (Region.free_spec hi hf) (by simpa using hr) ⟨hw, fun w _ => hy w⟩ hS (by rw [hd]; exact h)
/-- the one that may come up -/
theorem heldD_one {i : Nat} {fuel : Nat} {listed : Array Bool} {a : Act} {w : World} (hr : Region.ready .any ops listed = [i])
    (h : wpOpIn F n P ops Q i (fun a' w' => ((listed.setIfInBounds i true).getD D true = false → S w') ∧ heldD F n P ops Q S D fuel (listed.setIfInBounds i true) a' w') a w) : heldD F n P ops Q S D (fuel + 1) listed a w :=
  ⟨fun h0 => (by rw [hr] at h0; cases h0), fun j hj => by rw [hr] at hj; obtain rfl : j = i := by simpa using hj
                                                          exact h⟩
theorem heldD_two {i k : Nat} {fuel : Nat} {listed : Array Bool} {a : Act} {w : World} (hr : Region.ready .any ops listed = [i, k])
    (h1 : wpOpIn F n P ops Q i (fun a' w' => ((listed.setIfInBounds i true).getD D true = false → S w') ∧ heldD F n P ops Q S D fuel (listed.setIfInBounds i true) a' w') a w)
    (h2 : wpOpIn F n P ops Q k (fun a' w' => ((listed.setIfInBounds k true).getD D true = false → S w') ∧ heldD F n P ops Q S D fuel (listed.setIfInBounds k true) a' w') a w) : heldD F n P ops Q S D (fuel + 1) listed a w :=
  ⟨fun h0 => (by rw [hr] at h0; cases h0), fun j hj => by
    rw [hr] at hj
    rcases List.mem_cons.1 hj with rfl | hj
    · exact h1
    · obtain rfl : j = k := by simpa using hj
      exact h2⟩
theorem heldD_done {listed : Array Bool} {a : Act} {w : World} (hr : Region.ready .any ops listed = []) (h : Q .normal a w) : ∀ fuel, heldD F n P ops Q S D fuel listed a w
  | 0 => ⟨hr, h⟩
  | _ + 1 => ⟨fun _ => h, by rw [hr]; simp⟩
theorem region_heldD {id : Nat} {a : Act} {w : World} (S : World → Prop) (D : Nat) (hm : P.follows .mixedOrders = true) (h : heldD F n P ops Q S D ops.size (Array.replicate ops.size false) a { w with drawn := w.drawn + 1 }) : (Code.region id ops true).wpIn F n P Q a w :=
  wpIn_region_any hm (any_of_heldD _ _ _ _ h)
/-- the region, in a walk without a fence -/
theorem wp_region_heldD {id : Nat} {a : Act} {w : World} (S : World → Prop) (D : Nat) (hm : P.follows .mixedOrders = true) (h : heldD Fence.wide 9 P ops Q S D ops.size (Array.replicate ops.size false) a { w with drawn := w.drawn + 1 }) : (Code.region id ops true).wp P Q a w :=
  wpIn_wide.1 (region_heldD (F := Fence.wide) (n := 9) S D hm h)
theorem wpOpIn_calls' {i : Nat} {o : Oper} {d : Nat} {tmps : Array Value} {ds : List Deferred} {w w' : World} {f : FuncId} {args : Array Value} {K : Act → World → Prop} {R : Ending → World → Prop} (hi : ops[i]? = some o) (hd : o.dst = some d) (hw : Region.wanted o (yielded ops tmps) = true)
    (he : (execOp (Act.eval { tmps := tmps, defers := ds }) o).run P w = .ok (.enter f args) w') (hc : Calls P f args w' R) (hk : ∀ e w'', R e w'' → ∃ v, e = .returned v ∧ K { tmps := tmps.setIfInBounds d v, defers := ds } w'') :
    wpOpIn Fence.wide 9 P ops Q i K { tmps := tmps, defers := ds } w :=
  wpOpIn_calls (R := R) hi hd hw he (by decide) (callsIn_wide.2 hc) (fun v w'' hr => by obtain ⟨_, e, h⟩ := hk _ _ hr; cases e; exact h) (fun _ _ hr => by obtain ⟨_, e, _⟩ := hk _ _ hr; cases e) (fun _ hr => by obtain ⟨_, e, _⟩ := hk _ _ hr; cases e)
/-- a store, or what else leaves no value -/
theorem wpOpIn_skip {i : Nat} {o : Oper} {tmps : Array Value} {ds : List Deferred} {w w' : World} {K : Act → World → Prop} (hro : F.round = none) (hi : ops[i]? = some o) (hd : o.dst = none) (hw : Region.wanted o (yielded ops tmps) = true)
    (hb : o.about P w (Act.eval { tmps := tmps, defers := ds }) = none) (he : (execOp (Act.eval { tmps := tmps, defers := ds }) o).run P w = .ok .skip w') (hk : K { tmps := tmps, defers := ds } w') : wpOpIn F n P ops Q i K { tmps := tmps, defers := ds } w := by
  unfold wpOpIn
  simp only [hi, hw, if_true, Oper.wpIn, hro, Oper.semAt_none, he, Oper.uponIn]
  refine ⟨fun f hf => (by rw [hb] at hf; cases hf), ?_⟩
  rw [hd]; exact hk
end
end Go.Proofs.YtlddcnkiigamjaaDoor
/- Kept S w w': w' is as w was but for the blocks of S (and new ones). -/
namespace Go.Proofs.YtlddcnkiigamjaaDoor
open Go.RowKit
/-- w' is as w was but for the blocks of S (and new ones) -/
structure Kept (S : Nat → Prop) (w w' : World) : Prop where
  os : w'.os = w.os
  tape : w'.tape = w.tape
  output : w'.output = w.output
  size : w.heap.size ≤ w'.heap.size
  block : ∀ k, k < w.heap.size → ¬ S k → w'.heap[k]? = w.heap[k]?

theorem Kept.refl (S : Nat → Prop) (w : World) : Kept S w w := ⟨rfl, rfl, rfl, Nat.le_refl _, fun _ _ _ => rfl⟩
theorem Kept.trans {S : Nat → Prop} {a b c : World} (h : Kept S a b) (k : Kept S b c) : Kept S a c :=
  ⟨k.os.trans h.os, k.tape.trans h.tape, k.output.trans h.output, Nat.le_trans h.size k.size, fun i hi hs => (k.block i (Nat.lt_of_lt_of_le hi h.size) hs).trans (h.block i hi hs)⟩
theorem Kept.drew {S : Nat → Prop} {a w : World} (h : Kept S a w) : Kept S a w.drew := ⟨h.os, h.tape, h.output, h.size, h.block⟩
theorem Kept.setCell {S : Nat → Prop} {a w : World} (h : Kept S a w) {p : Addr} (hp : S p.block) (u : Value) : Kept S a (w.setCell p u) :=
  ⟨h.os, h.tape, h.output, by simpa [World.setCell] using h.size, fun k hk hs => (heap_setCell_other _ _ _ _ (fun e => hs (by rw [e]; exact hp))).trans (h.block k hk hs)⟩
theorem Kept.below {S : Nat → Prop} {B : Nat} {a w : World} (h : Kept S a w) (hB : B ≤ a.heap.size) (hS : ∀ k, S k → B ≤ k) : Below B a w :=
  ⟨h.os, h.tape, h.output, h.size, fun k hk => h.block k (by omega) (fun hs => by have := hS k hs; omega)⟩
theorem Kept.of_below {S : Nat → Prop} {a w : World} (h : Below a.heap.size a w) : Kept S a w := ⟨h.os, h.tape, h.output, h.size, fun k hk _ => h.block k hk⟩
theorem Kept.blk {S : Nat → Prop} {a w : World} (h : Kept S a w) {b : Nat} {cs : Array Value} {t : TypeId} {fr : Nat × Nat} (hb : Blk a b cs t fr) (hs : ¬ S b) : Blk w b cs t fr := (h.block b hb.lt hs).trans hb

theorem Kept.alloc {S : Nat → Prop} {a w : World} (h : Kept S a w) (o : Obj) : Kept S a (w.alloc o) :=
  ⟨h.os, h.tape, h.output, by simp; have := h.size; omega, fun k hk hs => (Below.heap_alloc _ _ _ (Nat.lt_of_lt_of_le hk h.size)).trans (h.block k hk hs)⟩
theorem Kept.mono {S T : Nat → Prop} {a w : World} (h : Kept S a w) (hi : ∀ k, S k → T k) : Kept T a w := ⟨h.os, h.tape, h.output, h.size, fun k hk hs => h.block k hk (fun e => hs (hi k e))⟩
/-- what is new does not count -/
theorem Kept.new {S : Nat → Prop} {a w : World} (h : Kept (fun k => S k ∨ a.heap.size ≤ k) a w) : Kept S a w := ⟨h.os, h.tape, h.output, h.size, fun k hk hs => h.block k hk (fun e => e.elim hs (fun g => by omega))⟩
theorem Kept.next {B p : Nat} {w0 w w' : World} (hb : Below B w0 w) (hB : B ≤ w.heap.size) (hp : B ≤ p) (h : Kept (· = p) w w') : Below B w0 w' := hb.trans (h.below hB (fun k hk => by omega))
end Go.Proofs.YtlddcnkiigamjaaDoor
/- raw graphs and their lists, in plain words -/
namespace Go.Proofs.YtlddcnkiigamjaaDoor
open Go.RowKit
theorem SlX.form {w : World} {v : Value} {L : List Int} (h : SlX w v L) : ∃ a n c, v = .slice a n c := by obtain ⟨a, c, e, _⟩ := h; exact ⟨_, _, _, e⟩
theorem SlA.form {w : World} {v : Value} {L : List Ar} (h : SlA w v L) : ∃ a n c, v = .slice a n c := by obtain ⟨a, c, e, _⟩ := h; exact ⟨_, _, _, e⟩
theorem _root_.Go.World.ownsRow.one' {w : World} {base : Nat} {e : TypeId} {size : Nat} {v : Value} {n : Nat} {xs : List Value} (h : w.ownsRow base e size v n xs) : ∃ a n c, v = .slice a n c := by
  rcases h.2 with ⟨h, _⟩ | ⟨g, cap, cur, h, _⟩
  · exact ⟨_, _, _, h⟩
  · exact ⟨_, _, _, h⟩
theorem ownsRow_le {w : World} {base base' : Nat} {e : TypeId} {size : Nat} {v : Value} {n : Nat} {xs : List Value} (h : w.ownsRow base' e size v n xs) (hb : base ≤ base') : w.ownsRow base e size v n xs :=
  ⟨h.1, h.2.imp id fun ⟨g, cap, cur, h1, h2, h3⟩ => ⟨g, cap, cur, h1, Nat.le_trans hb h2, h3⟩⟩
theorem ownsRow_blk' {w : World} {base : Nat} {e : TypeId} {size : Nat} {v : Value} {n : Nat} {xs : List Value} (h : w.ownsRow base e size v n xs) {g : Nat} (hg : v.ownBlock = some g) : base ≤ g ∧ ∃ cur, Blk w g cur e (0, 0) := by
  rcases h.2 with ⟨rfl, _⟩ | ⟨g', cap, cur, rfl, h1, h2, _⟩
  · cases hg
  · obtain rfl : g' = g := by simpa [Value.ownBlock] using hg
    exact ⟨h1, cur, h2⟩
theorem ownsRow_agree' {w w' : World} {base : Nat} {e : TypeId} {size : Nat} {v : Value} {n : Nat} {xs : List Value} (h : w.ownsRow base e size v n xs) (hb : ∀ k, v.ownBlock = some k → w'.heap[k]? = w.heap[k]?) : w'.ownsRow base e size v n xs := by
  refine ⟨h.1, ?_⟩
  rcases h.2 with h0 | ⟨g, cap, cur, rfl, h1, h2, h3⟩
  · exact .inl h0
  · exact .inr ⟨g, cap, cur, rfl, h1, (hb g (by simp [Value.ownBlock])).trans h2, h3⟩
theorem ownsRow_below {w w' : World} {base : Nat} {e : TypeId} {size : Nat} {v : Value} {n : Nat} {xs : List Value} (h : w.ownsRow base e size v n xs) (hb : Below w.heap.size w w') : w'.ownsRow base e size v n xs :=
  ownsRow_agree' h fun _ hk => hb.block _ (ownsRow_blk' h hk).2.choose_spec.lt
/-- v is a raw graph -/
def RawV (w : World) (v : Value) (r : Raw) : Prop := ∃ vx vy va, v = .agg #[.int .i64 r.nodes, vx, vy, va] ∧ SlX w vx r.X ∧ SlX w vy r.Y ∧ SlA w va r.arcs
/-- a raw graph whose lists are ours -/
def RawO (base : Nat) (w : World) (v : Value) (r : Raw) : Prop :=
  ∃ vx vy va, v = .agg #[.int .i64 r.nodes, vx, vy, va] ∧ w.ownsRow base 2 1 vx r.X.length (r.X.flatMap inC) ∧ w.ownsRow base 2 1 vy r.Y.length (r.Y.flatMap inC) ∧ w.ownsRow base 58 3 va r.arcs.length (r.arcs.flatMap arC) ∧ (∀ b, vx.ownBlock = some b → vy.ownBlock = some b → False)
theorem RawO.raw {base : Nat} {w : World} {v : Value} {r : Raw} (h : RawO base w v r) : RawV w v r := by
  obtain ⟨vx, vy, va, e, h1, h2, h3, _⟩ := h
  exact ⟨vx, vy, va, e, slX_own rfl h1, slX_own rfl h2, slA_own rfl h3⟩
theorem RawO.below {base : Nat} {w w' : World} {v : Value} {r : Raw} (h : RawO base w v r) (hb : Below w.heap.size w w') : RawO base w' v r := by
  obtain ⟨vx, vy, va, e, h1, h2, h3, h4⟩ := h
  exact ⟨vx, vy, va, e, ownsRow_below h1 hb, ownsRow_below h2 hb, ownsRow_below h3 hb, h4⟩
theorem RawV.below {w w' : World} {v : Value} {r : Raw} (h : RawV w v r) (hb : Below w.heap.size w w') : RawV w' v r := by
  obtain ⟨vx, vy, va, e, h1, h2, h3⟩ := h
  have hk := KpC.of_below hb
  exact ⟨vx, vy, va, e, h1.keep hk, h2.keep hk, h3.keep hk⟩
/-- not more than memory holds -/
def Raw.few (r : Raw) : Prop := r.X.length ≤ 1000000000000 ∧ r.Y.length ≤ 1000000000000 ∧ r.arcs.length ≤ 1000000000000
/-- three rows are a graph's -/
def Own3 (base : Nat) (w : World) (vx vy va : Value) (r : Raw) : Prop := w.ownsRow base 2 1 vx r.X.length (r.X.flatMap inC) ∧ w.ownsRow base 2 1 vy r.Y.length (r.Y.flatMap inC) ∧ w.ownsRow base 58 3 va r.arcs.length (r.arcs.flatMap arC) ∧ (∀ b, vx.ownBlock = some b → vy.ownBlock = some b → False)
theorem ownsRow_set {w : World} {base : Nat} {e : TypeId} {size : Nat} {v : Value} {n : Nat} {xs : List Value} (h : w.ownsRow base e size v n xs) {p : Addr} {cs : Array Value} {t : TypeId} {fr : Nat × Nat} (hb : Blk w p.block cs t fr) (ht : t ≠ e) (x : Value) : (w.setCell p x).ownsRow base e size v n xs :=
  ownsRow_agree' h fun k hk => heap_setCell_other _ _ _ _ (fun e => by
    subst e
    obtain ⟨_, cur, hc⟩ := ownsRow_blk' h hk
    have e2 := (show w.heap[p.block]? = some _ from hb).symm.trans (show w.heap[p.block]? = some _ from hc)
    cases e2; exact ht rfl)
theorem Own3.set {base : Nat} {w : World} {vx vy va : Value} {r : Raw} (h : Own3 base w vx vy va r) {p : Addr} {cs : Array Value} {t : TypeId} {fr : Nat × Nat} (hb : Blk w p.block cs t fr) (h1 : t ≠ 2) (h2 : t ≠ 58) (x : Value) : Own3 base (w.setCell p x) vx vy va r :=
  ⟨ownsRow_set h.1 hb h1 x, ownsRow_set h.2.1 hb h1 x, ownsRow_set h.2.2.1 hb h2 x, h.2.2.2⟩
theorem rawO_mk {base : Nat} {w : World} {vx vy va : Value} {r : Raw} (h1 : w.ownsRow base 2 1 vx r.X.length (r.X.flatMap inC)) (h2 : w.ownsRow base 2 1 vy r.Y.length (r.Y.flatMap inC)) (h3 : w.ownsRow base 58 3 va r.arcs.length (r.arcs.flatMap arC)) (h4 : ∀ b, vx.ownBlock = some b → vy.ownBlock = some b → False) : Own3 base w vx vy va r := ⟨h1, h2, h3, h4⟩
theorem SlA.at {w : World} {a : Option Addr} {n cap : Nat} {L : List Ar} (h : SlA w (.slice a n cap) L) (k : Nat) (hk : k < L.length) : ∃ b off, a = some ⟨b, off, none⟩ ∧ w.cell? ⟨b, off + k * 3, none⟩ = some (.int .i64 L[k].1) ∧ w.cell? ⟨b, off + k * 3 + 1, none⟩ = some (.int .i64 L[k].2.1) ∧ w.cell? ⟨b, off + k * 3 + 2, none⟩ = some (.int .i64 L[k].2.2) := by
  obtain ⟨a', cap', e, _, _, h3⟩ := h
  obtain ⟨b, off, cs, t, fr, ea, hb, c0, c1, c2⟩ := h3 k hk
  have e3 := (Value.slice.inj e).1
  exact ⟨b, off, by rw [e3, ea], by rw [hb.cell]; exact c0, by rw [hb.cell]; exact c1, by rw [hb.cell]; exact c2⟩

end Go.Proofs.YtlddcnkiigamjaaDoor
