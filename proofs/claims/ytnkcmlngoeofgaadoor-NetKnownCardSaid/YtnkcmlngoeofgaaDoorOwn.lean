/-
  SLICES OF NUMBERS THAT THE CALL ITSELF HAS MADE, from their block's head on: read, written, appended to.
-/
import Derived.Test.YtnkcmlngoeofgaaDoorRead
import Derived.WalkKit
namespace Go.Proofs.YtnkcmlngoeofgaaDoor
open Go.RowKit

/-- v is a slice of the numbers l, from the head of block g on, which is ours -/
def OwnI (w : World) (v : Value) (g : Nat) (e : TypeId) (k : IntKind) (l : List Int) : Prop :=
  ∃ (cap : Nat) (ex : Array Value), v = .slice (some ⟨g, 0, none⟩) l.length cap ∧ Blk w g (icells k l ++ ex) e (0, 0) ∧ l.length + ex.size = cap ∧ cap ≤ maxLen
theorem icells_get' (k : IntKind) (l : List Int) (ex : Array Value) (i : Nat) (hi : i < l.length) : (icells k l ++ ex)[i]? = some (.int k l[i]) := by
  rw [Array.getElem?_append_left (by rw [icells_size]; exact hi)]; exact icells_get k l i hi
theorem icells_set' (k : IntKind) (l : List Int) (ex : Array Value) (i : Nat) (hi : i < l.length) (x : Int) : (icells k l ++ ex).setIfInBounds i (.int k x) = icells k (l.set i x) ++ ex := by
  rw [Array.setIfInBounds_append_left (by rw [icells_size]; exact hi), icells_set]
theorem OwnI.sl {w : World} {v : Value} {g : Nat} {e : TypeId} {k : IntKind} {l : List Int} (h : OwnI w v g e k l) : SlI w v k l := by
  obtain ⟨cap, ex, rfl, hb, h1, h2⟩ := h
  exact ⟨_, cap, rfl, by omega, h2, fun i hi => ⟨g, 0, rfl, by rw [Nat.zero_add, hb.cell, icells_get' _ _ _ _ hi]⟩⟩
theorem OwnI.lt {w : World} {v : Value} {g : Nat} {e : TypeId} {k : IntKind} {l : List Int} (h : OwnI w v g e k l) : g < w.heap.size := by
  obtain ⟨cap, ex, rfl, hb, h1, h2⟩ := h; exact hb.lt
theorem OwnI.block {w : World} {v : Value} {g : Nat} {e : TypeId} {k : IntKind} {l : List Int} (h : OwnI w v g e k l) : v.ownBlock = some g := by
  obtain ⟨cap, ex, rfl, hb, h1, h2⟩ := h; rfl
theorem OwnI.agree {w w' : World} {v : Value} {g : Nat} {e : TypeId} {k : IntKind} {l : List Int} (h : OwnI w v g e k l) (hb : w'.heap[g]? = w.heap[g]?) : OwnI w' v g e k l := by
  obtain ⟨cap, ex, rfl, h0, h1, h2⟩ := h
  exact ⟨cap, ex, rfl, hb.trans h0, h1, h2⟩
theorem OwnI.later {w w' : World} {v : Value} {g : Nat} {e : TypeId} {k : IntKind} {l : List Int} (h : OwnI w v g e k l) (hb : Below w.heap.size w w') : OwnI w' v g e k l := h.agree (hb.block g h.lt)
/-- a literal, a make: new -/
theorem OwnI.new (w : World) (e : TypeId) (k : IntKind) (l : List Int) (hl : l.length ≤ maxLen) : OwnI (w.alloc (.cells (icells k l) e)) (.slice (some ⟨w.heap.size, 0, none⟩) l.length l.length) w.heap.size e k l :=
  ⟨l.length, #[], rfl, by rw [Array.append_empty]; exact Blk.new _ _ _ _, by simp, hl⟩
/-- one store -/
theorem OwnI.set {w : World} {g n cap : Nat} {e : TypeId} {k : IntKind} {l : List Int} (h : OwnI w (.slice (some ⟨g, 0, none⟩) n cap) g e k l) (i : Nat) (hi : i < l.length) (x : Int) :
    OwnI (w.setCell ⟨g, i, none⟩ (.int k x)) (.slice (some ⟨g, 0, none⟩) n cap) g e k (l.set i x) := by
  obtain ⟨cap', ex, e1, h0, h1, h2⟩ := h
  refine ⟨cap', ex, by rw [List.length_set]; exact e1, ?_, by rw [List.length_set]; exact h1, h2⟩
  have := h0.set i (.int k x)
  rwa [icells_set' _ _ _ _ hi] at this
theorem OwnI.cell {w : World} {g n cap : Nat} {e : TypeId} {k : IntKind} {l : List Int} (h : OwnI w (.slice (some ⟨g, 0, none⟩) n cap) g e k l) (i : Nat) (hi : i < l.length) : w.cell? ⟨g, i, none⟩ = some (.int k l[i]) := by
  obtain ⟨cap', ex, e1, h0, h1, h2⟩ := h
  rw [h0.cell, icells_get' _ _ _ _ hi]
theorem OwnI.free {w : World} {g n cap : Nat} {e : TypeId} {k : IntKind} {l : List Int} (h : OwnI w (.slice (some ⟨g, 0, none⟩) n cap) g e k l) (i : Nat) : w.frozen? ⟨g, i, none⟩ = false := by
  obtain ⟨cap', ex, e1, h0, h1, h2⟩ := h
  exact h0.free i (.inr (Nat.zero_le _))

theorem ownsRow_of {w : World} {v : Value} {g : Nat} {e : TypeId} {k : IntKind} {l : List Int} (h : OwnI w v g e k l) : w.ownsRow g e 1 v l.length (l.map (Value.int k)) := by
  obtain ⟨cap, ex, rfl, h0, h1, h2⟩ := h
  refine ⟨by simp, .inr ⟨g, cap, _, rfl, Nat.le_refl _, h0, by omega, h2, by simp [icells_size]; omega, ?_⟩⟩
  simp [icells]
theorem ownI_of {w : World} {v : Value} {base n : Nat} {e : TypeId} {k : IntKind} {l : List Int} (h : w.ownsRow base e 1 v n (l.map (Value.int k))) (hv : v ≠ .slice none 0 0) : ∃ g, base ≤ g ∧ OwnI w v g e k l := by
  have hn : n = l.length := by have := h.1; simp at this; omega
  subst hn
  rcases h.2 with ⟨h0, _⟩ | ⟨g, cap, cur, rfl, hb, hg, hl, hm, hs, ht⟩
  · exact absurd h0 hv
  · refine ⟨g, hb, cap, (cur.toList.drop l.length).toArray, rfl, ?_, by simp; omega, hm⟩
    have e : icells k l ++ (cur.toList.drop l.length).toArray = cur := by
      apply Array.ext'
      rw [Nat.mul_one] at ht
      simp only [icells, Array.toList_append]
      rw [← ht]
      exact List.take_append_drop _ _
    rw [e]; exact hg
theorem run_append_none_any {P : Program} (w : World) (t ty e : TypeId) (i : TypeInfo) (v : Value) (c : Nat) (ht : P.underlying t = some (.slice e)) (hi : P.info? e = some i) {g : Nat} {k : IntKind} {l : List Int} (h : OwnI w v g e k l) :
    (Builtin.append_ #[t, t] ty #[v, .slice none 0 c]).run P w = .ok v w := by
  obtain ⟨cap, ex, rfl, h0, h1, h2⟩ := h
  have hle : l.length ≤ cap := by omega
  simp [Builtin.append_, run_underlying ht, sizeOf, typeInfo, hi, Builtin.lenOf, Builtin.firstCells, hle, storeCells]
/-- s[:m], whatever s starts at -/
theorem run_slice_to {P : Program} (t e : TypeId) (a : Option Addr) (n cap m : Nat) (ht : P.underlying t = some (.slice e)) (hs : (P.info? e).isSome = true) (hm : m ≤ cap) (u : World) :
    (Instr.slice t (.slice a n cap) none (some (.int .i64 m)) none).run P u = .ok (.slice a m cap) u := by
  have he : P.elem t = e := by unfold Program.elem; rw [ht]
  have ht' : P.underlying t = some (.slice (P.elem t)) := by rw [he]; exact ht
  rw [run_slice_h u t a n cap ht' .i64 (m : Int) (by omega) (by omega)]
  rw [he]
  cases hq : P.info? e with
  | none => simp [hq] at hs
  | some i =>
    cases a <;> simp [sizeOf, typeInfo, hq, sliced, Addr.add]
/-- append(v, s...) of a slice that is ours and a slice of numbers -/
theorem run_append_ints {P : Program} {w : World} {v s : Value} {g : Nat} {t e ty : TypeId} {k : IntKind} {l m : List Int} (bytes : Nat) (ht : P.underlying t = some (.slice e)) (hi : (P.info? e).map (fun i => (i.zero, i.size, i.bytes)) = some (some (.int k 0), 1, bytes))
    (h : OwnI w v g e k l) (hs : SlI w s k m) (hlen : l.length + m.length ≤ maxLen) (hby : (l.length + m.length) * bytes ≤ 140737488355328) :
    ∃ v' w' g', (Builtin.append_ #[t, t] ty #[v, s]).run P w = .ok v' w' ∧ OwnI w' v' g' e k (l ++ m) ∧ g ≤ g' ∧ w.grownBy w' (some g) := by
  obtain ⟨i0, hi, hz0, hz1, hz2⟩ := info_parts hi
  have hv : v ≠ .slice none 0 0 := by obtain ⟨cap, ex, rfl, _⟩ := h; simp
  have hb := h.block
  have hlt := h.lt
  obtain ⟨a, c, rfl, h1, h2, h3⟩ := hs
  cases a with
  | none =>
    have hm : m = [] := by
      cases m with
      | nil => rfl
      | cons x r => obtain ⟨b, off, e, _⟩ := h3 0 (by simp); cases e
    subst hm
    have hr := run_append_none_any (P := P) w t ty e i0 v c ht hi h
    exact ⟨v, w, g, hr, by simpa using h, Nat.le_refl _, ⟨rfl, rfl, rfl, Nat.le_refl _, fun _ _ _ => rfl⟩⟩
  | some a =>
    obtain ⟨v', w', hr, ho, hg, hn⟩ := run_append_own (P := P) w g t ty e i0 (.int k 0) 1 bytes ht hi hz0 hz1 hz2 rfl (by decide) v l.length (l.map (Value.int k)) (ownsRow_of h) a m.length c (m.map (Value.int k)) (by simp)
      (fun j u hj => by
        have hj' : j < m.length := by simpa using (List.getElem?_eq_some_iff.1 hj).1
        obtain ⟨b, off, e1, hc⟩ := h3 j hj'
        obtain rfl : a = ⟨b, off, none⟩ := by simpa using e1
        have ea : (⟨b, off, none⟩ : Addr).add j = ⟨b, off + j, none⟩ := by unfold Addr.add; split <;> simp_all
        rw [ea, hc]
        simpa [List.getElem?_eq_getElem hj'] using hj)
      (fun u hu => by obtain ⟨x, _, rfl⟩ := List.mem_map.1 hu; rfl) hlen hby (by omega)
    have hv' : v' ≠ .slice none 0 0 := fun e => hv (hn.1 e).1
    rw [← List.map_append] at ho
    obtain ⟨g', hg', hown⟩ := ownI_of ho hv'
    rw [hb] at hg
    exact ⟨v', w', g', hr, hown, hg', hg⟩
/-- an append whose run is known -/
theorem wpList_append_run {P : Program} {w : World} {ops : Array Oper} {rest : List Oper} {o : Oper} {a : Act} {Q : Exit → Act → World → Prop} (hgd : o.guard = none) (s x : Operand) (t u : TypeId)
    (ho : o.op = .call { callee := .builtin .append, args := #[s, x], argTypes := #[t, u] }) {v' : Value} {w' : World} (hrun : (Builtin.append_ #[t, u] o.type #[a.eval s, a.eval x]).run P w = .ok v' w')
    (h : wpList P ops Q rest (a.put o.dst v') w') : wpList P ops Q (o :: rest) a w := by
  refine wpList_plain hgd fun K hK => ?_
  unfold Oper.wp execOp
  simp only [ho, resolve, invoke, builtin, Sem.run_bind, Sem.run_pure, Result.andThen_ok, List.map_toArray, List.map_cons, List.map_nil, hrun]
  exact hK _ _ h
end Go.Proofs.YtnkcmlngoeofgaaDoor
