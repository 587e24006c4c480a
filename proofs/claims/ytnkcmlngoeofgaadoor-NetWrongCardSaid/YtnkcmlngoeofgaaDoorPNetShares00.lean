/- Texts of the law NetShares, merged: NetShI. -/
import Derived.Test.YtnkcmlngoeofgaaDoorPNetTells04
import Derived.Test.YtnkcmlngoeofgaaDoorPNetTells02
/- NetShares: rows of numbers that may be written, in blocks of S or behind N8. -/
namespace Go.Proofs.YtnkcmlngoeofgaaDoor
open Go.RowKit
/-- v is a row of n elements, all numbers, that may be written -/
def RowI (S : Nat → Prop) (N8 : Nat) (u : World) (v : Value) (n size : Nat) : Prop :=
  ∃ a cap, v = .slice a n cap ∧ (0 < n → ∃ g cs t, a = some ⟨g, 0, none⟩ ∧ t ≠ 25 ∧ Blk u g cs t (0, 0) ∧ (S g ∨ N8 ≤ g) ∧ ∀ i, i < n * size → ∃ x : Int, cs[i]? = some (.int .i64 x))
section
variable {S : Nat → Prop} {N8 : Nat} {u u' : World} {v : Value} {n size : Nat}
theorem RowI.below (h : RowI S N8 u v n size) (hb : Below u.heap.size u u') : RowI S N8 u' v n size := by
  obtain ⟨a, cap, hv, h⟩ := h
  refine ⟨a, cap, hv, fun hn => ?_⟩
  obtain ⟨g, cs, t, h1, h2, h3, h4⟩ := h hn
  exact ⟨g, cs, t, h1, h2, h3.below hb h3.lt, h4⟩
theorem RowI.set (h : RowI S N8 u v n size) (b i : Nat) (x : Int) : RowI S N8 (u.setCell ⟨b, i, none⟩ (.int .i64 x)) v n size := by
  obtain ⟨a, cap, hv, h⟩ := h
  refine ⟨a, cap, hv, fun hn => ?_⟩
  obtain ⟨g, cs, t, h1, h2, h3, h4, h5⟩ := h hn
  by_cases e : g = b
  · subst e
    refine ⟨g, _, t, h1, h2, h3.set i (.int .i64 x), h4, fun j hj => ?_⟩
    obtain ⟨y, hy⟩ := h5 j hj
    by_cases e : i = j
    · subst e
      exact ⟨x, by rw [Array.getElem?_setIfInBounds_self_of_lt (Array.getElem?_eq_some_iff.1 hy).1]⟩
    · exact ⟨y, by rw [Array.getElem?_setIfInBounds_ne e]; exact hy⟩
  · exact ⟨g, cs, t, h1, h2, h3.setOther ⟨b, i, none⟩ (.int .i64 x) e, h4, h5⟩
theorem RowI.form (h : RowI S N8 u v n size) : ∃ a c, v = .slice a n c := by obtain ⟨a, c, e, _⟩ := h; exact ⟨a, c, e⟩
theorem RowI.at {a : Option Addr} {cap : Nat} (h : RowI S N8 u (.slice a n cap) n size) (hn : 0 < n) :
    ∃ g, a = some ⟨g, 0, none⟩ ∧ (S g ∨ N8 ≤ g) ∧ (∀ i, u.frozen? ⟨g, i, none⟩ = false) ∧ (∀ i, i < n * size → ∃ x : Int, u.cell? ⟨g, i, none⟩ = some (.int .i64 x)) ∧ (∀ B cs fr, Blk u B cs 25 fr → B ≠ g) := by
  obtain ⟨a', cap', e, h⟩ := h
  obtain ⟨g, cs, t, h1, h2, h3, h4, h5⟩ := h hn
  obtain ⟨rfl, _⟩ : a = a' ∧ True := by simp only [Value.slice.injEq] at e; exact ⟨e.1, trivial⟩
  refine ⟨g, h1, h4, fun i => h3.free i (Or.inr (Nat.zero_le _)), fun i hi => ?_, fun B cs' fr hB e => ?_⟩
  · obtain ⟨x, hx⟩ := h5 i hi
    exact ⟨x, by rw [h3.cell]; exact hx⟩
  · subst e
    have e2 := (show u.heap[B]? = some _ from hB).symm.trans (show u.heap[B]? = some _ from h3)
    simp only [Option.some.injEq, Obj.cells.injEq] at e2
    exact h2 e2.2.1.symm
theorem RowI.of {base : Nat} {e : TypeId} {xs : List Value} (he : e ≠ 25) (h : u.ownsRow base e size v n xs) (hx : ∀ y ∈ xs, ∃ x : Int, y = .int .i64 x) (hl : ∀ b, base ≤ b → b < u.heap.size → S b ∨ N8 ≤ b) : RowI S N8 u v n size := by
  obtain ⟨hlen, h2⟩ := h
  rcases h2 with ⟨rfl, h0⟩ | ⟨g, cap, cur, rfl, hb, hg, hnc, hcm, hcs, ht⟩
  · refine ⟨none, 0, by rw [h0], fun hn => by omega⟩
  · refine ⟨_, cap, rfl, fun _ => ⟨g, cur, e, rfl, he, hg, hl g hb (show Blk u g cur e (0, 0) from hg).lt, fun i hi => ?_⟩⟩
    have hix : i < xs.length := by omega
    obtain ⟨x, hx⟩ := hx _ (List.getElem_mem hix)
    refine ⟨x, ?_⟩
    have h3 : cur.toList[i]? = some xs[i] := by
      have : (cur.toList.take (n * size))[i]? = xs[i]? := by rw [ht]
      rw [List.getElem?_take_of_lt hi, List.getElem?_eq_getElem hix] at this
      exact this
    rw [← Array.getElem?_toList, h3, hx]
theorem inC_ints {L : List Int} : ∀ y ∈ L.flatMap inC, ∃ x : Int, y = .int .i64 x := fun y hy => by
  obtain ⟨x, _, h⟩ := List.mem_flatMap.1 hy
  exact ⟨x, by simpa [inC] using h⟩
theorem arC_ints {L : List Ar} : ∀ y ∈ L.flatMap arC, ∃ x : Int, y = .int .i64 x := fun y hy => by
  obtain ⟨a, _, h⟩ := List.mem_flatMap.1 hy
  simp only [arC, List.mem_cons, List.not_mem_nil, or_false] at h
  rcases h with h | h | h <;> exact ⟨_, h⟩
/-- a graph's three rows -/
structure RawI (S : Nat → Prop) (N8 : Nat) (u : World) (vx vy va : Value) (g : Raw) : Prop where
  x : RowI S N8 u vx g.X.length 1
  y : RowI S N8 u vy g.Y.length 1
  a : RowI S N8 u va g.arcs.length 3
variable {vx vy va : Value} {g : Raw}
theorem RawI.below (h : RawI S N8 u vx vy va g) (hb : Below u.heap.size u u') : RawI S N8 u' vx vy va g := ⟨h.x.below hb, h.y.below hb, h.a.below hb⟩
theorem RawI.set (h : RawI S N8 u vx vy va g) (b i : Nat) (x : Int) : RawI S N8 (u.setCell ⟨b, i, none⟩ (.int .i64 x)) vx vy va g := ⟨h.x.set b i x, h.y.set b i x, h.a.set b i x⟩
theorem RawI.of {base : Nat} (h : Own3 base u vx vy va g) (hl : ∀ b, base ≤ b → b < u.heap.size → S b ∨ N8 ≤ b) : RawI S N8 u vx vy va g :=
  ⟨RowI.of (by decide) h.1 inC_ints hl, RowI.of (by decide) h.2.1 inC_ints hl, RowI.of (by decide) h.2.2.1 arC_ints hl⟩
theorem keptS_below {w8 : World} (h : Kept S w8 u) (hb : Below u.heap.size u u') : Kept S w8 u' := h.trans (Kept.of_below hb)
theorem keptS_set {w8 : World} (h : Kept S w8 u) {b : Nat} (hb : S b ∨ w8.heap.size ≤ b) (i : Nat) (x : Value) : Kept S w8 (u.setCell ⟨b, i, none⟩ x) :=
  Kept.new ((h.mono (T := fun k => S k ∨ w8.heap.size ≤ k) (fun _ h => .inl h)).setCell (p := ⟨b, i, none⟩) hb x)
end
end Go.Proofs.YtnkcmlngoeofgaaDoor
