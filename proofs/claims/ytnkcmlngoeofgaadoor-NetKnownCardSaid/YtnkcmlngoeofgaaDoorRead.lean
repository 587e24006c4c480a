/-
  WHAT A READING OF AN ARGUMENT SAYS OF MEMORY, kind by kind of type: 'Rd P w t cs': these cells read as a value of type t.
-/
import Derived.Test.YtnkcmlngoeofgaaDoorHeap
import Derived.ProofKit
import Derived.OpenShut
import Derived.Deep.Slices
namespace Go.Proofs.YtnkcmlngoeofgaaDoor
open Go.RowKit Go.Deep

def Rd (P : Program) (w : World) (t : TypeId) (cs : List Value) : Prop :=
  ∃ (H : Type) (enc : TypeId × Value → H) (spare : Nat → Bool) (held : Bool) (fuel : Nat) (x : DataW H × List MemPlace), DataW.trod enc P w 0 spare held fuel t cs = some x

theorem Rd.of_trod {H : Type} {enc : TypeId × Value → H} {P : Program} {w : World} {spare : Nat → Bool} {held : Bool} {t : TypeId} {v : Value} {d : DataW H} {ps : List MemPlace}
    (h : DataW.Trod enc P w 0 spare held t v d ps) : Rd P w t v.cells.toList := by
  obtain ⟨fuel, h⟩ := h
  exact ⟨H, enc, spare, held, fuel, _, h⟩
section
variable {P : Program} {w : World} {t e : TypeId} {cs : List Value}
theorem Rd.int {k : IntKind} (ht : P.underlying t = some (.int k)) (h : Rd P w t cs) : ∃ n, cs = [.int k n] ∧ (Lit.int k n).wf = true := by
  obtain ⟨H, enc, sp, he, fuel, x, h⟩ := h
  obtain ⟨n, h1, _, h2⟩ := DataW.trod_int ht h
  exact ⟨n, h1, h2⟩
theorem Rd.bool (ht : P.underlying t = some .bool) (h : Rd P w t cs) : ∃ b, cs = [.bool b] := by
  obtain ⟨H, enc, sp, he, fuel, x, h⟩ := h
  obtain ⟨n, h1, _⟩ := DataW.trod_bool ht h
  exact ⟨n, h1⟩
theorem Rd.string (ht : P.underlying t = some .string) (h : Rd P w t cs) : ∃ s : ByteArray, cs = [.string s] ∧ s.size ≤ maxLen := by
  obtain ⟨H, enc, sp, he, fuel, x, h⟩ := h
  obtain ⟨n, h1, _, h2⟩ := DataW.trod_string ht h
  exact ⟨n, h1, h2⟩
theorem Rd.struct {fs : Array Field} (ht : P.underlying t = some (.struct fs)) (h : Rd P w t cs) :
    cs.length = P.cellsOf t ∧ ∀ (i : Nat) (f : Field), fs[i]? = some f → Rd P w f.type ((cs.drop f.offset).take (P.cellsOf f.type)) := by
  obtain ⟨H, enc, sp, he, fuel, x, h⟩ := h
  obtain ⟨xs, n, _, _, hl, hlen, hf⟩ := DataW.trod_struct ht h
  refine ⟨hl, fun i f hi => ?_⟩
  have hlt : i < xs.length := by rw [hlen]; exact (Array.getElem?_eq_some_iff.1 hi).1
  exact ⟨H, enc, sp, he, n, xs[i], (hf i f hi).trans (List.getElem?_eq_getElem hlt)⟩
theorem Rd.array {n : Nat} (ht : P.underlying t = some (.array n e)) (h : Rd P w t cs) :
    cs.length = P.cellsOf t ∧ ∀ i, i < n → Rd P w e ((cs.drop (i * P.cellsOf e)).take (P.cellsOf e)) := by
  obtain ⟨H, enc, sp, he, fuel, x, h⟩ := h
  obtain ⟨xs, m, _, _, hl, hlen, hf⟩ := DataW.trod_array ht h
  refine ⟨hl, fun i hi => ?_⟩
  have hlt : i < xs.length := by rw [hlen]; exact hi
  exact ⟨H, enc, sp, he, m, xs[i], (hf i hi).trans (List.getElem?_eq_getElem hlt)⟩
theorem Rd.field {fs : Array Field} {c : Value} (ht : P.underlying t = some (.struct fs)) (h : Rd P w t cs) (i : Nat) (hf : (fs[i]?).map (fun f => (f.offset, f.type)) = some (i, e)) (hc : P.cellsOf e = 1) (hi : cs[i]? = some c) : Rd P w e [c] := by
  cases hfi : fs[i]? with
  | none => rw [hfi] at hf; cases hf
  | some f =>
    rw [hfi] at hf
    obtain ⟨h1, h2⟩ : f.offset = i ∧ f.type = e := by simpa using hf
    have := (Rd.struct ht h).2 i f hfi
    rw [h1, h2, hc] at this
    obtain ⟨hlt, hci⟩ := List.getElem?_eq_some_iff.1 hi
    rw [List.drop_eq_getElem_cons hlt, hci] at this
    exact this
theorem Rd.elem {n : Nat} {c : Value} (ht : P.underlying t = some (.array n e)) (h : Rd P w t cs) (i : Nat) (hn : i < n) (hc : P.cellsOf e = 1) (hi : cs[i]? = some c) : Rd P w e [c] := by
  have := (Rd.array ht h).2 i hn
  rw [hc, Nat.mul_one] at this
  obtain ⟨hlt, hci⟩ := List.getElem?_eq_some_iff.1 hi
  rw [List.drop_eq_getElem_cons hlt, hci] at this
  exact this
/-- a slice: its elements' cells, each of which reads -/
theorem Rd.slice (ht : P.underlying t = some (.slice e)) (hc : 0 < P.cellsOf e) (h : Rd P w t cs) :
    ∃ (a : Option Addr) (len cap : Nat), cs = [.slice a len cap] ∧ len ≤ cap ∧ cap ≤ maxLen ∧ ∀ i, i < len → ∃ b off, a = some ⟨b, off, none⟩ ∧
      ∃ es : List Value, es.length = P.cellsOf e ∧ (∀ j, j < P.cellsOf e → w.cell? ⟨b, off + (i * P.cellsOf e + j), none⟩ = es[j]?) ∧ Rd P w e es := by
  obtain ⟨H, enc, sp, he, fuel, x, h⟩ := h
  rcases open_slice ht h with ⟨h1, _⟩ | ⟨a, len, cap, m, n, D, Pl, h1, _, hl, hm, hmm, _, hel⟩
  · exact ⟨none, 0, 0, h1, Nat.le_refl _, Nat.zero_le _, fun i hi => absurd hi (Nat.not_lt_zero i)⟩
  refine ⟨some a, len, cap, h1, hl, hm, fun i hi => ?_⟩
  have hlm : len ≤ m := by rw [hmm]; split <;> omega
  obtain ⟨es, hes, hrd⟩ := hel i (by omega)
  obtain ⟨_, hlen, hcell⟩ := World.cells?_some hes
  have hspot : a.spot = none := by
    obtain ⟨es0, hes0, _⟩ := hel 0 (by omega)
    obtain ⟨_, hlen0, hcell0⟩ := World.cells?_some hes0
    have h0 := hcell0 0 hc
    rw [List.getElem?_eq_getElem (by omega)] at h0
    have e : (a.add (0 * P.cellsOf e)).add 0 = a := by simp [Addr.add]
    rw [e] at h0
    cases hs : a.spot with
    | none => rfl
    | some s =>
      unfold World.cell? at h0
      split at h0
      · simp [hs] at h0
      · cases h0
  obtain ⟨b, off, s⟩ := a
  simp only at hspot; subst hspot
  refine ⟨b, off, rfl, es, hlen, fun j hj => ?_, ⟨H, enc, sp, he, n, _, hrd⟩⟩
  have := hcell j hj
  rw [add_add] at this
  have e : (⟨b, off, none⟩ : Addr).add (i * P.cellsOf e + j) = ⟨b, off + (i * P.cellsOf e + j), none⟩ := by
    unfold Addr.add; split <;> simp_all
  rwa [e] at this
end

/- SLICES OF NUMBERS -/
/-- v is a slice of the numbers l -/
def SlI (w : World) (v : Value) (k : IntKind) (l : List Int) : Prop :=
  ∃ (a : Option Addr) (cap : Nat), v = .slice a l.length cap ∧ l.length ≤ cap ∧ cap ≤ maxLen ∧ ∀ i (h : i < l.length), ∃ b off, a = some ⟨b, off, none⟩ ∧ w.cell? ⟨b, off + i, none⟩ = some (.int k l[i])
theorem SlI.agree {w w' : World} {v : Value} {k : IntKind} {l : List Int} (h : SlI w v k l) (hb : ∀ b, v.ownBlock = some b → w'.heap[b]? = w.heap[b]?) : SlI w' v k l := by
  obtain ⟨a, cap, rfl, h1, h2, h3⟩ := h
  refine ⟨a, cap, rfl, h1, h2, fun i hi => ?_⟩
  obtain ⟨b, off, rfl, hc⟩ := h3 i hi
  exact ⟨b, off, rfl, (World.cell?_of_block (hb b rfl)).trans hc⟩
theorem SlI.lt {w : World} {v : Value} {k : IntKind} {l : List Int} (h : SlI w v k l) (hl : 0 < l.length) : ∀ b, v.ownBlock = some b → b < w.heap.size := by
  obtain ⟨a, cap, rfl, h1, h2, h3⟩ := h
  intro b hb
  obtain ⟨b', off, rfl, hc⟩ := h3 0 hl
  have : b' = b := by simpa [Value.ownBlock] using hb
  subst this
  exact block_lt_of_cell hc
theorem SlI.alloc {w : World} {v : Value} {k : IntKind} {l : List Int} (h : SlI w v k l) (o : Obj) : SlI (w.alloc o) v k l := by
  by_cases hl : 0 < l.length
  · exact h.agree (fun b hb => Below.heap_alloc _ _ _ (h.lt hl b hb))
  · obtain ⟨a, cap, rfl, h1, h2, h3⟩ := h
    exact ⟨a, cap, rfl, h1, h2, fun i hi => absurd hi (by omega)⟩
theorem SlI.cells {w : World} {b off cap : Nat} {k : IntKind} {l : List Int} {n : Nat} (h : SlI w (.slice (some ⟨b, off, none⟩) n cap) k l) : ∀ i (hi : i < l.length), w.cell? ⟨b, off + i, none⟩ = some (.int k l[i]) := by
  intro i hi
  obtain ⟨a, cap', e, h1, h2, h3⟩ := h
  obtain ⟨b', off', e2, hc⟩ := h3 i hi
  rw [e2] at e
  simp only [Value.slice.injEq, Option.some.injEq, Addr.mk.injEq, and_true] at e
  obtain ⟨⟨rfl, rfl⟩, _, _⟩ := e
  exact hc
theorem SlI.below {w w' : World} {v : Value} {k : IntKind} {l : List Int} (h : SlI w v k l) (hb : Below w.heap.size w w') : SlI w' v k l := by
  by_cases hl : 0 < l.length
  · exact h.agree (fun b hv => hb.block b (h.lt hl b hv))
  · obtain ⟨a, cap, rfl, h1, h2, h3⟩ := h
    exact ⟨a, cap, rfl, h1, h2, fun i hi => absurd hi (by omega)⟩
/-- copy(own, l), own just made -/
theorem run_copy_whole {P : Program} (w : World) (dT sT ty e : TypeId) (k : IntKind) (hu : P.underlying dT = some (.slice e)) (hs : (P.info? e).map (·.size) = some 1) (a : Option Addr) (cap : Nat) (l : List Int)
    (h : SlI w (.slice a l.length cap) k l) :
    (Builtin.copy_ #[dT, sT] ty #[.slice (some ⟨w.heap.size, 0, none⟩) l.length l.length, .slice a l.length cap]).run P (w.alloc (.cells (icells k (List.replicate l.length 0)) e)) = .ok (goInt l.length) (w.alloc (.cells (icells k l) e)) := by
  by_cases hl : l.length = 0
  · have hr := run_copy_none (P := P) (w.alloc (.cells (icells k (List.replicate l.length 0)) e)) dT sT ty e (some ⟨w.heap.size, 0, none⟩) a l.length l.length l.length cap hu hs (by simp [hl])
    rw [hr]
    obtain rfl : l = [] := List.eq_nil_of_length_eq_zero hl
    rfl
  · have hh := h
    obtain ⟨a', cap', e', _, _, h3⟩ := hh
    obtain ⟨b, off, e2, _⟩ := h3 0 (by omega)
    obtain rfl : a = a' := by simpa using (Value.slice.inj e').1
    clear h3 e'
    subst e2
    have hc := (SlI.alloc h (.cells (icells k (List.replicate l.length 0)) e)).cells
    have hr := run_copy_row (P := P) (w.alloc (.cells (icells k (List.replicate l.length 0)) e)) dT sT ty e w.heap.size 0 l.length l.length ⟨b, off, none⟩ l.length cap (icells k (List.replicate l.length 0)) e (l.map (Value.int k)) hu hs
      (heap_alloc_new _ _) (by simp) (fun j v hj => by
        have hj' : j < l.length := by simpa using (List.getElem?_eq_some_iff.1 hj).1
        have ea : (⟨b, off, none⟩ : Addr).add j = ⟨b, off + j, none⟩ := by unfold Addr.add; split <;> simp_all
        rw [ea, hc j hj']
        simpa [List.getElem?_eq_getElem hj'] using hj) (by simp [icells]) (fun v hv => by obtain ⟨x, _, rfl⟩ := List.mem_map.1 hv; rfl)
    rw [hr, setRow_new]
    simp [icells]
/-- a reading of a slice of numbers -/
theorem Rd.ints {P : Program} {w : World} {t e : TypeId} {v : Value} {k : IntKind} (ht : P.underlying t = some (.slice e)) (he : P.underlying e = some (.int k)) (hc : P.cellsOf e = 1) (h : Rd P w t [v]) :
    ∃ l : List Int, SlI w v k l ∧ ∀ x ∈ l, (Lit.int k x).wf = true := by
  obtain ⟨a, len, cap, h1, hl, hm, hel⟩ := Rd.slice ht (by omega) h
  have hex : ∀ i, i < len → ∃ n : Int, (Lit.int k n).wf = true ∧ ∃ b off, a = some ⟨b, off, none⟩ ∧ w.cell? ⟨b, off + i, none⟩ = some (.int k n) := fun i hi => by
    obtain ⟨b, off, ha, es, hes, hcell, hrd⟩ := hel i hi
    obtain ⟨n, rfl, hw⟩ := Rd.int he hrd
    have := hcell 0 (by omega)
    rw [hc, Nat.mul_one, Nat.add_zero] at this
    exact ⟨n, hw, b, off, ha, this⟩
  obtain ⟨f, hf⟩ := choose_lt hex
  have hv : v = .slice a len cap := by simpa using h1
  refine ⟨(List.range len).map f, ⟨a, cap, by rw [hv]; simp, by simpa using hl, hm, fun i hi => ?_⟩, fun x hx => ?_⟩
  · have hi' : i < len := by simpa using hi
    obtain ⟨_, b, off, ha, hcell⟩ := hf i hi'
    exact ⟨b, off, ha, by simpa using hcell⟩
  · obtain ⟨i, hi, rfl⟩ := List.mem_map.1 hx
    exact (hf i (List.mem_range.1 hi)).1
end Go.Proofs.YtnkcmlngoeofgaaDoor
