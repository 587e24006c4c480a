/- a function that ranges over functions again and again: the marks among what it defers, at its end. -/
import Derived.Test.YtnkcmlngoeofgaaDoorGrIts
namespace Go.Proofs.YtnkcmlngoeofgaaDoor
open Go.RowKit Go.Shelf
theorem KpC.put {W : World} {l : Nat} {o o' : Obj} (ho : W.heap[l]? = some o) (hc : o.isCells = false) : KpC W (W.putObj l o') :=
  ⟨by simp, fun k cs t fr hk => World.putObj_heap_other (fun e => by
    subst e
    rw [ho] at hk; cases hk; cases hc)⟩
theorem below_put {B : Nat} {w W : World} {l : Nat} {o' : Obj} (h : Below B w W) (hl : B ≤ l) : Below B w (W.putObj l o') :=
  ⟨h.os, h.tape, h.output, by simpa using h.size, fun k hk => (World.putObj_heap_other (by omega)).trans (h.block k hk)⟩
/-- marks that stand from B on -/
def MarksAt (B : Nat) (w : World) : List Deferred → Prop
  | [] => True
  | d :: ds => (∃ D, d = { target := .collected D, args := #[] } ∧ B ≤ D ∧ w.heap[D]? = some (.deferred (some [])) ∧ ∀ d' ∈ ds, ∀ D', d' = { target := .collected D', args := #[] } → D' < D) ∧ MarksAt B w ds
theorem MarksAt.keep {B : Nat} : ∀ {ds : List Deferred} {w w' : World}, MarksAt B w ds → (∀ D, B ≤ D → (∃ d ∈ ds, d = { target := .collected D, args := #[] }) → w'.heap[D]? = w.heap[D]?) → MarksAt B w' ds
  | [], _, _, _, _ => trivial
  | d :: ds, w, w', ⟨⟨D, e, h1, h2, h3⟩, h⟩, hk => ⟨⟨D, e, h1, (hk D h1 ⟨d, by simp, e⟩).trans h2, h3⟩, MarksAt.keep h fun D' h1' ⟨d', hd', e'⟩ => hk D' h1' ⟨d', by simp [hd'], e'⟩⟩
theorem leaves_marks {F : Fence} {n : Nat} {P : Program} {fn : Func} {tmps : Array Value} {R : Ending → World → Prop} {B : Nat} {w0 : World} {u : FrameMode} (hu : u ≠ .run) :
    ∀ (ds : List Deferred) (w : World), MarksAt B w ds → Below B w0 w → (∀ w', KpC w w' → Below B w0 w' → LeavesIn F n P fn tmps R [] u w') → LeavesInM F n P fn tmps R ds u w
  | [], w, _, hb, h => h w (KpC.refl w) hb
  | d :: ds, w, ⟨⟨D, e, h1, h2, h3⟩, hm⟩, hb, h => by
    subst e
    refine ⟨hu, .inl ⟨_, _, rfl, run_takeDeferred h2, leaves_marks hu ds _ (hm.keep fun D' h1' ⟨d', hd', e'⟩ => World.putObj_heap_other (by have := h3 d' hd' D' e'; omega)) (below_put hb h1) fun w' hk hb' => h w' ((KpC.put h2 rfl).trans hk) hb'⟩⟩
theorem MarksAt.lt {B : Nat} : ∀ {ds : List Deferred} {w : World}, MarksAt B w ds → ∀ d ∈ ds, ∀ D, d = { target := .collected D, args := #[] } → D < w.heap.size
  | d :: ds, w, ⟨⟨D, e, h1, h2, h3⟩, h⟩, d', hd', D', e' => by
    rcases List.mem_cons.1 hd' with rfl | hd'
    · rw [e] at e'
      have : D = D' := by simpa using e'
      subst this
      exact (Array.getElem?_eq_some_iff.1 h2).1
    · exact MarksAt.lt h d' hd' D' e'
/-- one mark more -/
theorem MarksAt.more {B D : Nat} {ds : List Deferred} {w w' : World} (h : MarksAt B w ds) (hb : Below w.heap.size w w') (hB : B ≤ w.heap.size) (hD : w.heap.size ≤ D) (hK : w'.heap[D]? = some (.deferred (some []))) :
    MarksAt B w' ({ target := .collected D, args := #[] } :: ds) :=
  ⟨⟨D, rfl, by omega, hK, fun d' hd' D' e' => by have := h.lt d' hd' D' e'; omega⟩, h.keep fun D' _ ⟨d', hd', e'⟩ => hb.block D' (h.lt d' hd' D' e')⟩
end Go.Proofs.YtnkcmlngoeofgaaDoor
