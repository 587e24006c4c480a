/- Kept S w w': w' is as w was but for the blocks of S (and new ones). -/
import Derived.Test.YtnkcmlngoeofgaaDoorHeap
import Derived.Lib.Hide
namespace Go.Proofs.YtnkcmlngoeofgaaDoor
open Go.RowKit
/-- w' is as w was but for the blocks of S (and new ones) -/
structure Kept (S : Nat → Prop) (w w' : World) : Prop where
  os : w'.os = w.os
  tape : w'.tape = w.tape
  output : w'.output = w.output
  size : w.heap.size ≤ w'.heap.size
  block : ∀ k, k < w.heap.size → ¬ S k → w'.heap[k]? = w.heap[k]?

theorem Kept.refl (S : Nat → Prop) (w : World) : Kept S w w := ⟨rfl, rfl, rfl, Nat.le_refl _, fun _ _ _ => rfl⟩
theorem Kept.trans {S : Nat → Prop} {a b c : World} (h : Kept S a b) (k : Kept S b c) : Kept S a c :=
  ⟨k.os.trans h.os, k.tape.trans h.tape, k.output.trans h.output, Nat.le_trans h.size k.size, fun i hi hs => (k.block i (Nat.lt_of_lt_of_le hi h.size) hs).trans (h.block i hi hs)⟩
theorem Kept.drew {S : Nat → Prop} {a w : World} (h : Kept S a w) : Kept S a w.drew := ⟨h.os, h.tape, h.output, h.size, h.block⟩
theorem Kept.setCell {S : Nat → Prop} {a w : World} (h : Kept S a w) {p : Addr} (hp : S p.block) (u : Value) : Kept S a (w.setCell p u) :=
  ⟨h.os, h.tape, h.output, by simpa [World.setCell] using h.size, fun k hk hs => (heap_setCell_other _ _ _ _ (fun e => hs (by rw [e]; exact hp))).trans (h.block k hk hs)⟩
theorem Kept.below {S : Nat → Prop} {B : Nat} {a w : World} (h : Kept S a w) (hB : B ≤ a.heap.size) (hS : ∀ k, S k → B ≤ k) : Below B a w :=
  ⟨h.os, h.tape, h.output, h.size, fun k hk => h.block k (by omega) (fun hs => by have := hS k hs; omega)⟩
theorem Kept.of_below {S : Nat → Prop} {a w : World} (h : Below a.heap.size a w) : Kept S a w := ⟨h.os, h.tape, h.output, h.size, fun k hk _ => h.block k hk⟩
theorem Kept.blk {S : Nat → Prop} {a w : World} (h : Kept S a w) {b : Nat} {cs : Array Value} {t : TypeId} {fr : Nat × Nat} (hb : Blk a b cs t fr) (hs : ¬ S b) : Blk w b cs t fr := (h.block b hb.lt hs).trans hb

theorem Kept.alloc {S : Nat → Prop} {a w : World} (h : Kept S a w) (o : Obj) : Kept S a (w.alloc o) :=
  ⟨h.os, h.tape, h.output, by simp; have := h.size; omega, fun k hk hs => (Below.heap_alloc _ _ _ (Nat.lt_of_lt_of_le hk h.size)).trans (h.block k hk hs)⟩
theorem Kept.mono {S T : Nat → Prop} {a w : World} (h : Kept S a w) (hi : ∀ k, S k → T k) : Kept T a w := ⟨h.os, h.tape, h.output, h.size, fun k hk hs => h.block k hk (fun e => hs (hi k e))⟩
/-- what is new does not count -/
theorem Kept.new {S : Nat → Prop} {a w : World} (h : Kept (fun k => S k ∨ a.heap.size ≤ k) a w) : Kept S a w := ⟨h.os, h.tape, h.output, h.size, fun k hk hs => h.block k hk (fun e => e.elim hs (fun g => by omega))⟩
theorem Kept.next {B p : Nat} {w0 w w' : World} (hb : Below B w0 w) (hB : B ≤ w.heap.size) (hp : B ≤ p) (h : Kept (· = p) w w') : Below B w0 w' := hb.trans (h.below hB (fun k hk => by omega))
end Go.Proofs.YtnkcmlngoeofgaaDoor
