/- graph, in plain words: places, and which is bad first. -/
import Derived.Test.YtnkcmlngoeofgaaDoorHeap
import Derived.Test.YtnkcmlngoeofgaaDoorRead
namespace Go.Proofs.YtnkcmlngoeofgaaDoor
open Go.RowKit
/-- a place: index, field, code, number, least, end -/
structure Pl where
  ix : Int
  fl : Int
  co : Int
  n : Int
  lo : Int
  hi : Int
deriving DecidableEq
def Pl.cells (p : Pl) : List Value := [.int .i64 p.ix, .int .i64 p.fl, .int .i64 p.co, .int .i64 p.n, .int .i64 p.lo, .int .i64 p.hi]
def encP (p : Pl) : Array Value := #[.agg #[.int .i64 p.ix, .int .i64 p.fl, .int .i64 p.co, .int .i64 p.n, .int .i64 p.lo, .int .i64 p.hi]]
def Pl.bad (p : Pl) : Bool := decide (p.n < p.lo) || decide (p.hi ≤ p.n)
/-- an arc: from, to, weight -/
abbrev Ar := Int × Int × Int
structure Raw where
  nodes : Int
  X : List Int
  Y : List Int
  arcs : List Ar
/-- the five phases' places -/
def Raw.p0 (r : Raw) : List Pl := [⟨0, 0, 5, r.nodes, 1, 16777217⟩]
def Raw.p1 (r : Raw) : List Pl := [⟨0, 0, 6, r.X.length, r.nodes, r.nodes + 1⟩, ⟨0, 1, 6, r.Y.length, r.nodes, r.nodes + 1⟩]
def nodeP (i : Nat) (xy : Int × Int) : List Pl := [⟨i, 0, 7, xy.1, -2147483648, 2147483648⟩, ⟨i, 1, 7, xy.2, -2147483648, 2147483648⟩]
def arcP (nodes : Int) (i : Nat) (a : Ar) : List Pl := [⟨i, 0, 9, a.1, 0, nodes⟩, ⟨i, 1, 9, a.2.1, 0, nodes⟩, ⟨i, 2, 10, a.2.2, 0, 2147483648⟩]
/-- blocks of cells lie as they lay -/
structure KpC (W W' : World) : Prop where
  size : W.heap.size ≤ W'.heap.size
  block : ∀ (k : Nat) (cs : Array Value) (t : TypeId) (fr : Nat × Nat), W.heap[k]? = some (Obj.cells cs t fr) → W'.heap[k]? = W.heap[k]?
theorem KpC.trans {A B C : World} (h : KpC A B) (k : KpC B C) : KpC A C :=
  ⟨Nat.le_trans h.size k.size, fun i cs t fr hi => by have e := h.block i cs t fr hi; exact (k.block i cs t fr (e.trans hi)).trans e⟩
theorem KpC.refl (W : World) : KpC W W := ⟨Nat.le_refl _, fun _ _ _ _ _ => rfl⟩
theorem KpC.blk {W W' : World} (h : KpC W W') {b : Nat} {cs : Array Value} {t : TypeId} {fr : Nat × Nat} (hb : Blk W b cs t fr) : Blk W' b cs t fr := (h.block b cs t fr hb).trans hb
theorem KpC.of_below {W W' : World} (h : Below W.heap.size W W') : KpC W W' := ⟨h.size, fun k _ _ _ hk => h.block k (Array.getElem?_eq_some_iff.1 hk).1⟩
/-- v is a slice of places -/
def SlP (w : World) (v : Value) (L : List Pl) : Prop :=
  ∃ (a : Option Addr) (cap : Nat), v = .slice a L.length cap ∧ L.length ≤ cap ∧ cap ≤ maxLen ∧ ∀ i (h : i < L.length), ∃ b off cs t fr, a = some ⟨b, off, none⟩ ∧ Blk w b cs t fr ∧ ∀ j u, L[i].cells[j]? = some u → cs[off + i * 6 + j]? = some u
end Go.Proofs.YtnkcmlngoeofgaaDoor
