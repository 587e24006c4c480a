/-
  SMALL LAWS ON BLOCKS OF MEMORY: what a block that is known whole gives of its cells, and what becomes of it.
-/
import Derived.WalkKit
namespace Go.Proofs.YtnkcmlngoeofgaaDoor
open Go.RowKit
/-- block b is known whole -/
abbrev Blk (w : World) (b : Nat) (cs : Array Value) (t : TypeId) (fr : Nat × Nat) : Prop := w.heap[b]? = some (.cells cs t fr)
theorem Blk.cell {w : World} {b : Nat} {cs : Array Value} {t : TypeId} {fr : Nat × Nat} (h : Blk w b cs t fr) (i : Nat) : w.cell? ⟨b, i, none⟩ = cs[i]? := cell_of_row w b i cs t fr h
theorem Blk.free {w : World} {b : Nat} {cs : Array Value} {t : TypeId} {fr : Nat × Nat} (h : Blk w b cs t fr) (i : Nat) (hi : i < fr.1 ∨ fr.2 ≤ i) : w.frozen? ⟨b, i, none⟩ = false := by
  unfold World.frozen?
  simp only [show w.heap[b]? = some (.cells cs t fr) from h]
  simp; omega
theorem Blk.lt {w : World} {b : Nat} {cs : Array Value} {t : TypeId} {fr : Nat × Nat} (h : Blk w b cs t fr) : b < w.heap.size := (Array.getElem?_eq_some_iff.1 h).1
theorem Blk.set {w : World} {b : Nat} {cs : Array Value} {t : TypeId} {fr : Nat × Nat} (h : Blk w b cs t fr) (i : Nat) (v : Value) : Blk (w.setCell ⟨b, i, none⟩ v) b (cs.setIfInBounds i v) t fr := by
  rw [setCell_eq_setRow w b i cs t fr v h]
  exact setRow_heap w b cs _ t _ h
theorem Blk.setOther {w : World} {b : Nat} {cs : Array Value} {t : TypeId} {fr : Nat × Nat} (h : Blk w b cs t fr) (a : Addr) (v : Value) (hb : b ≠ a.block) : Blk (w.setCell a v) b cs t fr := by
  unfold Blk; rw [heap_setCell_other _ _ _ _ hb]; exact h
theorem Blk.drew {w : World} {b : Nat} {cs : Array Value} {t : TypeId} {fr : Nat × Nat} (h : Blk w b cs t fr) : Blk w.drew b cs t fr := h
theorem Blk.alloc {w : World} {b : Nat} {cs : Array Value} {t : TypeId} {fr : Nat × Nat} (h : Blk w b cs t fr) (o : Obj) : Blk (w.alloc o) b cs t fr := by
  unfold Blk; rw [Below.heap_alloc _ _ _ h.lt]; exact h
theorem Blk.below {w w' : World} {B b : Nat} {cs : Array Value} {t : TypeId} {fr : Nat × Nat} (h : Blk w b cs t fr) (hb : Below B w w') (hlt : b < B) : Blk w' b cs t fr := (hb.block b hlt).trans h
theorem Blk.new (w : World) (cs : Array Value) (t : TypeId) (fr : Nat × Nat) : Blk (w.alloc (.cells cs t fr)) w.heap.size cs t fr := heap_alloc_new w _
theorem _root_.Go.RowKit.Below.next' {w w1 w2 : World} (h : Below w.heap.size w w1) (k : Below w1.heap.size w1 w2) : Below w.heap.size w w2 := h.trans (k.mono h.size)

theorem setRow_new (w : World) (c c' : Array Value) (t : TypeId) : (w.alloc (.cells c t)).setRow w.heap.size c' = w.alloc (.cells c' t) := by
  have h : (w.heap.push (.cells c t)).modify w.heap.size (fun | .cells _ elem frozen => .cells c' elem frozen | o => o) = w.heap.push (.cells c' t) := by
    apply Array.ext_getElem?
    intro i
    rw [Array.getElem?_modify, Array.getElem?_push, Array.getElem?_push]
    by_cases e : w.heap.size = i
    · subst e; simp
    · have e' : i ≠ w.heap.size := fun h => e h.symm
      simp [e, e']
  show ({ w with heap := (w.heap.push (.cells c t)).modify w.heap.size (fun | .cells _ elem frozen => .cells c' elem frozen | o => o) } : World) = { w with heap := w.heap.push (.cells c' t) }
  rw [h]
/-- bytes as cells -/
def u8cells (l : List UInt8) : Array Value := (l.map fun b => Value.int .u8 (b.toNat : Int)).toArray
theorem u8cells_size (l : List UInt8) : (u8cells l).size = l.length := by simp [u8cells]
theorem u8cells_get (l : List UInt8) (x : Array Value) (i : Nat) (hi : i < l.length) : (u8cells l ++ x)[i]? = some (.int .u8 (l[i].toNat : Int)) := by
  rw [Array.getElem?_append_left (by rw [u8cells_size]; exact hi)]
  simp [u8cells, hi]
theorem u8cells_set (l : List UInt8) (x : Array Value) (i : Nat) (hi : i < l.length) (b : UInt8) : (u8cells l ++ x).setIfInBounds i (.int .u8 (b.toNat : Int)) = u8cells (l.set i b) ++ x := by
  rw [Array.setIfInBounds_append_left (by rw [u8cells_size]; exact hi)]
  congr 1
  unfold u8cells
  rw [List.map_set, List.setIfInBounds_toArray]
theorem bytesRow_eq (s : ByteArray) (cap : Nat) : bytesRow s cap = u8cells s.data.toList ++ Array.replicate (cap - s.size) (.int .u8 0) := by
  unfold bytesRow u8cells
  congr 1
  apply Array.ext'
  simp
theorem bytesRow_size (s : ByteArray) (cap : Nat) (h : s.size ≤ cap) : (bytesRow s cap).size = cap := by
  rw [bytesRow_eq]; simp [u8cells_size]; have : s.data.toList.length = s.size := rfl; omega
/-- string(b) of a block whose cells are bytes -/
theorem conv_block (w : World) (b : Nat) (l : List UInt8) (x : Array Value) (t : TypeId) (fr : Nat × Nat) (cap : Nat) (hw : Blk w b (u8cells l ++ x) t fr) :
    ∀ {P : Program} {src dst e : TypeId}, P.underlying src = some (.slice e) → P.underlying e = some (.int .u8) → P.underlying dst = some .string →
    (convert src dst (.slice (some ⟨b, 0, none⟩) l.length cap)).run P w = .ok (.string ⟨l.toArray⟩) w := by
  intro P src dst e hs he hd
  refine run_convert_bytes_back w src dst e ⟨b, 0, none⟩ cap l hs he hd ?_
  intro j hj
  have ha : (⟨b, 0, none⟩ : Addr).add j = ⟨b, j, none⟩ := by unfold Addr.add; split <;> simp_all
  rw [ha, hw.cell, u8cells_get l x j hj]
/-- numbers as cells -/
def icells (k : IntKind) (l : List Int) : Array Value := (l.map (Value.int k)).toArray
theorem icells_size (k : IntKind) (l : List Int) : (icells k l).size = l.length := by simp [icells]
theorem icells_get (k : IntKind) (l : List Int) (i : Nat) (hi : i < l.length) : (icells k l)[i]? = some (.int k l[i]) := by simp [icells, hi]
theorem icells_set (k : IntKind) (l : List Int) (i : Nat) (x : Int) : (icells k l).setIfInBounds i (.int k x) = icells k (l.set i x) := by
  unfold icells; rw [List.map_set, List.setIfInBounds_toArray]
/-- make([]T, n), T a kind of number -/
theorem run_make_ints {P : Program} (t e : TypeId) (k : IntKind) (bytes : Nat) (ht : P.underlying t = some (.slice e)) (hi : (P.info? e).map (fun i => (i.zero, i.size, i.bytes)) = some (some (.int k 0), 1, bytes)) (n : Nat) (hn : n * bytes ≤ 281474976710656) (hn2 : n ≤ 281474976710656) (u : World) :
    (Instr.makeSlice t (.int .i64 n) (.int .i64 n)).run P u = .ok (.slice (some ⟨u.heap.size, 0, none⟩) n n) (u.alloc (.cells (icells k (List.replicate n 0)) e)) := by
  obtain ⟨i0, hi, hz0, hz1, hz2⟩ := info_parts hi
  have hcast : ∀ m : Nat, m ≤ 281474976710656 → (m : Int) ≤ 281474976710656 := fun m h => by omega
  have h0 := hcast _ hn
  rw [Int.natCast_mul] at h0
  have h := run_make (P := P) u t e i0 (.int k 0) ht hi hz0 .i64 .i64 (n : Int) (n : Int) (by omega) (Int.le_refl _) (by rw [hz2]; first | exact h0 | (rw [Int.mul_comm]; exact h0)) (by omega)
  have e2 : madeCells #[Value.int k 0] n = icells k (List.replicate n 0) := by
    apply Array.ext'; rw [toList_madeCells_one]; simp [icells]
  simpa [hz1, Value.cells, e2] using h
/-- make([]byte, n) -/
theorem run_make_bytes {P : Program} (t e : TypeId) (ht : P.underlying t = some (.slice e)) (hi : (P.info? e).map (fun i => (i.zero, i.size, i.bytes)) = some (some (.int .u8 0), 1, 1)) (n : Nat) (hn : n ≤ 281474976710656) (u : World) :
    (Instr.makeSlice t (.int .i64 n) (.int .i64 n)).run P u = .ok (.slice (some ⟨u.heap.size, 0, none⟩) n n) (u.alloc (.cells (u8cells (List.replicate n 0)) e)) := by
  obtain ⟨i0, hi, hz0, hz1, hz2⟩ := info_parts hi
  have h := run_make (P := P) u t e i0 (.int .u8 0) ht hi hz0 .i64 .i64 (n : Int) (n : Int) (by omega) (Int.le_refl _) (by rw [hz2]; omega) (by omega)
  have e2 : madeCells #[Value.int .u8 0] n = u8cells (List.replicate n 0) := by
    apply Array.ext'; rw [toList_madeCells_one]; simp [u8cells]
  simpa [hz1, Value.cells, e2] using h
end Go.Proofs.YtnkcmlngoeofgaaDoor
