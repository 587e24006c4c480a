/- Texts of the law CellNorms, merged: RangeSt, Heap, Read, GrPl, WalkP, WalkQ, WalkS, RoundPan, RangeDies, GrIt. -/
import Derived.RangeFuncBox
import Derived.RangeFuncLeaves
import Derived.Shelf.Abstract
import Derived.OwnWalkIn
import Derived.TacticsInMore
import Derived.LoopNIn
import Derived.LoopIn
import Derived.WalkKit
import Derived.ProofKit
import Derived.OpenShut
import Derived.Deep.Slices
import Derived.RangeFuncIn
import Derived.Test.YtjobijmmjebpaaaDoorRows
import Derived.WalkSpells
import Derived.ChangeAlike
import Derived.RangeFuncSeq
import Derived.Lib.Hide
import Derived.RegionIn
/-
  'for x := range it { .. }' WHERE THE ITERATOR WRITES CELLS OF ITS OWN BETWEEN TWO ROUNDS (a variable that its closure captures): its steps by a relation St; a body may leave the loop (return, break). On the kit's wpIn_rangeFunc, roundIn_of_wpIn.
-/
namespace Go.Proofs.YtjobijmmjebpaaaDoor
open Go.RowKit Go.Shelf
theorem wpIn_rangeSt {α : Type} {F : Fence} {n : Nat} {P : Program} {g : Operand} {ps : Array Tmp} {assign body : Code} {Q : Exit → Act → World → Prop} {a : Act} {w : World}
    (hro : F.round = none) (h1 : 1 ≤ n) {gf : Nat} {lb : Array Value} (hg : a.eval g = .func (.func gf) #[] lb) (hFg : F.fn gf) (eg : ∀ args w, (callFunc gf args).run P w = .ok (.enter gf args) w)
    (encs : α → Array Value) (hps : ∀ x, (encs x).size = ps.size) (St Kp : World → World → Prop) (S Sp : List α → Prop) (N : Nat)
    (hit : ∀ (l : Nat) (J Jx : List α → World → Prop) (W : World), Below w.heap.size w W → (∀ s A B, J s A → St A B → J s B) → (∀ s A B, Jx s A → St A B → Jx s B) →
      (∀ pre x W1, J pre W1 → pre.length < N → YieldAt F (n - 1 - 1) P l (encs x) W1 fun e W' => (e = .returned (.bool true) ∧ J (pre ++ [x]) W' ∧ Kp W1 W') ∨ (e = .returned (.bool false) ∧ Jx (pre ++ [x]) W')) → J [] W →
      CallsIn F (n - 1) P gf (#[.func (.yield l) #[] #[]] ++ lb) W fun e W' => (∃ v, e = .returned v) ∧ ((∃ xs, S xs ∧ J xs W') ∨ (∃ pre, Sp pre ∧ Jx pre W')))
    (hSt : ∀ A B k o, St A B → w.heap.size ≤ k → A.heap[k]? = some o → o.isCells = false → B.heap[k]? = some o)
    (I : List α → World → Prop) (hIs : ∀ s A B, I s A → St A B → I s B) (hIp : ∀ s A l o o', I s A → w.heap.size ≤ l → A.heap[l]? = some o → o.isCells = false → I s (A.putObj l o')) (hIa : ∀ s A o, I s A → I s (A.alloc o))
    (Ix : Code → List α → World → Prop) (hXs : ∀ c s A B, Ix c s A → St A B → Ix c s B) (hXp : ∀ c s A l o o', Ix c s A → w.heap.size ≤ l → A.heap[l]? = some o → o.isCells = false → Ix c s (A.putObj l o'))
    (hKt : ∀ {A B C : World}, Kp A B → Kp B C → Kp A C) (hKb : ∀ (W : World) (l : Nat) (o o' : Obj), w.heap.size ≤ l → W.heap[l]? = some o → o.isCells = false → Kp W (W.putObj l o'))
    (h0 : I [] w) (A : List α → α → Act → World → Prop) (hAp : ∀ pre x a1 W l o o', A pre x a1 W → w.heap.size ≤ l → W.heap[l]? = some o → o.isCells = false → A pre x a1 (W.putObj l o'))
    (hassign : ∀ (l : Nat) (pre : List α) (x : α) (W : World) (K : Act → World → Prop), I pre W → pre.length < N → (∀ a1 W1, A pre x a1 W1 → KeepsFrom w.heap.size W W1 → Kp W W1 → K a1 W1) →
      assign.wpIn (F.inRound l) (n - 1 - 1) P (Exit.then K (fun _ _ _ => False)) { tmps := (ps.zip (encs x)).foldl (fun t (p, v) => t.setIfInBounds p v) a.tmps, defers := [] } W)
    (hbody : ∀ (l : Nat) (pre : List α) (x : α) (a1 : Act) (W : World), A pre x a1 W → pre.length < N → body.wpIn (F.inRound l) (n - 1 - 1) P (ownPostG w.heap.size Kp I Ix (pre ++ [x]) W) a1 W)
    (hdone : ∀ (D : Nat) (xs : List α) (W : World), w.heap.size ≤ D → S xs → I xs W → W.heap[D]? = some (.deferred (some [])) → Q .normal { a with defers := { target := .collected D, args := #[] } :: a.defers } W)
    (hstop : ∀ (D : Nat) (c : Code) (pre : List α) (W : World), w.heap.size ≤ D → Sp pre → Ix c pre W → W.heap[D]? = some (.deferred (some [])) → c.wpIn F n P Q { a with defers := { target := .collected D, args := #[] } :: a.defers } W) :
    (Code.rangeFunc g ps assign body).wpIn F n P Q a w := by
  refine wpIn_rangeFunc ?_
  intro fn hfn
  rw [hro]
  obtain ⟨rec, hrec⟩ : ∃ rec : LoopState → Option Code → Loop, rec = fun st pe => { state := st, pending := pe, fn, tmps := a.tmps, params := ps, assign, body, defers := w.heap.size } := ⟨_, rfl⟩
  obtain ⟨W1, hW1⟩ : ∃ W1, (w.alloc (.deferred (some []))).alloc (.loop (rec .ready none)) = W1 := ⟨_, rfl⟩
  have hL1 : W1.heap[w.heap.size + 1]? = some (.loop (rec .ready none)) := by
    rw [← hW1]; have := World.alloc_heap_new (w.alloc (.deferred (some []))) (.loop (rec .ready none)); rwa [World.size_alloc] at this
  have hD1 : W1.heap[w.heap.size]? = some (.deferred (some [])) := by
    rw [← hW1]; exact (Below.heap_alloc _ _ _ (by simp)).trans (World.alloc_heap_new w _)
  have hb1 : Below w.heap.size w W1 := by rw [← hW1]; exact ((Below.refl _ w).alloc (Nat.le_refl _) _).alloc (by simp) _
  have hI1 : I [] W1 := by rw [← hW1]; exact hIa _ _ _ (hIa _ _ _ h0)
  refine ⟨w.heap.size + 1, [{ target := .collected w.heap.size, args := #[] }], W1, { target := .fn (.func gf) lb, args := #[.func (.yield (w.heap.size + 1)) #[] #[]] }, W1, gf,
    #[.func (.yield (w.heap.size + 1)) #[] #[]] ++ lb, W1, ?_, ?_, ?_, ?_, fun _ => h1, ?_⟩
  · rw [← hW1, hrec]; exact run_enterLoop_outer _ _ _ _ _
  · simp only [resolve, hg]
    simp [go_sem]
  · intro f' hf'; simp [Target.leads] at hf'; subst hf'; exact hFg
  · simp [invoke, go_sem, eg]
  refine (hit (w.heap.size + 1) (fun pre W => I pre W ∧ W.heap[w.heap.size + 1]? = some (.loop (rec .ready none)) ∧ W.heap[w.heap.size]? = some (.deferred (some [])))
    (fun pre W => ∃ c, Ix c pre W ∧ W.heap[w.heap.size + 1]? = some (.loop (rec .done (some c))) ∧ W.heap[w.heap.size]? = some (.deferred (some []))) W1 hb1
    (fun s A B hs hst => ⟨hIs s A B hs.1 hst, hSt A B _ _ hst (by omega) hs.2.1 rfl, hSt A B _ _ hst (Nat.le_refl _) hs.2.2 rfl⟩)
    (fun s A B hs hst => by obtain ⟨c, hc, hl, hk⟩ := hs; exact ⟨c, hXs c s A B hc hst, hSt A B _ _ hst (by omega) hl rfl, hSt A B _ _ hst (Nat.le_refl _) hk rfl⟩) ?_ ⟨hI1, hL1, hD1⟩).mono ?_
  · rintro pre x W ⟨hi, hl, hk⟩ hlen
    have hlt : w.heap.size + 1 < W.heap.size := (Array.getElem?_eq_some_iff.1 hl).1
    have hy := run_yield (P := P) (args := encs x) hl (by rw [hrec]; exact hps x)
    rw [hrec] at hy
    refine ⟨fn, _, assign, body, hy, roundIn_of_wpIn hfn (hassign _ pre x W _ hi hlen ?_)⟩
    intro a1 Wa hA hka hkpa
    have hla := hka.same _ _ (by omega) hl rfl
    have hlta : w.heap.size + 1 < Wa.heap.size := (Array.getElem?_eq_some_iff.1 hla).1
    refine ⟨_, run_beginRound hla (by rw [hrec]), ?_⟩
    obtain ⟨Wb, hWb⟩ : ∃ Wb, Wa.putObj (w.heap.size + 1) (.loop { rec .ready none with state := .busy }) = Wb := ⟨_, rfl⟩
    have hl2 : Wb.heap[w.heap.size + 1]? = some (.loop { rec .ready none with state := .busy }) := by rw [← hWb]; exact World.putObj_heap_same hlta
    have hk2 : Wb.heap[w.heap.size]? = some (.deferred (some [])) := by rw [← hWb]; exact (World.putObj_heap_other (by omega)).trans (hka.same _ _ (Nat.le_refl _) hk rfl)
    have hw2 : Kp W Wb := by rw [← hWb]; exact hKt hkpa (hKb _ _ _ _ (by omega) hla rfl)
    have hA2 : A pre x a1 Wb := by rw [← hWb]; exact hAp _ _ _ _ _ _ _ hA (by omega) hla rfl
    rw [hWb]
    refine wpIn_mono (hbody _ pre x a1 _ hA2 hlen) ?_
    have fin : ∀ (jump : Option Code) (W3 : World), KeepsFrom w.heap.size Wb W3 →
        (Instr.endRound (w.heap.size + 1) jump).run P W3 = .ok (.bool jump.isNone) (W3.putObj (w.heap.size + 1) (.loop (rec (if jump.isNone then .ready else .done) jump))) ∧
        W3.heap[w.heap.size + 1]? = some (.loop { rec .ready none with state := .busy }) ∧
        (W3.putObj (w.heap.size + 1) (.loop (rec (if jump.isNone then .ready else .done) jump))).heap[w.heap.size + 1]? = some (.loop (rec (if jump.isNone then .ready else .done) jump)) ∧
        (W3.putObj (w.heap.size + 1) (.loop (rec (if jump.isNone then .ready else .done) jump))).heap[w.heap.size]? = some (.deferred (some [])) := fun jump W3 hk3 => by
      have hl3 := hk3.same _ _ (by omega) hl2 rfl
      have := run_endRound (P := P) jump hl3
      rw [hrec] at this ⊢
      exact ⟨this, by rw [hrec] at hl3; exact hl3, World.putObj_heap_same (Array.getElem?_eq_some_iff.1 hl3).1, (World.putObj_heap_other (by omega)).trans (hk3.same _ _ (Nat.le_refl _) hk2 rfl)⟩
    rintro e a3 W3 hp
    cases e with
    | normal =>
      obtain ⟨hk3, hkp3, hi3⟩ := hp
      obtain ⟨hr, hl3, hl4, hk4⟩ := fin none W3 hk3
      exact ⟨_, _, hr, .inl ⟨rfl, ⟨hIp _ _ _ _ _ hi3 (by omega) hl3 rfl, hl4, hk4⟩, hKt (hKt hw2 hkp3) (hKb _ _ _ _ (by omega) hl3 rfl)⟩⟩
    | ret =>
      obtain ⟨hk3, hi3⟩ := hp
      obtain ⟨hr, hl3, hl4, hk4⟩ := fin (some .ret) W3 hk3
      exact ⟨_, _, hr, .inr ⟨rfl, .ret, hXp _ _ _ _ _ _ hi3 (by omega) hl3 rfl, hl4, hk4⟩⟩
    | exit id =>
      obtain ⟨hk3, hi3⟩ := hp
      obtain ⟨hr, hl3, hl4, hk4⟩ := fin (some (.exit id)) W3 hk3
      exact ⟨_, _, hr, .inr ⟨rfl, .exit id, hXp _ _ _ _ _ _ hi3 (by omega) hl3 rfl, hl4, hk4⟩⟩
    | goto t =>
      obtain ⟨hk3, hi3⟩ := hp
      obtain ⟨hr, hl3, hl4, hk4⟩ := fin (some (.goto t)) W3 hk3
      exact ⟨_, _, hr, .inr ⟨rfl, .goto t, hXp _ _ _ _ _ _ hi3 (by omega) hl3 rfl, hl4, hk4⟩⟩
    | panic ch => exact hp.elim
    | outgrown => exact hp.elim
  · rintro e W2 ⟨⟨v, rfl⟩, (⟨xs, hS, hi, hl, hk⟩ | ⟨pre, hSp, c, hi, hl, hk⟩)⟩
    · exact ⟨none, _, by have := run_endLoop (P := P) hl (by rw [hrec]; simp); rw [hrec] at this; exact this, hdone _ xs _ (Nat.le_refl _) hS (hIp _ _ _ _ _ hi (by omega) hl rfl) ((World.putObj_heap_other (by omega)).trans hk)⟩
    · exact ⟨some c, _, by have := run_endLoop (P := P) hl (by rw [hrec]; simp); rw [hrec] at this; exact this, hstop _ c pre _ (Nat.le_refl _) hSp (hXp c _ _ _ _ _ hi (by omega) hl rfl) ((World.putObj_heap_other (by omega)).trans hk)⟩
end Go.Proofs.YtjobijmmjebpaaaDoor
/-
  SMALL LAWS ON BLOCKS OF MEMORY: what a block that is known whole gives of its cells, and what becomes of it.
-/
namespace Go.Proofs.YtjobijmmjebpaaaDoor
open Go.RowKit
/-- block b is known whole -/
abbrev Blk (w : World) (b : Nat) (cs : Array Value) (t : TypeId) (fr : Nat × Nat) : Prop := w.heap[b]? = some (.cells cs t fr)
theorem Blk.cell {w : World} {b : Nat} {cs : Array Value} {t : TypeId} {fr : Nat × Nat} (h : Blk w b cs t fr) (i : Nat) : w.cell? ⟨b, i, none⟩ = cs[i]? := cell_of_row w b i cs t fr h
theorem Blk.free {w : World} {b : Nat} {cs : Array Value} {t : TypeId} {fr : Nat × Nat} (h : Blk w b cs t fr) (i : Nat) (hi : i < fr.1 ∨ fr.2 ≤ i) : w.frozen? ⟨b, i, none⟩ = false := by
  unfold World.frozen?
  simp only [show w.heap[b]? = some (.cells cs t fr) from h]
  simp; omega
theorem Blk.lt {w : World} {b : Nat} {cs : Array Value} {t : TypeId} {fr : Nat × Nat} (h : Blk w b cs t fr) : b < w.heap.size := (Array.getElem?_eq_some_iff.1 h).1
theorem Blk.set {w : World} {b : Nat} {cs : Array Value} {t : TypeId} {fr : Nat × Nat} (h : Blk w b cs t fr) (i : Nat) (v : Value) : Blk (w.setCell ⟨b, i, none⟩ v) b (cs.setIfInBounds i v) t fr := by
  rw [setCell_eq_setRow w b i cs t fr v h]
  exact setRow_heap w b cs _ t _ h
theorem Blk.setOther {w : World} {b : Nat} {cs : Array Value} {t : TypeId} {fr : Nat × Nat} (h : Blk w b cs t fr) (a : Addr) (v : Value) (hb : b ≠ a.block) : Blk (w.setCell a v) b cs t fr := by
  unfold Blk; rw [heap_setCell_other _ _ _ _ hb]; exact h
theorem Blk.drew {w : World} {b : Nat} {cs : Array Value} {t : TypeId} {fr : Nat × Nat} (h : Blk w b cs t fr) : Blk w.drew b cs t fr := h
theorem Blk.alloc {w : World} {b : Nat} {cs : Array Value} {t : TypeId} {fr : Nat × Nat} (h : Blk w b cs t fr) (o : Obj) : Blk (w.alloc o) b cs t fr := by
  unfold Blk; rw [Below.heap_alloc _ _ _ h.lt]; exact h
theorem Blk.below {w w' : World} {B b : Nat} {cs : Array Value} {t : TypeId} {fr : Nat × Nat} (h : Blk w b cs t fr) (hb : Below B w w') (hlt : b < B) : Blk w' b cs t fr := (hb.block b hlt).trans h
theorem Blk.new (w : World) (cs : Array Value) (t : TypeId) (fr : Nat × Nat) : Blk (w.alloc (.cells cs t fr)) w.heap.size cs t fr := heap_alloc_new w _
theorem _root_.Go.RowKit.Below.next' {w w1 w2 : World} (h : Below w.heap.size w w1) (k : Below w1.heap.size w1 w2) : Below w.heap.size w w2 := h.trans (k.mono h.size)

theorem setRow_new (w : World) (c c' : Array Value) (t : TypeId) : (w.alloc (.cells c t)).setRow w.heap.size c' = w.alloc (.cells c' t) := by
  have h : (w.heap.push (.cells c t)).modify w.heap.size (fun | .cells _ elem frozen => .cells c' elem frozen | o => o) = w.heap.push (.cells c' t) := by
    apply Array.ext_getElem?
    intro i
    rw [Array.getElem?_modify, Array.getElem?_push, Array.getElem?_push]
    by_cases e : w.heap.size = i
    · subst e; simp
    · have e' : i ≠ w.heap.size := fun h => e h.symm
      simp [e, e']
  show ({ w with heap := (w.heap.push (.cells c t)).modify w.heap.size (fun | .cells _ elem frozen => .cells c' elem frozen | o => o) } : World) = { w with heap := w.heap.push (.cells c' t) }
  rw [h]
/-- bytes as cells -/
def u8cells (l : List UInt8) : Array Value := (l.map fun b => Value.int .u8 (b.toNat : Int)).toArray
theorem u8cells_size (l : List UInt8) : (u8cells l).size = l.length := by simp [u8cells]
theorem u8cells_get (l : List UInt8) (x : Array Value) (i : Nat) (hi : i < l.length) : (u8cells l ++ x)[i]? = some (.int .u8 (l[i].toNat : Int)) := by
  rw [Array.getElem?_append_left (by rw [u8cells_size]; exact hi)]
  simp [u8cells, hi]
theorem u8cells_set (l : List UInt8) (x : Array Value) (i : Nat) (hi : i < l.length) (b : UInt8) : (u8cells l ++ x).setIfInBounds i (.int .u8 (b.toNat : Int)) = u8cells (l.set i b) ++ x := by
  rw [Array.setIfInBounds_append_left (by rw [u8cells_size]; exact hi)]
  congr 1
  unfold u8cells
  rw [List.map_set, List.setIfInBounds_toArray]
theorem bytesRow_eq (s : ByteArray) (cap : Nat) : bytesRow s cap = u8cells s.data.toList ++ Array.replicate (cap - s.size) (.int .u8 0) := by
  unfold bytesRow u8cells
  congr 1
  apply Array.ext'
  simp
theorem bytesRow_size (s : ByteArray) (cap : Nat) (h : s.size ≤ cap) : (bytesRow s cap).size = cap := by
  rw [bytesRow_eq]; simp [u8cells_size]; have : s.data.toList.length = s.size := rfl; omega
/-- string(b) of a block whose cells are bytes -/
theorem conv_block (w : World) (b : Nat) (l : List UInt8) (x : Array Value) (t : TypeId) (fr : Nat × Nat) (cap : Nat) (hw : Blk w b (u8cells l ++ x) t fr) :
    ∀ {P : Program} {src dst e : TypeId}, P.underlying src = some (.slice e) → P.underlying e = some (.int .u8) → P.underlying dst = some .string →
    (convert src dst (.slice (some ⟨b, 0, none⟩) l.length cap)).run P w = .ok (.string ⟨l.toArray⟩) w := by
  intro P src dst e hs he hd
  refine run_convert_bytes_back w src dst e ⟨b, 0, none⟩ cap l hs he hd ?_
  intro j hj
  have ha : (⟨b, 0, none⟩ : Addr).add j = ⟨b, j, none⟩ := by unfold Addr.add; split <;> simp_all
  rw [ha, hw.cell, u8cells_get l x j hj]
/-- numbers as cells -/
def icells (k : IntKind) (l : List Int) : Array Value := (l.map (Value.int k)).toArray
theorem icells_size (k : IntKind) (l : List Int) : (icells k l).size = l.length := by simp [icells]
theorem icells_get (k : IntKind) (l : List Int) (i : Nat) (hi : i < l.length) : (icells k l)[i]? = some (.int k l[i]) := by simp [icells, hi]
theorem icells_set (k : IntKind) (l : List Int) (i : Nat) (x : Int) : (icells k l).setIfInBounds i (.int k x) = icells k (l.set i x) := by
  unfold icells; rw [List.map_set, List.setIfInBounds_toArray]
/-- make([]T, n), T a kind of number -/
theorem run_make_ints {P : Program} (t e : TypeId) (k : IntKind) (bytes : Nat) (ht : P.underlying t = some (.slice e)) (hi : (P.info? e).map (fun i => (i.zero, i.size, i.bytes)) = some (some (.int k 0), 1, bytes)) (n : Nat) (hn : n * bytes ≤ 281474976710656) (hn2 : n ≤ 281474976710656) (u : World) :
    (Instr.makeSlice t (.int .i64 n) (.int .i64 n)).run P u = .ok (.slice (some ⟨u.heap.size, 0, none⟩) n n) (u.alloc (.cells (icells k (List.replicate n 0)) e)) := by
  obtain ⟨i0, hi, hz0, hz1, hz2⟩ := info_parts hi
  have hcast : ∀ m : Nat, m ≤ 281474976710656 → (m : Int) ≤ 281474976710656 := fun m h => by omega
  have h0 := hcast _ hn
  rw [Int.natCast_mul] at h0
  have h := run_make (P := P) u t e i0 (.int k 0) ht hi hz0 .i64 .i64 (n : Int) (n : Int) (by omega) (Int.le_refl _) (by rw [hz2]; first | exact h0 | (rw [Int.mul_comm]; exact h0)) (by omega)
  have e2 : madeCells #[Value.int k 0] n = icells k (List.replicate n 0) := by
    apply Array.ext'; rw [toList_madeCells_one]; simp [icells]
  simpa [hz1, Value.cells, e2] using h
/-- make([]byte, n) -/
theorem run_make_bytes {P : Program} (t e : TypeId) (ht : P.underlying t = some (.slice e)) (hi : (P.info? e).map (fun i => (i.zero, i.size, i.bytes)) = some (some (.int .u8 0), 1, 1)) (n : Nat) (hn : n ≤ 281474976710656) (u : World) :
    (Instr.makeSlice t (.int .i64 n) (.int .i64 n)).run P u = .ok (.slice (some ⟨u.heap.size, 0, none⟩) n n) (u.alloc (.cells (u8cells (List.replicate n 0)) e)) := by
  obtain ⟨i0, hi, hz0, hz1, hz2⟩ := info_parts hi
  have h := run_make (P := P) u t e i0 (.int .u8 0) ht hi hz0 .i64 .i64 (n : Int) (n : Int) (by omega) (Int.le_refl _) (by rw [hz2]; omega) (by omega)
  have e2 : madeCells #[Value.int .u8 0] n = u8cells (List.replicate n 0) := by
    apply Array.ext'; rw [toList_madeCells_one]; simp [u8cells]
  simpa [hz1, Value.cells, e2] using h
end Go.Proofs.YtjobijmmjebpaaaDoor
/-
  WHAT A READING OF AN ARGUMENT SAYS OF MEMORY, kind by kind of type: 'Rd P w t cs': these cells read as a value of type t.
-/
namespace Go.Proofs.YtjobijmmjebpaaaDoor
open Go.RowKit Go.Deep

def Rd (P : Program) (w : World) (t : TypeId) (cs : List Value) : Prop :=
  ∃ (H : Type) (enc : TypeId × Value → H) (spare : Nat → Bool) (held : Bool) (fuel : Nat) (x : DataW H × List MemPlace), DataW.trod enc P w 0 spare held fuel t cs = some x

theorem Rd.of_trod {H : Type} {enc : TypeId × Value → H} {P : Program} {w : World} {spare : Nat → Bool} {held : Bool} {t : TypeId} {v : Value} {d : DataW H} {ps : List MemPlace}
    (h : DataW.Trod enc P w 0 spare held t v d ps) : Rd P w t v.cells.toList := by
  obtain ⟨fuel, h⟩ := h
  exact ⟨H, enc, spare, held, fuel, _, h⟩
section
variable {P : Program} {w : World} {t e : TypeId} {cs : List Value}
theorem Rd.int {k : IntKind} (ht : P.underlying t = some (.int k)) (h : Rd P w t cs) : ∃ n, cs = [.int k n] ∧ (Lit.int k n).wf = true := by
  obtain ⟨H, enc, sp, he, fuel, x, h⟩ := h
  obtain ⟨n, h1, _, h2⟩ := DataW.trod_int ht h
  exact ⟨n, h1, h2⟩
theorem Rd.bool (ht : P.underlying t = some .bool) (h : Rd P w t cs) : ∃ b, cs = [.bool b] := by
  obtain ⟨H, enc, sp, he, fuel, x, h⟩ := h
  obtain ⟨n, h1, _⟩ := DataW.trod_bool ht h
  exact ⟨n, h1⟩
theorem Rd.string (ht : P.underlying t = some .string) (h : Rd P w t cs) : ∃ s : ByteArray, cs = [.string s] ∧ s.size ≤ maxLen := by
  obtain ⟨H, enc, sp, he, fuel, x, h⟩ := h
  obtain ⟨n, h1, _, h2⟩ := DataW.trod_string ht h
  exact ⟨n, h1, h2⟩
theorem Rd.struct {fs : Array Field} (ht : P.underlying t = some (.struct fs)) (h : Rd P w t cs) :
    cs.length = P.cellsOf t ∧ ∀ (i : Nat) (f : Field), fs[i]? = some f → Rd P w f.type ((cs.drop f.offset).take (P.cellsOf f.type)) := by
  obtain ⟨H, enc, sp, he, fuel, x, h⟩ := h
  obtain ⟨xs, n, _, _, hl, hlen, hf⟩ := DataW.trod_struct ht h
  refine ⟨hl, fun i f hi => ?_⟩
  have hlt : i < xs.length := by rw [hlen]; exact (Array.getElem?_eq_some_iff.1 hi).1
  exact ⟨H, enc, sp, he, n, xs[i], (hf i f hi).trans (List.getElem?_eq_getElem hlt)⟩
theorem Rd.array {n : Nat} (ht : P.underlying t = some (.array n e)) (h : Rd P w t cs) :
    cs.length = P.cellsOf t ∧ ∀ i, i < n → Rd P w e ((cs.drop (i * P.cellsOf e)).take (P.cellsOf e)) := by
  obtain ⟨H, enc, sp, he, fuel, x, h⟩ := h
  obtain ⟨xs, m, _, _, hl, hlen, hf⟩ := DataW.trod_array ht h
  refine ⟨hl, fun i hi => ?_⟩
  have hlt : i < xs.length := by rw [hlen]; exact hi
  exact ⟨H, enc, sp, he, m, xs[i], (hf i hi).trans (List.getElem?_eq_getElem hlt)⟩
theorem Rd.field {fs : Array Field} {c : Value} (ht : P.underlying t = some (.struct fs)) (h : Rd P w t cs) (i : Nat) (hf : (fs[i]?).map (fun f => (f.offset, f.type)) = some (i, e)) (hc : P.cellsOf e = 1) (hi : cs[i]? = some c) : Rd P w e [c] := by
  cases hfi : fs[i]? with
  | none => rw [hfi] at hf; cases hf
  | some f =>
    rw [hfi] at hf
    obtain ⟨h1, h2⟩ : f.offset = i ∧ f.type = e := by simpa using hf
    have := (Rd.struct ht h).2 i f hfi
    rw [h1, h2, hc] at this
    obtain ⟨hlt, hci⟩ := List.getElem?_eq_some_iff.1 hi
    rw [List.drop_eq_getElem_cons hlt, hci] at this
    exact this
theorem Rd.elem {n : Nat} {c : Value} (ht : P.underlying t = some (.array n e)) (h : Rd P w t cs) (i : Nat) (hn : i < n) (hc : P.cellsOf e = 1) (hi : cs[i]? = some c) : Rd P w e [c] := by
  have := (Rd.array ht h).2 i hn
  rw [hc, Nat.mul_one] at this
  obtain ⟨hlt, hci⟩ := List.getElem?_eq_some_iff.1 hi
  rw [List.drop_eq_getElem_cons hlt, hci] at this
  exact this
/-- a slice: its elements' cells, each of which reads -/
theorem Rd.slice (ht : P.underlying t = some (.slice e)) (hc : 0 < P.cellsOf e) (h : Rd P w t cs) :
    ∃ (a : Option Addr) (len cap : Nat), cs = [.slice a len cap] ∧ len ≤ cap ∧ cap ≤ maxLen ∧ ∀ i, i < len → ∃ b off, a = some ⟨b, off, none⟩ ∧
      ∃ es : List Value, es.length = P.cellsOf e ∧ (∀ j, j < P.cellsOf e → w.cell? ⟨b, off + (i * P.cellsOf e + j), none⟩ = es[j]?) ∧ Rd P w e es := by
  obtain ⟨H, enc, sp, he, fuel, x, h⟩ := h
  rcases open_slice ht h with ⟨h1, _⟩ | ⟨a, len, cap, m, n, D, Pl, h1, _, hl, hm, hmm, _, hel⟩
  · exact ⟨none, 0, 0, h1, Nat.le_refl _, Nat.zero_le _, fun i hi => absurd hi (Nat.not_lt_zero i)⟩
  refine ⟨some a, len, cap, h1, hl, hm, fun i hi => ?_⟩
  have hlm : len ≤ m := by rw [hmm]; split <;> omega
  obtain ⟨es, hes, hrd⟩ := hel i (by omega)
  obtain ⟨_, hlen, hcell⟩ := World.cells?_some hes
  have hspot : a.spot = none := by
    obtain ⟨es0, hes0, _⟩ := hel 0 (by omega)
    obtain ⟨_, hlen0, hcell0⟩ := World.cells?_some hes0
    have h0 := hcell0 0 hc
    rw [List.getElem?_eq_getElem (by omega)] at h0
    have e : (a.add (0 * P.cellsOf e)).add 0 = a := by simp [Addr.add]
    rw [e] at h0
    cases hs : a.spot with
    | none => rfl
    | some s =>
      unfold World.cell? at h0
      split at h0
      · simp [hs] at h0
      · cases h0
  obtain ⟨b, off, s⟩ := a
  simp only at hspot; subst hspot
  refine ⟨b, off, rfl, es, hlen, fun j hj => ?_, ⟨H, enc, sp, he, n, _, hrd⟩⟩
  have := hcell j hj
  rw [add_add] at this
  have e : (⟨b, off, none⟩ : Addr).add (i * P.cellsOf e + j) = ⟨b, off + (i * P.cellsOf e + j), none⟩ := by
    unfold Addr.add; split <;> simp_all
  rwa [e] at this
end

/- SLICES OF NUMBERS -/
/-- v is a slice of the numbers l -/
def SlI (w : World) (v : Value) (k : IntKind) (l : List Int) : Prop :=
  ∃ (a : Option Addr) (cap : Nat), v = .slice a l.length cap ∧ l.length ≤ cap ∧ cap ≤ maxLen ∧ ∀ i (h : i < l.length), ∃ b off, a = some ⟨b, off, none⟩ ∧ w.cell? ⟨b, off + i, none⟩ = some (.int k l[i])
theorem SlI.agree {w w' : World} {v : Value} {k : IntKind} {l : List Int} (h : SlI w v k l) (hb : ∀ b, v.ownBlock = some b → w'.heap[b]? = w.heap[b]?) : SlI w' v k l := by
  obtain ⟨a, cap, rfl, h1, h2, h3⟩ := h
  refine ⟨a, cap, rfl, h1, h2, fun i hi => ?_⟩
  obtain ⟨b, off, rfl, hc⟩ := h3 i hi
  exact ⟨b, off, rfl, (World.cell?_of_block (hb b rfl)).trans hc⟩
theorem SlI.lt {w : World} {v : Value} {k : IntKind} {l : List Int} (h : SlI w v k l) (hl : 0 < l.length) : ∀ b, v.ownBlock = some b → b < w.heap.size := by
  obtain ⟨a, cap, rfl, h1, h2, h3⟩ := h
  intro b hb
  obtain ⟨b', off, rfl, hc⟩ := h3 0 hl
  have : b' = b := by simpa [Value.ownBlock] using hb
  subst this
  exact block_lt_of_cell hc
theorem SlI.alloc {w : World} {v : Value} {k : IntKind} {l : List Int} (h : SlI w v k l) (o : Obj) : SlI (w.alloc o) v k l := by
  by_cases hl : 0 < l.length
  · exact h.agree (fun b hb => Below.heap_alloc _ _ _ (h.lt hl b hb))
  · obtain ⟨a, cap, rfl, h1, h2, h3⟩ := h
    exact ⟨a, cap, rfl, h1, h2, fun i hi => absurd hi (by omega)⟩
theorem SlI.cells {w : World} {b off cap : Nat} {k : IntKind} {l : List Int} {n : Nat} (h : SlI w (.slice (some ⟨b, off, none⟩) n cap) k l) : ∀ i (hi : i < l.length), w.cell? ⟨b, off + i, none⟩ = some (.int k l[i]) := by
  intro i hi
  obtain ⟨a, cap', e, h1, h2, h3⟩ := h
  obtain ⟨b', off', e2, hc⟩ := h3 i hi
  rw [e2] at e
  simp only [Value.slice.injEq, Option.some.injEq, Addr.mk.injEq, and_true] at e
  obtain ⟨⟨rfl, rfl⟩, _, _⟩ := e
  exact hc
theorem SlI.below {w w' : World} {v : Value} {k : IntKind} {l : List Int} (h : SlI w v k l) (hb : Below w.heap.size w w') : SlI w' v k l := by
  by_cases hl : 0 < l.length
  · exact h.agree (fun b hv => hb.block b (h.lt hl b hv))
  · obtain ⟨a, cap, rfl, h1, h2, h3⟩ := h
    exact ⟨a, cap, rfl, h1, h2, fun i hi => absurd hi (by omega)⟩
/-- copy(own, l), own just made -/
theorem run_copy_whole {P : Program} (w : World) (dT sT ty e : TypeId) (k : IntKind) (hu : P.underlying dT = some (.slice e)) (hs : (P.info? e).map (·.size) = some 1) (a : Option Addr) (cap : Nat) (l : List Int)
    (h : SlI w (.slice a l.length cap) k l) :
    (Builtin.copy_ #[dT, sT] ty #[.slice (some ⟨w.heap.size, 0, none⟩) l.length l.length, .slice a l.length cap]).run P (w.alloc (.cells (icells k (List.replicate l.length 0)) e)) = .ok (goInt l.length) (w.alloc (.cells (icells k l) e)) := by
  by_cases hl : l.length = 0
  · have hr := run_copy_none (P := P) (w.alloc (.cells (icells k (List.replicate l.length 0)) e)) dT sT ty e (some ⟨w.heap.size, 0, none⟩) a l.length l.length l.length cap hu hs (by simp [hl])
    rw [hr]
    obtain rfl : l = [] := List.eq_nil_of_length_eq_zero hl
    rfl
  · have hh := h
    obtain ⟨a', cap', e', _, _, h3⟩ := hh
    obtain ⟨b, off, e2, _⟩ := h3 0 (by omega)
    obtain rfl : a = a' := by simpa using (Value.slice.inj e').1
    clear h3 e'
    subst e2
    have hc := (SlI.alloc h (.cells (icells k (List.replicate l.length 0)) e)).cells
    have hr := run_copy_row (P := P) (w.alloc (.cells (icells k (List.replicate l.length 0)) e)) dT sT ty e w.heap.size 0 l.length l.length ⟨b, off, none⟩ l.length cap (icells k (List.replicate l.length 0)) e (l.map (Value.int k)) hu hs
      (heap_alloc_new _ _) (by simp) (fun j v hj => by
        have hj' : j < l.length := by simpa using (List.getElem?_eq_some_iff.1 hj).1
        have ea : (⟨b, off, none⟩ : Addr).add j = ⟨b, off + j, none⟩ := by unfold Addr.add; split <;> simp_all
        rw [ea, hc j hj']
        simpa [List.getElem?_eq_getElem hj'] using hj) (by simp [icells]) (fun v hv => by obtain ⟨x, _, rfl⟩ := List.mem_map.1 hv; rfl)
    rw [hr, setRow_new]
    simp [icells]
/-- a reading of a slice of numbers -/
theorem Rd.ints {P : Program} {w : World} {t e : TypeId} {v : Value} {k : IntKind} (ht : P.underlying t = some (.slice e)) (he : P.underlying e = some (.int k)) (hc : P.cellsOf e = 1) (h : Rd P w t [v]) :
    ∃ l : List Int, SlI w v k l ∧ ∀ x ∈ l, (Lit.int k x).wf = true := by
  obtain ⟨a, len, cap, h1, hl, hm, hel⟩ := Rd.slice ht (by omega) h
  have hex : ∀ i, i < len → ∃ n : Int, (Lit.int k n).wf = true ∧ ∃ b off, a = some ⟨b, off, none⟩ ∧ w.cell? ⟨b, off + i, none⟩ = some (.int k n) := fun i hi => by
    obtain ⟨b, off, ha, es, hes, hcell, hrd⟩ := hel i hi
    obtain ⟨n, rfl, hw⟩ := Rd.int he hrd
    have := hcell 0 (by omega)
    rw [hc, Nat.mul_one, Nat.add_zero] at this
    exact ⟨n, hw, b, off, ha, this⟩
  obtain ⟨f, hf⟩ := choose_lt hex
  have hv : v = .slice a len cap := by simpa using h1
  refine ⟨(List.range len).map f, ⟨a, cap, by rw [hv]; simp, by simpa using hl, hm, fun i hi => ?_⟩, fun x hx => ?_⟩
  · have hi' : i < len := by simpa using hi
    obtain ⟨_, b, off, ha, hcell⟩ := hf i hi'
    exact ⟨b, off, ha, by simpa using hcell⟩
  · obtain ⟨i, hi, rfl⟩ := List.mem_map.1 hx
    exact (hf i (List.mem_range.1 hi)).1
end Go.Proofs.YtjobijmmjebpaaaDoor
/- graph, in plain words: places, and which is bad first. -/
namespace Go.Proofs.YtjobijmmjebpaaaDoor
open Go.RowKit
/-- a place: index, field, code, number, least, end -/
structure Pl where
  ix : Int
  fl : Int
  co : Int
  n : Int
  lo : Int
  hi : Int
deriving DecidableEq
def Pl.cells (p : Pl) : List Value := [.int .i64 p.ix, .int .i64 p.fl, .int .i64 p.co, .int .i64 p.n, .int .i64 p.lo, .int .i64 p.hi]
def encP (p : Pl) : Array Value := #[.agg #[.int .i64 p.ix, .int .i64 p.fl, .int .i64 p.co, .int .i64 p.n, .int .i64 p.lo, .int .i64 p.hi]]
def Pl.bad (p : Pl) : Bool := decide (p.n < p.lo) || decide (p.hi ≤ p.n)
/-- an arc: from, to, weight -/
abbrev Ar := Int × Int × Int
structure Raw where
  nodes : Int
  X : List Int
  Y : List Int
  arcs : List Ar
/-- the five phases' places -/
def Raw.p0 (r : Raw) : List Pl := [⟨0, 0, 5, r.nodes, 1, 16777217⟩]
def Raw.p1 (r : Raw) : List Pl := [⟨0, 0, 6, r.X.length, r.nodes, r.nodes + 1⟩, ⟨0, 1, 6, r.Y.length, r.nodes, r.nodes + 1⟩]
def nodeP (i : Nat) (xy : Int × Int) : List Pl := [⟨i, 0, 7, xy.1, -2147483648, 2147483648⟩, ⟨i, 1, 7, xy.2, -2147483648, 2147483648⟩]
def arcP (nodes : Int) (i : Nat) (a : Ar) : List Pl := [⟨i, 0, 9, a.1, 0, nodes⟩, ⟨i, 1, 9, a.2.1, 0, nodes⟩, ⟨i, 2, 10, a.2.2, 0, 2147483648⟩]
/-- blocks of cells lie as they lay -/
structure KpC (W W' : World) : Prop where
  size : W.heap.size ≤ W'.heap.size
  block : ∀ (k : Nat) (cs : Array Value) (t : TypeId) (fr : Nat × Nat), W.heap[k]? = some (Obj.cells cs t fr) → W'.heap[k]? = W.heap[k]?
theorem KpC.trans {A B C : World} (h : KpC A B) (k : KpC B C) : KpC A C :=
  ⟨Nat.le_trans h.size k.size, fun i cs t fr hi => by have e := h.block i cs t fr hi; exact (k.block i cs t fr (e.trans hi)).trans e⟩
theorem KpC.refl (W : World) : KpC W W := ⟨Nat.le_refl _, fun _ _ _ _ _ => rfl⟩
theorem KpC.blk {W W' : World} (h : KpC W W') {b : Nat} {cs : Array Value} {t : TypeId} {fr : Nat × Nat} (hb : Blk W b cs t fr) : Blk W' b cs t fr := (h.block b cs t fr hb).trans hb
theorem KpC.of_below {W W' : World} (h : Below W.heap.size W W') : KpC W W' := ⟨h.size, fun k _ _ _ hk => h.block k (Array.getElem?_eq_some_iff.1 hk).1⟩
/-- v is a slice of places -/
def SlP (w : World) (v : Value) (L : List Pl) : Prop :=
  ∃ (a : Option Addr) (cap : Nat), v = .slice a L.length cap ∧ L.length ≤ cap ∧ cap ≤ maxLen ∧ ∀ i (h : i < L.length), ∃ b off cs t fr, a = some ⟨b, off, none⟩ ∧ Blk w b cs t fr ∧ ∀ j u, L[i].cells[j]? = some u → cs[off + i * 6 + j]? = some u
end Go.Proofs.YtjobijmmjebpaaaDoor
/- walks, in plain words: nodes, weights, what is left when rings are left out. -/
namespace Go.Proofs.YtjobijmmjebpaaaDoor
/-- an arc of a graph, by its number -/
def arcI (g : Raw) (i : Int) : Option Ar := if 0 ≤ i ∧ i < (g.arcs.length : Int) then g.arcs[i.toNat]? else none
/-- the nodes behind the first one of a walk; none: it is no walk -/
def wk (g : Raw) : Int → List Int → Option (List Int)
  | _, [] => some []
  | s, i :: L => match arcI g i with
    | some a => if a.1 = s then (wk g a.2.1 L).map (a.2.1 :: ·) else none
    | none => none
/-- a row's weight -/
def wt (g : Raw) (L : List Int) : Int := (L.map fun i => ((arcI g i).getD (0, 0, 0)).2.2).sum
def lastN (s : Int) (l : List Int) : Int := l.getLastD s
theorem lastN_cons (s v : Int) (l : List Int) : lastN s (v :: l) = lastN v l := by
  unfold lastN
  cases l with
  | nil => rfl
  | cons a l => rw [List.getLastD_cons, List.getLastD_cons]
theorem lastN_snoc (s v : Int) (l : List Int) : lastN s (l ++ [v]) = v := by
  induction l generalizing s with
  | nil => rfl
  | cons a l ih => rw [List.cons_append, lastN_cons]; exact ih a
theorem wk_cons {g : Raw} {s i : Int} {L l : List Int} (h : wk g s (i :: L) = some l) : ∃ a l', arcI g i = some a ∧ a.1 = s ∧ wk g a.2.1 L = some l' ∧ l = a.2.1 :: l' := by
  rw [wk] at h
  split at h
  · rename_i a ha
    split at h
    · rename_i hs
      obtain ⟨l', h1, h2⟩ := Option.map_eq_some_iff.1 h
      exact ⟨a, l', ha, hs, h1, h2.symm⟩
    · cases h
  · cases h
theorem wk_len {g : Raw} : ∀ {L l : List Int} {s : Int}, wk g s L = some l → l.length = L.length
  | [], l, s, h => by cases h; rfl
  | i :: L, l, s, h => by
    obtain ⟨a, l', _, _, h1, rfl⟩ := wk_cons h
    simp [wk_len h1]
theorem wk_append {g : Raw} : ∀ {L M l : List Int} {s : Int}, wk g s L = some l → wk g s (L ++ M) = (wk g (lastN s l) M).map (l ++ ·)
  | [], M, l, s, h => by
    cases h
    show wk g s M = (wk g s M).map _
    cases wk g s M <;> rfl
  | i :: L, M, l, s, h => by
    obtain ⟨a, l', h1, h2, h3, rfl⟩ := wk_cons h
    rw [List.cons_append, wk, h1]
    simp only [h2, if_true]
    rw [wk_append h3, lastN_cons, Option.map_map]
    rfl
theorem wk_take {g : Raw} : ∀ {L l : List Int} {s : Int} (k : Nat), wk g s L = some l → wk g s (L.take k) = some (l.take k)
  | [], l, s, k, h => by cases h; simp [wk]
  | i :: L, l, s, 0, h => rfl
  | i :: L, l, s, k + 1, h => by
    obtain ⟨a, l', h1, h2, h3, rfl⟩ := wk_cons h
    rw [List.take_succ_cons, wk, h1]
    simp only [h2, if_true]
    rw [wk_take k h3]; rfl
theorem wk_drop {g : Raw} : ∀ {L l : List Int} {s : Int} (k : Nat), k ≤ L.length → wk g s L = some l → wk g (lastN s (l.take k)) (L.drop k) = some (l.drop k)
  | L, l, s, 0, _, h => by simpa [lastN] using h
  | [], l, s, k + 1, hk, h => by simp at hk
  | i :: L, l, s, k + 1, hk, h => by
    obtain ⟨a, l', h1, h2, h3, rfl⟩ := wk_cons h
    rw [List.take_succ_cons, List.drop_succ_cons, List.drop_succ_cons, lastN_cons]
    exact wk_drop k (by simpa using hk) h3
theorem wt_append (g : Raw) (L M : List Int) : wt g (L ++ M) = wt g L + wt g M := by unfold wt; rw [List.map_append, List.sum_append]
theorem wt_nonneg {g : Raw} (hg : ∀ a ∈ g.arcs, 0 ≤ a.2.2) (i : Int) : 0 ≤ ((arcI g i).getD (0, 0, 0)).2.2 := by
  unfold arcI
  split
  · rename_i h
    rw [List.getElem?_eq_getElem (show i.toNat < g.arcs.length by omega)]
    exact hg _ (List.getElem_mem _)
  · exact Int.le_refl _
theorem wt_sub {g : Raw} (hg : ∀ a ∈ g.arcs, 0 ≤ a.2.2) {L M : List Int} (h : L.Sublist M) : wt g L ≤ wt g M := by
  induction h with
  | slnil => exact Int.le_refl _
  | cons a _ ih => have := wt_nonneg hg a; unfold wt at ih ⊢; rw [List.map_cons, List.sum_cons]; omega
  | cons_cons a _ ih => unfold wt at ih ⊢; rw [List.map_cons, List.map_cons, List.sum_cons, List.sum_cons]; omega
/-- one arc more, its rings left out: (the nodes, the arcs) -/
def bstep (st : List Int × List Int) (p : Int × Int) : List Int × List Int :=
  if p.2 ∈ st.1 then (st.1.take (st.1.idxOf p.2 + 1), st.2.take (st.1.idxOf p.2)) else (st.1 ++ [p.2], st.2 ++ [p.1])
def bareV (s : Int) (ps : List (Int × Int)) : List Int × List Int := ps.foldl bstep ([s], [])
/-- what is kept of a walk so far: a walk from s whose nodes differ -/
structure BI (g : Raw) (s : Int) (st : List Int × List Int) : Prop where
  nodup : st.1.Nodup
  walk : ∃ l, st.1 = s :: l ∧ wk g s st.2 = some l
theorem BI.start (g : Raw) (s : Int) : BI g s ([s], []) := ⟨by simp, [], rfl, rfl⟩
theorem BI.last {g : Raw} {s : Int} {st : List Int × List Int} (h : BI g s st) : ∃ l, st.1 = s :: l ∧ wk g s st.2 = some l ∧ st.1.getLastD s = lastN s l := by
  obtain ⟨l, h1, h2⟩ := h.walk
  exact ⟨l, h1, h2, by rw [h1, List.getLastD_cons]; rfl⟩
theorem BI.step {g : Raw} {s : Int} {st : List Int × List Int} (h : BI g s st) {i : Int} {a : Ar} (ha : arcI g i = some a) (hs : a.1 = st.1.getLastD s) : BI g s (bstep st (i, a.2.1)) ∧ (bstep st (i, a.2.1)).1.getLastD s = a.2.1 := by
  obtain ⟨l, h1, h2, h3⟩ := h.last
  unfold bstep
  split
  · rename_i hm
    dsimp only at hm ⊢
    have hk : st.1.idxOf a.2.1 < st.1.length := List.idxOf_lt_length_of_mem hm
    have hkv : st.1[st.1.idxOf a.2.1]? = some a.2.1 := by
      rw [List.getElem?_eq_getElem hk]
      exact congrArg some (List.getElem_idxOf hk)
    refine ⟨⟨h.nodup.sublist (List.take_sublist _ _), l.take (st.1.idxOf a.2.1), ?_, ?_⟩, ?_⟩
    · generalize st.1.idxOf a.2.1 = k
      rw [h1, List.take_succ_cons]
    · exact wk_take _ h2
    · rw [List.getLastD_eq_getLast?, List.getLast?_take]
      simp [hkv]
  · rename_i hm
    dsimp only at hm ⊢
    refine ⟨⟨?_, l ++ [a.2.1], by rw [h1]; rfl, ?_⟩, ?_⟩
    · rw [List.nodup_append]
      exact ⟨h.nodup, by simp, fun x hx y hy => by rw [List.mem_singleton.1 hy]; exact fun e => hm (e ▸ hx)⟩
    · rw [wk_append h2, wk, ha]
      have e : a.1 = lastN s l := hs.trans h3
      simp only [e, if_true, wk]
      rfl
    · exact lastN_snoc s a.2.1 st.1
theorem bstep_sub (st : List Int × List Int) (p : Int × Int) : (bstep st p).2.Sublist (st.2 ++ [p.1]) := by
  unfold bstep
  split
  · exact (List.take_sublist _ _).trans (List.sublist_append_left _ _)
  · exact List.Sublist.refl _
theorem bare_all {g : Raw} {s : Int} : ∀ (L l : List Int) (cur : Int) (st : List Int × List Int), BI g s st → st.1.getLastD s = cur → wk g cur L = some l →
    BI g s ((L.zip l).foldl bstep st) ∧ ((L.zip l).foldl bstep st).1.getLastD s = lastN cur l ∧ ((L.zip l).foldl bstep st).2.Sublist (st.2 ++ L)
  | [], l, cur, st, h, hc, hw => by
    cases hw
    exact ⟨h, hc, by simp⟩
  | i :: L, l, cur, st, h, hc, hw => by
    obtain ⟨a, l', h1, h2, h3, rfl⟩ := wk_cons hw
    obtain ⟨b1, b2⟩ := h.step h1 (h2.trans hc.symm)
    obtain ⟨c1, c2, c3⟩ := bare_all L l' a.2.1 _ b1 b2 h3
    rw [List.zip_cons_cons, List.foldl_cons]
    refine ⟨c1, by rw [c2, lastN_cons], c3.trans ?_⟩
    have := (bstep_sub st (i, a.2.1)).append (List.Sublist.refl L)
    simpa using this
/-- THE STAGE'S THEOREM, in plain words: a walk without its rings -/
theorem bare_of {g : Raw} {s : Int} {L l : List Int} (h : wk g s L = some l) : BI g s (bareV s (L.zip l)) ∧ (bareV s (L.zip l)).1.getLastD s = lastN s l ∧ (bareV s (L.zip l)).2.Sublist L := by
  obtain ⟨a, b, c⟩ := bare_all L l s _ (BI.start g s) rfl h
  refine ⟨a, b, ?_⟩
  rw [List.nil_append] at c
  exact c
/-- nodes that differ: nothing is left out -/
theorem bare_plain {s : Int} : ∀ (ps : List (Int × Int)) (st : List Int × List Int), (st.1 ++ ps.map (·.2)).Nodup → ps.foldl bstep st = (st.1 ++ ps.map (·.2), st.2 ++ ps.map (·.1))
  | [], st, _ => by simp
  | p :: ps, st, h => by
    rw [List.foldl_cons]
    have hn : p.2 ∉ st.1 := fun hm => by
      rw [List.nodup_append] at h
      exact h.2.2 _ hm _ (by simp) rfl
    have hb : bstep st p = (st.1 ++ [p.2], st.2 ++ [p.1]) := by unfold bstep; rw [if_neg hn]
    rw [hb, bare_plain (s := s) ps _ (by simpa using h)]
    simp
theorem bare_again {g : Raw} {s : Int} {st : List Int × List Int} (h : BI g s st) {l : List Int} (hw : wk g s st.2 = some l) : (bareV s (st.2.zip l)).2 = st.2 := by
  obtain ⟨l', h1, h2⟩ := h.walk
  obtain rfl : l' = l := Option.some.inj (h2.symm.trans hw)
  have hl := wk_len h2
  unfold bareV
  have hnd := h.nodup
  rw [h1] at hnd
  rw [bare_plain (s := s)]
  · show [] ++ _ = _
    rw [List.nil_append, List.map_fst_zip (by omega)]
  · rw [List.map_snd_zip (by omega)]; exact hnd
end Go.Proofs.YtjobijmmjebpaaaDoor
/- walks, in plain words: turned round; first places in rows; what joins. -/
namespace Go.Proofs.YtjobijmmjebpaaaDoor
theorem idx_first {L : List Int} {v : Int} {k : Nat} (h : L[k]? = some v) (hn : ∀ j, j < k → L[j]? ≠ some v) : v ∈ L ∧ L.idxOf v = k := by
  have hk : k < L.length := (List.getElem?_eq_some_iff.1 h).1
  have hm : v ∈ L := List.mem_of_getElem? h
  refine ⟨hm, ?_⟩
  have hi := List.idxOf_lt_length_of_mem hm
  have hv : L[L.idxOf v]? = some v := by rw [List.getElem?_eq_getElem hi]; exact congrArg some (List.getElem_idxOf hi)
  rcases Nat.lt_trichotomy (L.idxOf v) k with h1 | h1 | h1
  · exact absurd hv (hn _ h1)
  · exact h1
  · have := List.not_of_lt_findIdx (p := (· == v)) (xs := L) (i := k) (by simpa [List.idxOf] using h1)
    have e : L[k] = v := by rw [List.getElem?_eq_getElem hk] at h; exact Option.some.inj h
    simp [e] at this
theorem idx_none {L : List Int} {v : Int} (hn : ∀ j, j < L.length → L[j]? ≠ some v) : v ∉ L := fun hm => by
  obtain ⟨j, hj, e⟩ := List.mem_iff_getElem.1 hm
  exact hn j hj (by rw [List.getElem?_eq_getElem hj, e])
/-- an arc, the other way -/
def flipA (a : Ar) : Ar := (a.2.1, a.1, a.2.2)
def Raw.flip (r : Raw) : Raw := { r with arcs := r.arcs.map flipA }
theorem arcI_flip (g : Raw) (i : Int) : arcI g.flip i = (arcI g i).map flipA := by
  unfold arcI Raw.flip
  dsimp only
  rw [List.length_map]
  split
  · rw [List.getElem?_map]
  · rfl
theorem wk_flip {g : Raw} : ∀ {L l : List Int} {s : Int}, wk g s L = some l → ∃ l', wk g.flip (lastN s l) L.reverse = some l' ∧ lastN (lastN s l) l' = s
  | [], l, s, h => by cases h; exact ⟨[], rfl, rfl⟩
  | i :: L, l, s, h => by
    obtain ⟨a, l1, h1, h2, h3, rfl⟩ := wk_cons h
    obtain ⟨l2, h4, h5⟩ := wk_flip h3
    rw [List.reverse_cons, lastN_cons, wk_append h4, h5, wk, arcI_flip, h1]
    refine ⟨l2 ++ [s], ?_, lastN_snoc _ _ _⟩
    simp [flipA, wk, h2]
theorem wt_flip (g : Raw) (L : List Int) : wt g.flip L.reverse = wt g L := by
  have e : ∀ i, ((arcI g.flip i).getD (0, 0, 0)).2.2 = ((arcI g i).getD (0, 0, 0)).2.2 := fun i => by
    rw [arcI_flip]
    cases arcI g i <;> rfl
  unfold wt
  simp only [e]
  rw [List.map_reverse, List.sum_reverse]
/-- a walk whose weight is known -/
theorem wt_bound {g : Raw} (hg : ∀ a ∈ g.arcs, 0 ≤ a.2.2 ∧ a.2.2 < 2147483648) (L : List Int) : 0 ≤ wt g L ∧ wt g L ≤ 2147483648 * L.length := by
  induction L with
  | nil => exact ⟨Int.le_refl _, by simp [wt]⟩
  | cons i L ih =>
    have h0 : 0 ≤ ((arcI g i).getD (0, 0, 0)).2.2 ∧ ((arcI g i).getD (0, 0, 0)).2.2 ≤ 2147483648 := by
      unfold arcI
      split
      · rename_i h
        rw [List.getElem?_eq_getElem (show i.toNat < g.arcs.length by omega)]
        have := hg _ (List.getElem_mem (show i.toNat < g.arcs.length by omega))
        simp only [Option.getD_some]; omega
      · simp
    unfold wt at ih ⊢
    rw [List.map_cons, List.sum_cons, List.length_cons]
    generalize (List.map (fun i => ((arcI g i).getD (0, 0, 0)).2.2) L).sum = z at *
    generalize ((arcI g i).getD (0, 0, 0)).2.2 = y at *
    push_cast
    omega
end Go.Proofs.YtjobijmmjebpaaaDoor
/- walks, in plain words: what the iterator hands on; what the functions answer. -/
namespace Go.Proofs.YtjobijmmjebpaaaDoor
theorem wk_snoc {g : Raw} {L l : List Int} {s i : Int} (h : wk g s L = some l) : wk g s (L ++ [i]) = match arcI g i with
    | some a => if a.1 = lastN s l then some (l ++ [a.2.1]) else none
    | none => none := by
  rw [wk_append h, wk]
  cases arcI g i with
  | none => rfl
  | some a =>
    simp only
    split <;> simp [wk]
theorem wk_none {g : Raw} : ∀ {L M : List Int} {s : Int}, wk g s L = none → wk g s (L ++ M) = none
  | [], M, s, h => by cases h
  | i :: L, M, s, h => by
    rw [List.cons_append, wk]
    rw [wk] at h
    cases ha : arcI g i with
    | none => rfl
    | some a =>
      rw [ha] at h
      simp only at h ⊢
      split
      · rename_i hs
        rw [if_pos hs] at h
        rw [wk_none (Option.map_eq_none_iff.1 h)]; rfl
      · rfl
/-- what steps hands on: each arc (or none), and whether it goes on where the one ahead ended -/
def stepsV (g : Raw) : Int → List Int → List (Ar × Bool)
  | _, [] => []
  | s, i :: L => ((arcI g i).getD (0, 0, 0), (arcI g i).isSome && decide (((arcI g i).getD (0, 0, 0)).1 = s)) :: stepsV g ((arcI g i).getD (0, 0, 0)).2.1 L
theorem stepsV_len (g : Raw) : ∀ (L : List Int) (s : Int), (stepsV g s L).length = L.length
  | [], _ => rfl
  | i :: L, s => by rw [stepsV, List.length_cons, List.length_cons, stepsV_len g L]
theorem steps_wk (g : Raw) : ∀ (L : List Int) (s : Int), wk g s L = if (stepsV g s L).all (·.2) then some ((stepsV g s L).map fun p => p.1.2.1) else none
  | [], s => rfl
  | i :: L, s => by
    rw [wk, stepsV, List.all_cons, List.map_cons]
    cases ha : arcI g i with
    | none => simp
    | some a =>
      simp only [Option.getD_some, Option.isSome_some, Bool.true_and]
      rw [steps_wk g L a.2.1]
      by_cases hs : a.1 = s
      · simp only [hs, if_true, decide_true, Bool.true_and]
        split <;> rfl
      · simp [hs]
theorem steps_wt (g : Raw) : ∀ (L : List Int) (s : Int), wt g L = ((stepsV g s L).map fun p => p.1.2.2).sum
  | [], _ => rfl
  | i :: L, s => by
    rw [stepsV, List.map_cons, List.sum_cons, ← steps_wt g L]
    unfold wt
    rw [List.map_cons, List.sum_cons]
/-- where the walk stands behind k arcs, as the iterator keeps it -/
def atS (g : Raw) : Int → List Int → Int
  | s, [] => s
  | _, i :: L => atS g ((arcI g i).getD (0, 0, 0)).2.1 L
theorem stepsV_append (g : Raw) : ∀ (L M : List Int) (s : Int), stepsV g s (L ++ M) = stepsV g s L ++ stepsV g (atS g s L) M
  | [], M, s => rfl
  | i :: L, M, s => by rw [List.cons_append, stepsV, stepsV, stepsV_append g L M, atS]; rfl
theorem atS_append (g : Raw) : ∀ (L M : List Int) (s : Int), atS g s (L ++ M) = atS g (atS g s L) M
  | [], M, s => rfl
  | i :: L, M, s => by rw [List.cons_append, atS, atS, atS_append g L M]
/-- a walk's nodes, if it is one -/
def nodesV (g : Raw) (s : Int) (L : List Int) : Option (List Int) := if 0 ≤ s ∧ s < g.nodes then (wk g s L).map (s :: ·) else none
/-- its weight, if it leads to t -/
def checkV (g : Raw) (s t : Int) (L : List Int) : Option Int := if 0 ≤ s ∧ s < g.nodes then (wk g s L).bind fun l => if lastN s l = t then some (wt g L) else none else none
/-- without its rings -/
def bareO (g : Raw) (s : Int) (L : List Int) : Option (List Int) := if 0 ≤ s ∧ s < g.nodes then (wk g s L).map fun l => (bareV s (L.zip l)).2 else none
/-- all nodes of a walk are the graph's -/
theorem wk_nodes {g : Raw} (hg : ∀ a ∈ g.arcs, 0 ≤ a.2.1 ∧ a.2.1 < g.nodes) : ∀ {L l : List Int} {s : Int}, wk g s L = some l → ∀ v ∈ l, 0 ≤ v ∧ v < g.nodes
  | [], l, s, h, v, hv => by cases h; cases hv
  | i :: L, l, s, h, v, hv => by
    obtain ⟨a, l', h1, h2, h3, rfl⟩ := wk_cons h
    rcases List.mem_cons.1 hv with rfl | hv
    · unfold arcI at h1
      split at h1
      · exact hg a (List.mem_of_getElem? h1)
      · cases h1
    · exact wk_nodes hg h3 v hv
/-- rows whose elements differ are no longer than what they are of -/
theorem nodup_lt : ∀ (m : Nat) (l : List Int), l.Nodup → (∀ v ∈ l, 0 ≤ v ∧ v < (m : Int)) → l.length ≤ m
  | 0, l, _, hr => by
    cases l with
    | nil => exact Nat.le_refl _
    | cons a l => have := hr a List.mem_cons_self; omega
  | m + 1, l, h, hr => by
    by_cases hm : (m : Int) ∈ l
    · have h1 := nodup_lt m (l.erase (m : Int)) (h.erase _) (fun v hv => by
        obtain ⟨h2, h3⟩ := (h.mem_erase_iff).1 hv
        have := hr v h3
        omega)
      rw [List.length_erase_of_mem hm] at h1
      omega
    · have h1 := nodup_lt m l h (fun v hv => by
        have := hr v hv
        have hne : v ≠ (m : Int) := fun e => hm (e ▸ hv)
        omega)
      omega
end Go.Proofs.YtjobijmmjebpaaaDoor
/-
  A ROUND of a range over a function WHOSE BODY MAY PANIC: the panic goes up to the iterator. On the kit's roundIn_of_wpIn.
-/
namespace Go.Proofs.YtjobijmmjebpaaaDoor
variable {F : Fence} {n : Nat} {P : Program}
/-- what is asked at a round's end; a panic is handed up -/
def roundPostP (P : Program) (l : Nat) (R : Ending → World → Prop) : Exit → Act → World → Prop
  | .panic ch, a, w => a.defers = [] ∧ R (.panicked ch) w
  | e, a, w => roundPost P l R e a w
theorem roundIn_pan {l : Nat} {f : FuncId} {tmps : Array Value} {assign body : Code} {w : World} {R : Ending → World → Prop} (hF : F.fn f) (hfn : ∃ fn, P.funcs[f]? = some fn)
    (h : assign.wpIn (F.inRound l) n P (Exit.then (fun a₁ w₁ => ∃ w₂, (Instr.beginRound l).run P w₁ = .ok () w₂ ∧ body.wpIn (F.inRound l) n P (roundPostP P l R) a₁ w₂) (fun _ _ _ => False))
      { tmps := tmps, defers := [] } w) :
    RoundIn F n P l f tmps assign body w R := by
  refine ⟨hF, fun c cs hr => ?_⟩
  let b : Frame := { (default : Frame) with fn := f, kind := .normal, roundOf := some l }
  have hb0 : Frame.round l f tmps assign body .normal = b.atR { tmps := tmps, defers := [] } [.code assign, .beginRound, .code body] := by
    simp [Frame.round, Frame.atR, b]
  have hr' : (F.inRound l).room ((c :: cs).length + 1 + n) := hr
  have hF' : (F.inRound l).fn b.fn := hF
  obtain ⟨e, a₁, w₁, hq, harr⟩ := h b [.beginRound, .code body] (c :: cs) rfl hF' hr'
  rw [← hb0] at harr
  cases e with
  | normal =>
    obtain ⟨w₂, hbr, hbody⟩ := hq
    have s1 : StepsIn (Machine.fenced P (F.inRound l)) P (lone (b.atR a₁ [.beginRound, .code body]) (c :: cs) w₁) (lone (b.atR a₁ [.code body]) (c :: cs) w₂) :=
      .one (fenced_calm (fr := b.atR a₁ [.beginRound, .code body]) hF' hr' rfl) (stepR_beginRound rfl hbr)
    obtain ⟨e₂, a₂, w₃, hq₂, harr₂⟩ := hbody b [] (c :: cs) rfl hF' hr'
    cases e₂ with
    | normal =>
      obtain ⟨v, w₄, hend, hR⟩ := hq₂
      exact ⟨.returned v, w₄, hR, (StepsIn.trans harr s1).trans (StepsIn.trans harr₂ (.one (fenced_calm (fr := b.atR a₂ []) hF' hr' rfl) (stepR_round_end rfl rfl hend)))⟩
    | ret =>
      obtain ⟨v, w₄, hend, hR⟩ := hq₂
      obtain ⟨k₁, hs⟩ := harr₂.2 rfl
      exact ⟨.returned v, w₄, hR, (StepsIn.trans harr s1).trans (StepsIn.trans hs (.one (fenced_calm (fr := b.atR a₂ (.code .ret :: k₁)) hF' hr' rfl) (stepR_round_ret rfl rfl hend)))⟩
    | exit id =>
      obtain ⟨v, w₄, hend, hR⟩ := hq₂
      obtain ⟨k₁, hk, hs⟩ := harr₂.2 rfl rfl
      exact ⟨.returned v, w₄, hR, (StepsIn.trans harr s1).trans (StepsIn.trans hs (.one (fenced_calm (fr := b.atR a₂ (.code (.exit id) :: k₁)) hF' hr' rfl) (stepR_round_exit rfl rfl hk hend)))⟩
    | goto t =>
      obtain ⟨v, w₄, hend, hR⟩ := hq₂
      obtain ⟨k₁, hk, hs⟩ := harr₂.2 rfl rfl
      exact ⟨.returned v, w₄, hR, (StepsIn.trans harr s1).trans (StepsIn.trans hs (.one (fenced_calm (fr := b.atR a₂ (.code (.goto t) :: k₁)) hF' hr' rfl) (stepR_round_goto rfl rfl hk hend)))⟩
    | panic chain =>
      obtain ⟨hd, hR⟩ := hq₂
      obtain ⟨todo, hs⟩ := harr₂
      have hl : Frame.leaving P { b.atR a₂ todo with mode := .panicking chain } w₃ (.panicked chain) := ⟨rfl, hd, hfn⟩
      exact ⟨.panicked chain, w₃, hR, (StepsIn.trans harr s1).trans (StepsIn.trans hs (.one (fenced_leaving (fr := { b.atR a₂ todo with mode := .panicking chain }) hF' hr' hl) (step_leave_panicked hl)))⟩
    | outgrown => exact (hq₂ : False).elim
  | exit id => exact hq.elim
  | goto t => exact hq.elim
  | ret => exact hq.elim
  | panic chain => exact hq.elim
  | outgrown => exact hq.elim
end Go.Proofs.YtjobijmmjebpaaaDoor
/-
  'for x := range it { .. }' WHERE THE BODY MAY PANIC: the iterator hands the panic up. On the kit's wpIn_rangeFunc and XRoundPan.
-/
namespace Go.Proofs.YtjobijmmjebpaaaDoor
open Go.RowKit Go.Shelf
/-- how a round is left: it goes on, or it panics -/
def goesOrDies {α : Type} (B : Nat) (Kp : World → World → Prop) (I : List α → World → Prop) (T : List PanicEntry → List α → World → Prop) (xs : List α) (W : World) : Exit → Act → World → Prop
  | .normal, _, W' => KeepsFrom B W W' ∧ Kp W W' ∧ I xs W'
  | .panic ch, a, W' => a.defers = [] ∧ KeepsFrom B W W' ∧ T ch xs W'
  | _, _, _ => False
theorem wpIn_rangeDies {α : Type} {F : Fence} {n : Nat} {P : Program} {g : Operand} {ps : Array Tmp} {assign body : Code} {Q : Exit → Act → World → Prop} {a : Act} {w : World}
    (hro : F.round = none) (hex : ∀ fn, F.fn fn → ∃ f, P.funcs[fn]? = some f) (h1 : 1 ≤ n) {gf : Nat} {lb : Array Value} (hg : a.eval g = .func (.func gf) #[] lb) (hFg : F.fn gf) (eg : ∀ args w, (callFunc gf args).run P w = .ok (.enter gf args) w)
    (encs : α → Array Value) (hps : ∀ x, (encs x).size = ps.size) (St Kp : World → World → Prop) (S : List α → World → Prop) (T : List PanicEntry → List α → World → Prop) (Pre : List α → Prop) (N : Nat)
    (hit : ∀ (l : Nat) (J : List α → World → Prop) (U : List PanicEntry → List α → World → Prop) (W : World), Below w.heap.size w W → (∀ s A B, J s A → St A B → J s B) →
      (∀ pre x W1, J pre W1 → pre.length < N → YieldAt F (n - 1 - 1) P l (encs x) W1 fun e W' => (e = .returned (.bool true) ∧ J (pre ++ [x]) W' ∧ Kp W1 W') ∨ (∃ ch, e = .panicked ch ∧ U ch (pre ++ [x]) W')) → J [] W →
      CallsIn F (n - 1) P gf (#[.func (.yield l) #[] #[]] ++ lb) W fun e W' => (∃ v xs, e = .returned v ∧ S xs W' ∧ J xs W') ∨ (∃ ch xs, e = .panicked ch ∧ Pre xs ∧ U ch xs W'))
    (hSt : ∀ A B k o, St A B → w.heap.size ≤ k → A.heap[k]? = some o → o.isCells = false → B.heap[k]? = some o)
    (I : List α → World → Prop) (hIs : ∀ s A B, I s A → St A B → I s B) (hIp : ∀ s A l o o', I s A → w.heap.size ≤ l → A.heap[l]? = some o → o.isCells = false → I s (A.putObj l o')) (hIa : ∀ s A o, I s A → I s (A.alloc o))
    (hSp : ∀ s A l o o', S s A → w.heap.size ≤ l → A.heap[l]? = some o → o.isCells = false → S s (A.putObj l o'))
    (hKt : ∀ {A B C : World}, Kp A B → Kp B C → Kp A C) (hKb : ∀ (W : World) (l : Nat) (o o' : Obj), w.heap.size ≤ l → W.heap[l]? = some o → o.isCells = false → Kp W (W.putObj l o'))
    (h0 : I [] w) (A : List α → α → Act → World → Prop) (hAp : ∀ pre x a1 W l o o', A pre x a1 W → w.heap.size ≤ l → W.heap[l]? = some o → o.isCells = false → A pre x a1 (W.putObj l o'))
    (hassign : ∀ (l : Nat) (pre : List α) (x : α) (W : World) (K : Act → World → Prop), I pre W → pre.length < N → (∀ a1 W1, A pre x a1 W1 → KeepsFrom w.heap.size W W1 → Kp W W1 → K a1 W1) →
      assign.wpIn (F.inRound l) (n - 1 - 1) P (Exit.then K (fun _ _ _ => False)) { tmps := (ps.zip (encs x)).foldl (fun t (p, v) => t.setIfInBounds p v) a.tmps, defers := [] } W)
    (hbody : ∀ (l : Nat) (pre : List α) (x : α) (a1 : Act) (W : World), A pre x a1 W → pre.length < N → body.wpIn (F.inRound l) (n - 1 - 1) P (goesOrDies w.heap.size Kp I T (pre ++ [x]) W) a1 W)
    (hdone : ∀ (D : Nat) (xs : List α) (W : World), w.heap.size ≤ D → S xs W → I xs W → W.heap[D]? = some (.deferred (some [])) → Q .normal { a with defers := { target := .collected D, args := #[] } :: a.defers } W)
    (hthrow : ∀ (D : Nat) (ch : List PanicEntry) (xs : List α) (W : World), w.heap.size ≤ D → Pre xs → T ch xs W → W.heap[D]? = some (.deferred (some [])) → Q (.panic ch) { a with defers := { target := .collected D, args := #[] } :: a.defers } W) :
    (Code.rangeFunc g ps assign body).wpIn F n P Q a w := by
  refine wpIn_rangeFunc ?_
  intro fn hfn
  rw [hro]
  obtain ⟨rec, hrec⟩ : ∃ rec : LoopState → Option Code → Loop, rec = fun st pe => { state := st, pending := pe, fn, tmps := a.tmps, params := ps, assign, body, defers := w.heap.size } := ⟨_, rfl⟩
  obtain ⟨W1, hW1⟩ : ∃ W1, (w.alloc (.deferred (some []))).alloc (.loop (rec .ready none)) = W1 := ⟨_, rfl⟩
  have hL1 : W1.heap[w.heap.size + 1]? = some (.loop (rec .ready none)) := by
    rw [← hW1]; have := World.alloc_heap_new (w.alloc (.deferred (some []))) (.loop (rec .ready none)); rwa [World.size_alloc] at this
  have hD1 : W1.heap[w.heap.size]? = some (.deferred (some [])) := by
    rw [← hW1]; exact (Below.heap_alloc _ _ _ (by simp)).trans (World.alloc_heap_new w _)
  have hb1 : Below w.heap.size w W1 := by rw [← hW1]; exact ((Below.refl _ w).alloc (Nat.le_refl _) _).alloc (by simp) _
  have hI1 : I [] W1 := by rw [← hW1]; exact hIa _ _ _ (hIa _ _ _ h0)
  refine ⟨w.heap.size + 1, [{ target := .collected w.heap.size, args := #[] }], W1, { target := .fn (.func gf) lb, args := #[.func (.yield (w.heap.size + 1)) #[] #[]] }, W1, gf,
    #[.func (.yield (w.heap.size + 1)) #[] #[]] ++ lb, W1, ?_, ?_, ?_, ?_, fun _ => h1, ?_⟩
  · rw [← hW1, hrec]; exact run_enterLoop_outer _ _ _ _ _
  · simp only [resolve, hg]
    simp [go_sem]
  · intro f' hf'; simp [Target.leads] at hf'; subst hf'; exact hFg
  · simp [invoke, go_sem, eg]
  refine (hit (w.heap.size + 1) (fun pre W => I pre W ∧ W.heap[w.heap.size + 1]? = some (.loop (rec .ready none)) ∧ W.heap[w.heap.size]? = some (.deferred (some []))) (fun ch xs W => T ch xs W ∧ W.heap[w.heap.size]? = some (.deferred (some []))) W1 hb1
    (fun s A B hs hst => ⟨hIs s A B hs.1 hst, hSt A B _ _ hst (by omega) hs.2.1 rfl, hSt A B _ _ hst (Nat.le_refl _) hs.2.2 rfl⟩) ?_ ⟨hI1, hL1, hD1⟩).mono ?_
  · rintro pre x W ⟨hi, hl, hk⟩ hlen
    have hlt : w.heap.size + 1 < W.heap.size := (Array.getElem?_eq_some_iff.1 hl).1
    have hy := run_yield (P := P) (args := encs x) hl (by rw [hrec]; exact hps x)
    rw [hrec] at hy
    refine ⟨fn, _, assign, body, hy, roundIn_pan hfn (hex fn hfn) (hassign _ pre x W _ hi hlen ?_)⟩
    intro a1 Wa hA hka hkpa
    have hla := hka.same _ _ (by omega) hl rfl
    have hlta : w.heap.size + 1 < Wa.heap.size := (Array.getElem?_eq_some_iff.1 hla).1
    refine ⟨_, run_beginRound hla (by rw [hrec]), ?_⟩
    obtain ⟨Wb, hWb⟩ : ∃ Wb, Wa.putObj (w.heap.size + 1) (.loop { rec .ready none with state := .busy }) = Wb := ⟨_, rfl⟩
    have hl2 : Wb.heap[w.heap.size + 1]? = some (.loop { rec .ready none with state := .busy }) := by rw [← hWb]; exact World.putObj_heap_same hlta
    have hk2 : Wb.heap[w.heap.size]? = some (.deferred (some [])) := by rw [← hWb]; exact (World.putObj_heap_other (by omega)).trans (hka.same _ _ (Nat.le_refl _) hk rfl)
    have hw2 : Kp W Wb := by rw [← hWb]; exact hKt hkpa (hKb _ _ _ _ (by omega) hla rfl)
    have hA2 : A pre x a1 Wb := by rw [← hWb]; exact hAp _ _ _ _ _ _ _ hA (by omega) hla rfl
    rw [hWb]
    refine wpIn_mono (hbody _ pre x a1 _ hA2 hlen) ?_
    rintro e a3 W3 hp
    cases e with
    | normal =>
      obtain ⟨hk3, hkp3, hi3⟩ := hp
      have hl3 := hk3.same _ _ (by omega) hl2 rfl
      have hr := run_endRound (P := P) none hl3
      rw [hrec] at hr hl3
      refine ⟨_, _, hr, .inl ⟨rfl, ⟨hIp _ _ _ _ _ hi3 (by omega) hl3 rfl, ?_, ?_⟩, hKt (hKt hw2 hkp3) (hKb _ _ _ _ (by omega) hl3 rfl)⟩⟩
      · rw [hrec]; exact World.putObj_heap_same (Array.getElem?_eq_some_iff.1 hl3).1
      · exact (World.putObj_heap_other (by omega)).trans (hk3.same _ _ (Nat.le_refl _) hk2 rfl)
    | ret => exact hp.elim
    | exit id => exact hp.elim
    | goto t => exact hp.elim
    | panic ch =>
      obtain ⟨hd, hk3, ht⟩ := hp
      exact ⟨hd, .inr ⟨ch, rfl, ht, hk3.same _ _ (Nat.le_refl _) hk2 rfl⟩⟩
    | outgrown => exact hp.elim
  · rintro e W2 (⟨v, xs, rfl, hS, hi, hl, hk⟩ | ⟨ch, xs, rfl, hpre, hT, hk⟩)
    · exact ⟨none, _, by have := run_endLoop (P := P) hl (by rw [hrec]; simp); rw [hrec] at this; exact this, hdone _ xs _ (Nat.le_refl _) (hSp _ _ _ _ _ hS (by omega) hl rfl) (hIp _ _ _ _ _ hi (by omega) hl rfl) ((World.putObj_heap_other (by omega)).trans hk)⟩
    · exact hthrow _ ch xs _ (Nat.le_refl _) hpre hT hk
end Go.Proofs.YtjobijmmjebpaaaDoor
/- graph's iterators, where the body may panic: slices.Values of places. -/
namespace Go.Proofs.YtjobijmmjebpaaaDoor
open Go.RowKit Go.Shelf
attribute [local go_sem] Oper.semAt_some
/-- the functions that look comes to -/
def FK : Fence := Fence.list [56, 63, 64, 65, 66, 67, 68, 69, 70, 71, 76, 77, 78, 82] none
theorem FK_round : FK.round = none := rfl
theorem FK_depth : FK.depth = none := rfl
attribute [local go_sem] FK_round FK_depth Oper.semAt_none
theorem SlP.keep {w w' : World} {v : Value} {L : List Pl} (h : SlP w v L) (hk : KpC w w') : SlP w' v L := by
  obtain ⟨a, cap, e, h1, h2, h3⟩ := h
  refine ⟨a, cap, e, h1, h2, fun i hi => ?_⟩
  obtain ⟨b, off, cs, t, fr, ea, hb, hc⟩ := h3 i hi
  exact ⟨b, off, cs, t, fr, ea, hk.blk hb, hc⟩
set_option maxRecDepth 100000 in
set_option maxHeartbeats 2000000 in
theorem values_in (m : Nat) (L Bs : Nat) (ps : List Pl) (v : Value) (J : List Pl → World → Prop) (U : List PanicEntry → List Pl → World → Prop) (hJA : ∀ s W W', J s W → Below W.heap.size W W' → J s W')
    (hY : ∀ pre x W, J pre W → pre.length < ps.length → YieldAt FK (m - 1) Tryd.prog L (encP x) W fun e W' =>
      (e = .returned (.bool true) ∧ J (pre ++ [x]) W' ∧ KpC W W') ∨ (∃ ch, e = .panicked ch ∧ U ch (pre ++ [x]) W'))
    (W : World) (hBs : Blk W Bs #[v] 126 (0, 0)) (hsl : SlP W v ps) (h0 : J [] W) :
    CallsIn FK m Tryd.prog 82 #[.func (.yield L) #[] #[], .pointer (some ⟨Bs, 0, none⟩)] W fun e W' =>
      (∃ v, e = .returned v ∧ J ps W') ∨ (∃ ch xs, e = .panicked ch ∧ xs <+: ps ∧ U ch xs W') := by
  obtain ⟨a, cap, rfl, hcap, hmx, _⟩ := id hsl
  unfold maxLen at hmx
  have c1 := hBs.cell 0
  change W.cell? ⟨Bs, 0, none⟩ = some (.slice a ps.length cap) at c1
  refine callsIn_of_wp Tryd.func82 rfl (by simp [FK, Fence.list]) ?_ rfl
  simp only [Tryd.ntmps82, List.size_toArray, List.length_cons, List.length_nil, Nat.reduceAdd, Nat.reduceSub, Array.replicate_succ, Array.replicate_zero, List.push_toArray, List.append_toArray, List.nil_append, List.cons_append]
  gi_wp2_with fail
  gi_loopw [7] (fun i wr => ∃ (k : Nat), k ≤ ps.length ∧ i = .int .i64 k ∧ SlP wr (.slice a ps.length cap) ps ∧ J (ps.take k) wr) (fun i _ => ps.length - (intOf i).toNat)
  case atStart => exact ⟨0, Nat.zero_le _, rfl, hsl, h0⟩
  case round =>
    obtain ⟨k, hk, rfl, hsk, hJ⟩ := hrel
    by_cases hlt : k < ps.length
    · obtain ⟨b, off, ha, d0, d1, d2, d3, d4, d5⟩ : ∃ b off, a = some ⟨b, off, none⟩ ∧ wr.cell? ⟨b, off + k * 6, none⟩ = some (.int .i64 ps[k].ix) ∧ wr.cell? ⟨b, off + k * 6 + 1, none⟩ = some (.int .i64 ps[k].fl) ∧ wr.cell? ⟨b, off + k * 6 + 2, none⟩ = some (.int .i64 ps[k].co) ∧ wr.cell? ⟨b, off + k * 6 + 3, none⟩ = some (.int .i64 ps[k].n) ∧ wr.cell? ⟨b, off + k * 6 + 4, none⟩ = some (.int .i64 ps[k].lo) ∧ wr.cell? ⟨b, off + k * 6 + 5, none⟩ = some (.int .i64 ps[k].hi) := by
        obtain ⟨a', cap', e, _, _, h3⟩ := id hsk
        obtain ⟨b, off, cs, t, fr, ea, hb, hc⟩ := h3 k hlt
        have e3 := (Value.slice.inj e).1
        refine ⟨b, off, by rw [e3, ea], ?_, ?_, ?_, ?_, ?_, ?_⟩
        · rw [hb.cell]; exact hc 0 _ rfl
        · rw [hb.cell]; exact hc 1 _ rfl
        · rw [hb.cell]; exact hc 2 _ rfl
        · rw [hb.cell]; exact hc 3 _ rfl
        · rw [hb.cell]; exact hc 4 _ rfl
        · rw [hb.cell]; exact hc 5 _ rfl
      subst ha
      have hsc : ps.take (k + 1) = ps.take k ++ [ps[k]] := List.take_succ_eq_append_getElem hlt
      have hpl : (ps.take k).length < ps.length := by rw [List.length_take]; omega
      have hpf : ps.take k ++ [ps[k]] <+: ps := by rw [← hsc]; exact List.take_prefix _ _
      have i1 : (0 : Int) ≤ (k : Int) := by omega
      have i2 : (k : Int) < (ps.length : Int) := by omega
      obtain ⟨x, hx⟩ : ∃ x, x = ps[k] := ⟨_, rfl⟩
      rw [← hx] at d0 d1 d2 d3 d4 d5 hsc hpf
      have hJx := fun o => hJA _ _ (wr.alloc o) hJ ((Below.refl _ _).alloc (Nat.le_refl _) o)
      have hsx := fun o => hsk.keep (KpC.of_below ((Below.refl wr.heap.size wr).alloc (Nat.le_refl _) o))
      have HY := Lib.hid hY; have HJ := Lib.hid hJx; have HS := Lib.hid hsx; have HSc := Lib.hid hsc; have HPf := Lib.hid hpf
      clear hY hJx hsx hsc hpf hx hsk hJ
      gi_wp2_with fail
      obtain ⟨fn, tmps, assign, body, hy, hR⟩ := HY.out _ x _ (HJ.out (.cells #[.int .i64 x.ix, .int .i64 x.fl, .int .i64 x.co, .int .i64 x.n, .int .i64 x.lo, .int .i64 x.hi] 112)) hpl
      unfold encP at hy
      rw [hy]
      rw [Oper.uponIn_round]
      refine ⟨fun h => (by cases h), ?_⟩
      refine hR.mono ?_
      rintro e W3 (⟨rfl, hJ3, hk3⟩ | ⟨ch, rfl, hU⟩)
      · have hS3 := (HS.out _).keep hk3
        have HS3 := Lib.hid hS3; have HJ3 := Lib.hid hJ3
        clear hS3 hJ3 hk3 hy hR
        gi_wp2_with fail
        go_roundw
        case rel => exact ⟨k + 1, by omega, by go_num, HS3.out, by rw [HSc.out]; exact HJ3.out⟩
        case measure => simp [intOf]; omega
      · exact ⟨rfl, .inr ⟨ch, _, rfl, HPf.out, hU⟩⟩
    · obtain rfl : k = ps.length := by omega
      rw [List.take_length] at hJ
      gi_wp2_with fail
      go_end0
      exact .inl ⟨_, rfl, hJ⟩
end Go.Proofs.YtjobijmmjebpaaaDoor
