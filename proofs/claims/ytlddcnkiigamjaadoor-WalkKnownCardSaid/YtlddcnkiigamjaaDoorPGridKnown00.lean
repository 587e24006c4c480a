/- Texts of the law GridKnown, merged: RoundPan, RangeDies, Heap, Read, GrPl, GrIt, GrArcs, GrNodes. -/
import Derived.RangeFuncIn
import Derived.RangeFuncBox
import Derived.RangeFuncLeaves
import Derived.Shelf.Abstract
import Derived.OwnWalkIn
import Derived.TacticsInMore
import Derived.LoopNIn
import Derived.LoopIn
import Derived.WalkKit
import Derived.ProofKit
import Derived.OpenShut
import Derived.Deep.Slices
import Derived.Test.YtlddcnkiigamjaaDoorRows
import Derived.WalkSpells
import Derived.ChangeAlike
import Derived.RangeFuncSeq
import Derived.Lib.Hide
import Derived.RegionIn
/-
  A ROUND of a range over a function WHOSE BODY MAY PANIC: the panic goes up to the iterator. On the kit's roundIn_of_wpIn.
-/
namespace Go.Proofs.YtlddcnkiigamjaaDoor
variable {F : Fence} {n : Nat} {P : Program}
/-- what is asked at a round's end; a panic is handed up -/
def roundPostP (P : Program) (l : Nat) (R : Ending → World → Prop) : Exit → Act → World → Prop
  | .panic ch, a, w => a.defers = [] ∧ R (.panicked ch) w
  | e, a, w => roundPost P l R e a w
theorem roundIn_pan {l : Nat} {f : FuncId} {tmps : Array Value} {assign body : Code} {w : World} {R : Ending → World → Prop} (hF : F.fn f) (hfn : ∃ fn, P.funcs[f]? = some fn)
    (h : assign.wpIn (F.inRound l) n P (Exit.then (fun a₁ w₁ => ∃ w₂, (Instr.beginRound l).run P w₁ = .ok () w₂ ∧ body.wpIn (F.inRound l) n P (roundPostP P l R) a₁ w₂) (fun _ _ _ => False))
      { tmps := tmps, defers := [] } w) :
    RoundIn F n P l f tmps assign body w R := by
  refine ⟨hF, fun c cs hr => ?_⟩
  let b : Frame := { (default : Frame) with fn := f, kind := .normal, roundOf := some l }
  have hb0 : Frame.round l f tmps assign body .normal = b.atR { tmps := tmps, defers := [] } [.code assign, .beginRound, .code body] := by
    simp [Frame.round, Frame.atR, b]
  have hr' : (F.inRound l).room ((c :: cs).length + 1 + n) := hr
  have hF' : (F.inRound l).fn b.fn := hF
  obtain ⟨e, a₁, w₁, hq, harr⟩ := h b [.beginRound, .code body] (c :: cs) rfl hF' hr'
  rw [← hb0] at harr
  cases e with
  | normal =>
    obtain ⟨w₂, hbr, hbody⟩ := hq
    have s1 : StepsIn (Machine.fenced P (F.inRound l)) P (lone (b.atR a₁ [.beginRound, .code body]) (c :: cs) w₁) (lone (b.atR a₁ [.code body]) (c :: cs) w₂) :=
      .one (fenced_calm (fr := b.atR a₁ [.beginRound, .code body]) hF' hr' rfl) (stepR_beginRound rfl hbr)
    obtain ⟨e₂, a₂, w₃, hq₂, harr₂⟩ := hbody b [] (c :: cs) rfl hF' hr'
    cases e₂ with
    | normal =>
      obtain ⟨v, w₄, hend, hR⟩ := hq₂
      exact ⟨.returned v, w₄, hR, (StepsIn.trans harr s1).trans (StepsIn.trans harr₂ (.one (fenced_calm (fr := b.atR a₂ []) hF' hr' rfl) (stepR_round_end rfl rfl hend)))⟩
    | ret =>
      obtain ⟨v, w₄, hend, hR⟩ := hq₂
      obtain ⟨k₁, hs⟩ := harr₂.2 rfl
      exact ⟨.returned v, w₄, hR, (StepsIn.trans harr s1).trans (StepsIn.trans hs (.one (fenced_calm (fr := b.atR a₂ (.code .ret :: k₁)) hF' hr' rfl) (stepR_round_ret rfl rfl hend)))⟩
    | exit id =>
      obtain ⟨v, w₄, hend, hR⟩ := hq₂
      obtain ⟨k₁, hk, hs⟩ := harr₂.2 rfl rfl
      exact ⟨.returned v, w₄, hR, (StepsIn.trans harr s1).trans (StepsIn.trans hs (.one (fenced_calm (fr := b.atR a₂ (.code (.exit id) :: k₁)) hF' hr' rfl) (stepR_round_exit rfl rfl hk hend)))⟩
    | goto t =>
      obtain ⟨v, w₄, hend, hR⟩ := hq₂
      obtain ⟨k₁, hk, hs⟩ := harr₂.2 rfl rfl
      exact ⟨.returned v, w₄, hR, (StepsIn.trans harr s1).trans (StepsIn.trans hs (.one (fenced_calm (fr := b.atR a₂ (.code (.goto t) :: k₁)) hF' hr' rfl) (stepR_round_goto rfl rfl hk hend)))⟩
    | panic chain =>
      obtain ⟨hd, hR⟩ := hq₂
      obtain ⟨todo, hs⟩ := harr₂
      have hl : Frame.leaving P { b.atR a₂ todo with mode := .panicking chain } w₃ (.panicked chain) := ⟨rfl, hd, hfn⟩
      exact ⟨.panicked chain, w₃, hR, (StepsIn.trans harr s1).trans (StepsIn.trans hs (.one (fenced_leaving (fr := { b.atR a₂ todo with mode := .panicking chain }) hF' hr' hl) (step_leave_panicked hl)))⟩
    | outgrown => exact (hq₂ : False).elim
  | exit id => exact hq.elim
  | goto t => exact hq.elim
  | ret => exact hq.elim
  | panic chain => exact hq.elim
  | outgrown => exact hq.elim
end Go.Proofs.YtlddcnkiigamjaaDoor
/-
  'for x := range it { .. }' WHERE THE BODY MAY PANIC: the iterator hands the panic up. On the kit's wpIn_rangeFunc and XRoundPan.
-/
namespace Go.Proofs.YtlddcnkiigamjaaDoor
open Go.RowKit Go.Shelf
/-- how a round is left: it goes on, or it panics -/
def goesOrDies {α : Type} (B : Nat) (Kp : World → World → Prop) (I : List α → World → Prop) (T : List PanicEntry → List α → World → Prop) (xs : List α) (W : World) : Exit → Act → World → Prop
  | .normal, _, W' => KeepsFrom B W W' ∧ Kp W W' ∧ I xs W'
  | .panic ch, a, W' => a.defers = [] ∧ KeepsFrom B W W' ∧ T ch xs W'
  | _, _, _ => False
theorem wpIn_rangeDies {α : Type} {F : Fence} {n : Nat} {P : Program} {g : Operand} {ps : Array Tmp} {assign body : Code} {Q : Exit → Act → World → Prop} {a : Act} {w : World}
    (hro : F.round = none) (hex : ∀ fn, F.fn fn → ∃ f, P.funcs[fn]? = some f) (h1 : 1 ≤ n) {gf : Nat} {lb : Array Value} (hg : a.eval g = .func (.func gf) #[] lb) (hFg : F.fn gf) (eg : ∀ args w, (callFunc gf args).run P w = .ok (.enter gf args) w)
    (encs : α → Array Value) (hps : ∀ x, (encs x).size = ps.size) (St Kp : World → World → Prop) (S : List α → World → Prop) (T : List PanicEntry → List α → World → Prop) (Pre : List α → Prop) (N : Nat)
    (hit : ∀ (l : Nat) (J : List α → World → Prop) (U : List PanicEntry → List α → World → Prop) (W : World), Below w.heap.size w W → (∀ s A B, J s A → St A B → J s B) →
      (∀ pre x W1, J pre W1 → pre.length < N → YieldAt F (n - 1 - 1) P l (encs x) W1 fun e W' => (e = .returned (.bool true) ∧ J (pre ++ [x]) W' ∧ Kp W1 W') ∨ (∃ ch, e = .panicked ch ∧ U ch (pre ++ [x]) W')) → J [] W →
      CallsIn F (n - 1) P gf (#[.func (.yield l) #[] #[]] ++ lb) W fun e W' => (∃ v xs, e = .returned v ∧ S xs W' ∧ J xs W') ∨ (∃ ch xs, e = .panicked ch ∧ Pre xs ∧ U ch xs W'))
    (hSt : ∀ A B k o, St A B → w.heap.size ≤ k → A.heap[k]? = some o → o.isCells = false → B.heap[k]? = some o)
    (I : List α → World → Prop) (hIs : ∀ s A B, I s A → St A B → I s B) (hIp : ∀ s A l o o', I s A → w.heap.size ≤ l → A.heap[l]? = some o → o.isCells = false → I s (A.putObj l o')) (hIa : ∀ s A o, I s A → I s (A.alloc o))
    (hSp : ∀ s A l o o', S s A → w.heap.size ≤ l → A.heap[l]? = some o → o.isCells = false → S s (A.putObj l o'))
    (hKt : ∀ {A B C : World}, Kp A B → Kp B C → Kp A C) (hKb : ∀ (W : World) (l : Nat) (o o' : Obj), w.heap.size ≤ l → W.heap[l]? = some o → o.isCells = false → Kp W (W.putObj l o'))
    (h0 : I [] w) (A : List α → α → Act → World → Prop) (hAp : ∀ pre x a1 W l o o', A pre x a1 W → w.heap.size ≤ l → W.heap[l]? = some o → o.isCells = false → A pre x a1 (W.putObj l o'))
    (hassign : ∀ (l : Nat) (pre : List α) (x : α) (W : World) (K : Act → World → Prop), I pre W → pre.length < N → (∀ a1 W1, A pre x a1 W1 → KeepsFrom w.heap.size W W1 → Kp W W1 → K a1 W1) →
      assign.wpIn (F.inRound l) (n - 1 - 1) P (Exit.then K (fun _ _ _ => False)) { tmps := (ps.zip (encs x)).foldl (fun t (p, v) => t.setIfInBounds p v) a.tmps, defers := [] } W)
    (hbody : ∀ (l : Nat) (pre : List α) (x : α) (a1 : Act) (W : World), A pre x a1 W → pre.length < N → body.wpIn (F.inRound l) (n - 1 - 1) P (goesOrDies w.heap.size Kp I T (pre ++ [x]) W) a1 W)
    (hdone : ∀ (D : Nat) (xs : List α) (W : World), w.heap.size ≤ D → S xs W → I xs W → W.heap[D]? = some (.deferred (some [])) → Q .normal { a with defers := { target := .collected D, args := #[] } :: a.defers } W)
    (hthrow : ∀ (D : Nat) (ch : List PanicEntry) (xs : List α) (W : World), w.heap.size ≤ D → Pre xs → T ch xs W → W.heap[D]? = some (.deferred (some [])) → Q (.panic ch) { a with defers := { target := .collected D, args := #[] } :: a.defers } W) :
    (Code.rangeFunc g ps assign body).wpIn F n P Q a w := by
  refine wpIn_rangeFunc ?_
  intro fn hfn
  rw [hro]
  obtain ⟨rec, hrec⟩ : ∃ rec : LoopState → Option Code → Loop, rec = fun st pe => { state := st, pending := pe, fn, tmps := a.tmps, params := ps, assign, body, defers := w.heap.size } := ⟨_, rfl⟩
  obtain ⟨W1, hW1⟩ : ∃ W1, (w.alloc (.deferred (some []))).alloc (.loop (rec .ready none)) = W1 := ⟨_, rfl⟩
  have hL1 : W1.heap[w.heap.size + 1]? = some (.loop (rec .ready none)) := by
    rw [← hW1]; have := World.alloc_heap_new (w.alloc (.deferred (some []))) (.loop (rec .ready none)); rwa [World.size_alloc] at this
  have hD1 : W1.heap[w.heap.size]? = some (.deferred (some [])) := by
    rw [← hW1]; exact (Below.heap_alloc _ _ _ (by simp)).trans (World.alloc_heap_new w _)
  have hb1 : Below w.heap.size w W1 := by rw [← hW1]; exact ((Below.refl _ w).alloc (Nat.le_refl _) _).alloc (by simp) _
  have hI1 : I [] W1 := by rw [← hW1]; exact hIa _ _ _ (hIa _ _ _ h0)
  refine ⟨w.heap.size + 1, [{ target := .collected w.heap.size, args := #[] }], W1, { target := .fn (.func gf) lb, args := #[.func (.yield (w.heap.size + 1)) #[] #[]] }, W1, gf,
    #[.func (.yield (w.heap.size + 1)) #[] #[]] ++ lb, W1, ?_, ?_, ?_, ?_, fun _ => h1, ?_⟩
  · rw [← hW1, hrec]; exact run_enterLoop_outer _ _ _ _ _
  · simp only [resolve, hg]
    simp [go_sem]
  · intro f' hf'; simp [Target.leads] at hf'; subst hf'; exact hFg
  · simp [invoke, go_sem, eg]
  refine (hit (w.heap.size + 1) (fun pre W => I pre W ∧ W.heap[w.heap.size + 1]? = some (.loop (rec .ready none)) ∧ W.heap[w.heap.size]? = some (.deferred (some []))) (fun ch xs W => T ch xs W ∧ W.heap[w.heap.size]? = some (.deferred (some []))) W1 hb1
    (fun s A B hs hst => ⟨hIs s A B hs.1 hst, hSt A B _ _ hst (by omega) hs.2.1 rfl, hSt A B _ _ hst (Nat.le_refl _) hs.2.2 rfl⟩) ?_ ⟨hI1, hL1, hD1⟩).mono ?_
  · rintro pre x W ⟨hi, hl, hk⟩ hlen
    have hlt : w.heap.size + 1 < W.heap.size := (Array.getElem?_eq_some_iff.1 hl).1
    have hy := run_yield (P := P) (args := encs x) hl (by rw [hrec]; exact hps x)
    rw [hrec] at hy
    refine ⟨fn, _, assign, body, hy, roundIn_pan hfn (hex fn hfn) (hassign _ pre x W _ hi hlen ?_)⟩
    intro a1 Wa hA hka hkpa
    have hla := hka.same _ _ (by omega) hl rfl
    have hlta : w.heap.size + 1 < Wa.heap.size := (Array.getElem?_eq_some_iff.1 hla).1
    refine ⟨_, run_beginRound hla (by rw [hrec]), ?_⟩
    obtain ⟨Wb, hWb⟩ : ∃ Wb, Wa.putObj (w.heap.size + 1) (.loop { rec .ready none with state := .busy }) = Wb := ⟨_, rfl⟩
    have hl2 : Wb.heap[w.heap.size + 1]? = some (.loop { rec .ready none with state := .busy }) := by rw [← hWb]; exact World.putObj_heap_same hlta
    have hk2 : Wb.heap[w.heap.size]? = some (.deferred (some [])) := by rw [← hWb]; exact (World.putObj_heap_other (by omega)).trans (hka.same _ _ (Nat.le_refl _) hk rfl)
    have hw2 : Kp W Wb := by rw [← hWb]; exact hKt hkpa (hKb _ _ _ _ (by omega) hla rfl)
    have hA2 : A pre x a1 Wb := by rw [← hWb]; exact hAp _ _ _ _ _ _ _ hA (by omega) hla rfl
    rw [hWb]
    refine wpIn_mono (hbody _ pre x a1 _ hA2 hlen) ?_
    rintro e a3 W3 hp
    cases e with
    | normal =>
      obtain ⟨hk3, hkp3, hi3⟩ := hp
      have hl3 := hk3.same _ _ (by omega) hl2 rfl
      have hr := run_endRound (P := P) none hl3
      rw [hrec] at hr hl3
      refine ⟨_, _, hr, .inl ⟨rfl, ⟨hIp _ _ _ _ _ hi3 (by omega) hl3 rfl, ?_, ?_⟩, hKt (hKt hw2 hkp3) (hKb _ _ _ _ (by omega) hl3 rfl)⟩⟩
      · rw [hrec]; exact World.putObj_heap_same (Array.getElem?_eq_some_iff.1 hl3).1
      · exact (World.putObj_heap_other (by omega)).trans (hk3.same _ _ (Nat.le_refl _) hk2 rfl)
    | ret => exact hp.elim
    | exit id => exact hp.elim
    | goto t => exact hp.elim
    | panic ch =>
      obtain ⟨hd, hk3, ht⟩ := hp
      exact ⟨hd, .inr ⟨ch, rfl, ht, hk3.same _ _ (Nat.le_refl _) hk2 rfl⟩⟩
    | outgrown => exact hp.elim
  · rintro e W2 (⟨v, xs, rfl, hS, hi, hl, hk⟩ | ⟨ch, xs, rfl, hpre, hT, hk⟩)
    · exact ⟨none, _, by have := run_endLoop (P := P) hl (by rw [hrec]; simp); rw [hrec] at this; exact this, hdone _ xs _ (Nat.le_refl _) (hSp _ _ _ _ _ hS (by omega) hl rfl) (hIp _ _ _ _ _ hi (by omega) hl rfl) ((World.putObj_heap_other (by omega)).trans hk)⟩
    · exact hthrow _ ch xs _ (Nat.le_refl _) hpre hT hk
end Go.Proofs.YtlddcnkiigamjaaDoor
/-
  SMALL LAWS ON BLOCKS OF MEMORY: what a block that is known whole gives of its cells, and what becomes of it.
-/
namespace Go.Proofs.YtlddcnkiigamjaaDoor
open Go.RowKit
/-- block b is known whole -/
abbrev Blk (w : World) (b : Nat) (cs : Array Value) (t : TypeId) (fr : Nat × Nat) : Prop := w.heap[b]? = some (.cells cs t fr)
theorem Blk.cell {w : World} {b : Nat} {cs : Array Value} {t : TypeId} {fr : Nat × Nat} (h : Blk w b cs t fr) (i : Nat) : w.cell? ⟨b, i, none⟩ = cs[i]? := cell_of_row w b i cs t fr h
theorem Blk.free {w : World} {b : Nat} {cs : Array Value} {t : TypeId} {fr : Nat × Nat} (h : Blk w b cs t fr) (i : Nat) (hi : i < fr.1 ∨ fr.2 ≤ i) : w.frozen? ⟨b, i, none⟩ = false := by
  unfold World.frozen?
  simp only [show w.heap[b]? = some (.cells cs t fr) from h]
  simp; omega
theorem Blk.lt {w : World} {b : Nat} {cs : Array Value} {t : TypeId} {fr : Nat × Nat} (h : Blk w b cs t fr) : b < w.heap.size := (Array.getElem?_eq_some_iff.1 h).1
theorem Blk.set {w : World} {b : Nat} {cs : Array Value} {t : TypeId} {fr : Nat × Nat} (h : Blk w b cs t fr) (i : Nat) (v : Value) : Blk (w.setCell ⟨b, i, none⟩ v) b (cs.setIfInBounds i v) t fr := by
  rw [setCell_eq_setRow w b i cs t fr v h]
  exact setRow_heap w b cs _ t _ h
theorem Blk.setOther {w : World} {b : Nat} {cs : Array Value} {t : TypeId} {fr : Nat × Nat} (h : Blk w b cs t fr) (a : Addr) (v : Value) (hb : b ≠ a.block) : Blk (w.setCell a v) b cs t fr := by
  unfold Blk; rw [heap_setCell_other _ _ _ _ hb]; exact h
theorem Blk.drew {w : World} {b : Nat} {cs : Array Value} {t : TypeId} {fr : Nat × Nat} (h : Blk w b cs t fr) : Blk w.drew b cs t fr := h
theorem Blk.alloc {w : World} {b : Nat} {cs : Array Value} {t : TypeId} {fr : Nat × Nat} (h : Blk w b cs t fr) (o : Obj) : Blk (w.alloc o) b cs t fr := by
  unfold Blk; rw [Below.heap_alloc _ _ _ h.lt]; exact h
theorem Blk.below {w w' : World} {B b : Nat} {cs : Array Value} {t : TypeId} {fr : Nat × Nat} (h : Blk w b cs t fr) (hb : Below B w w') (hlt : b < B) : Blk w' b cs t fr := (hb.block b hlt).trans h
theorem Blk.new (w : World) (cs : Array Value) (t : TypeId) (fr : Nat × Nat) : Blk (w.alloc (.cells cs t fr)) w.heap.size cs t fr := heap_alloc_new w _
theorem _root_.Go.RowKit.Below.next' {w w1 w2 : World} (h : Below w.heap.size w w1) (k : Below w1.heap.size w1 w2) : Below w.heap.size w w2 := h.trans (k.mono h.size)

theorem setRow_new (w : World) (c c' : Array Value) (t : TypeId) : (w.alloc (.cells c t)).setRow w.heap.size c' = w.alloc (.cells c' t) := by
  have h : (w.heap.push (.cells c t)).modify w.heap.size (fun | .cells _ elem frozen => .cells c' elem frozen | o => o) = w.heap.push (.cells c' t) := by
    apply Array.ext_getElem?
    intro i
    rw [Array.getElem?_modify, Array.getElem?_push, Array.getElem?_push]
    by_cases e : w.heap.size = i
    · subst e; simp
    · have e' : i ≠ w.heap.size := fun h => e h.symm
      simp [e, e']
  show ({ w with heap := (w.heap.push (.cells c t)).modify w.heap.size (fun | .cells _ elem frozen => .cells c' elem frozen | o => o) } : World) = { w with heap := w.heap.push (.cells c' t) }
  rw [h]
/-- bytes as cells -/
def u8cells (l : List UInt8) : Array Value := (l.map fun b => Value.int .u8 (b.toNat : Int)).toArray
theorem u8cells_size (l : List UInt8) : (u8cells l).size = l.length := by simp [u8cells]
theorem u8cells_get (l : List UInt8) (x : Array Value) (i : Nat) (hi : i < l.length) : (u8cells l ++ x)[i]? = some (.int .u8 (l[i].toNat : Int)) := by
  rw [Array.getElem?_append_left (by rw [u8cells_size]; exact hi)]
  simp [u8cells, hi]
theorem u8cells_set (l : List UInt8) (x : Array Value) (i : Nat) (hi : i < l.length) (b : UInt8) : (u8cells l ++ x).setIfInBounds i (.int .u8 (b.toNat : Int)) = u8cells (l.set i b) ++ x := by
  rw [Array.setIfInBounds_append_left (by rw [u8cells_size]; exact hi)]
  congr 1
  unfold u8cells
  rw [List.map_set, List.setIfInBounds_toArray]
theorem bytesRow_eq (s : ByteArray) (cap : Nat) : bytesRow s cap = u8cells s.data.toList ++ Array.replicate (cap - s.size) (.int .u8 0) := by
  unfold bytesRow u8cells
  congr 1
  apply Array.ext'
  simp
theorem bytesRow_size (s : ByteArray) (cap : Nat) (h : s.size ≤ cap) : (bytesRow s cap).size = cap := by
  rw [bytesRow_eq]; simp [u8cells_size]; have : s.data.toList.length = s.size := rfl; omega
/-- string(b) of a block whose cells are bytes -/
theorem conv_block (w : World) (b : Nat) (l : List UInt8) (x : Array Value) (t : TypeId) (fr : Nat × Nat) (cap : Nat) (hw : Blk w b (u8cells l ++ x) t fr) :
    ∀ {P : Program} {src dst e : TypeId}, P.underlying src = some (.slice e) → P.underlying e = some (.int .u8) → P.underlying dst = some .string →
    (convert src dst (.slice (some ⟨b, 0, none⟩) l.length cap)).run P w = .ok (.string ⟨l.toArray⟩) w := by
  intro P src dst e hs he hd
  refine run_convert_bytes_back w src dst e ⟨b, 0, none⟩ cap l hs he hd ?_
  intro j hj
  have ha : (⟨b, 0, none⟩ : Addr).add j = ⟨b, j, none⟩ := by unfold Addr.add; split <;> simp_all
  rw [ha, hw.cell, u8cells_get l x j hj]
/-- numbers as cells -/
def icells (k : IntKind) (l : List Int) : Array Value := (l.map (Value.int k)).toArray
theorem icells_size (k : IntKind) (l : List Int) : (icells k l).size = l.length := by simp [icells]
theorem icells_get (k : IntKind) (l : List Int) (i : Nat) (hi : i < l.length) : (icells k l)[i]? = some (.int k l[i]) := by simp [icells, hi]
theorem icells_set (k : IntKind) (l : List Int) (i : Nat) (x : Int) : (icells k l).setIfInBounds i (.int k x) = icells k (l.set i x) := by
  unfold icells; rw [List.map_set, List.setIfInBounds_toArray]
/-- make([]T, n), T a kind of number -/
theorem run_make_ints {P : Program} (t e : TypeId) (k : IntKind) (bytes : Nat) (ht : P.underlying t = some (.slice e)) (hi : (P.info? e).map (fun i => (i.zero, i.size, i.bytes)) = some (some (.int k 0), 1, bytes)) (n : Nat) (hn : n * bytes ≤ 281474976710656) (hn2 : n ≤ 281474976710656) (u : World) :
    (Instr.makeSlice t (.int .i64 n) (.int .i64 n)).run P u = .ok (.slice (some ⟨u.heap.size, 0, none⟩) n n) (u.alloc (.cells (icells k (List.replicate n 0)) e)) := by
  obtain ⟨i0, hi, hz0, hz1, hz2⟩ := info_parts hi
  have hcast : ∀ m : Nat, m ≤ 281474976710656 → (m : Int) ≤ 281474976710656 := fun m h => by omega
  have h0 := hcast _ hn
  rw [Int.natCast_mul] at h0
  have h := run_make (P := P) u t e i0 (.int k 0) ht hi hz0 .i64 .i64 (n : Int) (n : Int) (by omega) (Int.le_refl _) (by rw [hz2]; first | exact h0 | (rw [Int.mul_comm]; exact h0)) (by omega)
  have e2 : madeCells #[Value.int k 0] n = icells k (List.replicate n 0) := by
    apply Array.ext'; rw [toList_madeCells_one]; simp [icells]
  simpa [hz1, Value.cells, e2] using h
/-- make([]byte, n) -/
theorem run_make_bytes {P : Program} (t e : TypeId) (ht : P.underlying t = some (.slice e)) (hi : (P.info? e).map (fun i => (i.zero, i.size, i.bytes)) = some (some (.int .u8 0), 1, 1)) (n : Nat) (hn : n ≤ 281474976710656) (u : World) :
    (Instr.makeSlice t (.int .i64 n) (.int .i64 n)).run P u = .ok (.slice (some ⟨u.heap.size, 0, none⟩) n n) (u.alloc (.cells (u8cells (List.replicate n 0)) e)) := by
  obtain ⟨i0, hi, hz0, hz1, hz2⟩ := info_parts hi
  have h := run_make (P := P) u t e i0 (.int .u8 0) ht hi hz0 .i64 .i64 (n : Int) (n : Int) (by omega) (Int.le_refl _) (by rw [hz2]; omega) (by omega)
  have e2 : madeCells #[Value.int .u8 0] n = u8cells (List.replicate n 0) := by
    apply Array.ext'; rw [toList_madeCells_one]; simp [u8cells]
  simpa [hz1, Value.cells, e2] using h
end Go.Proofs.YtlddcnkiigamjaaDoor
/-
  WHAT A READING OF AN ARGUMENT SAYS OF MEMORY, kind by kind of type: 'Rd P w t cs': these cells read as a value of type t.
-/
namespace Go.Proofs.YtlddcnkiigamjaaDoor
open Go.RowKit Go.Deep

def Rd (P : Program) (w : World) (t : TypeId) (cs : List Value) : Prop :=
  ∃ (H : Type) (enc : TypeId × Value → H) (spare : Nat → Bool) (held : Bool) (fuel : Nat) (x : DataW H × List MemPlace), DataW.trod enc P w 0 spare held fuel t cs = some x

theorem Rd.of_trod {H : Type} {enc : TypeId × Value → H} {P : Program} {w : World} {spare : Nat → Bool} {held : Bool} {t : TypeId} {v : Value} {d : DataW H} {ps : List MemPlace}
    (h : DataW.Trod enc P w 0 spare held t v d ps) : Rd P w t v.cells.toList := by
  obtain ⟨fuel, h⟩ := h
  exact ⟨H, enc, spare, held, fuel, _, h⟩
section
variable {P : Program} {w : World} {t e : TypeId} {cs : List Value}
theorem Rd.int {k : IntKind} (ht : P.underlying t = some (.int k)) (h : Rd P w t cs) : ∃ n, cs = [.int k n] ∧ (Lit.int k n).wf = true := by
  obtain ⟨H, enc, sp, he, fuel, x, h⟩ := h
  obtain ⟨n, h1, _, h2⟩ := DataW.trod_int ht h
  exact ⟨n, h1, h2⟩
theorem Rd.bool (ht : P.underlying t = some .bool) (h : Rd P w t cs) : ∃ b, cs = [.bool b] := by
  obtain ⟨H, enc, sp, he, fuel, x, h⟩ := h
  obtain ⟨n, h1, _⟩ := DataW.trod_bool ht h
  exact ⟨n, h1⟩
theorem Rd.string (ht : P.underlying t = some .string) (h : Rd P w t cs) : ∃ s : ByteArray, cs = [.string s] ∧ s.size ≤ maxLen := by
  obtain ⟨H, enc, sp, he, fuel, x, h⟩ := h
  obtain ⟨n, h1, _, h2⟩ := DataW.trod_string ht h
  exact ⟨n, h1, h2⟩
theorem Rd.struct {fs : Array Field} (ht : P.underlying t = some (.struct fs)) (h : Rd P w t cs) :
    cs.length = P.cellsOf t ∧ ∀ (i : Nat) (f : Field), fs[i]? = some f → Rd P w f.type ((cs.drop f.offset).take (P.cellsOf f.type)) := by
  obtain ⟨H, enc, sp, he, fuel, x, h⟩ := h
  obtain ⟨xs, n, _, _, hl, hlen, hf⟩ := DataW.trod_struct ht h
  refine ⟨hl, fun i f hi => ?_⟩
  have hlt : i < xs.length := by rw [hlen]; exact (Array.getElem?_eq_some_iff.1 hi).1
  exact ⟨H, enc, sp, he, n, xs[i], (hf i f hi).trans (List.getElem?_eq_getElem hlt)⟩
theorem Rd.array {n : Nat} (ht : P.underlying t = some (.array n e)) (h : Rd P w t cs) :
    cs.length = P.cellsOf t ∧ ∀ i, i < n → Rd P w e ((cs.drop (i * P.cellsOf e)).take (P.cellsOf e)) := by
  obtain ⟨H, enc, sp, he, fuel, x, h⟩ := h
  obtain ⟨xs, m, _, _, hl, hlen, hf⟩ := DataW.trod_array ht h
  refine ⟨hl, fun i hi => ?_⟩
  have hlt : i < xs.length := by rw [hlen]; exact hi
  exact ⟨H, enc, sp, he, m, xs[i], (hf i hi).trans (List.getElem?_eq_getElem hlt)⟩
theorem Rd.field {fs : Array Field} {c : Value} (ht : P.underlying t = some (.struct fs)) (h : Rd P w t cs) (i : Nat) (hf : (fs[i]?).map (fun f => (f.offset, f.type)) = some (i, e)) (hc : P.cellsOf e = 1) (hi : cs[i]? = some c) : Rd P w e [c] := by
  cases hfi : fs[i]? with
  | none => rw [hfi] at hf; cases hf
  | some f =>
    rw [hfi] at hf
    obtain ⟨h1, h2⟩ : f.offset = i ∧ f.type = e := by simpa using hf
    have := (Rd.struct ht h).2 i f hfi
    rw [h1, h2, hc] at this
    obtain ⟨hlt, hci⟩ := List.getElem?_eq_some_iff.1 hi
    rw [List.drop_eq_getElem_cons hlt, hci] at this
    exact this
theorem Rd.elem {n : Nat} {c : Value} (ht : P.underlying t = some (.array n e)) (h : Rd P w t cs) (i : Nat) (hn : i < n) (hc : P.cellsOf e = 1) (hi : cs[i]? = some c) : Rd P w e [c] := by
  have := (Rd.array ht h).2 i hn
  rw [hc, Nat.mul_one] at this
  obtain ⟨hlt, hci⟩ := List.getElem?_eq_some_iff.1 hi
  rw [List.drop_eq_getElem_cons hlt, hci] at this
  exact this
/-- a slice: its elements' cells, each of which reads -/
theorem Rd.slice (ht : P.underlying t = some (.slice e)) (hc : 0 < P.cellsOf e) (h : Rd P w t cs) :
    ∃ (a : Option Addr) (len cap : Nat), cs = [.slice a len cap] ∧ len ≤ cap ∧ cap ≤ maxLen ∧ ∀ i, i < len → ∃ b off, a = some ⟨b, off, none⟩ ∧
      ∃ es : List Value, es.length = P.cellsOf e ∧ (∀ j, j < P.cellsOf e → w.cell? ⟨b, off + (i * P.cellsOf e + j), none⟩ = es[j]?) ∧ Rd P w e es := by
  obtain ⟨H, enc, sp, he, fuel, x, h⟩ := h
  rcases open_slice ht h with ⟨h1, _⟩ | ⟨a, len, cap, m, n, D, Pl, h1, _, hl, hm, hmm, _, hel⟩
  · exact ⟨none, 0, 0, h1, Nat.le_refl _, Nat.zero_le _, fun i hi => absurd hi (Nat.not_lt_zero i)⟩
  refine ⟨some a, len, cap, h1, hl, hm, fun i hi => ?_⟩
  have hlm : len ≤ m := by rw [hmm]; split <;> omega
  obtain ⟨es, hes, hrd⟩ := hel i (by omega)
  obtain ⟨_, hlen, hcell⟩ := World.cells?_some hes
  have hspot : a.spot = none := by
    obtain ⟨es0, hes0, _⟩ := hel 0 (by omega)
    obtain ⟨_, hlen0, hcell0⟩ := World.cells?_some hes0
    have h0 := hcell0 0 hc
    rw [List.getElem?_eq_getElem (by omega)] at h0
    have e : (a.add (0 * P.cellsOf e)).add 0 = a := by simp [Addr.add]
    rw [e] at h0
    cases hs : a.spot with
    | none => rfl
    | some s =>
      unfold World.cell? at h0
      split at h0
      · simp [hs] at h0
      · cases h0
  obtain ⟨b, off, s⟩ := a
  simp only at hspot; subst hspot
  refine ⟨b, off, rfl, es, hlen, fun j hj => ?_, ⟨H, enc, sp, he, n, _, hrd⟩⟩
  have := hcell j hj
  rw [add_add] at this
  have e : (⟨b, off, none⟩ : Addr).add (i * P.cellsOf e + j) = ⟨b, off + (i * P.cellsOf e + j), none⟩ := by
    unfold Addr.add; split <;> simp_all
  rwa [e] at this
end

/- SLICES OF NUMBERS -/
/-- v is a slice of the numbers l -/
def SlI (w : World) (v : Value) (k : IntKind) (l : List Int) : Prop :=
  ∃ (a : Option Addr) (cap : Nat), v = .slice a l.length cap ∧ l.length ≤ cap ∧ cap ≤ maxLen ∧ ∀ i (h : i < l.length), ∃ b off, a = some ⟨b, off, none⟩ ∧ w.cell? ⟨b, off + i, none⟩ = some (.int k l[i])
theorem SlI.agree {w w' : World} {v : Value} {k : IntKind} {l : List Int} (h : SlI w v k l) (hb : ∀ b, v.ownBlock = some b → w'.heap[b]? = w.heap[b]?) : SlI w' v k l := by
  obtain ⟨a, cap, rfl, h1, h2, h3⟩ := h
  refine ⟨a, cap, rfl, h1, h2, fun i hi => ?_⟩
  obtain ⟨b, off, rfl, hc⟩ := h3 i hi
  exact ⟨b, off, rfl, (World.cell?_of_block (hb b rfl)).trans hc⟩
theorem SlI.lt {w : World} {v : Value} {k : IntKind} {l : List Int} (h : SlI w v k l) (hl : 0 < l.length) : ∀ b, v.ownBlock = some b → b < w.heap.size := by
  obtain ⟨a, cap, rfl, h1, h2, h3⟩ := h
  intro b hb
  obtain ⟨b', off, rfl, hc⟩ := h3 0 hl
  have : b' = b := by simpa [Value.ownBlock] using hb
  subst this
  exact block_lt_of_cell hc
theorem SlI.alloc {w : World} {v : Value} {k : IntKind} {l : List Int} (h : SlI w v k l) (o : Obj) : SlI (w.alloc o) v k l := by
  by_cases hl : 0 < l.length
  · exact h.agree (fun b hb => Below.heap_alloc _ _ _ (h.lt hl b hb))
  · obtain ⟨a, cap, rfl, h1, h2, h3⟩ := h
    exact ⟨a, cap, rfl, h1, h2, fun i hi => absurd hi (by omega)⟩
theorem SlI.cells {w : World} {b off cap : Nat} {k : IntKind} {l : List Int} {n : Nat} (h : SlI w (.slice (some ⟨b, off, none⟩) n cap) k l) : ∀ i (hi : i < l.length), w.cell? ⟨b, off + i, none⟩ = some (.int k l[i]) := by
  intro i hi
  obtain ⟨a, cap', e, h1, h2, h3⟩ := h
  obtain ⟨b', off', e2, hc⟩ := h3 i hi
  rw [e2] at e
  simp only [Value.slice.injEq, Option.some.injEq, Addr.mk.injEq, and_true] at e
  obtain ⟨⟨rfl, rfl⟩, _, _⟩ := e
  exact hc
theorem SlI.below {w w' : World} {v : Value} {k : IntKind} {l : List Int} (h : SlI w v k l) (hb : Below w.heap.size w w') : SlI w' v k l := by
  by_cases hl : 0 < l.length
  · exact h.agree (fun b hv => hb.block b (h.lt hl b hv))
  · obtain ⟨a, cap, rfl, h1, h2, h3⟩ := h
    exact ⟨a, cap, rfl, h1, h2, fun i hi => absurd hi (by omega)⟩
/-- copy(own, l), own just made -/
theorem run_copy_whole {P : Program} (w : World) (dT sT ty e : TypeId) (k : IntKind) (hu : P.underlying dT = some (.slice e)) (hs : (P.info? e).map (·.size) = some 1) (a : Option Addr) (cap : Nat) (l : List Int)
    (h : SlI w (.slice a l.length cap) k l) :
    (Builtin.copy_ #[dT, sT] ty #[.slice (some ⟨w.heap.size, 0, none⟩) l.length l.length, .slice a l.length cap]).run P (w.alloc (.cells (icells k (List.replicate l.length 0)) e)) = .ok (goInt l.length) (w.alloc (.cells (icells k l) e)) := by
  by_cases hl : l.length = 0
  · have hr := run_copy_none (P := P) (w.alloc (.cells (icells k (List.replicate l.length 0)) e)) dT sT ty e (some ⟨w.heap.size, 0, none⟩) a l.length l.length l.length cap hu hs (by simp [hl])
    rw [hr]
    obtain rfl : l = [] := List.eq_nil_of_length_eq_zero hl
    rfl
  · have hh := h
    obtain ⟨a', cap', e', _, _, h3⟩ := hh
    obtain ⟨b, off, e2, _⟩ := h3 0 (by omega)
    obtain rfl : a = a' := by simpa using (Value.slice.inj e').1
    clear h3 e'
    subst e2
    have hc := (SlI.alloc h (.cells (icells k (List.replicate l.length 0)) e)).cells
    have hr := run_copy_row (P := P) (w.alloc (.cells (icells k (List.replicate l.length 0)) e)) dT sT ty e w.heap.size 0 l.length l.length ⟨b, off, none⟩ l.length cap (icells k (List.replicate l.length 0)) e (l.map (Value.int k)) hu hs
      (heap_alloc_new _ _) (by simp) (fun j v hj => by
        have hj' : j < l.length := by simpa using (List.getElem?_eq_some_iff.1 hj).1
        have ea : (⟨b, off, none⟩ : Addr).add j = ⟨b, off + j, none⟩ := by unfold Addr.add; split <;> simp_all
        rw [ea, hc j hj']
        simpa [List.getElem?_eq_getElem hj'] using hj) (by simp [icells]) (fun v hv => by obtain ⟨x, _, rfl⟩ := List.mem_map.1 hv; rfl)
    rw [hr, setRow_new]
    simp [icells]
/-- a reading of a slice of numbers -/
theorem Rd.ints {P : Program} {w : World} {t e : TypeId} {v : Value} {k : IntKind} (ht : P.underlying t = some (.slice e)) (he : P.underlying e = some (.int k)) (hc : P.cellsOf e = 1) (h : Rd P w t [v]) :
    ∃ l : List Int, SlI w v k l ∧ ∀ x ∈ l, (Lit.int k x).wf = true := by
  obtain ⟨a, len, cap, h1, hl, hm, hel⟩ := Rd.slice ht (by omega) h
  have hex : ∀ i, i < len → ∃ n : Int, (Lit.int k n).wf = true ∧ ∃ b off, a = some ⟨b, off, none⟩ ∧ w.cell? ⟨b, off + i, none⟩ = some (.int k n) := fun i hi => by
    obtain ⟨b, off, ha, es, hes, hcell, hrd⟩ := hel i hi
    obtain ⟨n, rfl, hw⟩ := Rd.int he hrd
    have := hcell 0 (by omega)
    rw [hc, Nat.mul_one, Nat.add_zero] at this
    exact ⟨n, hw, b, off, ha, this⟩
  obtain ⟨f, hf⟩ := choose_lt hex
  have hv : v = .slice a len cap := by simpa using h1
  refine ⟨(List.range len).map f, ⟨a, cap, by rw [hv]; simp, by simpa using hl, hm, fun i hi => ?_⟩, fun x hx => ?_⟩
  · have hi' : i < len := by simpa using hi
    obtain ⟨_, b, off, ha, hcell⟩ := hf i hi'
    exact ⟨b, off, ha, by simpa using hcell⟩
  · obtain ⟨i, hi, rfl⟩ := List.mem_map.1 hx
    exact (hf i (List.mem_range.1 hi)).1
end Go.Proofs.YtlddcnkiigamjaaDoor
/- graph, in plain words: places, and which is bad first. -/
namespace Go.Proofs.YtlddcnkiigamjaaDoor
open Go.RowKit
/-- a place: index, field, code, number, least, end -/
structure Pl where
  ix : Int
  fl : Int
  co : Int
  n : Int
  lo : Int
  hi : Int
deriving DecidableEq
def Pl.cells (p : Pl) : List Value := [.int .i64 p.ix, .int .i64 p.fl, .int .i64 p.co, .int .i64 p.n, .int .i64 p.lo, .int .i64 p.hi]
def encP (p : Pl) : Array Value := #[.agg #[.int .i64 p.ix, .int .i64 p.fl, .int .i64 p.co, .int .i64 p.n, .int .i64 p.lo, .int .i64 p.hi]]
def Pl.bad (p : Pl) : Bool := decide (p.n < p.lo) || decide (p.hi ≤ p.n)
/-- an arc: from, to, weight -/
abbrev Ar := Int × Int × Int
structure Raw where
  nodes : Int
  X : List Int
  Y : List Int
  arcs : List Ar
/-- the five phases' places -/
def Raw.p0 (r : Raw) : List Pl := [⟨0, 0, 5, r.nodes, 1, 16777217⟩]
def Raw.p1 (r : Raw) : List Pl := [⟨0, 0, 6, r.X.length, r.nodes, r.nodes + 1⟩, ⟨0, 1, 6, r.Y.length, r.nodes, r.nodes + 1⟩]
def nodeP (i : Nat) (xy : Int × Int) : List Pl := [⟨i, 0, 7, xy.1, -2147483648, 2147483648⟩, ⟨i, 1, 7, xy.2, -2147483648, 2147483648⟩]
def arcP (nodes : Int) (i : Nat) (a : Ar) : List Pl := [⟨i, 0, 9, a.1, 0, nodes⟩, ⟨i, 1, 9, a.2.1, 0, nodes⟩, ⟨i, 2, 10, a.2.2, 0, 2147483648⟩]
/-- blocks of cells lie as they lay -/
structure KpC (W W' : World) : Prop where
  size : W.heap.size ≤ W'.heap.size
  block : ∀ (k : Nat) (cs : Array Value) (t : TypeId) (fr : Nat × Nat), W.heap[k]? = some (Obj.cells cs t fr) → W'.heap[k]? = W.heap[k]?
theorem KpC.trans {A B C : World} (h : KpC A B) (k : KpC B C) : KpC A C :=
  ⟨Nat.le_trans h.size k.size, fun i cs t fr hi => by have e := h.block i cs t fr hi; exact (k.block i cs t fr (e.trans hi)).trans e⟩
theorem KpC.refl (W : World) : KpC W W := ⟨Nat.le_refl _, fun _ _ _ _ _ => rfl⟩
theorem KpC.blk {W W' : World} (h : KpC W W') {b : Nat} {cs : Array Value} {t : TypeId} {fr : Nat × Nat} (hb : Blk W b cs t fr) : Blk W' b cs t fr := (h.block b cs t fr hb).trans hb
theorem KpC.of_below {W W' : World} (h : Below W.heap.size W W') : KpC W W' := ⟨h.size, fun k _ _ _ hk => h.block k (Array.getElem?_eq_some_iff.1 hk).1⟩
/-- v is a slice of places -/
def SlP (w : World) (v : Value) (L : List Pl) : Prop :=
  ∃ (a : Option Addr) (cap : Nat), v = .slice a L.length cap ∧ L.length ≤ cap ∧ cap ≤ maxLen ∧ ∀ i (h : i < L.length), ∃ b off cs t fr, a = some ⟨b, off, none⟩ ∧ Blk w b cs t fr ∧ ∀ j u, L[i].cells[j]? = some u → cs[off + i * 6 + j]? = some u
end Go.Proofs.YtlddcnkiigamjaaDoor
/- graph's iterators, where the body may panic: slices.Values of places. -/
namespace Go.Proofs.YtlddcnkiigamjaaDoor
open Go.RowKit Go.Shelf
attribute [local go_sem] Oper.semAt_some
/-- the functions that look comes to -/
def FK : Fence := Fence.list [40, 55, 56, 57, 58, 59, 60, 61, 62, 63, 70, 71, 72, 76] none
theorem FK_round : FK.round = none := rfl
theorem FK_depth : FK.depth = none := rfl
attribute [local go_sem] FK_round FK_depth Oper.semAt_none
theorem SlP.keep {w w' : World} {v : Value} {L : List Pl} (h : SlP w v L) (hk : KpC w w') : SlP w' v L := by
  obtain ⟨a, cap, e, h1, h2, h3⟩ := h
  refine ⟨a, cap, e, h1, h2, fun i hi => ?_⟩
  obtain ⟨b, off, cs, t, fr, ea, hb, hc⟩ := h3 i hi
  exact ⟨b, off, cs, t, fr, ea, hk.blk hb, hc⟩
set_option maxRecDepth 100000 in
set_option maxHeartbeats 2000000 in
theorem values_in (m : Nat) (L Bs : Nat) (ps : List Pl) (v : Value) (J : List Pl → World → Prop) (U : List PanicEntry → List Pl → World → Prop) (hJA : ∀ s W W', J s W → Below W.heap.size W W' → J s W')
    (hY : ∀ pre x W, J pre W → pre.length < ps.length → YieldAt FK (m - 1) Tryd.prog L (encP x) W fun e W' =>
      (e = .returned (.bool true) ∧ J (pre ++ [x]) W' ∧ KpC W W') ∨ (∃ ch, e = .panicked ch ∧ U ch (pre ++ [x]) W'))
    (W : World) (hBs : Blk W Bs #[v] 133 (0, 0)) (hsl : SlP W v ps) (h0 : J [] W) :
    CallsIn FK m Tryd.prog 76 #[.func (.yield L) #[] #[], .pointer (some ⟨Bs, 0, none⟩)] W fun e W' =>
      (∃ v, e = .returned v ∧ J ps W') ∨ (∃ ch xs, e = .panicked ch ∧ xs <+: ps ∧ U ch xs W') := by
  obtain ⟨a, cap, rfl, hcap, hmx, _⟩ := id hsl
  unfold maxLen at hmx
  have c1 := hBs.cell 0
  change W.cell? ⟨Bs, 0, none⟩ = some (.slice a ps.length cap) at c1
  refine callsIn_of_wp Tryd.func76 rfl (by simp [FK, Fence.list]) ?_ rfl
  simp only [Tryd.ntmps76, List.size_toArray, List.length_cons, List.length_nil, Nat.reduceAdd, Nat.reduceSub, Array.replicate_succ, Array.replicate_zero, List.push_toArray, List.append_toArray, List.nil_append, List.cons_append]
  gi_wp2_with fail
  gi_loopw [7] (fun i wr => ∃ (k : Nat), k ≤ ps.length ∧ i = .int .i64 k ∧ SlP wr (.slice a ps.length cap) ps ∧ J (ps.take k) wr) (fun i _ => ps.length - (intOf i).toNat)
  case atStart => exact ⟨0, Nat.zero_le _, rfl, hsl, h0⟩
  case round =>
    obtain ⟨k, hk, rfl, hsk, hJ⟩ := hrel
    by_cases hlt : k < ps.length
    · obtain ⟨b, off, ha, d0, d1, d2, d3, d4, d5⟩ : ∃ b off, a = some ⟨b, off, none⟩ ∧ wr.cell? ⟨b, off + k * 6, none⟩ = some (.int .i64 ps[k].ix) ∧ wr.cell? ⟨b, off + k * 6 + 1, none⟩ = some (.int .i64 ps[k].fl) ∧ wr.cell? ⟨b, off + k * 6 + 2, none⟩ = some (.int .i64 ps[k].co) ∧ wr.cell? ⟨b, off + k * 6 + 3, none⟩ = some (.int .i64 ps[k].n) ∧ wr.cell? ⟨b, off + k * 6 + 4, none⟩ = some (.int .i64 ps[k].lo) ∧ wr.cell? ⟨b, off + k * 6 + 5, none⟩ = some (.int .i64 ps[k].hi) := by
        obtain ⟨a', cap', e, _, _, h3⟩ := id hsk
        obtain ⟨b, off, cs, t, fr, ea, hb, hc⟩ := h3 k hlt
        have e3 := (Value.slice.inj e).1
        refine ⟨b, off, by rw [e3, ea], ?_, ?_, ?_, ?_, ?_, ?_⟩
        · rw [hb.cell]; exact hc 0 _ rfl
        · rw [hb.cell]; exact hc 1 _ rfl
        · rw [hb.cell]; exact hc 2 _ rfl
        · rw [hb.cell]; exact hc 3 _ rfl
        · rw [hb.cell]; exact hc 4 _ rfl
        · rw [hb.cell]; exact hc 5 _ rfl
      subst ha
      have hsc : ps.take (k + 1) = ps.take k ++ [ps[k]] := List.take_succ_eq_append_getElem hlt
      have hpl : (ps.take k).length < ps.length := by rw [List.length_take]; omega
      have hpf : ps.take k ++ [ps[k]] <+: ps := by rw [← hsc]; exact List.take_prefix _ _
      have i1 : (0 : Int) ≤ (k : Int) := by omega
      have i2 : (k : Int) < (ps.length : Int) := by omega
      obtain ⟨x, hx⟩ : ∃ x, x = ps[k] := ⟨_, rfl⟩
      rw [← hx] at d0 d1 d2 d3 d4 d5 hsc hpf
      have hJx := fun o => hJA _ _ (wr.alloc o) hJ ((Below.refl _ _).alloc (Nat.le_refl _) o)
      have hsx := fun o => hsk.keep (KpC.of_below ((Below.refl wr.heap.size wr).alloc (Nat.le_refl _) o))
      have HY := Lib.hid hY; have HJ := Lib.hid hJx; have HS := Lib.hid hsx; have HSc := Lib.hid hsc; have HPf := Lib.hid hpf
      clear hY hJx hsx hsc hpf hx hsk hJ
      gi_wp2_with fail
      obtain ⟨fn, tmps, assign, body, hy, hR⟩ := HY.out _ x _ (HJ.out (.cells #[.int .i64 x.ix, .int .i64 x.fl, .int .i64 x.co, .int .i64 x.n, .int .i64 x.lo, .int .i64 x.hi] 117)) hpl
      unfold encP at hy
      rw [hy]
      rw [Oper.uponIn_round]
      refine ⟨fun h => (by cases h), ?_⟩
      refine hR.mono ?_
      rintro e W3 (⟨rfl, hJ3, hk3⟩ | ⟨ch, rfl, hU⟩)
      · have hS3 := (HS.out _).keep hk3
        have HS3 := Lib.hid hS3; have HJ3 := Lib.hid hJ3
        clear hS3 hJ3 hk3 hy hR
        gi_wp2_with fail
        go_roundw
        case rel => exact ⟨k + 1, by omega, by go_num, HS3.out, by rw [HSc.out]; exact HJ3.out⟩
        case measure => simp [intOf]; omega
      · exact ⟨rfl, .inr ⟨ch, _, rfl, HPf.out, hU⟩⟩
    · obtain rfl : k = ps.length := by omega
      rw [List.take_length] at hJ
      gi_wp2_with fail
      go_end0
      exact .inl ⟨_, rfl, hJ⟩
end Go.Proofs.YtlddcnkiigamjaaDoor
/- graph's iterators, where the body may panic: arcs. -/
namespace Go.Proofs.YtlddcnkiigamjaaDoor
open Go.RowKit Go.Shelf
attribute [local go_sem] Oper.semAt_some FK_round FK_depth Oper.semAt_none
theorem flat_cells : ∀ (L : List Pl) (i : Nat) (hi : i < L.length) (j : Nat) (u : Value), L[i].cells[j]? = some u → (L.flatMap Pl.cells)[i * 6 + j]? = some u
  | x :: L, 0, _, j, u, h => by
    rw [List.flatMap_cons, Nat.zero_mul, Nat.zero_add, List.getElem?_append_left]
    · exact h
    · have := (List.getElem?_eq_some_iff.1 h).1
      exact this
  | x :: L, i + 1, hi, j, u, h => by
    rw [List.flatMap_cons, List.getElem?_append_right (by show 6 ≤ (i + 1) * 6 + j; omega), show (i + 1) * 6 + j - x.cells.length = i * 6 + j by show (i + 1) * 6 + j - 6 = _; omega]
    exact flat_cells L i (by simpa using hi) j u h
theorem slP_new {w : World} {g : Nat} {cs : Array Value} {t : TypeId} {fr : Nat × Nat} {L : List Pl} (hb : Blk w g cs t fr) (hcs : cs = (L.flatMap Pl.cells).toArray) (hl : L.length ≤ 1000) : SlP w (.slice (some ⟨g, 0, none⟩) L.length L.length) L :=
  ⟨_, _, rfl, Nat.le_refl _, by unfold maxLen; omega, fun i hi => ⟨g, 0, cs, t, fr, rfl, hb, fun j u h => by rw [hcs, Nat.zero_add, List.getElem?_toArray]; exact flat_cells L i hi j u h⟩⟩
/-- v is a slice of arcs -/
def SlA (w : World) (v : Value) (L : List Ar) : Prop :=
  ∃ (a : Option Addr) (cap : Nat), v = .slice a L.length cap ∧ L.length ≤ cap ∧ cap ≤ maxLen ∧ ∀ i (h : i < L.length), ∃ b off cs t fr, a = some ⟨b, off, none⟩ ∧ Blk w b cs t fr ∧ cs[off + i * 3]? = some (.int .i64 L[i].1) ∧ cs[off + i * 3 + 1]? = some (.int .i64 L[i].2.1) ∧ cs[off + i * 3 + 2]? = some (.int .i64 L[i].2.2)
theorem SlA.keep {w w' : World} {v : Value} {L : List Ar} (h : SlA w v L) (hk : KpC w w') : SlA w' v L := by
  obtain ⟨a, cap, e, h1, h2, h3⟩ := h
  refine ⟨a, cap, e, h1, h2, fun i hi => ?_⟩
  obtain ⟨b, off, cs, t, fr, ea, hb, hc⟩ := h3 i hi
  exact ⟨b, off, cs, t, fr, ea, hk.blk hb, hc⟩
/-- the places of the first k arcs -/
def arcsP (nodes : Int) (L : List Ar) : Nat → List Pl
  | 0 => []
  | k + 1 => arcsP nodes L k ++ arcP nodes k (L[k]?.getD (0, 0, 0))
theorem arcsP_succ (nodes : Int) (L : List Ar) (k : Nat) (hk : k < L.length) : arcsP nodes L (k + 1) = arcsP nodes L k ++ arcP nodes k L[k] := by
  show _ ++ arcP nodes k (L[k]?.getD (0, 0, 0)) = _
  rw [List.getElem?_eq_getElem hk]; rfl
theorem arcsP_len (nodes : Int) (L : List Ar) (k : Nat) : (arcsP nodes L k).length = 3 * k := by
  induction k with
  | zero => rfl
  | succ k ih => show (arcsP nodes L k ++ arcP nodes k (L[k]?.getD (0, 0, 0))).length = _; rw [List.length_append, ih]; show 3 * k + 3 = _; omega
theorem arcsP_pre (nodes : Int) (L : List Ar) (k d : Nat) : arcsP nodes L k <+: arcsP nodes L (k + d) := by
  induction d with
  | zero => exact List.prefix_refl _
  | succ d ih => exact ih.trans (List.prefix_append _ _)
set_option maxRecDepth 100000 in
set_option maxHeartbeats 4000000 in
theorem arcs_in (m : Nat) (L Br : Nat) (nodes : Int) (vx vy va : Value) (ars : List Ar) (J : List Pl → World → Prop) (U : List PanicEntry → List Pl → World → Prop) (hJA : ∀ s W W', J s W → Below W.heap.size W W' → J s W')
    (hY : ∀ pre x W, J pre W → pre.length < 3 * ars.length → YieldAt FK (m - 1) Tryd.prog L (encP x) W fun e W' =>
      (e = .returned (.bool true) ∧ J (pre ++ [x]) W' ∧ KpC W W') ∨ (∃ ch, e = .panicked ch ∧ U ch (pre ++ [x]) W'))
    (W : World) (hBr : Blk W Br #[.int .i64 nodes, vx, vy, va] 26 (0, 0)) (hsl : SlA W va ars) (h0 : J [] W) :
    CallsIn FK m Tryd.prog 72 #[.func (.yield L) #[] #[], .pointer (some ⟨Br, 0, none⟩)] W fun e W' =>
      (∃ v, e = .returned v ∧ J (arcsP nodes ars ars.length) W') ∨ (∃ ch xs, e = .panicked ch ∧ xs <+: arcsP nodes ars ars.length ∧ U ch xs W') := by
  obtain ⟨a, cap, rfl, hcap, hmx, _⟩ := id hsl
  unfold maxLen at hmx
  have c0 := hBr.cell 0; have c3 := hBr.cell 3
  change W.cell? ⟨Br, 0, none⟩ = some (.int .i64 nodes) at c0
  change W.cell? ⟨Br, 3, none⟩ = some (.slice a ars.length cap) at c3
  refine callsIn_of_wp Tryd.func72 rfl (by simp [FK, Fence.list]) ?_ rfl
  simp only [Tryd.ntmps72, List.size_toArray, List.length_cons, List.length_nil, Nat.reduceAdd, Nat.reduceSub, Array.replicate_succ, Array.replicate_zero, List.push_toArray, List.append_toArray, List.nil_append, List.cons_append]
  gi_wp2_with fail
  gi_loopw [13] (fun i wr => ∃ (k : Nat), k ≤ ars.length ∧ i = .int .i64 k ∧ SlA wr (.slice a ars.length cap) ars ∧ J (arcsP nodes ars k) wr) (fun i _ => ars.length - (intOf i).toNat)
  case atStart => exact ⟨0, Nat.zero_le _, rfl, hsl, h0⟩
  case round =>
    obtain ⟨k, hk, rfl, hsk, hJ⟩ := hrel
    by_cases hlt : k < ars.length
    · obtain ⟨b, off, ha, d0, d1, d2⟩ : ∃ b off, a = some ⟨b, off, none⟩ ∧ wr.cell? ⟨b, off + k * 3, none⟩ = some (.int .i64 ars[k].1) ∧ wr.cell? ⟨b, off + k * 3 + 1, none⟩ = some (.int .i64 ars[k].2.1) ∧ wr.cell? ⟨b, off + k * 3 + 2, none⟩ = some (.int .i64 ars[k].2.2) := by
        obtain ⟨a', cap', e, _, _, h3⟩ := id hsk
        obtain ⟨b, off, cs, t, fr, ea, hb, h0, h1, h2⟩ := h3 k hlt
        have e3 := (Value.slice.inj e).1
        refine ⟨b, off, by rw [e3, ea], ?_, ?_, ?_⟩
        · rw [hb.cell]; exact h0
        · rw [hb.cell]; exact h1
        · rw [hb.cell]; exact h2
      subst ha
      have hsc := arcsP_succ nodes ars k hlt
      have hpf : arcsP nodes ars (k + 1) <+: arcsP nodes ars ars.length := by
        have h := arcsP_pre nodes ars (k + 1) (ars.length - (k + 1))
        rwa [show k + 1 + (ars.length - (k + 1)) = ars.length by omega] at h
      have hlen := arcsP_len nodes ars k
      have i1 : (0 : Int) ≤ (k : Int) := by omega
      have i2 : (k : Int) < (ars.length : Int) := by omega
      obtain ⟨x, hx⟩ : ∃ x, x = ars[k] := ⟨_, rfl⟩
      rw [← hx] at d0 d1 d2 hsc
      obtain ⟨x1, x2, x3⟩ := x
      simp only at d0 d1 d2
      obtain ⟨w2, hw2⟩ : ∃ w2, w2 = (wr.alloc (.cells #[.int .i64 x1, .int .i64 x2, .int .i64 x3] 58)).alloc (.cells ((arcP nodes k (x1, x2, x3)).flatMap Pl.cells).toArray 117) := ⟨_, rfl⟩
      have hb2 : Below wr.heap.size wr w2 := by rw [hw2]; exact ((Below.refl _ _).alloc (Nat.le_refl _) _).alloc (by simp) _
      have hS2 : SlP w2 (.slice (some ⟨wr.heap.size + 1, 0, none⟩) 3 3) (arcP nodes k (x1, x2, x3)) := by
        have hb : Blk w2 (wr.heap.size + 1) ((arcP nodes k (x1, x2, x3)).flatMap Pl.cells).toArray 117 (0, 0) := by
          rw [hw2]
          have h := Blk.new (wr.alloc (.cells #[.int .i64 x1, .int .i64 x2, .int .i64 x3] 58)) ((arcP nodes k (x1, x2, x3)).flatMap Pl.cells).toArray 117 (0, 0)
          rwa [World.size_alloc] at h
        exact slP_new hb rfl (by show 3 ≤ 1000; omega)
      have hJ2 := hJA _ _ _ hJ hb2
      have hA2 := hsk.keep (KpC.of_below hb2)
      have HY := Lib.hid hY; have HJ := Lib.hid hJ2; have HS := Lib.hid hS2; have HA := Lib.hid hA2; have HSc := Lib.hid hsc; have HPf := Lib.hid hpf; have HLen := Lib.hid hlen; have HW2 := Lib.hid hw2; have HJA := Lib.hid hJA
      clear hY hJ2 hS2 hA2 hsc hpf hx hsk hJ hlen hw2 hb2 hJA
      gi_wp2_with fail
      rw [show ((wr.alloc (.cells #[.int .i64 x1, .int .i64 x2, .int .i64 x3] 58)).alloc (.cells #[.int .i64 k, .int .i64 0, .int .i64 9, .int .i64 x1, .int .i64 0, .int .i64 nodes, .int .i64 k, .int .i64 1, .int .i64 9, .int .i64 x2, .int .i64 0, .int .i64 nodes, .int .i64 k, .int .i64 2, .int .i64 10, .int .i64 x3, .int .i64 0, .int .i64 2147483648] 117)) = w2 from by rw [HW2.out]; rfl]
      obtain ⟨g, hg⟩ : ∃ g, g = wr.heap.size := ⟨_, rfl⟩
      obtain ⟨ps, hps⟩ : ∃ ps, ps = arcP nodes k (x1, x2, x3) := ⟨_, rfl⟩
      have hl3 : ps.length = 3 := by rw [hps]; rfl
      rw [← hps] at HS HSc
      rw [← hg] at HS
      rw [← hg]
      clear hps HW2 d0 d1 d2 hg
      gi_loopw [34] (fun i wr => ∃ (j : Nat), j ≤ 3 ∧ i = .int .i64 j ∧ SlP wr (.slice (some ⟨g + 1, 0, none⟩) 3 3) ps ∧ SlA wr (.slice (some ⟨b, off, none⟩) ars.length cap) ars ∧ J (arcsP nodes ars k ++ ps.take j) wr) (fun i _ => 3 - (intOf i).toNat)
      case atStart => exact ⟨0, Nat.zero_le _, rfl, HS.out, HA.out, by rw [List.take_zero, List.append_nil]; exact HJ.out⟩
      case round =>
        clear HS HA HJ
        obtain ⟨j, hj, rfl, hsk, hak, hJ⟩ := hrel
        by_cases hj3 : j < 3
        · have hlj : j < ps.length := by omega
          obtain ⟨d0, d1, d2, d3, d4, d5⟩ : wr.cell? ⟨g + 1, j * 6, none⟩ = some (.int .i64 ps[j].ix) ∧ wr.cell? ⟨g + 1, j * 6 + 1, none⟩ = some (.int .i64 ps[j].fl) ∧ wr.cell? ⟨g + 1, j * 6 + 2, none⟩ = some (.int .i64 ps[j].co) ∧ wr.cell? ⟨g + 1, j * 6 + 3, none⟩ = some (.int .i64 ps[j].n) ∧ wr.cell? ⟨g + 1, j * 6 + 4, none⟩ = some (.int .i64 ps[j].lo) ∧ wr.cell? ⟨g + 1, j * 6 + 5, none⟩ = some (.int .i64 ps[j].hi) := by
            obtain ⟨a', cap', e, _, _, h3⟩ := id hsk
            obtain ⟨b', off', cs, t, fr, ea, hb, hc⟩ := h3 j hlj
            have e3 := (Value.slice.inj e).1
            rw [ea] at e3
            simp only [Option.some.injEq, Addr.mk.injEq] at e3
            obtain ⟨rfl, rfl, _⟩ := e3
            rw [Nat.zero_add] at hc
            refine ⟨?_, ?_, ?_, ?_, ?_, ?_⟩
            · rw [hb.cell]; exact hc 0 _ rfl
            · rw [hb.cell]; exact hc 1 _ rfl
            · rw [hb.cell]; exact hc 2 _ rfl
            · rw [hb.cell]; exact hc 3 _ rfl
            · rw [hb.cell]; exact hc 4 _ rfl
            · rw [hb.cell]; exact hc 5 _ rfl
          have hst : ps.take (j + 1) = ps.take j ++ [ps[j]] := List.take_succ_eq_append_getElem hlj
          have hpl : (arcsP nodes ars k ++ ps.take j).length < 3 * ars.length := by rw [List.length_append, HLen.out, List.length_take]; omega
          have hpx : (arcsP nodes ars k ++ ps.take j) ++ [ps[j]] <+: arcsP nodes ars ars.length := by
            rw [List.append_assoc, ← hst]
            refine List.IsPrefix.trans ?_ HPf.out
            rw [HSc.out]
            exact (List.prefix_append_right_inj _).2 (List.take_prefix _ _)
          have j1 : (0 : Int) ≤ (j : Int) := by omega
          have j2 : (j : Int) < 3 := by omega
          obtain ⟨x, hx⟩ : ∃ x, x = ps[j] := ⟨_, rfl⟩
          rw [← hx] at d0 d1 d2 d3 d4 d5 hst hpx
          have hJx := fun o => HJA.out _ _ (wr.alloc o) hJ ((Below.refl _ _).alloc (Nat.le_refl _) o)
          have hsx := fun o => hsk.keep (KpC.of_below ((Below.refl wr.heap.size wr).alloc (Nat.le_refl _) o))
          have hax := fun o => hak.keep (KpC.of_below ((Below.refl wr.heap.size wr).alloc (Nat.le_refl _) o))
          have HJ := Lib.hid hJx; have HS := Lib.hid hsx; have HA := Lib.hid hax; have HSt := Lib.hid hst; have HPx := Lib.hid hpx
          clear hJx hsx hax hst hpx hx hsk hak hJ
          gi_wp2_with fail
          obtain ⟨fn, tmps, assign, body, hy, hR⟩ := HY.out _ x _ (HJ.out (.cells #[.int .i64 x.ix, .int .i64 x.fl, .int .i64 x.co, .int .i64 x.n, .int .i64 x.lo, .int .i64 x.hi] 117)) hpl
          unfold encP at hy
          rw [hy]
          rw [Oper.uponIn_round]
          refine ⟨fun h => (by cases h), ?_⟩
          refine hR.mono ?_
          rintro e W3 (⟨rfl, hJ3, hk3⟩ | ⟨ch, rfl, hU⟩)
          · have HS3 := Lib.hid ((HS.out _).keep hk3); have HA3 := Lib.hid ((HA.out _).keep hk3); have HJ3 := Lib.hid hJ3
            clear hJ3 hk3 hy hR
            gi_wp2_with fail
            go_roundw
            case rel => exact ⟨j + 1, by omega, by go_num, HS3.out, HA3.out, by rw [HSt.out, ← List.append_assoc]; exact HJ3.out⟩
            case measure => simp [intOf]; omega
          · exact ⟨rfl, .inr ⟨ch, _, rfl, HPx.out, hU⟩⟩
        · obtain rfl : j = 3 := by omega
          have hJ' : J (arcsP nodes ars (k + 1)) wr := by
            rw [HSc.out]
            rw [List.take_of_length_le (by omega)] at hJ
            exact hJ
          have HJ' := Lib.hid hJ'; have HA' := Lib.hid hak
          clear hJ hJ' hak hsk
          gi_wp2_with fail
          go_roundw
          case rel => exact ⟨k + 1, by omega, by go_num, HA'.out, HJ'.out⟩
          case measure => simp [intOf]; omega
    · obtain rfl : k = ars.length := by omega
      gi_wp2_with fail
      go_end0
      exact .inl ⟨_, rfl, hJ⟩
end Go.Proofs.YtlddcnkiigamjaaDoor
/- graph's iterators, where the body may panic: nodes. -/
namespace Go.Proofs.YtlddcnkiigamjaaDoor
open Go.RowKit Go.Shelf
attribute [local go_sem] Oper.semAt_some FK_round FK_depth Oper.semAt_none
/-- v is a slice of numbers, its block known -/
def SlX (w : World) (v : Value) (L : List Int) : Prop :=
  ∃ (a : Option Addr) (cap : Nat), v = .slice a L.length cap ∧ L.length ≤ cap ∧ cap ≤ maxLen ∧ ∀ i (h : i < L.length), ∃ b off cs t fr, a = some ⟨b, off, none⟩ ∧ Blk w b cs t fr ∧ cs[off + i]? = some (.int .i64 L[i])
theorem SlX.keep {w w' : World} {v : Value} {L : List Int} (h : SlX w v L) (hk : KpC w w') : SlX w' v L := by
  obtain ⟨a, cap, e, h1, h2, h3⟩ := h
  refine ⟨a, cap, e, h1, h2, fun i hi => ?_⟩
  obtain ⟨b, off, cs, t, fr, ea, hb, hc⟩ := h3 i hi
  exact ⟨b, off, cs, t, fr, ea, hk.blk hb, hc⟩
theorem SlX.at {w : World} {a : Option Addr} {n cap : Nat} {L : List Int} (h : SlX w (.slice a n cap) L) (k : Nat) (hk : k < L.length) : ∃ b off, a = some ⟨b, off, none⟩ ∧ w.cell? ⟨b, off + k, none⟩ = some (.int .i64 L[k]) := by
  obtain ⟨a', cap', e, _, _, h3⟩ := h
  obtain ⟨b, off, cs, t, fr, ea, hb, hc⟩ := h3 k hk
  have e3 := (Value.slice.inj e).1
  exact ⟨b, off, by rw [e3, ea], by rw [hb.cell]; exact hc⟩
/-- the places of the first k nodes -/
def nodesP (X Y : List Int) : Nat → List Pl
  | 0 => []
  | k + 1 => nodesP X Y k ++ nodeP k (X[k]?.getD 0, Y[k]?.getD 0)
theorem nodesP_succ (X Y : List Int) (k : Nat) (hx : k < X.length) (hy : k < Y.length) : nodesP X Y (k + 1) = nodesP X Y k ++ nodeP k (X[k], Y[k]) := by
  show _ ++ nodeP k (X[k]?.getD 0, Y[k]?.getD 0) = _
  rw [List.getElem?_eq_getElem hx, List.getElem?_eq_getElem hy]; rfl
theorem nodesP_len (X Y : List Int) (k : Nat) : (nodesP X Y k).length = 2 * k := by
  induction k with
  | zero => rfl
  | succ k ih => show (nodesP X Y k ++ nodeP k (X[k]?.getD 0, Y[k]?.getD 0)).length = _; rw [List.length_append, ih]; show 2 * k + 2 = _; omega
theorem nodesP_pre (X Y : List Int) (k d : Nat) : nodesP X Y k <+: nodesP X Y (k + d) := by
  induction d with
  | zero => exact List.prefix_refl _
  | succ d ih => exact ih.trans (List.prefix_append _ _)
set_option maxRecDepth 100000 in
set_option maxHeartbeats 4000000 in
theorem nodes_in (m : Nat) (L Br : Nat) (nodes : Int) (vx vy va : Value) (X Y : List Int) (J : List Pl → World → Prop) (U : List PanicEntry → List Pl → World → Prop) (hJA : ∀ s W W', J s W → Below W.heap.size W W' → J s W')
    (hY : ∀ pre x W, J pre W → pre.length < 2 * X.length → YieldAt FK (m - 1) Tryd.prog L (encP x) W fun e W' =>
      (e = .returned (.bool true) ∧ J (pre ++ [x]) W' ∧ KpC W W') ∨ (∃ ch, e = .panicked ch ∧ U ch (pre ++ [x]) W'))
    (W : World) (hBr : Blk W Br #[.int .i64 nodes, vx, vy, va] 26 (0, 0)) (hxs : SlX W vx X) (hys : SlX W vy Y) (hl : X.length = Y.length) (h0 : J [] W) :
    CallsIn FK m Tryd.prog 71 #[.func (.yield L) #[] #[], .pointer (some ⟨Br, 0, none⟩)] W fun e W' =>
      (∃ v, e = .returned v ∧ J (nodesP X Y X.length) W') ∨ (∃ ch xs, e = .panicked ch ∧ xs <+: nodesP X Y X.length ∧ U ch xs W') := by
  obtain ⟨ax, cx, rfl, hcx, hmx, _⟩ := id hxs
  obtain ⟨ay, cy, rfl, hcy, hmy, _⟩ := id hys
  unfold maxLen at hmx hmy
  have HL := Lib.hid hl
  clear hl
  have c1 := hBr.cell 1
  change W.cell? ⟨Br, 1, none⟩ = some (.slice ax X.length cx) at c1
  refine callsIn_of_wp Tryd.func71 rfl (by simp [FK, Fence.list]) ?_ rfl
  simp only [Tryd.ntmps71, List.size_toArray, List.length_cons, List.length_nil, Nat.reduceAdd, Nat.reduceSub, Array.replicate_succ, Array.replicate_zero, List.push_toArray, List.append_toArray, List.nil_append, List.cons_append]
  gi_wp2_with fail
  gi_loopw [9] (fun i wr => ∃ (k : Nat), k ≤ X.length ∧ i = .int .i64 k ∧ Blk wr Br #[.int .i64 nodes, .slice ax X.length cx, .slice ay Y.length cy, va] 26 (0, 0) ∧ SlX wr (.slice ax X.length cx) X ∧ SlX wr (.slice ay Y.length cy) Y ∧ J (nodesP X Y k) wr) (fun i _ => X.length - (intOf i).toNat)
  case atStart => exact ⟨0, Nat.zero_le _, rfl, hBr, hxs, hys, h0⟩
  case round =>
    obtain ⟨k, hk, rfl, hbk, hxk, hyk, hJ⟩ := hrel
    by_cases hlt : k < X.length
    · have hlt' : k < Y.length := by have := HL.out; omega
      obtain ⟨bx, ox, rfl, dx⟩ := hxk.at k hlt
      obtain ⟨by', oy, rfl, dy⟩ := hyk.at k hlt'
      have e1 := hbk.cell 1; have e2 := hbk.cell 2
      change wr.cell? ⟨Br, 1, none⟩ = some (.slice (some ⟨bx, ox, none⟩) X.length cx) at e1
      change wr.cell? ⟨Br, 2, none⟩ = some (.slice (some ⟨by', oy, none⟩) Y.length cy) at e2
      have hsc := nodesP_succ X Y k hlt hlt'
      have hpf : nodesP X Y (k + 1) <+: nodesP X Y X.length := by
        have h := nodesP_pre X Y (k + 1) (X.length - (k + 1))
        rwa [show k + 1 + (X.length - (k + 1)) = X.length by omega] at h
      have hlen := nodesP_len X Y k
      have i1 : (0 : Int) ≤ (k : Int) := by omega
      have i2 : (k : Int) < (X.length : Int) := by omega
      have i3 : (k : Int) < (Y.length : Int) := by omega
      obtain ⟨x, hx⟩ : ∃ x, x = X[k] := ⟨_, rfl⟩
      obtain ⟨y, hy⟩ : ∃ y, y = Y[k] := ⟨_, rfl⟩
      rw [← hx] at dx hsc
      rw [← hy] at dy hsc
      clear hx hy
      have HBk := Lib.hid hbk; have HXk := Lib.hid hxk; have HYk := Lib.hid hyk; have HJk := Lib.hid hJ; have HSc := Lib.hid hsc; have HPf := Lib.hid hpf; have HLen := Lib.hid hlen; have HY := Lib.hid hY; have HJA := Lib.hid hJA
      clear hbk hxk hyk hJ hsc hpf hlen hY hJA
      gi_wp2_with fail
      gi_region
      obtain ⟨w2, hw2⟩ : ∃ w2, w2 = (wr.alloc (.cells #[.int .i64 x, .int .i64 y] 2)).drew := ⟨_, rfl⟩
      rw [← hw2]
      obtain ⟨g, hg⟩ : ∃ g, g = wr.heap.size := ⟨_, rfl⟩
      rw [← hg]
      have hb2 : Below wr.heap.size wr w2 := by rw [hw2]; exact ((Below.refl _ _).alloc (Nat.le_refl _) _).drew
      have hbg : Blk w2 g #[.int .i64 x, .int .i64 y] 2 (0, 0) := by rw [hw2, hg]; exact (Blk.new _ _ _ _ : Blk (wr.alloc (.cells #[.int .i64 x, .int .i64 y] 2)) wr.heap.size _ _ _)
      have HB := Lib.hid ((KpC.of_below hb2).blk HBk.out); have HX := Lib.hid (HXk.out.keep (KpC.of_below hb2)); have HYY := Lib.hid (HYk.out.keep (KpC.of_below hb2)); have HJ := Lib.hid (HJA.out _ _ _ HJk.out hb2); have HG := Lib.hid hbg
      clear hb2 hbg hw2 hg HBk HXk HYk HJk dx dy e1 e2
      gi_wp2_with fail
      gi_loopw [24] (fun i wr => ∃ (j : Nat), j ≤ 2 ∧ i = .int .i64 j ∧ Blk wr g #[.int .i64 x, .int .i64 y] 2 (0, 0) ∧ Blk wr Br #[.int .i64 nodes, .slice (some ⟨bx, ox, none⟩) X.length cx, .slice (some ⟨by', oy, none⟩) Y.length cy, va] 26 (0, 0) ∧ SlX wr (.slice (some ⟨bx, ox, none⟩) X.length cx) X ∧ SlX wr (.slice (some ⟨by', oy, none⟩) Y.length cy) Y ∧ J (nodesP X Y k ++ (nodeP k (x, y)).take j) wr) (fun i _ => 2 - (intOf i).toNat)
      case atStart => exact ⟨0, Nat.zero_le _, rfl, HG.out, HB.out, HX.out, HYY.out, by rw [List.take_zero, List.append_nil]; exact HJ.out⟩
      case round =>
        clear HG HB HX HYY HJ
        obtain ⟨j, hj, rfl, hgk, hbk, hxk, hyk, hJ⟩ := hrel
        by_cases hj2 : j < 2
        · obtain ⟨z, hz, hst⟩ : ∃ z, wr.cell? ⟨g, j, none⟩ = some (.int .i64 z) ∧ (nodeP k (x, y)).take (j + 1) = (nodeP k (x, y)).take j ++ [(⟨k, j, 7, z, -2147483648, 2147483648⟩ : Pl)] := by
            have h01 : j = 0 ∨ j = 1 := by omega
            rcases h01 with rfl | rfl
            · exact ⟨x, by rw [hgk.cell]; rfl, rfl⟩
            · exact ⟨y, by rw [hgk.cell]; rfl, rfl⟩
          have hpl : (nodesP X Y k ++ (nodeP k (x, y)).take j).length < 2 * X.length := by
            rw [List.length_append, HLen.out, List.length_take]; omega
          have hpx : (nodesP X Y k ++ (nodeP k (x, y)).take j) ++ [(⟨k, j, 7, z, -2147483648, 2147483648⟩ : Pl)] <+: nodesP X Y X.length := by
            rw [List.append_assoc, ← hst]
            refine List.IsPrefix.trans ?_ HPf.out
            rw [HSc.out]
            exact (List.prefix_append_right_inj _).2 (List.take_prefix _ _)
          have j1 : (0 : Int) ≤ (j : Int) := by omega
          have j2 : (j : Int) < 2 := by omega
          have HG := Lib.hid hgk; have HB := Lib.hid hbk; have HX := Lib.hid hxk; have HYY := Lib.hid hyk; have HJ := Lib.hid hJ; have HSt := Lib.hid hst; have HPx := Lib.hid hpx
          clear hgk hbk hxk hyk hJ hst hpx
          gi_wp2_with fail
          obtain ⟨fn, tmps, assign, body, hy, hR⟩ := HY.out _ ⟨k, j, 7, z, -2147483648, 2147483648⟩ _ HJ.out hpl
          unfold encP at hy
          rw [hy]
          rw [Oper.uponIn_round]
          refine ⟨fun h => (by cases h), ?_⟩
          refine hR.mono ?_
          rintro e W3 (⟨rfl, hJ3, hk3⟩ | ⟨ch, rfl, hU⟩)
          · have HG3 := Lib.hid (hk3.blk HG.out); have HB3 := Lib.hid (hk3.blk HB.out); have HX3 := Lib.hid (HX.out.keep hk3); have HY3 := Lib.hid (HYY.out.keep hk3); have HJ3 := Lib.hid hJ3
            clear hJ3 hk3 hy hR hz
            gi_wp2_with fail
            go_roundw
            case rel => exact ⟨j + 1, by omega, by go_num, HG3.out, HB3.out, HX3.out, HY3.out, by rw [HSt.out, ← List.append_assoc]; exact HJ3.out⟩
            case measure => simp [intOf]; omega
          · exact ⟨rfl, .inr ⟨ch, _, rfl, HPx.out, hU⟩⟩
        · obtain rfl : j = 2 := by omega
          have hJ' : J (nodesP X Y (k + 1)) wr := by
            rw [HSc.out]
            exact hJ
          have HJ' := Lib.hid hJ'; have HB' := Lib.hid hbk; have HX' := Lib.hid hxk; have HY' := Lib.hid hyk
          clear hJ hJ' hgk hbk hxk hyk
          gi_wp2_with fail
          go_roundw
          case rel => exact ⟨k + 1, by omega, by go_num, HB'.out, HX'.out, HY'.out, HJ'.out⟩
          case measure => simp [intOf]; omega
    · obtain rfl : k = X.length := by omega
      gi_wp2_with fail
      go_end0
      exact .inl ⟨_, rfl, hJ⟩
end Go.Proofs.YtlddcnkiigamjaaDoor
