/- Texts of the law WalkKnown, merged: RangeSt, WalkP, WalkQ, WalkS, WalkIt, WalkNodes. -/
import Derived.RangeFuncBox
import Derived.RangeFuncLeaves
import Derived.Shelf.Abstract
import Derived.OwnWalkIn
import Derived.TacticsInMore
import Derived.LoopNIn
import Derived.LoopIn
import Derived.Test.YtlddcnkiigamjaaDoorPGridKnown00
import Derived.Test.YtlddcnkiigamjaaDoorPGridKnown06
import Derived.Test.YtlddcnkiigamjaaDoorPGridKnown01
import Derived.Maps.AppendAt
import Derived.WalkSmall
import Derived.Test.YtlddcnkiigamjaaDoorPGridKnown07
import Derived.Test.YtlddcnkiigamjaaDoorPGridKnown02
import Derived.Maps.OwnIn
/-
  'for x := range it { .. }' WHERE THE ITERATOR WRITES CELLS OF ITS OWN BETWEEN TWO ROUNDS (a variable that its closure captures): its steps by a relation St; a body may leave the loop (return, break). On the kit's wpIn_rangeFunc, roundIn_of_wpIn.
-/
namespace Go.Proofs.YtlddcnkiigamjaaDoor
open Go.RowKit Go.Shelf
theorem wpIn_rangeSt {α : Type} {F : Fence} {n : Nat} {P : Program} {g : Operand} {ps : Array Tmp} {assign body : Code} {Q : Exit → Act → World → Prop} {a : Act} {w : World}
    (hro : F.round = none) (h1 : 1 ≤ n) {gf : Nat} {lb : Array Value} (hg : a.eval g = .func (.func gf) #[] lb) (hFg : F.fn gf) (eg : ∀ args w, (callFunc gf args).run P w = .ok (.enter gf args) w)
    (encs : α → Array Value) (hps : ∀ x, (encs x).size = ps.size) (St Kp : World → World → Prop) (S Sp : List α → Prop) (N : Nat)
    (hit : ∀ (l : Nat) (J Jx : List α → World → Prop) (W : World), Below w.heap.size w W → (∀ s A B, J s A → St A B → J s B) → (∀ s A B, Jx s A → St A B → Jx s B) →
      (∀ pre x W1, J pre W1 → pre.length < N → YieldAt F (n - 1 - 1) P l (encs x) W1 fun e W' => (e = .returned (.bool true) ∧ J (pre ++ [x]) W' ∧ Kp W1 W') ∨ (e = .returned (.bool false) ∧ Jx (pre ++ [x]) W')) → J [] W →
      CallsIn F (n - 1) P gf (#[.func (.yield l) #[] #[]] ++ lb) W fun e W' => (∃ v, e = .returned v) ∧ ((∃ xs, S xs ∧ J xs W') ∨ (∃ pre, Sp pre ∧ Jx pre W')))
    (hSt : ∀ A B k o, St A B → w.heap.size ≤ k → A.heap[k]? = some o → o.isCells = false → B.heap[k]? = some o)
    (I : List α → World → Prop) (hIs : ∀ s A B, I s A → St A B → I s B) (hIp : ∀ s A l o o', I s A → w.heap.size ≤ l → A.heap[l]? = some o → o.isCells = false → I s (A.putObj l o')) (hIa : ∀ s A o, I s A → I s (A.alloc o))
    (Ix : Code → List α → World → Prop) (hXs : ∀ c s A B, Ix c s A → St A B → Ix c s B) (hXp : ∀ c s A l o o', Ix c s A → w.heap.size ≤ l → A.heap[l]? = some o → o.isCells = false → Ix c s (A.putObj l o'))
    (hKt : ∀ {A B C : World}, Kp A B → Kp B C → Kp A C) (hKb : ∀ (W : World) (l : Nat) (o o' : Obj), w.heap.size ≤ l → W.heap[l]? = some o → o.isCells = false → Kp W (W.putObj l o'))
    (h0 : I [] w) (A : List α → α → Act → World → Prop) (hAp : ∀ pre x a1 W l o o', A pre x a1 W → w.heap.size ≤ l → W.heap[l]? = some o → o.isCells = false → A pre x a1 (W.putObj l o'))
    (hassign : ∀ (l : Nat) (pre : List α) (x : α) (W : World) (K : Act → World → Prop), I pre W → pre.length < N → (∀ a1 W1, A pre x a1 W1 → KeepsFrom w.heap.size W W1 → Kp W W1 → K a1 W1) →
      assign.wpIn (F.inRound l) (n - 1 - 1) P (Exit.then K (fun _ _ _ => False)) { tmps := (ps.zip (encs x)).foldl (fun t (p, v) => t.setIfInBounds p v) a.tmps, defers := [] } W)
    (hbody : ∀ (l : Nat) (pre : List α) (x : α) (a1 : Act) (W : World), A pre x a1 W → pre.length < N → body.wpIn (F.inRound l) (n - 1 - 1) P (ownPostG w.heap.size Kp I Ix (pre ++ [x]) W) a1 W)
    (hdone : ∀ (D : Nat) (xs : List α) (W : World), w.heap.size ≤ D → S xs → I xs W → W.heap[D]? = some (.deferred (some [])) → Q .normal { a with defers := { target := .collected D, args := #[] } :: a.defers } W)
    (hstop : ∀ (D : Nat) (c : Code) (pre : List α) (W : World), w.heap.size ≤ D → Sp pre → Ix c pre W → W.heap[D]? = some (.deferred (some [])) → c.wpIn F n P Q { a with defers := { target := .collected D, args := #[] } :: a.defers } W) :
    (Code.rangeFunc g ps assign body).wpIn F n P Q a w := by
  refine wpIn_rangeFunc ?_
  intro fn hfn
  rw [hro]
  obtain ⟨rec, hrec⟩ : ∃ rec : LoopState → Option Code → Loop, rec = fun st pe => { state := st, pending := pe, fn, tmps := a.tmps, params := ps, assign, body, defers := w.heap.size } := ⟨_, rfl⟩
  obtain ⟨W1, hW1⟩ : ∃ W1, (w.alloc (.deferred (some []))).alloc (.loop (rec .ready none)) = W1 := ⟨_, rfl⟩
  have hL1 : W1.heap[w.heap.size + 1]? = some (.loop (rec .ready none)) := by
    rw [← hW1]; have := World.alloc_heap_new (w.alloc (.deferred (some []))) (.loop (rec .ready none)); rwa [World.size_alloc] at this
  have hD1 : W1.heap[w.heap.size]? = some (.deferred (some [])) := by
    rw [← hW1]; exact (Below.heap_alloc _ _ _ (by simp)).trans (World.alloc_heap_new w _)
  have hb1 : Below w.heap.size w W1 := by rw [← hW1]; exact ((Below.refl _ w).alloc (Nat.le_refl _) _).alloc (by simp) _
  have hI1 : I [] W1 := by rw [← hW1]; exact hIa _ _ _ (hIa _ _ _ h0)
  refine ⟨w.heap.size + 1, [{ target := .collected w.heap.size, args := #[] }], W1, { target := .fn (.func gf) lb, args := #[.func (.yield (w.heap.size + 1)) #[] #[]] }, W1, gf,
    #[.func (.yield (w.heap.size + 1)) #[] #[]] ++ lb, W1, ?_, ?_, ?_, ?_, fun _ => h1, ?_⟩
  · rw [← hW1, hrec]; exact run_enterLoop_outer _ _ _ _ _
  · simp only [resolve, hg]
    simp [go_sem]
  · intro f' hf'; simp [Target.leads] at hf'; subst hf'; exact hFg
  · simp [invoke, go_sem, eg]
  refine (hit (w.heap.size + 1) (fun pre W => I pre W ∧ W.heap[w.heap.size + 1]? = some (.loop (rec .ready none)) ∧ W.heap[w.heap.size]? = some (.deferred (some [])))
    (fun pre W => ∃ c, Ix c pre W ∧ W.heap[w.heap.size + 1]? = some (.loop (rec .done (some c))) ∧ W.heap[w.heap.size]? = some (.deferred (some []))) W1 hb1
    (fun s A B hs hst => ⟨hIs s A B hs.1 hst, hSt A B _ _ hst (by omega) hs.2.1 rfl, hSt A B _ _ hst (Nat.le_refl _) hs.2.2 rfl⟩)
    (fun s A B hs hst => by obtain ⟨c, hc, hl, hk⟩ := hs; exact ⟨c, hXs c s A B hc hst, hSt A B _ _ hst (by omega) hl rfl, hSt A B _ _ hst (Nat.le_refl _) hk rfl⟩) ?_ ⟨hI1, hL1, hD1⟩).mono ?_
  · rintro pre x W ⟨hi, hl, hk⟩ hlen
    have hlt : w.heap.size + 1 < W.heap.size := (Array.getElem?_eq_some_iff.1 hl).1
    have hy := run_yield (P := P) (args := encs x) hl (by rw [hrec]; exact hps x)
    rw [hrec] at hy
    refine ⟨fn, _, assign, body, hy, roundIn_of_wpIn hfn (hassign _ pre x W _ hi hlen ?_)⟩
    intro a1 Wa hA hka hkpa
    have hla := hka.same _ _ (by omega) hl rfl
    have hlta : w.heap.size + 1 < Wa.heap.size := (Array.getElem?_eq_some_iff.1 hla).1
    refine ⟨_, run_beginRound hla (by rw [hrec]), ?_⟩
    obtain ⟨Wb, hWb⟩ : ∃ Wb, Wa.putObj (w.heap.size + 1) (.loop { rec .ready none with state := .busy }) = Wb := ⟨_, rfl⟩
    have hl2 : Wb.heap[w.heap.size + 1]? = some (.loop { rec .ready none with state := .busy }) := by rw [← hWb]; exact World.putObj_heap_same hlta
    have hk2 : Wb.heap[w.heap.size]? = some (.deferred (some [])) := by rw [← hWb]; exact (World.putObj_heap_other (by omega)).trans (hka.same _ _ (Nat.le_refl _) hk rfl)
    have hw2 : Kp W Wb := by rw [← hWb]; exact hKt hkpa (hKb _ _ _ _ (by omega) hla rfl)
    have hA2 : A pre x a1 Wb := by rw [← hWb]; exact hAp _ _ _ _ _ _ _ hA (by omega) hla rfl
    rw [hWb]
    refine wpIn_mono (hbody _ pre x a1 _ hA2 hlen) ?_
    have fin : ∀ (jump : Option Code) (W3 : World), KeepsFrom w.heap.size Wb W3 →
        (Instr.endRound (w.heap.size + 1) jump).run P W3 = .ok (.bool jump.isNone) (W3.putObj (w.heap.size + 1) (.loop (rec (if jump.isNone then .ready else .done) jump))) ∧
        W3.heap[w.heap.size + 1]? = some (.loop { rec .ready none with state := .busy }) ∧
        (W3.putObj (w.heap.size + 1) (.loop (rec (if jump.isNone then .ready else .done) jump))).heap[w.heap.size + 1]? = some (.loop (rec (if jump.isNone then .ready else .done) jump)) ∧
        (W3.putObj (w.heap.size + 1) (.loop (rec (if jump.isNone then .ready else .done) jump))).heap[w.heap.size]? = some (.deferred (some [])) := fun jump W3 hk3 => by
      have hl3 := hk3.same _ _ (by omega) hl2 rfl
      have := run_endRound (P := P) jump hl3
      rw [hrec] at this ⊢
      exact ⟨this, by rw [hrec] at hl3; exact hl3, World.putObj_heap_same (Array.getElem?_eq_some_iff.1 hl3).1, (World.putObj_heap_other (by omega)).trans (hk3.same _ _ (Nat.le_refl _) hk2 rfl)⟩
    rintro e a3 W3 hp
    cases e with
    | normal =>
      obtain ⟨hk3, hkp3, hi3⟩ := hp
      obtain ⟨hr, hl3, hl4, hk4⟩ := fin none W3 hk3
      exact ⟨_, _, hr, .inl ⟨rfl, ⟨hIp _ _ _ _ _ hi3 (by omega) hl3 rfl, hl4, hk4⟩, hKt (hKt hw2 hkp3) (hKb _ _ _ _ (by omega) hl3 rfl)⟩⟩
    | ret =>
      obtain ⟨hk3, hi3⟩ := hp
      obtain ⟨hr, hl3, hl4, hk4⟩ := fin (some .ret) W3 hk3
      exact ⟨_, _, hr, .inr ⟨rfl, .ret, hXp _ _ _ _ _ _ hi3 (by omega) hl3 rfl, hl4, hk4⟩⟩
    | exit id =>
      obtain ⟨hk3, hi3⟩ := hp
      obtain ⟨hr, hl3, hl4, hk4⟩ := fin (some (.exit id)) W3 hk3
      exact ⟨_, _, hr, .inr ⟨rfl, .exit id, hXp _ _ _ _ _ _ hi3 (by omega) hl3 rfl, hl4, hk4⟩⟩
    | goto t =>
      obtain ⟨hk3, hi3⟩ := hp
      obtain ⟨hr, hl3, hl4, hk4⟩ := fin (some (.goto t)) W3 hk3
      exact ⟨_, _, hr, .inr ⟨rfl, .goto t, hXp _ _ _ _ _ _ hi3 (by omega) hl3 rfl, hl4, hk4⟩⟩
    | panic ch => exact hp.elim
    | outgrown => exact hp.elim
  · rintro e W2 ⟨⟨v, rfl⟩, (⟨xs, hS, hi, hl, hk⟩ | ⟨pre, hSp, c, hi, hl, hk⟩)⟩
    · exact ⟨none, _, by have := run_endLoop (P := P) hl (by rw [hrec]; simp); rw [hrec] at this; exact this, hdone _ xs _ (Nat.le_refl _) hS (hIp _ _ _ _ _ hi (by omega) hl rfl) ((World.putObj_heap_other (by omega)).trans hk)⟩
    · exact ⟨some c, _, by have := run_endLoop (P := P) hl (by rw [hrec]; simp); rw [hrec] at this; exact this, hstop _ c pre _ (Nat.le_refl _) hSp (hXp c _ _ _ _ _ hi (by omega) hl rfl) ((World.putObj_heap_other (by omega)).trans hk)⟩
end Go.Proofs.YtlddcnkiigamjaaDoor
/- walks, in plain words: nodes, weights, what is left when rings are left out. -/
namespace Go.Proofs.YtlddcnkiigamjaaDoor
/-- an arc of a graph, by its number -/
def arcI (g : Raw) (i : Int) : Option Ar := if 0 ≤ i ∧ i < (g.arcs.length : Int) then g.arcs[i.toNat]? else none
/-- the nodes behind the first one of a walk; none: it is no walk -/
def wk (g : Raw) : Int → List Int → Option (List Int)
  | _, [] => some []
  | s, i :: L => match arcI g i with
    | some a => if a.1 = s then (wk g a.2.1 L).map (a.2.1 :: ·) else none
    | none => none
/-- a row's weight -/
def wt (g : Raw) (L : List Int) : Int := (L.map fun i => ((arcI g i).getD (0, 0, 0)).2.2).sum
def lastN (s : Int) (l : List Int) : Int := l.getLastD s
theorem lastN_cons (s v : Int) (l : List Int) : lastN s (v :: l) = lastN v l := by
  unfold lastN
  cases l with
  | nil => rfl
  | cons a l => rw [List.getLastD_cons, List.getLastD_cons]
theorem lastN_snoc (s v : Int) (l : List Int) : lastN s (l ++ [v]) = v := by
  induction l generalizing s with
  | nil => rfl
  | cons a l ih => rw [List.cons_append, lastN_cons]; exact ih a
theorem wk_cons {g : Raw} {s i : Int} {L l : List Int} (h : wk g s (i :: L) = some l) : ∃ a l', arcI g i = some a ∧ a.1 = s ∧ wk g a.2.1 L = some l' ∧ l = a.2.1 :: l' := by
  rw [wk] at h
  split at h
  · rename_i a ha
    split at h
    · rename_i hs
      obtain ⟨l', h1, h2⟩ := Option.map_eq_some_iff.1 h
      exact ⟨a, l', ha, hs, h1, h2.symm⟩
    · cases h
  · cases h
theorem wk_len {g : Raw} : ∀ {L l : List Int} {s : Int}, wk g s L = some l → l.length = L.length
  | [], l, s, h => by cases h; rfl
  | i :: L, l, s, h => by
    obtain ⟨a, l', _, _, h1, rfl⟩ := wk_cons h
    simp [wk_len h1]
theorem wk_append {g : Raw} : ∀ {L M l : List Int} {s : Int}, wk g s L = some l → wk g s (L ++ M) = (wk g (lastN s l) M).map (l ++ ·)
  | [], M, l, s, h => by
    cases h
    show wk g s M = (wk g s M).map _
    cases wk g s M <;> rfl
  | i :: L, M, l, s, h => by
    obtain ⟨a, l', h1, h2, h3, rfl⟩ := wk_cons h
    rw [List.cons_append, wk, h1]
    simp only [h2, if_true]
    rw [wk_append h3, lastN_cons, Option.map_map]
    rfl
theorem wk_take {g : Raw} : ∀ {L l : List Int} {s : Int} (k : Nat), wk g s L = some l → wk g s (L.take k) = some (l.take k)
  | [], l, s, k, h => by cases h; simp [wk]
  | i :: L, l, s, 0, h => rfl
  | i :: L, l, s, k + 1, h => by
    obtain ⟨a, l', h1, h2, h3, rfl⟩ := wk_cons h
    rw [List.take_succ_cons, wk, h1]
    simp only [h2, if_true]
    rw [wk_take k h3]; rfl
theorem wk_drop {g : Raw} : ∀ {L l : List Int} {s : Int} (k : Nat), k ≤ L.length → wk g s L = some l → wk g (lastN s (l.take k)) (L.drop k) = some (l.drop k)
  | L, l, s, 0, _, h => by simpa [lastN] using h
  | [], l, s, k + 1, hk, h => by simp at hk
  | i :: L, l, s, k + 1, hk, h => by
    obtain ⟨a, l', h1, h2, h3, rfl⟩ := wk_cons h
    rw [List.take_succ_cons, List.drop_succ_cons, List.drop_succ_cons, lastN_cons]
    exact wk_drop k (by simpa using hk) h3
theorem wt_append (g : Raw) (L M : List Int) : wt g (L ++ M) = wt g L + wt g M := by unfold wt; rw [List.map_append, List.sum_append]
theorem wt_nonneg {g : Raw} (hg : ∀ a ∈ g.arcs, 0 ≤ a.2.2) (i : Int) : 0 ≤ ((arcI g i).getD (0, 0, 0)).2.2 := by
  unfold arcI
  split
  · rename_i h
    rw [List.getElem?_eq_getElem (show i.toNat < g.arcs.length by omega)]
    exact hg _ (List.getElem_mem _)
  · exact Int.le_refl _
theorem wt_sub {g : Raw} (hg : ∀ a ∈ g.arcs, 0 ≤ a.2.2) {L M : List Int} (h : L.Sublist M) : wt g L ≤ wt g M := by
  induction h with
  | slnil => exact Int.le_refl _
  | cons a _ ih => have := wt_nonneg hg a; unfold wt at ih ⊢; rw [List.map_cons, List.sum_cons]; omega
  | cons_cons a _ ih => unfold wt at ih ⊢; rw [List.map_cons, List.map_cons, List.sum_cons, List.sum_cons]; omega
/-- one arc more, its rings left out: (the nodes, the arcs) -/
def bstep (st : List Int × List Int) (p : Int × Int) : List Int × List Int :=
  if p.2 ∈ st.1 then (st.1.take (st.1.idxOf p.2 + 1), st.2.take (st.1.idxOf p.2)) else (st.1 ++ [p.2], st.2 ++ [p.1])
def bareV (s : Int) (ps : List (Int × Int)) : List Int × List Int := ps.foldl bstep ([s], [])
/-- what is kept of a walk so far: a walk from s whose nodes differ -/
structure BI (g : Raw) (s : Int) (st : List Int × List Int) : Prop where
  nodup : st.1.Nodup
  walk : ∃ l, st.1 = s :: l ∧ wk g s st.2 = some l
theorem BI.start (g : Raw) (s : Int) : BI g s ([s], []) := ⟨by simp, [], rfl, rfl⟩
theorem BI.last {g : Raw} {s : Int} {st : List Int × List Int} (h : BI g s st) : ∃ l, st.1 = s :: l ∧ wk g s st.2 = some l ∧ st.1.getLastD s = lastN s l := by
  obtain ⟨l, h1, h2⟩ := h.walk
  exact ⟨l, h1, h2, by rw [h1, List.getLastD_cons]; rfl⟩
theorem BI.step {g : Raw} {s : Int} {st : List Int × List Int} (h : BI g s st) {i : Int} {a : Ar} (ha : arcI g i = some a) (hs : a.1 = st.1.getLastD s) : BI g s (bstep st (i, a.2.1)) ∧ (bstep st (i, a.2.1)).1.getLastD s = a.2.1 := by
  obtain ⟨l, h1, h2, h3⟩ := h.last
  unfold bstep
  split
  · rename_i hm
    dsimp only at hm ⊢
    have hk : st.1.idxOf a.2.1 < st.1.length := List.idxOf_lt_length_of_mem hm
    have hkv : st.1[st.1.idxOf a.2.1]? = some a.2.1 := by
      rw [List.getElem?_eq_getElem hk]
      exact congrArg some (List.getElem_idxOf hk)
    refine ⟨⟨h.nodup.sublist (List.take_sublist _ _), l.take (st.1.idxOf a.2.1), ?_, ?_⟩, ?_⟩
    · generalize st.1.idxOf a.2.1 = k
      rw [h1, List.take_succ_cons]
    · exact wk_take _ h2
    · rw [List.getLastD_eq_getLast?, List.getLast?_take]
      simp [hkv]
  · rename_i hm
    dsimp only at hm ⊢
    refine ⟨⟨?_, l ++ [a.2.1], by rw [h1]; rfl, ?_⟩, ?_⟩
    · rw [List.nodup_append]
      exact ⟨h.nodup, by simp, fun x hx y hy => by rw [List.mem_singleton.1 hy]; exact fun e => hm (e ▸ hx)⟩
    · rw [wk_append h2, wk, ha]
      have e : a.1 = lastN s l := hs.trans h3
      simp only [e, if_true, wk]
      rfl
    · exact lastN_snoc s a.2.1 st.1
theorem bstep_sub (st : List Int × List Int) (p : Int × Int) : (bstep st p).2.Sublist (st.2 ++ [p.1]) := by
  unfold bstep
  split
  · exact (List.take_sublist _ _).trans (List.sublist_append_left _ _)
  · exact List.Sublist.refl _
theorem bare_all {g : Raw} {s : Int} : ∀ (L l : List Int) (cur : Int) (st : List Int × List Int), BI g s st → st.1.getLastD s = cur → wk g cur L = some l →
    BI g s ((L.zip l).foldl bstep st) ∧ ((L.zip l).foldl bstep st).1.getLastD s = lastN cur l ∧ ((L.zip l).foldl bstep st).2.Sublist (st.2 ++ L)
  | [], l, cur, st, h, hc, hw => by
    cases hw
    exact ⟨h, hc, by simp⟩
  | i :: L, l, cur, st, h, hc, hw => by
    obtain ⟨a, l', h1, h2, h3, rfl⟩ := wk_cons hw
    obtain ⟨b1, b2⟩ := h.step h1 (h2.trans hc.symm)
    obtain ⟨c1, c2, c3⟩ := bare_all L l' a.2.1 _ b1 b2 h3
    rw [List.zip_cons_cons, List.foldl_cons]
    refine ⟨c1, by rw [c2, lastN_cons], c3.trans ?_⟩
    have := (bstep_sub st (i, a.2.1)).append (List.Sublist.refl L)
    simpa using this
/-- THE STAGE'S THEOREM, in plain words: a walk without its rings -/
theorem bare_of {g : Raw} {s : Int} {L l : List Int} (h : wk g s L = some l) : BI g s (bareV s (L.zip l)) ∧ (bareV s (L.zip l)).1.getLastD s = lastN s l ∧ (bareV s (L.zip l)).2.Sublist L := by
  obtain ⟨a, b, c⟩ := bare_all L l s _ (BI.start g s) rfl h
  refine ⟨a, b, ?_⟩
  rw [List.nil_append] at c
  exact c
/-- nodes that differ: nothing is left out -/
theorem bare_plain {s : Int} : ∀ (ps : List (Int × Int)) (st : List Int × List Int), (st.1 ++ ps.map (·.2)).Nodup → ps.foldl bstep st = (st.1 ++ ps.map (·.2), st.2 ++ ps.map (·.1))
  | [], st, _ => by simp
  | p :: ps, st, h => by
    rw [List.foldl_cons]
    have hn : p.2 ∉ st.1 := fun hm => by
      rw [List.nodup_append] at h
      exact h.2.2 _ hm _ (by simp) rfl
    have hb : bstep st p = (st.1 ++ [p.2], st.2 ++ [p.1]) := by unfold bstep; rw [if_neg hn]
    rw [hb, bare_plain (s := s) ps _ (by simpa using h)]
    simp
theorem bare_again {g : Raw} {s : Int} {st : List Int × List Int} (h : BI g s st) {l : List Int} (hw : wk g s st.2 = some l) : (bareV s (st.2.zip l)).2 = st.2 := by
  obtain ⟨l', h1, h2⟩ := h.walk
  obtain rfl : l' = l := Option.some.inj (h2.symm.trans hw)
  have hl := wk_len h2
  unfold bareV
  have hnd := h.nodup
  rw [h1] at hnd
  rw [bare_plain (s := s)]
  · show [] ++ _ = _
    rw [List.nil_append, List.map_fst_zip (by omega)]
  · rw [List.map_snd_zip (by omega)]; exact hnd
end Go.Proofs.YtlddcnkiigamjaaDoor
/- walks, in plain words: turned round; first places in rows; what joins. -/
namespace Go.Proofs.YtlddcnkiigamjaaDoor
theorem idx_first {L : List Int} {v : Int} {k : Nat} (h : L[k]? = some v) (hn : ∀ j, j < k → L[j]? ≠ some v) : v ∈ L ∧ L.idxOf v = k := by
  have hk : k < L.length := (List.getElem?_eq_some_iff.1 h).1
  have hm : v ∈ L := List.mem_of_getElem? h
  refine ⟨hm, ?_⟩
  have hi := List.idxOf_lt_length_of_mem hm
  have hv : L[L.idxOf v]? = some v := by rw [List.getElem?_eq_getElem hi]; exact congrArg some (List.getElem_idxOf hi)
  rcases Nat.lt_trichotomy (L.idxOf v) k with h1 | h1 | h1
  · exact absurd hv (hn _ h1)
  · exact h1
  · have := List.not_of_lt_findIdx (p := (· == v)) (xs := L) (i := k) (by simpa [List.idxOf] using h1)
    have e : L[k] = v := by rw [List.getElem?_eq_getElem hk] at h; exact Option.some.inj h
    simp [e] at this
theorem idx_none {L : List Int} {v : Int} (hn : ∀ j, j < L.length → L[j]? ≠ some v) : v ∉ L := fun hm => by
  obtain ⟨j, hj, e⟩ := List.mem_iff_getElem.1 hm
  exact hn j hj (by rw [List.getElem?_eq_getElem hj, e])
/-- an arc, the other way -/
def flipA (a : Ar) : Ar := (a.2.1, a.1, a.2.2)
def Raw.flip (r : Raw) : Raw := { r with arcs := r.arcs.map flipA }
theorem arcI_flip (g : Raw) (i : Int) : arcI g.flip i = (arcI g i).map flipA := by
  unfold arcI Raw.flip
  dsimp only
  rw [List.length_map]
  split
  · rw [List.getElem?_map]
  · rfl
theorem wk_flip {g : Raw} : ∀ {L l : List Int} {s : Int}, wk g s L = some l → ∃ l', wk g.flip (lastN s l) L.reverse = some l' ∧ lastN (lastN s l) l' = s
  | [], l, s, h => by cases h; exact ⟨[], rfl, rfl⟩
  | i :: L, l, s, h => by
    obtain ⟨a, l1, h1, h2, h3, rfl⟩ := wk_cons h
    obtain ⟨l2, h4, h5⟩ := wk_flip h3
    rw [List.reverse_cons, lastN_cons, wk_append h4, h5, wk, arcI_flip, h1]
    refine ⟨l2 ++ [s], ?_, lastN_snoc _ _ _⟩
    simp [flipA, wk, h2]
theorem wt_flip (g : Raw) (L : List Int) : wt g.flip L.reverse = wt g L := by
  have e : ∀ i, ((arcI g.flip i).getD (0, 0, 0)).2.2 = ((arcI g i).getD (0, 0, 0)).2.2 := fun i => by
    rw [arcI_flip]
    cases arcI g i <;> rfl
  unfold wt
  simp only [e]
  rw [List.map_reverse, List.sum_reverse]
/-- a walk whose weight is known -/
theorem wt_bound {g : Raw} (hg : ∀ a ∈ g.arcs, 0 ≤ a.2.2 ∧ a.2.2 < 2147483648) (L : List Int) : 0 ≤ wt g L ∧ wt g L ≤ 2147483648 * L.length := by
  induction L with
  | nil => exact ⟨Int.le_refl _, by simp [wt]⟩
  | cons i L ih =>
    have h0 : 0 ≤ ((arcI g i).getD (0, 0, 0)).2.2 ∧ ((arcI g i).getD (0, 0, 0)).2.2 ≤ 2147483648 := by
      unfold arcI
      split
      · rename_i h
        rw [List.getElem?_eq_getElem (show i.toNat < g.arcs.length by omega)]
        have := hg _ (List.getElem_mem (show i.toNat < g.arcs.length by omega))
        simp only [Option.getD_some]; omega
      · simp
    unfold wt at ih ⊢
    rw [List.map_cons, List.sum_cons, List.length_cons]
    generalize (List.map (fun i => ((arcI g i).getD (0, 0, 0)).2.2) L).sum = z at *
    generalize ((arcI g i).getD (0, 0, 0)).2.2 = y at *
    push_cast
    omega
end Go.Proofs.YtlddcnkiigamjaaDoor
/- walks, in plain words: what the iterator hands on; what the functions answer. -/
namespace Go.Proofs.YtlddcnkiigamjaaDoor
theorem wk_snoc {g : Raw} {L l : List Int} {s i : Int} (h : wk g s L = some l) : wk g s (L ++ [i]) = match arcI g i with
    | some a => if a.1 = lastN s l then some (l ++ [a.2.1]) else none
    | none => none := by
  rw [wk_append h, wk]
  cases arcI g i with
  | none => rfl
  | some a =>
    simp only
    split <;> simp [wk]
theorem wk_none {g : Raw} : ∀ {L M : List Int} {s : Int}, wk g s L = none → wk g s (L ++ M) = none
  | [], M, s, h => by cases h
  | i :: L, M, s, h => by
    rw [List.cons_append, wk]
    rw [wk] at h
    cases ha : arcI g i with
    | none => rfl
    | some a =>
      rw [ha] at h
      simp only at h ⊢
      split
      · rename_i hs
        rw [if_pos hs] at h
        rw [wk_none (Option.map_eq_none_iff.1 h)]; rfl
      · rfl
/-- what steps hands on: each arc (or none), and whether it goes on where the one ahead ended -/
def stepsV (g : Raw) : Int → List Int → List (Ar × Bool)
  | _, [] => []
  | s, i :: L => ((arcI g i).getD (0, 0, 0), (arcI g i).isSome && decide (((arcI g i).getD (0, 0, 0)).1 = s)) :: stepsV g ((arcI g i).getD (0, 0, 0)).2.1 L
theorem stepsV_len (g : Raw) : ∀ (L : List Int) (s : Int), (stepsV g s L).length = L.length
  | [], _ => rfl
  | i :: L, s => by rw [stepsV, List.length_cons, List.length_cons, stepsV_len g L]
theorem steps_wk (g : Raw) : ∀ (L : List Int) (s : Int), wk g s L = if (stepsV g s L).all (·.2) then some ((stepsV g s L).map fun p => p.1.2.1) else none
  | [], s => rfl
  | i :: L, s => by
    rw [wk, stepsV, List.all_cons, List.map_cons]
    cases ha : arcI g i with
    | none => simp
    | some a =>
      simp only [Option.getD_some, Option.isSome_some, Bool.true_and]
      rw [steps_wk g L a.2.1]
      by_cases hs : a.1 = s
      · simp only [hs, if_true, decide_true, Bool.true_and]
        split <;> rfl
      · simp [hs]
theorem steps_wt (g : Raw) : ∀ (L : List Int) (s : Int), wt g L = ((stepsV g s L).map fun p => p.1.2.2).sum
  | [], _ => rfl
  | i :: L, s => by
    rw [stepsV, List.map_cons, List.sum_cons, ← steps_wt g L]
    unfold wt
    rw [List.map_cons, List.sum_cons]
/-- where the walk stands behind k arcs, as the iterator keeps it -/
def atS (g : Raw) : Int → List Int → Int
  | s, [] => s
  | _, i :: L => atS g ((arcI g i).getD (0, 0, 0)).2.1 L
theorem stepsV_append (g : Raw) : ∀ (L M : List Int) (s : Int), stepsV g s (L ++ M) = stepsV g s L ++ stepsV g (atS g s L) M
  | [], M, s => rfl
  | i :: L, M, s => by rw [List.cons_append, stepsV, stepsV, stepsV_append g L M, atS]; rfl
theorem atS_append (g : Raw) : ∀ (L M : List Int) (s : Int), atS g s (L ++ M) = atS g (atS g s L) M
  | [], M, s => rfl
  | i :: L, M, s => by rw [List.cons_append, atS, atS, atS_append g L M]
/-- a walk's nodes, if it is one -/
def nodesV (g : Raw) (s : Int) (L : List Int) : Option (List Int) := if 0 ≤ s ∧ s < g.nodes then (wk g s L).map (s :: ·) else none
/-- its weight, if it leads to t -/
def checkV (g : Raw) (s t : Int) (L : List Int) : Option Int := if 0 ≤ s ∧ s < g.nodes then (wk g s L).bind fun l => if lastN s l = t then some (wt g L) else none else none
/-- without its rings -/
def bareO (g : Raw) (s : Int) (L : List Int) : Option (List Int) := if 0 ≤ s ∧ s < g.nodes then (wk g s L).map fun l => (bareV s (L.zip l)).2 else none
/-- all nodes of a walk are the graph's -/
theorem wk_nodes {g : Raw} (hg : ∀ a ∈ g.arcs, 0 ≤ a.2.1 ∧ a.2.1 < g.nodes) : ∀ {L l : List Int} {s : Int}, wk g s L = some l → ∀ v ∈ l, 0 ≤ v ∧ v < g.nodes
  | [], l, s, h, v, hv => by cases h; cases hv
  | i :: L, l, s, h, v, hv => by
    obtain ⟨a, l', h1, h2, h3, rfl⟩ := wk_cons h
    rcases List.mem_cons.1 hv with rfl | hv
    · unfold arcI at h1
      split at h1
      · exact hg a (List.mem_of_getElem? h1)
      · cases h1
    · exact wk_nodes hg h3 v hv
/-- rows whose elements differ are no longer than what they are of -/
theorem nodup_lt : ∀ (m : Nat) (l : List Int), l.Nodup → (∀ v ∈ l, 0 ≤ v ∧ v < (m : Int)) → l.length ≤ m
  | 0, l, _, hr => by
    cases l with
    | nil => exact Nat.le_refl _
    | cons a l => have := hr a List.mem_cons_self; omega
  | m + 1, l, h, hr => by
    by_cases hm : (m : Int) ∈ l
    · have h1 := nodup_lt m (l.erase (m : Int)) (h.erase _) (fun v hv => by
        obtain ⟨h2, h3⟩ := (h.mem_erase_iff).1 hv
        have := hr v h3
        omega)
      rw [List.length_erase_of_mem hm] at h1
      omega
    · have h1 := nodup_lt m l h (fun v hv => by
        have := hr v hv
        have hne : v ≠ (m : Int) := fun e => hm (e ▸ hv)
        omega)
      omega
end Go.Proofs.YtlddcnkiigamjaaDoor
/- walk.steps: the arcs of a row, as an iterator that keeps where the walk stands. -/
namespace Go.Proofs.YtlddcnkiigamjaaDoor
open Go.RowKit Go.Shelf
attribute [local go_sem] Oper.semAt_some
/-- what a round keeps -/
structure KpW (lo Ba Bn Bs : Nat) (W W' : World) : Prop where
  below : Below lo W W'
  box : ∀ b, b = Ba ∨ b = Bn ∨ b = Bs → W'.heap[b]? = W.heap[b]?
  arcs : ∀ k cs fr, Blk W k cs 58 fr → Blk W' k cs 58 fr
theorem KpW.trans {lo Ba Bn Bs : Nat} {A B C : World} (h : KpW lo Ba Bn Bs A B) (k : KpW lo Ba Bn Bs B C) : KpW lo Ba Bn Bs A C :=
  ⟨h.below.trans k.below, fun b hb => (k.box b hb).trans (h.box b hb), fun i cs fr hi => k.arcs i cs fr (h.arcs i cs fr hi)⟩
theorem KpW.put {lo Ba Bn Bs : Nat} {w : World} (hlo : lo ≤ w.heap.size) (hb : Ba < w.heap.size ∧ Bn < w.heap.size ∧ Bs < w.heap.size) (W : World) (l : Nat) (o o' : Obj) (hl : w.heap.size ≤ l) (h : W.heap[l]? = some o) (h1 : o.isCells = false) : KpW lo Ba Bn Bs W (W.putObj l o') :=
  ⟨(Below.refl lo W).grown (grownBy_putObj' W l o') (by have := (Array.getElem?_eq_some_iff.1 h).1; omega) (fun k e => by cases e; omega), fun b hb' => World.putObj_heap_other (by omega), fun k cs fr hk => (World.putObj_heap_other (fun e => by
    subst e
    rw [show W.heap[k]? = _ from hk] at h
    obtain rfl := Option.some.inj h
    cases h1)).trans hk⟩
theorem KpW.of_below {lo Ba Bn Bs : Nat} {W W' : World} (h : Below W.heap.size W W') (hlo : lo ≤ W.heap.size) (hb : Ba < W.heap.size ∧ Bn < W.heap.size ∧ Bs < W.heap.size) : KpW lo Ba Bn Bs W W' :=
  ⟨h.mono hlo, fun b hb' => h.block b (by omega), fun k cs fr hk => hk.below h hk.lt⟩
theorem arc_anyI (p : Nat) (g : Raw) (i : Int) (w : World) (h : NetAt w p g) : Calls Tryd.prog 54 #[.pointer (some ⟨p, 0, none⟩), .int .i64 i] w fun e w' => e = .returned (.tuple #[arV ((arcI g i).getD (0, 0, 0)), .bool (arcI g i).isSome]) ∧ Below w.heap.size w w' := by
  have e1 : (if 0 ≤ i ∧ i < (g.arcs.length : Int) then g.arcs[i.toNat]?.getD (0, 0, 0) else (0, 0, 0)) = (arcI g i).getD (0, 0, 0) := by unfold arcI; split <;> rfl
  have e2 : decide (0 ≤ i ∧ i < (g.arcs.length : Int)) = (arcI g i).isSome := by
    unfold arcI
    split
    · rename_i h; rw [decide_eq_true h, List.getElem?_eq_getElem (by omega)]; rfl
    · rename_i h; rw [decide_eq_false h]; rfl
  have := arc_any p g i w h
  rw [e1, e2] at this
  exact this
theorem steps_in (k : Nat) (p : Option Addr) (s : Int) (va : Value) (ha : va.oneCell' = true) (w : World) :
    CallsIn Fence.wide k Tryd.prog 37 #[.pointer p, .int .i64 s, va] w fun e w' => e = .returned (.func (.func 53) #[] #[.pointer (some ⟨w.heap.size + 1 + 1, 0, none⟩), .pointer (some ⟨w.heap.size, 0, none⟩), .pointer (some ⟨w.heap.size + 1, 0, none⟩)]) ∧
      w' = ((w.alloc (.cells #[.pointer p] 28)).alloc (.cells #[.int .i64 s] 3)).alloc (.cells #[va] 35) := by
  refine callsIn_of_wp Tryd.func37 rfl trivial ?_ rfl
  simp only [Tryd.ntmps37, List.size_toArray, List.length_cons, List.length_nil, Nat.reduceAdd, Nat.reduceSub, Array.replicate_succ, Array.replicate_zero, List.push_toArray, List.append_toArray, List.nil_append, List.cons_append]
  gi_wp2
  go_ret
  exact ⟨rfl, rfl⟩
def encS (x : Ar × Bool) : Array Value := #[arV x.1, .bool x.2]
set_option maxRecDepth 100000 in
set_option maxHeartbeats 4000000 in
theorem steps1_in (m : Nat) (hm : 1 ≤ m) (l Ba Bn Bs lo : Nat) (W0 : World) (p : Nat) (g : Raw) (va : Value) (L : List Int) (s : Int) (hNt : ∀ u, Below lo W0 u → NetAt u p g) (hA : ∀ u, Below lo W0 u → SlX u va L) (hlo : lo ≤ Ba ∧ lo ≤ Bn ∧ lo ≤ Bs) (hne : Ba ≠ Bs ∧ Bn ≠ Bs) (J Jx : List (Ar × Bool) → World → Prop)
    (hJ : ∀ x A B, J x A → Kept (fun k => k = Bs) A B → J x B)
    (hY : ∀ pre x W, J pre W → pre.length < L.length → YieldAt Fence.wide (m - 1) Tryd.prog l (encS x) W fun e W' =>
      (e = .returned (.bool true) ∧ J (pre ++ [x]) W' ∧ KpW lo Ba Bn Bs W W') ∨ (e = .returned (.bool false) ∧ Jx (pre ++ [x]) W'))
    (W : World) (hW : Below lo W0 W) (hsz : lo ≤ W.heap.size) (kA : Blk W Ba #[va] 35 (0, 0)) (kN : Blk W Bn #[.pointer (some ⟨p, 0, none⟩)] 28 (0, 0)) (kS : Blk W Bs #[.int .i64 s] 3 (0, 0)) (h0 : J [] W) :
    CallsIn Fence.wide m Tryd.prog 53 #[.func (.yield l) #[] #[], .pointer (some ⟨Ba, 0, none⟩), .pointer (some ⟨Bn, 0, none⟩), .pointer (some ⟨Bs, 0, none⟩)] W fun e W' => (∃ v, e = .returned v) ∧
      ((∃ ys, ys = stepsV g s L ∧ J ys W') ∨ (∃ pre, pre <+: stepsV g s L ∧ Jx pre W')) := by
  have c1 := kA.cell 0
  change W.cell? ⟨Ba, 0, none⟩ = some va at c1
  obtain ⟨a, cap, rfl, hcap, hmax, _⟩ := id (hA W hW)
  unfold maxLen at hmax
  have HA := Lib.hid kA; have HN := Lib.hid kN; have HS := Lib.hid kS; have HW := Lib.hid hW; have H0 := Lib.hid h0
  have HSl := Lib.hid hA; have HNt := Lib.hid hNt; have HLo := Lib.hid hlo; have HSz := Lib.hid hsz
  clear kA kN kS hW h0 hA hNt hlo hsz
  refine callsIn_of_wp Tryd.func53 rfl trivial ?_ rfl
  simp only [Tryd.ntmps53, List.size_toArray, List.length_cons, List.length_nil, Nat.reduceAdd, Nat.reduceSub, Array.replicate_succ, Array.replicate_zero, List.push_toArray, List.append_toArray, List.nil_append, List.cons_append]
  gi_wp2_with fail
  gi_loopw [11] (fun i wr => ∃ (k : Nat), k ≤ L.length ∧ i = .int .i64 k ∧ Hid (Below lo W0 wr ∧ lo ≤ wr.heap.size) ∧ Hid (Blk wr Ba #[.slice a L.length cap] 35 (0, 0)) ∧ Hid (Blk wr Bn #[.pointer (some ⟨p, 0, none⟩)] 28 (0, 0)) ∧ Hid (Blk wr Bs #[.int .i64 (atS g s (L.take k))] 3 (0, 0)) ∧ Hid (J (stepsV g s (L.take k)) wr)) (fun i _ => L.length - (intOf i).toNat)
  case atStart => exact ⟨0, Nat.zero_le _, rfl, Lib.hid ⟨HW.out, HSz.out⟩, HA, HN, HS, H0⟩
  case round =>
    obtain ⟨k, hk, rfl, HWr, HAr, HNr, HSr, HJr⟩ := hrel
    by_cases hlt : k < L.length
    · have hltI : (k : Int) < (L.length : Int) := by omega
      have i1 : (0 : Int) ≤ (k : Int) := by omega
      obtain ⟨ba, oa, rfl, d0⟩ := (HSl.out wr HWr.out.1).at k hlt
      obtain ⟨i, hi⟩ : ∃ x, x = L[k] := ⟨_, rfl⟩
      rw [← hi] at d0
      have d2 := HNr.out.cell 0
      change wr.cell? ⟨Bn, 0, none⟩ = some (.pointer (some ⟨p, 0, none⟩)) at d2
      have CA := Lib.hid (arc_anyI p g i wr (HNt.out wr HWr.out.1))
      obtain ⟨cur, hcur⟩ : ∃ c, c = atS g s (L.take k) := ⟨_, rfl⟩
      rw [← hcur] at HSr
      obtain ⟨x, hx⟩ : ∃ x, x = (arcI g i).getD (0, 0, 0) := ⟨_, rfl⟩
      obtain ⟨q, hq⟩ : ∃ q, q = (arcI g i).isSome := ⟨_, rfl⟩
      rw [← hx, ← hq] at CA
      have htk : L.take (k + 1) = L.take k ++ [i] := by rw [hi]; exact List.take_succ_eq_append_getElem hlt
      have hst : stepsV g s (L.take (k + 1)) = stepsV g s (L.take k) ++ [(x, q && decide (x.1 = cur))] := by rw [htk, stepsV_append, ← hcur, stepsV, ← hx, ← hq]; rfl
      have hat : atS g s (L.take (k + 1)) = x.2.1 := by rw [htk, atS_append, atS, ← hx]; rfl
      have hpf : stepsV g s (L.take k) ++ [(x, q && decide (x.1 = cur))] <+: stepsV g s L := by
        rw [← hst]
        refine ⟨stepsV g (atS g s (L.take (k + 1))) (L.drop (k + 1)), ?_⟩
        rw [← stepsV_append, List.take_append_drop]
      have HSt := Lib.hid hst; have HAt := Lib.hid hat; have HPf := Lib.hid hpf; have HLn := Lib.hid (show (stepsV g s (L.take k)).length < L.length by rw [stepsV_len, List.length_take]; omega)
      clear hi hcur hx hq htk hst hat hpf
      obtain ⟨x0, x1, x2⟩ := x
      change Hid (Calls _ _ _ _ fun e w' => e = .returned (.tuple #[.agg #[.int .i64 x0, .int .i64 x1, .int .i64 x2], .bool q]) ∧ Below wr.heap.size wr w') at CA
      gi_wp2_with fail
      refine ⟨trivial, ?_⟩
      refine (callsIn_wide.2 CA.out).mono ?_
      rintro e w2 ⟨rfl, hb2⟩
      obtain ⟨w3, hw3⟩ : ∃ u, u = w2.alloc (.cells #[.int .i64 x0, .int .i64 x1, .int .i64 x2] 58) := ⟨_, rfl⟩
      have hb3 : Below w2.heap.size w2 w3 := by rw [hw3]; exact (Below.refl _ _).alloc (Nat.le_refl _) _
      have k7 : Blk w3 w2.heap.size #[.int .i64 x0, .int .i64 x1, .int .i64 x2] 58 (0, 0) := by rw [hw3]; exact Blk.new _ _ _ _
      have hb13 := hb2.next' hb3
      have kS := HSr.out.below hb13 HSr.out.lt
      have eS := kS.cell 0
      simp only [List.getElem?_toArray, List.getElem?_cons_zero] at eS
      rw [hw3] at eS
      have HW3 := Lib.hid hw3; have H13 := Lib.hid hb13; have HK7 := Lib.hid k7; have HKS := Lib.hid kS
      have HJ3 := Lib.hid (hJ _ _ _ HJr.out (Kept.of_below hb13))
      clear hw3 hb2 hb3 k7 hb13 kS d0 d2 CA
      obtain ⟨bb, hbb⟩ : ∃ b, b = (q && decide (x0 = cur)) := ⟨_, rfl⟩
      change Hid (stepsV g s (L.take (k + 1)) = stepsV g s (L.take k) ++ [((x0, x1, x2), q && decide (x0 = cur))]) at HSt
      change Hid (stepsV g s (L.take k) ++ [((x0, x1, x2), q && decide (x0 = cur))] <+: stepsV g s L) at HPf
      rw [← hbb] at HSt HPf
      obtain ⟨fn, tmps, assign, body, hy, hR⟩ := hY (stepsV g s (L.take k)) ((x0, x1, x2), bb) w3 HJ3.out HLn.out
      dsimp only [encS, arV] at hy
      rw [HW3.out] at hy hR
      have HR := Lib.hid hR
      have fin : ∀ (e : Ending) (W3 : World), ((e = .returned (.bool true) ∧ J (stepsV g s (L.take k) ++ [((x0, x1, x2), bb)]) W3 ∧ KpW lo Ba Bn Bs w3 W3) ∨ (e = .returned (.bool false) ∧ Jx (stepsV g s (L.take k) ++ [((x0, x1, x2), bb)]) W3)) →
          (e = .returned (.bool true) ∧ Blk W3 w2.heap.size #[.int .i64 x0, .int .i64 x1, .int .i64 x2] 58 (0, 0) ∧ Blk W3 Bs #[.int .i64 cur] 3 (0, 0) ∧ (Below lo W0 (W3.setCell ⟨Bs, 0, none⟩ (.int .i64 x1)) ∧ lo ≤ (W3.setCell ⟨Bs, 0, none⟩ (.int .i64 x1)).heap.size) ∧ Blk (W3.setCell ⟨Bs, 0, none⟩ (.int .i64 x1)) Ba #[.slice (some ⟨ba, oa, none⟩) L.length cap] 35 (0, 0) ∧ Blk (W3.setCell ⟨Bs, 0, none⟩ (.int .i64 x1)) Bn #[.pointer (some ⟨p, 0, none⟩)] 28 (0, 0) ∧ Blk (W3.setCell ⟨Bs, 0, none⟩ (.int .i64 x1)) Bs #[.int .i64 (atS g s (L.take (k + 1)))] 3 (0, 0) ∧ J (stepsV g s (L.take (k + 1))) (W3.setCell ⟨Bs, 0, none⟩ (.int .i64 x1))) ∨ (e = .returned (.bool false) ∧ Jx (stepsV g s (L.take k) ++ [((x0, x1, x2), bb)]) W3) := by
        rintro e W3 (⟨rfl, hj, hkp⟩ | ⟨rfl, hj⟩)
        · have hl := HLo.out
          have kSs : Blk W3 Bs #[.int .i64 cur] 3 (0, 0) := (hkp.box Bs (Or.inr (Or.inr rfl))).trans HKS.out
          have hbel : Below lo W0 W3 := (HWr.out.1.trans (H13.out.mono HWr.out.2)).trans hkp.below
          have hsz : lo ≤ W3.heap.size := Nat.le_trans (Nat.le_trans HWr.out.2 H13.out.size) hkp.below.size
          refine .inl ⟨rfl, hkp.arcs _ _ _ HK7.out, kSs, ⟨hbel.setCell (p := ⟨Bs, 0, none⟩) hl.2.2 _, by simp; omega⟩, ?_, ?_, ?_, ?_⟩
          · exact Blk.setOther ((hkp.box Ba (Or.inl rfl)).trans (HAr.out.below H13.out HAr.out.lt)) _ _ hne.1
          · exact Blk.setOther ((hkp.box Bn (Or.inr (Or.inl rfl))).trans (HNr.out.below H13.out HNr.out.lt)) _ _ hne.2
          · rw [HAt.out]; exact kSs.set 0 _
          · rw [HSt.out]; exact hJ _ _ _ hj ((Kept.refl (fun k => k = Bs) _).setCell (p := ⟨Bs, 0, none⟩) rfl _)
        · exact .inr ⟨rfl, hj⟩
      have HFin := Lib.hid fin
      clear hR fin
      have e10 : q = true → (x0 == cur) = bb := fun h => by rw [hbb, h, Bool.true_and]; rfl
      have e11 : q = false → bb = false := fun h => by rw [hbb, h]; rfl
      have HE10 := Lib.hid (And.intro e10 e11)
      clear hbb e10 e11
      cases q with
      | false =>
        obtain rfl := HE10.out.2 rfl
        gi_wp2_with fail
        refine HR.out.mono ?_
        intro e W3 h
        rw [← HW3.out] at h
        rcases HFin.out e W3 h with ⟨rfl, g1, g2, g3, g4, g5, g6, g7⟩ | ⟨rfl, g1⟩
        · have f1 := g1.cell 1; have f2 := g2.cell 0
          simp only [List.getElem?_toArray, List.getElem?_cons_succ, List.getElem?_cons_zero] at f1 f2
          have fz := g2.free 0 (Or.inr (Nat.zero_le _))
          have HG := Lib.hid (And.intro g3 (And.intro g4 (And.intro g5 (And.intro g6 g7))))
          clear h g1 g2 g3 g4 g5 g6 g7
          gi_wp2_with fail
          go_roundw
          case rel => exact ⟨k + 1, by omega, by go_num, Lib.hid HG.out.1, Lib.hid HG.out.2.1, Lib.hid HG.out.2.2.1, Lib.hid HG.out.2.2.2.1, Lib.hid HG.out.2.2.2.2⟩
          case measure => simp [intOf]; omega
        · clear h
          gi_wp2_with fail
          refine bodyPost_ret (results_none rfl _ _ _) rfl ?_
          exact ⟨⟨_, rfl⟩, .inr ⟨_, HPf.out, g1⟩⟩
      | true =>
        have e10 := HE10.out.1 rfl
        gi_wp2_with fail
        refine HR.out.mono ?_
        intro e W3 h
        rw [← HW3.out] at h
        rcases HFin.out e W3 h with ⟨rfl, g1, g2, g3, g4, g5, g6, g7⟩ | ⟨rfl, g1⟩
        · have f1 := g1.cell 1; have f2 := g2.cell 0
          simp only [List.getElem?_toArray, List.getElem?_cons_succ, List.getElem?_cons_zero] at f1 f2
          have fz := g2.free 0 (Or.inr (Nat.zero_le _))
          have HG := Lib.hid (And.intro g3 (And.intro g4 (And.intro g5 (And.intro g6 g7))))
          clear h g1 g2 g3 g4 g5 g6 g7
          gi_wp2_with fail
          go_roundw
          case rel => exact ⟨k + 1, by omega, by go_num, Lib.hid HG.out.1, Lib.hid HG.out.2.1, Lib.hid HG.out.2.2.1, Lib.hid HG.out.2.2.2.1, Lib.hid HG.out.2.2.2.2⟩
          case measure => simp [intOf]; omega
        · clear h
          gi_wp2_with fail
          refine bodyPost_ret (results_none rfl _ _ _) rfl ?_
          exact ⟨⟨_, rfl⟩, .inr ⟨_, HPf.out, g1⟩⟩
    · obtain rfl : k = L.length := by omega
      gi_wp2
      go_end0
      exact ⟨⟨_, rfl⟩, .inl ⟨_, rfl, by have h := HJr.out; rwa [List.take_length] at h⟩⟩
end Go.Proofs.YtlddcnkiigamjaaDoor
/- walk.Nodes. -/
namespace Go.Proofs.YtlddcnkiigamjaaDoor
open Go.RowKit Go.Shelf
attribute [local go_sem] Oper.semAt_some
set_option maxHeartbeats 1000000 in
theorem node_any (p : Nat) (g : Raw) (v : Int) (w : World) (h : NetAt w p g) : Calls Tryd.prog 36 #[.pointer (some ⟨p, 0, none⟩), .int .i64 v] w fun e w' => e = .returned (.bool (decide (0 ≤ v ∧ v < g.nodes))) ∧ w' = w := by
  by_cases h0 : 0 ≤ v
  · have e : decide (0 ≤ v ∧ v < g.nodes) = decide (v < g.nodes) := by rw [Bool.eq_iff_iff]; simp [h0]
    rw [e]
    have HN := Lib.hid (nodes_any p g w h)
    clear h e
    have h0b : decide (0 ≤ v) = true := decide_eq_true h0
    go_enter Tryd.func36, Tryd.ntmps36
    go_wp2_with fail
    refine HN.out.mono ?_
    rintro e w' ⟨rfl, rfl⟩
    go_wp2_with fail
    go_ret
    exact ⟨rfl, rfl⟩
  · have e : decide (0 ≤ v ∧ v < g.nodes) = false := decide_eq_false (fun hh => h0 hh.1)
    rw [e]
    have h0b : decide (0 ≤ v) = false := decide_eq_false h0
    go_enter Tryd.func36, Tryd.ntmps36
    go_wp2_with fail
    go_ret
    exact ⟨rfl, rfl⟩
set_option maxHeartbeats 1000000 in
theorem node_nil (v : Int) (w : World) : Calls Tryd.prog 36 #[.pointer none, .int .i64 v] w fun e w' => e = .returned (.bool false) ∧ w' = w := by
  by_cases h0 : 0 ≤ v
  · have h0b : decide (0 ≤ v) = true := decide_eq_true h0
    have h1 : decide (v < 0) = false := decide_eq_false (by omega)
    have h2 : ¬ v < 0 := by omega
    go_enter Tryd.func36, Tryd.ntmps36
    go_wp2_with fail
    refine (nodes_nil w).mono ?_
    rintro e w' ⟨rfl, rfl⟩
    go_wp2_with fail
    go_ret
    exact ⟨rfl, rfl⟩
  · have h0b : decide (0 ≤ v) = false := decide_eq_false h0
    go_enter Tryd.func36, Tryd.ntmps36
    go_wp2_with fail
    go_ret
    exact ⟨rfl, rfl⟩
def rowN (s : Int) (pre : List (Ar × Bool)) : List Int := s :: pre.map fun x => x.1.2.1
theorem rowN_snoc (s : Int) (pre : List (Ar × Bool)) (x : Ar × Bool) : rowN s (pre ++ [x]) = rowN s pre ++ [x.1.2.1] := by unfold rowN; rw [List.map_append]; rfl
theorem rowN_len (s : Int) (pre : List (Ar × Bool)) : (rowN s pre).length = pre.length + 1 := by unfold rowN; simp
def okA (pre : List (Ar × Bool)) : Bool := pre.all (·.2)
theorem okA_snoc (pre : List (Ar × Bool)) (x : Ar × Bool) : okA (pre ++ [x]) = (okA pre && x.2) := by unfold okA; rw [List.all_append]; simp
theorem okA_pre {pre L : List (Ar × Bool)} (h : pre <+: L) (hf : okA pre = false) : okA L = false := by
  obtain ⟨r, rfl⟩ := h
  unfold okA at hf ⊢
  rw [List.all_append, hf]; rfl
theorem blk_ne {W : World} {i j : Nat} {cs ds : Array Value} {t s : TypeId} {f g : Nat × Nat} (h : Blk W i cs t f) (k : Blk W j ds s g) (hn : t ≠ s) : i ≠ j := fun e => by
  subst e
  have := (show _ = _ from h).symm.trans (show _ = _ from k)
  simp at this
  exact hn this.2.1
theorem nodesV_steps (g : Raw) (s : Int) (L : List Int) (h : 0 ≤ s ∧ s < g.nodes) : nodesV g s L = if okA (stepsV g s L) then some (rowN s (stepsV g s L)) else none := by
  unfold nodesV rowN
  rw [if_pos h, steps_wk]
  unfold okA
  split <;> rfl
/-- what the caller of Nodes holds between two rounds -/
structure NI (w W : World) (lo Ba Bn Bs B6 B7 B8 : Nat) (v : Value) (R : List Int) : Prop where
  box : Boxed W B8 35 v
  row : W.ownsRow lo 3 1 v R.length (R.flatMap inC)
  off : ∀ gg, v.ownBlock = some gg → gg ≠ Bs ∧ gg ≠ Ba ∧ gg ≠ Bn
  six : Blk W B6 #[.slice none 0 0] 35 (0, 0)
  sev : Blk W B7 #[.bool false] 4 (0, 0)
  below : Below lo w W
theorem NI.keep {w W W' : World} {lo Ba Bn Bs B6 B7 B8 : Nat} {v : Value} {R : List Int} (h : NI w W lo Ba Bn Bs B6 B7 B8 v R) (hk : ∀ k cs t fr, Blk W k cs t fr → k ≠ Bs → W'.heap[k]? = W.heap[k]?) (hne : B6 ≠ Bs ∧ B7 ≠ Bs ∧ B8 ≠ Bs) (hb : Below lo W W') : NI w W' lo Ba Bn Bs B6 B7 B8 v R :=
  ⟨(hk B8 _ _ _ h.box hne.2.2).trans h.box, ownsRow_agree' h.row (fun k hk' => by obtain ⟨_, _, hq⟩ := ownsRow_blk' h.row hk'; exact hk k _ _ _ hq (h.off k hk').1), h.off, (hk B6 _ _ _ h.six hne.1).trans h.six, (hk B7 _ _ _ h.sev hne.2.1).trans h.sev, h.below.trans hb⟩
theorem NI.st {w W W' : World} {lo Ba Bn Bs B6 B7 B8 : Nat} {v : Value} {R : List Int} (h : NI w W lo Ba Bn Bs B6 B7 B8 v R) (hk : Kept (fun k => k = Bs) W W') (hne : B6 ≠ Bs ∧ B7 ≠ Bs ∧ B8 ≠ Bs) (hlo : lo ≤ Bs) (hBs : lo ≤ w.heap.size) : NI w W' lo Ba Bn Bs B6 B7 B8 v R :=
  h.keep (fun k cs t fr hb hn => hk.block k hb.lt hn) hne (hk.below (Nat.le_trans hBs h.below.size) (fun k e => by omega))
theorem NI.put {w W : World} {lo Ba Bn Bs B6 B7 B8 l : Nat} {v : Value} {R : List Int} {o o' : Obj} (h : NI w W lo Ba Bn Bs B6 B7 B8 v R) (hne : B6 ≠ Bs ∧ B7 ≠ Bs ∧ B8 ≠ Bs) (hl : lo ≤ l) (ho : W.heap[l]? = some o) (hc : o.isCells = false) : NI w (W.putObj l o') lo Ba Bn Bs B6 B7 B8 v R :=
  h.keep (fun k cs t fr hb _ => World.putObj_heap_other (fun e => by
    subst e
    rw [show W.heap[k]? = _ from hb] at ho
    obtain rfl := Option.some.inj ho
    cases hc)) hne (below_put (Below.refl _ _) hl)
theorem nodes_nilW (m : Nat) (s : Int) (va : Value) (w : World) : CallsIn Fence.wide m Tryd.prog 23 #[.pointer none, .int .i64 s, va] w fun e w' => e = .returned (.tuple #[.slice none 0 0, .bool false]) ∧ Below w.heap.size w w' := by
  refine callsIn_wide.2 ?_
  go_enter Tryd.func23, Tryd.ntmps23
  go_wp2_with fail
  refine (node_nil s _).mono ?_
  rintro e w' ⟨rfl, rfl⟩
  go_wp2_with fail
  exact bodyPost_ret (v := .tuple #[.slice none 0 0, .bool false]) (by simp [results, Tryd.results23, go_sem]) rfl ⟨rfl, ((Below.refl _ _).alloc (Nat.le_refl _) _).alloc (by simp) _⟩
set_option maxRecDepth 100000 in
set_option maxHeartbeats 8000000 in
theorem wnodes_in (m : Nat) (hm : 4 ≤ m) (p : Nat) (g : Raw) (s : Int) (va : Value) (L : List Int) (hL : L.length ≤ 100000) (w : World) (hn : NetAt w p g) (ha : SlX w va L) :
    CallsIn Fence.wide m Tryd.prog 23 #[.pointer (some ⟨p, 0, none⟩), .int .i64 s, va] w fun e w' => ∃ v, e = .returned (.tuple #[v, .bool (nodesV g s L).isSome]) ∧ w'.ownsRow w.heap.size 3 1 v ((nodesV g s L).getD []).length (((nodesV g s L).getD []).flatMap inC) ∧ Below w.heap.size w w' := by
  have h1 : 1 ≤ m := by omega
  obtain ⟨a, cap, rfl, _⟩ := id ha
  obtain ⟨i0, hi, hz0, hz1, hz2⟩ := info_parts infoInt
  have HI := Lib.hid (And.intro hi (And.intro hz0 (And.intro hz1 hz2)))
  have HA := Lib.hid ha; have HN := Lib.hid hn
  clear ha hn hi hz0 hz1 hz2
  obtain ⟨b0, hb0⟩ : ∃ b, b = decide (0 ≤ s ∧ s < g.nodes) := ⟨_, rfl⟩
  have HCn := Lib.hid (fun u (hu : Below w.heap.size w u) => node_any p g s u (HN.out.keep (KpC.of_below hu)))
  rw [← hb0] at HCn
  have Hb0 := Lib.hid hb0
  clear hb0
  refine callsIn_of_wp_marks Tryd.func23 rfl trivial ?_ rfl
  simp only [Tryd.ntmps23, List.size_toArray, List.length_cons, List.length_nil, Nat.reduceAdd, Nat.reduceSub, Array.replicate_succ, Array.replicate_zero, List.push_toArray, List.append_toArray, List.nil_append, List.cons_append]
  have hb2 : Below w.heap.size w ((w.alloc (.cells #[.slice none 0 0] 35)).alloc (.cells #[.bool false] 4)) := ((Below.refl _ _).alloc (Nat.le_refl _) _).alloc (by simp) _
  have HB2 := Lib.hid hb2
  clear hb2
  cases b0 with
  | false =>
    have hno : nodesV g s L = none := by unfold nodesV; rw [if_neg (of_decide_eq_false Hb0.out.symm)]
    have HNo := Lib.hid hno
    clear hno
    gi_wp2_with (refine ⟨trivial, ?_⟩; gi_at_call 36; refine (callsIn_wide.2 (HCn.out _ HB2.out)).mono ?_; rintro e w' ⟨rfl, rfl⟩)
    refine leaves_marks (by simp) _ _ trivial HB2.out fun w' hk' hb' => ?_
    have k6 : Blk w' w.heap.size #[.slice none 0 0] 35 (0, 0) := hk'.blk ((Blk.new _ _ _ _).alloc _)
    have k7 : Blk w' (w.heap.size + 1) #[.bool false] 4 (0, 0) := hk'.blk (by have h := Blk.new (w.alloc (.cells #[.slice none 0 0] 35)) #[.bool false] 4 (0, 0); rwa [World.size_alloc] at h)
    have c6 := k6.cell 0; have c7 := k7.cell 0
    simp only [List.getElem?_toArray, List.getElem?_cons_zero] at c6 c7
    refine ⟨.tuple #[.slice none 0 0, .bool false], by simp [results, Tryd.results23, c6, c7, go_sem], .slice none 0 0, by rw [HNo.out]; rfl, by rw [HNo.out]; exact World.ownsRow_nil _ _ _ _, hb'⟩
  | true =>
    have hs := of_decide_eq_true Hb0.out.symm
    have hst := nodesV_steps g s L hs
    have HSt := Lib.hid hst
    clear hst
    obtain ⟨z, hz⟩ : ∃ b, b = w.heap.size := ⟨_, rfl⟩
    obtain ⟨wA, hwA⟩ : ∃ u, u = (((w.alloc (.cells #[.slice none 0 0] 35)).alloc (.cells #[.bool false] 4)).alloc (.cells #[.int .i64 s] 3)).alloc (.cells #[.slice (some ⟨w.heap.size + 1 + 1, 0, none⟩) 1 1] 35) := ⟨_, rfl⟩
    have hbA : Below w.heap.size w wA := by rw [hwA]; exact ((((Below.refl _ _).alloc (Nat.le_refl _) _).alloc (by simp) _).alloc (by simp; omega) _).alloc (by simp; omega) _
    have hzA : wA.heap.size = z + 4 := by rw [hwA, hz]; simp
    have k6 : Blk wA z #[.slice none 0 0] 35 (0, 0) := by rw [hwA, hz]; exact (((Blk.new _ _ _ _).alloc _).alloc _).alloc _
    have k7 : Blk wA (z + 1) #[.bool false] 4 (0, 0) := by
      rw [hwA, hz]
      have h := Blk.new (w.alloc (.cells #[.slice none 0 0] 35)) #[.bool false] 4 (0, 0)
      rw [World.size_alloc] at h
      exact (h.alloc _).alloc _
    have kl : Blk wA (z + 2) #[.int .i64 s] 3 (0, 0) := by
      rw [hwA, hz]
      have h := Blk.new ((w.alloc (.cells #[.slice none 0 0] 35)).alloc (.cells #[.bool false] 4)) #[.int .i64 s] 3 (0, 0)
      rw [World.size_alloc, World.size_alloc] at h
      exact h.alloc _
    have k8 : Blk wA (z + 3) #[.slice (some ⟨z + 2, 0, none⟩) 1 1] 35 (0, 0) := by
      rw [hwA, hz]
      have h := Blk.new (((w.alloc (.cells #[.slice none 0 0] 35)).alloc (.cells #[.bool false] 4)).alloc (.cells #[.int .i64 s] 3)) #[.slice (some ⟨w.heap.size + 1 + 1, 0, none⟩) 1 1] 35 (0, 0)
      rw [World.size_alloc, World.size_alloc, World.size_alloc] at h
      exact h
    have HWA := Lib.hid hwA; have HBA := Lib.hid hbA; have HZA := Lib.hid hzA; have HKA := Lib.hid (And.intro k6 (And.intro k7 (And.intro kl k8))); have HZ := Lib.hid hz
    clear hwA hbA hzA k6 k7 kl k8
    gi_wp2_with (refine ⟨trivial, ?_⟩; gi_at_call 36; refine (callsIn_wide.2 (HCn.out _ HB2.out)).mono ?_; rintro e w' ⟨rfl, rfl⟩)
    rw [← HWA.out, ← HZ.out]
    clear hz
    refine ⟨trivial, ?_⟩
    refine (steps_in (m - 1) (some ⟨p, 0, none⟩) s _ rfl wA).mono ?_
    rintro e W0 ⟨rfl, hW0⟩
    rw [HZA.out]
    have hz0 : W0.heap.size = z + 7 := by rw [hW0]; simp [HZA.out]
    have hb0 : Below wA.heap.size wA W0 := by rw [hW0]; exact (((Below.refl _ _).alloc (Nat.le_refl _) _).alloc (by simp) _).alloc (by simp; omega) _
    have kn : Blk W0 (z + 4) #[.pointer (some ⟨p, 0, none⟩)] 28 (0, 0) := by rw [hW0, ← HZA.out]; exact ((Blk.new _ _ _ _).alloc _).alloc _
    have ks : Blk W0 (z + 4 + 1) #[.int .i64 s] 3 (0, 0) := by
      rw [hW0, ← HZA.out]
      have h := Blk.new (wA.alloc (.cells #[.pointer (some ⟨p, 0, none⟩)] 28)) #[.int .i64 s] 3 (0, 0)
      rw [World.size_alloc] at h
      exact h.alloc _
    have ka : Blk W0 (z + 4 + 1 + 1) #[.slice a L.length cap] 35 (0, 0) := by
      rw [hW0, ← HZA.out]
      have h := Blk.new ((wA.alloc (.cells #[.pointer (some ⟨p, 0, none⟩)] 28)).alloc (.cells #[.int .i64 s] 3)) #[.slice a L.length cap] 35 (0, 0)
      rw [World.size_alloc, World.size_alloc] at h
      exact h
    have hbw : Below w.heap.size w W0 := HBA.out.next' hb0
    rw [← HZ.out] at hbw
    have k6 := HKA.out.1.below hb0 HKA.out.1.lt
    have k7 := HKA.out.2.1.below hb0 HKA.out.2.1.lt
    have kl := HKA.out.2.2.1.below hb0 HKA.out.2.2.1.lt
    have k8 := HKA.out.2.2.2.below hb0 HKA.out.2.2.2.lt
    have hNI : NI w W0 z (z + 4 + 1 + 1) (z + 4) (z + 4 + 1) z (z + 1) (z + 1 + 1 + 1) (.slice (some ⟨z + 1 + 1, 0, none⟩) 1 1) (rowN s []) := ⟨k8, ⟨rfl, .inr ⟨z + 1 + 1, 1, #[.int .i64 s], rfl, by omega, kl, Nat.le_refl _, by unfold maxLen; omega, rfl, rfl⟩⟩, fun gg hg => by (have : z + 1 + 1 = gg := by simpa [Value.ownBlock] using hg); omega, k6, k7, hbw⟩
    have hne : z ≠ z + 4 + 1 ∧ z + 1 ≠ z + 4 + 1 ∧ z + 1 + 1 + 1 ≠ z + 4 + 1 := ⟨by omega, by omega, by omega⟩
    have hkp : ∀ u, Below z w u → NetAt u p g := fun u hu => HN.out.keep (KpC.of_below (by rw [HZ.out] at hu; exact hu))
    have hka : ∀ u, Below z w u → SlX u (.slice a L.length cap) L := fun u hu => HA.out.keep (KpC.of_below (by rw [HZ.out] at hu; exact hu))
    have HW0 := Lib.hid (And.intro hz0 (And.intro hbw (And.intro hkp hka)))
    have HK0 := Lib.hid (And.intro kn (And.intro ks (And.intro ka hNI)))
    clear hW0 hb0 kn ks ka k6 k7 kl k8 hNI hz0 hbw hkp hka HKA HWA HBA HZA
    gi_wp2_with fail
    have hz0 := HW0.out.1
    refine wpIn_rangeSt (F := Fence.wide) rfl h1 (gf := 53) (lb := #[.pointer (some ⟨z + 4 + 1 + 1, 0, none⟩), .pointer (some ⟨z + 4, 0, none⟩), .pointer (some ⟨z + 4 + 1, 0, none⟩)]) rfl trivial (enters_of Tryd.func53 (by kernel_rfl) rfl)
      encS (fun _ => rfl) (fun A B => Kept (fun k => k = z + 4 + 1) A B) (KpW z (z + 4 + 1 + 1) (z + 4) (z + 4 + 1)) (fun ys => ys = stepsV g s L) (fun pre => pre <+: stepsV g s L) L.length
      (fun l J Jx W hb hJ _ hY h0 => by
        have hbz : Below z w W := HW0.out.2.1.trans (hb.mono (by omega))
        exact steps1_in (m - 1) (by omega) l (z + 4 + 1 + 1) (z + 4) (z + 4 + 1) z w p g _ L s HW0.out.2.2.1 HW0.out.2.2.2 ⟨by omega, by omega, by omega⟩ ⟨by omega, by omega⟩ J Jx hJ hY W hbz (by have := hb.size; omega) (HK0.out.2.2.1.below hb HK0.out.2.2.1.lt) (HK0.out.1.below hb HK0.out.1.lt) (HK0.out.2.1.below hb HK0.out.2.1.lt) h0)
      (fun A B k o h hk ho hc => (h.block k (Array.getElem?_eq_some_iff.1 ho).1 (by omega)).trans ho)
      (fun pre W => (∃ v, NI w W z (z + 4 + 1 + 1) (z + 4) (z + 4 + 1) z (z + 1) (z + 1 + 1 + 1) v (rowN s pre)) ∧ pre.length ≤ L.length ∧ okA pre = true ∧ W0.heap.size ≤ W.heap.size)
      (fun s A B h hst => by obtain ⟨⟨v, h⟩, h2, h3, h4⟩ := h; exact ⟨⟨v, h.st hst hne (by omega) (by have := HZ.out; omega)⟩, h2, h3, Nat.le_trans h4 hst.size⟩)
      (fun s A l o o' h hl ho hc => by obtain ⟨⟨v, h⟩, h2⟩ := h; exact ⟨⟨v, h.put hne (by omega) ho hc⟩, by simpa using h2⟩)
      (fun s A o h => by obtain ⟨⟨v, h⟩, h2⟩ := h; exact ⟨⟨v, h.keep (fun k cs t fr hb _ => Below.heap_alloc _ _ _ hb.lt) hne ((Below.refl _ _).alloc (by have := h.below.size; have := HZ.out; omega) _)⟩, h2.1, h2.2.1, by simp; omega⟩)
      (fun c pre W => c = .ret ∧ okA pre = false ∧ Blk W z #[.slice none 0 0] 35 (0, 0) ∧ Blk W (z + 1) #[.bool false] 4 (0, 0) ∧ Below z w W)
      (fun c s A B h hst => ⟨h.1, h.2.1, hst.blk h.2.2.1 (by omega), hst.blk h.2.2.2.1 (by omega), h.2.2.2.2.trans (hst.below (by have := h.2.2.2.2.size; have := HZ.out; omega) (fun k e => by omega))⟩)
      (fun c s A l o o' h hl ho hc => ⟨h.1, h.2.1, (KpC.put ho hc).blk h.2.2.1, (KpC.put ho hc).blk h.2.2.2.1, below_put h.2.2.2.2 (by omega)⟩)
      KpW.trans (fun W l o o' hl h h1 => KpW.put (w := W0) (by omega) ⟨by omega, by omega, by omega⟩ W l o o' hl h h1)
      ⟨⟨_, HK0.out.2.2.2⟩, Nat.zero_le _, rfl, Nat.le_refl _⟩
      (fun pre x a1 W => ∃ Bx, a1 = { tmps := #[.pointer (some ⟨p, 0, none⟩), .int .i64 s, .slice a L.length cap, undef, undef, undef, .pointer (some ⟨z, 0, none⟩), .pointer (some ⟨z + 1, 0, none⟩), .pointer (some ⟨z + 1 + 1 + 1, 0, none⟩), .pointer (some ⟨Bx, 0, none⟩), .bool x.2, .pointer (some ⟨p, 0, none⟩), .int .i64 s, .bool true, .bool false, .int .i64 s, .slice (some ⟨z + 1 + 1, 0, none⟩) 1 1, .pointer (some ⟨p, 0, none⟩), .int .i64 s, .slice a L.length cap, .func (.func 53) #[] #[.pointer (some ⟨z + 4 + 1 + 1, 0, none⟩), .pointer (some ⟨z + 4, 0, none⟩), .pointer (some ⟨z + 4 + 1, 0, none⟩)], arV x.1, .bool x.2, undef, undef, undef, undef, undef, undef, undef, undef], defers := [] } ∧ Blk W Bx #[.int .i64 x.1.1, .int .i64 x.1.2.1, .int .i64 x.1.2.2] 58 (0, 0) ∧ (∃ v, NI w W z (z + 4 + 1 + 1) (z + 4) (z + 4 + 1) z (z + 1) (z + 1 + 1 + 1) v (rowN s pre)) ∧ pre.length < L.length ∧ okA pre = true ∧ W0.heap.size ≤ W.heap.size)
      (fun pre x a1 W l o o' h hl ho hc => by obtain ⟨Bx, e, h1, ⟨v, h2⟩, h3⟩ := h; exact ⟨Bx, e, (KpC.put ho hc).blk h1, ⟨v, h2.put hne (by omega) ho hc⟩, by simpa using h3⟩)
      ?assign ?body ?done ?stop
    case assign =>
      intro l pre x W K hI hlt hK
      obtain ⟨⟨x0, x1, x2⟩, q⟩ := x
      dsimp only [encS, arV]
      gi_wp2_with fail
      have hb4 : Below W.heap.size W (W.alloc (.cells #[.int .i64 x0, .int .i64 x1, .int .i64 x2] 58)) := (Below.refl _ _).alloc (Nat.le_refl _) _
      obtain ⟨⟨v, h1⟩, h2, h3, h4⟩ := hI
      exact hK _ _ ⟨W.heap.size, rfl, Blk.new _ _ _ _, ⟨v, h1.keep (fun k cs t fr hb _ => Below.heap_alloc _ _ _ hb.lt) hne ((Below.refl _ _).alloc (by omega) _)⟩, hlt, h3, by simp; omega⟩ ((KeepsOthers.alloc _ _).from _) (KpW.of_below hb4 (by omega) ⟨by omega, by omega, by omega⟩)
    case body =>
      rintro l' pre ⟨⟨x0, x1, x2⟩, q⟩ a1 W ⟨Bx, rfl, kx, ⟨v, hN⟩, hlt, hall, hszW⟩ hlt'
      dsimp only
      cases q with
      | false =>
        have c6 := hN.six.free 0 (Or.inr (Nat.zero_le _)); have c7 := hN.sev.free 0 (Or.inr (Nat.zero_le _))
        have d6 := hN.six.cell 0; have d7 := hN.sev.cell 0
        simp only [List.getElem?_toArray, List.getElem?_cons_zero] at d6 d7
        gi_wp2_with fail
        exact ⟨((KeepsOthers.setCell _ _ _).trans (KeepsOthers.setCell _ _ _)).from _, rfl, by rw [okA_snoc]; simp, (hN.six.set 0 _).setOther _ _ (by simp), (hN.sev.setOther _ _ (by simp)).set 0 _, (hN.below.setCell (p := ⟨z, 0, none⟩) (Nat.le_refl _) _).setCell (p := ⟨z + 1, 0, none⟩) (by simp) _⟩
      | true =>
        have c0 := kx.cell 1
        have hc := hN.box.cell
        have hrow := hN.row
        simp only [List.getElem?_toArray, List.getElem?_cons_succ, List.getElem?_cons_zero] at c0
        obtain ⟨va, vn, vc, rfl⟩ : ∃ a n c, v = .slice a n c := by
          rcases hrow.2 with ⟨rfl, _⟩ | ⟨gg, cap, cur, rfl, _⟩
          · exact ⟨_, _, _, rfl⟩
          · exact ⟨_, _, _, rfl⟩
        have hln := rowN_len s pre
        have HN' := Lib.hid hN
        gi_wp2_with (gi_at_builtin; refine wpListIn_append_own_at (F := _) _ rfl _ _ 35 rfl z 3 i0 (.int .i64 0) 1 8 Tryd.underlying35 HI.out.1 HI.out.2.1 HI.out.2.2.1 HI.out.2.2.2 rfl (by decide) _ _ _ rfl (hrow.alloc _) ⟨W.heap.size, 0, none⟩ 1 1 [.int .i64 x1] rfl rfl (cell_one_new _ _ _) (by simp [Value.oneCell']) (by unfold maxLen; omega) (by omega) (by simp; omega) ?_; intro v' w1 hown' hgrow _ hat; obtain ⟨g', cap', rfl⟩ := ownsRow_succ hown'; obtain ⟨hv1, hv2, hr2, hk2, hb2⟩ := hN.box.appended (by decide) hrow (by omega) (by omega) hown' hgrow; have hc1 := hv1.cell; have hf1 := hv1.frozen)
        rw [hln] at hv2 hr2 hk2 hb2 hat
        have hk : ∀ k, k < W.heap.size → k ≠ z + 1 + 1 + 1 → (Value.slice va vn vc).ownBlock ≠ some k → (w1.setCell ⟨z + 1 + 1 + 1, 0, none⟩ (.slice (some ⟨g', 0, none⟩) (pre.length + 1 + 1) cap')).heap[k]? = W.heap[k]? := fun k hk n1 n2 => (heap_setCell_other _ _ _ _ n1).trans ((hgrow.block k (by simp; omega) (fun e => n2 e.symm)).trans (Below.heap_alloc W _ k hk))
        have hkt : ∀ k cs t fr, Blk W k cs t fr → k ≠ z + 1 + 1 + 1 → t ≠ 3 → (w1.setCell ⟨z + 1 + 1 + 1, 0, none⟩ (.slice (some ⟨g', 0, none⟩) (pre.length + 1 + 1) cap')).heap[k]? = W.heap[k]? := fun k cs t fr hb n1 n2 => hk k hb.lt n1 fun e => by obtain ⟨_, _, hq⟩ := ownsRow_blk' hrow e; exact blk_ne hb hq n2 rfl
        have hoff : ∀ gg, (Value.slice (some ⟨g', 0, none⟩) (pre.length + 1 + 1) cap').ownBlock = some gg → gg ≠ z + 4 + 1 ∧ gg ≠ z + 4 + 1 + 1 ∧ gg ≠ z + 4 := fun gg hg => by
          rcases hat with e | e
          · exact hN.off gg (e ▸ hg)
          · rw [e] at hg
            have : (W.alloc (.cells #[.int .i64 x1] 3)).heap.size = gg := by simpa using hg
            simp at this; omega
        have hrw : rowN s (pre ++ [((x0, x1, x2), true)]) = rowN s pre ++ [x1] := rowN_snoc s pre _
        refine ⟨hk2.from _, ⟨hb2, fun b hb => hk b (by omega) (by omega) (fun e => ?_), fun k cs fr hb => (hkt k cs _ fr hb (blk_ne hb hN.box (by decide)) (by decide)).trans hb⟩, ⟨_, hv2, ?_, hoff, (hkt _ _ _ _ hN.six (by omega) (by decide)).trans hN.six, (hkt _ _ _ _ hN.sev (by omega) (by decide)).trans hN.sev, hN.below.trans hb2⟩, by simp; omega, by rw [okA_snoc, hall]; rfl, by have := hb2.size; omega⟩
        · have := hN.off b e; omega
        · rw [hrw]; simpa [inC, hln] using hr2
    case done =>
      rintro D ys W hD rfl ⟨⟨v, hN⟩, hlen, hall, hsz⟩ hDf
      obtain ⟨va, vn, vc, rfl⟩ : ∃ a n c, v = .slice a n c := by
        rcases hN.row.2 with ⟨rfl, _⟩ | ⟨gg, cap, cur, rfl, _⟩
        · exact ⟨_, _, _, rfl⟩
        · exact ⟨_, _, _, rfl⟩
      have hc := hN.box.cell
      have c6 := hN.six.free 0 (Or.inr (Nat.zero_le _)); have c7 := hN.sev.free 0 (Or.inr (Nat.zero_le _))
      have d6 := hN.six.cell 0; have d7 := hN.sev.cell 0
      simp only [List.getElem?_toArray, List.getElem?_cons_zero] at d6 d7
      have hrow := hN.row
      have hyes : nodesV g s L = some (rowN s (stepsV g s L)) := by rw [HSt.out, if_pos hall]
      have HY := Lib.hid (And.intro hyes (And.intro hrow hN))
      clear hrow hyes hN
      gi_wp2_with fail
      have k6 := (HY.out.2.2.six.set 0 (.slice va vn vc)).setOther ⟨z + 1, 0, none⟩ (.bool true) (by simp)
      have k7 := (HY.out.2.2.sev.setOther ⟨z, 0, none⟩ (.slice va vn vc) (by simp)).set 0 (.bool true)
      have hbE : Below z w ((W.setCell ⟨z, 0, none⟩ (.slice va vn vc)).setCell ⟨z + 1, 0, none⟩ (.bool true)) := (HY.out.2.2.below.setCell (p := ⟨z, 0, none⟩) (Nat.le_refl _) _).setCell (p := ⟨z + 1, 0, none⟩) (by simp) _
      have hrE : ((W.setCell ⟨z, 0, none⟩ (.slice va vn vc)).setCell ⟨z + 1, 0, none⟩ (.bool true)).ownsRow z 3 1 (.slice va vn vc) (rowN s (stepsV g s L)).length ((rowN s (stepsV g s L)).flatMap inC) := ownsRow_agree' HY.out.2.1 (fun k hk' => by
        obtain ⟨_, _, hq⟩ := ownsRow_blk' HY.out.2.1 hk'
        exact (heap_setCell_other _ _ _ _ (blk_ne hq HY.out.2.2.sev (by decide))).trans (heap_setCell_other _ _ _ _ (blk_ne hq HY.out.2.2.six (by decide))))
      have hDE : ((W.setCell ⟨z, 0, none⟩ (.slice va vn vc)).setCell ⟨z + 1, 0, none⟩ (.bool true)).heap[D]? = some (.deferred (some [])) := (heap_setCell_other _ _ _ _ (show D ≠ z + 1 by omega)).trans ((heap_setCell_other _ _ _ _ (show D ≠ z by omega)).trans hDf)
      rw [HY.out.1, ← HZ.out]
      refine leaves_marks (B := z) (by simp) _ _ ⟨⟨D, rfl, by omega, hDE, fun d' h => by cases h⟩, trivial⟩ hbE fun w' hk' hb' => ?_
      have m6 := hk'.blk k6; have m7 := hk'.blk k7
      have c6 : w'.cell? ⟨z, 0, none⟩ = some (.slice va vn vc) := m6.cell 0
      have c7 : w'.cell? ⟨z + 1, 0, none⟩ = some (.bool true) := m7.cell 0
      exact ⟨.tuple #[.slice va vn vc, .bool true], by simp [results, Tryd.results23, c6, c7, go_sem], _, rfl, ownsRow_agree' hrE (fun k e => by obtain ⟨_, _, hq⟩ := ownsRow_blk' hrE e; exact (hk'.blk hq).trans (show _ = _ from hq).symm), hb'⟩
    case stop =>
      rintro D c pre W hD hpre ⟨rfl, hall, k6, k7, hb⟩ hDf
      have hno : nodesV g s L = none := by rw [HSt.out, if_neg (by rw [okA_pre hpre hall]; simp)]
      gi_wp2_with fail
      rw [hno, ← HZ.out]
      refine leaves_marks (B := z) (by simp) _ _ ⟨⟨D, rfl, by omega, hDf, fun d' h => by cases h⟩, trivial⟩ hb fun w' hk' hb' => ?_
      have m6 := hk'.blk k6; have m7 := hk'.blk k7
      have c6 := m6.cell 0; have c7 := m7.cell 0
      simp only [List.getElem?_toArray, List.getElem?_cons_zero] at c6 c7
      exact ⟨.tuple #[.slice none 0 0, .bool false], by simp [results, Tryd.results23, c6, c7, go_sem], _, rfl, World.ownsRow_nil _ _ _ _, hb'⟩
end Go.Proofs.YtlddcnkiigamjaaDoor
