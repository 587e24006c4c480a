/- Texts of the law GridKnown, merged: GrOut, Append, GrRightP, GrTurnedP, GrMoveP, GrIts, GrMarks, GrPhase. -/
import Derived.Test.YtlddcnkiigamjaaDoorPGridKnown01
import Derived.Deep.AppendSrc
import Derived.Maps.AppendAt
import Derived.RegionTactic
import Derived.Deep.RegionLaw
import Derived.BigQuiet
import Derived.Deep.QuietTactic
import Derived.Test.YtlddcnkiigamjaaDoorPGridKnown00
/- a raw graph in a variable of the call's own, its lists ours: what it is, one element more. -/
namespace Go.Proofs.YtlddcnkiigamjaaDoor
open Go.RowKit
/-- the graph r lies in the variable Bo, its lists made behind w1 -/
structure OutI (w1 : World) (Bo : Nat) (vx vy va : Value) (r : Raw) (W : World) : Prop where
  blk : Blk W Bo #[.int .i64 r.nodes, vx, vy, va] 26 (0, 0)
  own : Own3 w1.heap.size W vx vy va r
  kept : Kept (· = Bo) w1 W
theorem Own3.below {base : Nat} {w w' : World} {vx vy va : Value} {r : Raw} (h : Own3 base w vx vy va r) (hb : Below w.heap.size w w') : Own3 base w' vx vy va r :=
  ⟨ownsRow_below h.1 hb, ownsRow_below h.2.1 hb, ownsRow_below h.2.2.1 hb, h.2.2.2⟩
theorem OutI.below {w1 : World} {Bo : Nat} {vx vy va : Value} {r : Raw} {W W' : World} (h : OutI w1 Bo vx vy va r W) (hb : Below W.heap.size W W') : OutI w1 Bo vx vy va r W' :=
  ⟨h.blk.below hb h.blk.lt, h.own.below hb, ⟨hb.os.trans h.kept.os, hb.tape.trans h.kept.tape, hb.output.trans h.kept.output, Nat.le_trans h.kept.size hb.size, fun k hk hs => (hb.block k (Nat.lt_of_lt_of_le hk h.kept.size)).trans (h.kept.block k hk hs)⟩⟩
theorem OutI.raw {w1 : World} {Bo : Nat} {vx vy va : Value} {r : Raw} {W : World} (h : OutI w1 Bo vx vy va r W) : RawO w1.heap.size W (.agg #[.int .i64 r.nodes, vx, vy, va]) r := ⟨vx, vy, va, rfl, h.own.1, h.own.2.1, h.own.2.2.1, h.own.2.2.2⟩

theorem OutI.pushX {w1 W : World} {Bo B : Nat} {vx vy va : Value} {r : Raw} {t : TypeId} {fr : Nat × Nat} {x : Int} (h : OutI w1 Bo vx vy va r W) (hB : Blk W B (inC x).toArray t fr) (hl : r.X.length ≤ 1000000) :
    ∃ v' W', (Builtin.append_ #[22, 22] 22 #[vx, .slice (some ⟨B, 0, none⟩) 1 1]).run Tryd.prog W = .ok v' W' ∧ (∃ a n c, v' = .slice a n c) ∧ Blk W' Bo #[.int .i64 r.nodes, vx, vy, va] 26 (0, 0) ∧ W.grownBy W' vx.ownBlock ∧ OutI w1 Bo v' vy va { r with X := r.X ++ [x] } (W'.setCell ⟨Bo, 1, none⟩ v') := by
  obtain ⟨i0, hi, hz0, hz1, hz2⟩ := info_parts infoI
  have hbase := h.kept.size
  have hs : SlF 1 W (.slice (some ⟨B, 0, none⟩) 1 1) 1 (inC x) := ⟨inC_len x, fun u hu => by simp only [inC, List.mem_cons, List.not_mem_nil, or_false] at hu; rw [hu]; rfl, _, 1, rfl, Nat.le_refl _, by unfold maxLen; omega, fun j u hu => ⟨B, 0, rfl, by rw [Nat.zero_add, hB.cell, List.getElem?_toArray]; exact hu⟩⟩
  obtain ⟨v', W', hr, hown, hg, hat, _⟩ := run_append_row (P := Tryd.prog) w1.heap.size 22 22 2 i0 _ 1 8 Tryd.underlying22 hi hz0 hz1 hz2 rfl (by omega) vx r.X.length _ h.own.1 _ 1 _ hs (by unfold maxLen; omega) (by omega) hbase
  have hBo : some Bo ≠ vx.ownBlock := fun e => by
    obtain ⟨_, c2, q2⟩ := ownsRow_blk' h.own.1 e.symm
    have e2 := (show W.heap[Bo]? = some _ from h.blk).symm.trans (show W.heap[Bo]? = some _ from q2)
    cases e2
  have hBlk : Blk W' Bo #[.int .i64 r.nodes, vx, vy, va] 26 (0, 0) := (hg.block Bo h.blk.lt hBo).trans h.blk
  have oth : ∀ {e : TypeId} {size : Nat} {v : Value} {n : Nat} {xs : List Value}, W.ownsRow w1.heap.size e size v n xs → (∀ b, v.ownBlock = some b → some b ≠ vx.ownBlock) → W'.ownsRow w1.heap.size e size v n xs := fun ho hd =>
    ownsRow_agree' ho fun k hk => hg.block k (ownsRow_blk' ho hk).2.choose_spec.lt (hd k hk)
  have oy := oth h.own.2.1 (fun b hb e => h.own.2.2.2 b e.symm hb)
  have oa := oth h.own.2.2.1 (fun b hb e => by
      obtain ⟨_, c1, q1⟩ := ownsRow_blk' h.own.2.2.1 hb
      obtain ⟨_, c2, q2⟩ := ownsRow_blk' h.own.1 e.symm
      have e2 := (show W.heap[b]? = some _ from q1).symm.trans (show W.heap[b]? = some _ from q2)
      cases e2)
  have hnew : W'.ownsRow w1.heap.size 2 1 v' (r.X ++ [x]).length ((r.X ++ [x]).flatMap inC) := by
    rw [List.length_append, List.flatMap_append]; simpa using hown
  have hK : Kept (· = Bo) w1 W' := ⟨hg.os.trans h.kept.os, hg.tape.trans h.kept.tape, hg.output.trans h.kept.output, Nat.le_trans h.kept.size hg.size, fun k hk hs => (hg.block k (by omega) (fun e => by have := (ownsRow_blk' h.own.1 e.symm).1; omega)).trans (h.kept.block k hk hs)⟩
  have hdx : ∀ b, v'.ownBlock = some b → ∀ {e : TypeId} {size : Nat} {v : Value} {n : Nat} {xs : List Value}, W.ownsRow w1.heap.size e size v n xs → (∀ b, v.ownBlock = some b → some b ≠ vx.ownBlock) → v.ownBlock = some b → False := fun b hb _ _ _ _ _ ho hd hv => by
    rcases hat with hat | hat
    · exact hd b hv (by rw [← hat, hb])
    · have e : b = W.heap.size := by rw [hat] at hb; exact (Option.some.inj hb).symm
      have := (ownsRow_blk' ho hv).2.choose_spec.lt
      omega
  obtain ⟨a', n', c', hv'⟩ := hown.one'
  refine ⟨v', W', hr, ⟨a', n', c', hv'⟩, hBlk, hg, ⟨?_, ?_, ?_⟩⟩
  · have h2 := hBlk.set 1 v'
    exact h2
  · exact Own3.set (r := { r with X := r.X ++ [x] }) (p := ⟨Bo, 1, none⟩) ⟨hnew, oy, oa, fun b h1 h2 => hdx b h1 h.own.2.1 (fun b hb e => h.own.2.2.2 b e.symm hb) h2⟩ hBlk (by decide) (by decide) v'
  · exact hK.setCell (p := ⟨Bo, 1, none⟩) rfl v'

theorem OutI.pushY {w1 W : World} {Bo B : Nat} {vx vy va : Value} {r : Raw} {t : TypeId} {fr : Nat × Nat} {x : Int} (h : OutI w1 Bo vx vy va r W) (hB : Blk W B (inC x).toArray t fr) (hl : r.Y.length ≤ 1000000) :
    ∃ v' W', (Builtin.append_ #[22, 22] 22 #[vy, .slice (some ⟨B, 0, none⟩) 1 1]).run Tryd.prog W = .ok v' W' ∧ (∃ a n c, v' = .slice a n c) ∧ Blk W' Bo #[.int .i64 r.nodes, vx, vy, va] 26 (0, 0) ∧ W.grownBy W' vy.ownBlock ∧ OutI w1 Bo vx v' va { r with Y := r.Y ++ [x] } (W'.setCell ⟨Bo, 2, none⟩ v') := by
  obtain ⟨i0, hi, hz0, hz1, hz2⟩ := info_parts infoI
  have hbase := h.kept.size
  have hs : SlF 1 W (.slice (some ⟨B, 0, none⟩) 1 1) 1 (inC x) := ⟨inC_len x, fun u hu => by simp only [inC, List.mem_cons, List.not_mem_nil, or_false] at hu; rw [hu]; rfl, _, 1, rfl, Nat.le_refl _, by unfold maxLen; omega, fun j u hu => ⟨B, 0, rfl, by rw [Nat.zero_add, hB.cell, List.getElem?_toArray]; exact hu⟩⟩
  obtain ⟨v', W', hr, hown, hg, hat, _⟩ := run_append_row (P := Tryd.prog) w1.heap.size 22 22 2 i0 _ 1 8 Tryd.underlying22 hi hz0 hz1 hz2 rfl (by omega) vy r.Y.length _ h.own.2.1 _ 1 _ hs (by unfold maxLen; omega) (by omega) hbase
  have hBo : some Bo ≠ vy.ownBlock := fun e => by
    obtain ⟨_, c2, q2⟩ := ownsRow_blk' h.own.2.1 e.symm
    have e2 := (show W.heap[Bo]? = some _ from h.blk).symm.trans (show W.heap[Bo]? = some _ from q2)
    cases e2
  have hBlk : Blk W' Bo #[.int .i64 r.nodes, vx, vy, va] 26 (0, 0) := (hg.block Bo h.blk.lt hBo).trans h.blk
  have oth : ∀ {e : TypeId} {size : Nat} {v : Value} {n : Nat} {xs : List Value}, W.ownsRow w1.heap.size e size v n xs → (∀ b, v.ownBlock = some b → some b ≠ vy.ownBlock) → W'.ownsRow w1.heap.size e size v n xs := fun ho hd =>
    ownsRow_agree' ho fun k hk => hg.block k (ownsRow_blk' ho hk).2.choose_spec.lt (hd k hk)
  have ox := oth h.own.1 (fun b hb e => h.own.2.2.2 b hb e.symm)
  have oa := oth h.own.2.2.1 (fun b hb e => by
      obtain ⟨_, c1, q1⟩ := ownsRow_blk' h.own.2.2.1 hb
      obtain ⟨_, c2, q2⟩ := ownsRow_blk' h.own.2.1 e.symm
      have e2 := (show W.heap[b]? = some _ from q1).symm.trans (show W.heap[b]? = some _ from q2)
      cases e2)
  have hnew : W'.ownsRow w1.heap.size 2 1 v' (r.Y ++ [x]).length ((r.Y ++ [x]).flatMap inC) := by
    rw [List.length_append, List.flatMap_append]; simpa using hown
  have hK : Kept (· = Bo) w1 W' := ⟨hg.os.trans h.kept.os, hg.tape.trans h.kept.tape, hg.output.trans h.kept.output, Nat.le_trans h.kept.size hg.size, fun k hk hs => (hg.block k (by omega) (fun e => by have := (ownsRow_blk' h.own.2.1 e.symm).1; omega)).trans (h.kept.block k hk hs)⟩
  have hdx : ∀ b, v'.ownBlock = some b → ∀ {e : TypeId} {size : Nat} {v : Value} {n : Nat} {xs : List Value}, W.ownsRow w1.heap.size e size v n xs → (∀ b, v.ownBlock = some b → some b ≠ vy.ownBlock) → v.ownBlock = some b → False := fun b hb _ _ _ _ _ ho hd hv => by
    rcases hat with hat | hat
    · exact hd b hv (by rw [← hat, hb])
    · have e : b = W.heap.size := by rw [hat] at hb; exact (Option.some.inj hb).symm
      have := (ownsRow_blk' ho hv).2.choose_spec.lt
      omega
  obtain ⟨a', n', c', hv'⟩ := hown.one'
  refine ⟨v', W', hr, ⟨a', n', c', hv'⟩, hBlk, hg, ⟨?_, ?_, ?_⟩⟩
  · have h2 := hBlk.set 2 v'
    exact h2
  · exact Own3.set (r := { r with Y := r.Y ++ [x] }) (p := ⟨Bo, 2, none⟩) ⟨ox, hnew, oa, fun b h1 h2 => hdx b h2 h.own.1 (fun b hb e => h.own.2.2.2 b hb e.symm) h1⟩ hBlk (by decide) (by decide) v'
  · exact hK.setCell (p := ⟨Bo, 2, none⟩) rfl v'

theorem OutI.pushA {w1 W : World} {Bo B : Nat} {vx vy va : Value} {r : Raw} {t : TypeId} {fr : Nat × Nat} {x : Ar} (h : OutI w1 Bo vx vy va r W) (hB : Blk W B (arC x).toArray t fr) (hl : r.arcs.length ≤ 1000000) :
    ∃ v' W', (Builtin.append_ #[24, 24] 24 #[va, .slice (some ⟨B, 0, none⟩) 1 1]).run Tryd.prog W = .ok v' W' ∧ (∃ a n c, v' = .slice a n c) ∧ Blk W' Bo #[.int .i64 r.nodes, vx, vy, va] 26 (0, 0) ∧ W.grownBy W' va.ownBlock ∧ OutI w1 Bo vx vy v' { r with arcs := r.arcs ++ [x] } (W'.setCell ⟨Bo, 3, none⟩ v') := by
  obtain ⟨i0, hi, hz0, hz1, hz2⟩ := info_parts infoA
  have hbase := h.kept.size
  have hs : SlF 3 W (.slice (some ⟨B, 0, none⟩) 1 1) 1 (arC x) := ⟨arC_len x, fun u hu => by simp only [arC, List.mem_cons, List.not_mem_nil, or_false] at hu; rcases hu with rfl | rfl | rfl <;> rfl, _, 1, rfl, Nat.le_refl _, by unfold maxLen; omega, fun j u hu => ⟨B, 0, rfl, by rw [Nat.zero_add, hB.cell, List.getElem?_toArray]; exact hu⟩⟩
  obtain ⟨v', W', hr, hown, hg, hat, _⟩ := run_append_row (P := Tryd.prog) w1.heap.size 24 24 58 i0 _ 3 24 Tryd.underlying24 hi hz0 hz1 hz2 rfl (by omega) va r.arcs.length _ h.own.2.2.1 _ 1 _ hs (by unfold maxLen; omega) (by omega) hbase
  have hBo : some Bo ≠ va.ownBlock := fun e => by
    obtain ⟨_, c2, q2⟩ := ownsRow_blk' h.own.2.2.1 e.symm
    have e2 := (show W.heap[Bo]? = some _ from h.blk).symm.trans (show W.heap[Bo]? = some _ from q2)
    cases e2
  have hBlk : Blk W' Bo #[.int .i64 r.nodes, vx, vy, va] 26 (0, 0) := (hg.block Bo h.blk.lt hBo).trans h.blk
  have oth : ∀ {e : TypeId} {size : Nat} {v : Value} {n : Nat} {xs : List Value}, W.ownsRow w1.heap.size e size v n xs → (∀ b, v.ownBlock = some b → some b ≠ va.ownBlock) → W'.ownsRow w1.heap.size e size v n xs := fun ho hd =>
    ownsRow_agree' ho fun k hk => hg.block k (ownsRow_blk' ho hk).2.choose_spec.lt (hd k hk)
  have ox := oth h.own.1 (fun b hb e => by
      obtain ⟨_, c1, q1⟩ := ownsRow_blk' h.own.1 hb
      obtain ⟨_, c2, q2⟩ := ownsRow_blk' h.own.2.2.1 e.symm
      have e2 := (show W.heap[b]? = some _ from q1).symm.trans (show W.heap[b]? = some _ from q2)
      cases e2)
  have oy := oth h.own.2.1 (fun b hb e => by
      obtain ⟨_, c1, q1⟩ := ownsRow_blk' h.own.2.1 hb
      obtain ⟨_, c2, q2⟩ := ownsRow_blk' h.own.2.2.1 e.symm
      have e2 := (show W.heap[b]? = some _ from q1).symm.trans (show W.heap[b]? = some _ from q2)
      cases e2)
  have hnew : W'.ownsRow w1.heap.size 58 3 v' (r.arcs ++ [x]).length ((r.arcs ++ [x]).flatMap arC) := by
    rw [List.length_append, List.flatMap_append]; simpa using hown
  have hK : Kept (· = Bo) w1 W' := ⟨hg.os.trans h.kept.os, hg.tape.trans h.kept.tape, hg.output.trans h.kept.output, Nat.le_trans h.kept.size hg.size, fun k hk hs => (hg.block k (by omega) (fun e => by have := (ownsRow_blk' h.own.2.2.1 e.symm).1; omega)).trans (h.kept.block k hk hs)⟩
  have hdx : ∀ b, v'.ownBlock = some b → ∀ {e : TypeId} {size : Nat} {v : Value} {n : Nat} {xs : List Value}, W.ownsRow w1.heap.size e size v n xs → (∀ b, v.ownBlock = some b → some b ≠ va.ownBlock) → v.ownBlock = some b → False := fun b hb _ _ _ _ _ ho hd hv => by
    rcases hat with hat | hat
    · exact hd b hv (by rw [← hat, hb])
    · have e : b = W.heap.size := by rw [hat] at hb; exact (Option.some.inj hb).symm
      have := (ownsRow_blk' ho hv).2.choose_spec.lt
      omega
  obtain ⟨a', n', c', hv'⟩ := hown.one'
  refine ⟨v', W', hr, ⟨a', n', c', hv'⟩, hBlk, hg, ⟨?_, ?_, ?_⟩⟩
  · have h2 := hBlk.set 3 v'
    exact h2
  · exact Own3.set (r := { r with arcs := r.arcs ++ [x] }) (p := ⟨Bo, 3, none⟩) ⟨ox, oy, hnew, h.own.2.2.2⟩ hBlk (by decide) (by decide) v'
  · exact hK.setCell (p := ⟨Bo, 3, none⟩) rfl v'
end Go.Proofs.YtlddcnkiigamjaaDoor
/-
  append ONTO A SLICE THAT IS OURS, OF WHATEVER SOURCE (a slice, a string): one law; and as a step of a region, drawn or not.
-/
namespace Go.Proofs.YtlddcnkiigamjaaDoor
open Go.RowKit
/-- the cells from o on written over -/
def putAt (cs : Array Value) (o : Nat) : List Value → Array Value
  | [] => cs
  | v :: vs => putAt (cs.setIfInBounds o v) (o + 1) vs
theorem putAt_size (vs : List Value) : ∀ (cs : Array Value) (o : Nat), (putAt cs o vs).size = cs.size := by
  induction vs with
  | nil => intro cs o; rfl
  | cons v vs ih => intro cs o; show (putAt _ _ vs).size = _; rw [ih]; simp
theorem putAt_get (vs : List Value) : ∀ (cs : Array Value) (o j : Nat), o + vs.length ≤ cs.size → (putAt cs o vs)[j]? = if o ≤ j ∧ j < o + vs.length then vs[j - o]? else cs[j]? := by
  induction vs with
  | nil => intro cs o j _; rw [if_neg (by simp <;> omega)]; first | done | rfl
  | cons v vs ih =>
    intro cs o j h
    simp only [List.length_cons] at h
    show (putAt _ _ vs)[j]? = _
    rw [ih _ _ _ (by simp; omega)]
    simp only [List.length_cons]
    by_cases h1 : o + 1 ≤ j ∧ j < o + 1 + vs.length
    · rw [if_pos h1, if_pos (by omega)]
      obtain ⟨d, rfl⟩ : ∃ d, j = o + 1 + d := ⟨j - (o + 1), by omega⟩
      rw [show o + 1 + d - (o + 1) = d by omega, show o + 1 + d - o = d + 1 by omega]; rfl
    · rw [if_neg h1]
      by_cases h2 : j = o
      · subst h2
        rw [if_pos (by omega), Nat.sub_self]
        simp [show j < cs.size by omega]
      · rw [if_neg (by omega), Array.getElem?_setIfInBounds_ne (Ne.symm h2)]
theorem setCells_blk (t : TypeId) (fr : Nat × Nat) (b : Nat) (vs : List Value) : ∀ (w : World) (o : Nat) (cs : Array Value), Blk w b cs t fr → Blk (w.setCells b o vs) b (putAt cs o vs) t fr := by
  induction vs with
  | nil => intro w o cs h; exact h
  | cons v vs ih => intro w o cs h; exact ih _ _ _ (h.set o v)
theorem setCells_grown (b : Nat) (vs : List Value) : ∀ (w : World) (o : Nat), w.grownBy (w.setCells b o vs) (some b) := by
  induction vs with
  | nil => intro w o; exact ⟨rfl, rfl, rfl, Nat.le_refl _, fun _ _ _ => rfl⟩
  | cons v vs ih =>
    intro w o
    have h := ih (w.setCell ⟨b, o, none⟩ v) (o + 1)
    have hs : (w.setCell ⟨b, o, none⟩ v).heap.size = w.heap.size := by simp [World.setCell]
    exact ⟨h.os, h.tape, h.output, by rw [← hs]; exact h.size, fun k hk hne => (h.block k (by rw [hs]; exact hk) hne).trans (heap_setCell_other _ _ _ _ (fun e => hne (by rw [e])))⟩
theorem firstCells_own {P : Program} {w : World} {base : Nat} {e : TypeId} {v : Value} {n : Nat} {xs : List Value} (h : w.ownsRow base e 1 v n xs) {a : Option Addr} {cap : Nat} (hv : v = .slice a n cap) :
    (Builtin.firstCells 1 n v).run P w.drew = .ok xs.toArray w.drew := by
  subst hv
  have hx : xs.length = n * 1 := h.1
  cases a with
  | none =>
    rcases h.2 with ⟨_, h0⟩ | ⟨g, c, cur, e2, _⟩
    · subst h0
      have : xs = [] := List.eq_nil_of_length_eq_zero (by simpa using hx)
      subst this
      exact run_firstCells_none w.drew 1 0 0 cap
    · cases e2
  | some a =>
    rcases h.2 with ⟨e2, _⟩ | ⟨g, c, cur, e2, _⟩
    · cases e2
    · obtain rfl : a = ⟨g, 0, none⟩ := by simpa using (Value.slice.inj e2).1
      exact run_firstCells_some w.drew 1 n _ n cap xs hx (by simpa using h.cells (g := g) rfl)
/-- THE LAW -/
theorem run_append_src {P : Program} {w : World} (base : Nat) (t tx ty e : TypeId) (i : TypeInfo) (z : Value) (bytes : Nat) (ht : P.underlying t = some (.slice e)) (hi : P.info? e = some i) (hz : i.zero = some z)
    (hsize : i.size = 1) (hby : i.bytes = bytes) (hzs : z.cells.size = 1) (v : Value) (n : Nat) (xs : List Value) (hown : w.ownsRow base e 1 v n xs)
    (x : Value) (m : Nat) (news : List Value) (hs : Src P 1 tx x m news w) (h63 : n + m ≤ maxLen) (hbytes : (n + m) * bytes ≤ 140737488355328) (hbase : base ≤ w.heap.size) :
    ∃ v' w', (Builtin.append_ #[t, tx] ty #[v, x]).run P w = .ok v' w' ∧ w'.ownsRow base e 1 v' (n + m) (xs ++ news) ∧ w.grownBy w' v.ownBlock ∧ (v'.ownBlock = v.ownBlock ∨ v'.ownBlock = some w.heap.size) := by
  subst hby
  have hsmall : n + m ≤ 9223372036854775807 := by simp only [maxLen] at h63; omega
  have hnl : news.length = m := by have := hs.newsLen; omega
  have hxl : xs.length = n := by have := hown.1; omega
  have hs' : Src P i.size tx x m news w := by rw [hsize]; exact hs
  have hlen : (xs ++ news).length = (n + m) * 1 := by rw [List.length_append, hxl, hnl, Nat.mul_one]
  have grown : ∀ (a : Option Addr) (old : Nat), v = .slice a n old → old < n + m →
      ∃ v' w', (Builtin.append_ #[t, tx] ty #[v, x]).run P w = .ok v' w' ∧ w'.ownsRow base e 1 v' (n + m) (xs ++ news) ∧ w.grownBy w' v.ownBlock ∧ (v'.ownBlock = v.ownBlock ∨ v'.ownBlock = some w.heap.size) := by
    intro a old hv ho
    have hge := grownCap_ge w (n + m) old e
    have hcm : grownCap w (n + m) old e ≤ maxLen := grownCap_le_maxLen w (n + m) old e h63
    have hold := firstCells_own (P := P) hown hv
    have hr := run_append_grow_src (P := P) w t tx ty e i z ht hi hz a n old xs (by rw [hsize, ← hv]; exact hold) x m news hs' ho (by omega) (growslice_fits (by omega) hbytes)
    rw [← hv] at hr
    refine ⟨_, _, hr, ⟨hlen, .inr ⟨w.heap.size, _, _, rfl, hbase, heap_alloc_new w.drew _, hge, hcm, ?_, ?_⟩⟩, ⟨rfl, rfl, rfl, by simp, fun k hk _ => Below.heap_alloc w.drew _ k hk⟩, .inr rfl⟩
    · simp only [Array.size_append, List.size_toArray, size_zeroCells, hzs, Nat.mul_one, List.length_append, hxl, hnl]; omega
    · simp only [Array.toList_append]
      rw [show (n + m) * 1 = (xs ++ news).length from hlen.symm]
      exact List.take_left
  have hown' := hown
  rcases hown'.2 with ⟨hv, hn⟩ | ⟨g, cap, cur, hv, hbg, hg, hnc, hcm, hcs, htake⟩
  · by_cases hm : m = 0
    · subst hn hm
      have hn0 : news = [] := List.eq_nil_of_length_eq_zero hnl
      have hx0 : xs = [] := List.eq_nil_of_length_eq_zero hxl
      subst hn0 hx0 hv
      refine ⟨.slice none 0 0, w, ?_, World.ownsRow_nil w base e 1, ⟨rfl, rfl, rfl, Nat.le_refl _, fun _ _ _ => rfl⟩, .inl rfl⟩
      rcases hs.kind with ⟨e', hk⟩ | hk <;> simp [Builtin.append_, run_underlying ht, run_underlying hk, sizeOf, typeInfo, hi, hsize, hs.len, hs.cells]
    · exact grown none 0 (by rw [hv, hn]) (by omega)
  · by_cases hroom : n + m ≤ cap
    · subst hv
      rw [Nat.mul_one] at hcs htake
      have hb : Blk w g cur e (0, 0) := hg
      have hr := run_append_room_src (P := P) w t tx ty e i ht hi g 0 n cap x m news hs' hroom
        (fun j hj => by rw [hsize, Nat.mul_one, Nat.zero_add, hb.cell]; rw [Array.getElem?_eq_getElem (by omega)]; rfl)
        (fun j _ => by exact hb.free _ (Or.inr (Nat.zero_le _)))
      rw [hsize, Nat.mul_one, Nat.zero_add] at hr
      have hb' := setCells_blk e (0, 0) g news w n cur hb
      refine ⟨_, _, hr, ⟨hlen, .inr ⟨g, cap, _, rfl, hbg, hb', hroom, hcm, by rw [putAt_size, hcs, Nat.mul_one], ?_⟩⟩, setCells_grown g news w n, .inl rfl⟩
      rw [Nat.mul_one]
      apply List.ext_getElem?
      intro j
      rw [List.getElem?_take]
      rw [show (putAt cur n news).toList[j]? = (putAt cur n news)[j]? by simp]
      rw [putAt_get news cur n j (by omega)]
      rw [hnl]
      by_cases hj : j < n + m
      · rw [if_pos hj]
        by_cases h1 : n ≤ j
        · rw [if_pos ⟨h1, hj⟩, List.getElem?_append_right (by omega), hxl]
        · rw [if_neg (by omega), List.getElem?_append_left (by omega), ← htake, List.getElem?_take, if_pos (by omega)]; simp
      · rw [if_neg hj]
        exact (List.getElem?_eq_none (by rw [List.length_append, hxl, hnl]; omega)).symm
    · exact grown _ cap hv (by omega)
/-- at a plain region's list -/
theorem wpList_append_src {P : Program} {w : World} {ops : Array Oper} {rest : List Oper} {o : Oper} {a : Act} {Q : Exit → Act → World → Prop} (hgd : o.guard = none) (s x : Operand) (t tx : TypeId)
    (ho : o.op = .call { callee := .builtin .append, args := #[s, x], argTypes := #[t, tx] }) {v' : Value} {w' : World} (hrun : (Builtin.append_ #[t, tx] o.type #[a.eval s, a.eval x]).run P w = .ok v' w')
    (h : wpList P ops Q rest (a.put o.dst v') w') : wpList P ops Q (o :: rest) a w := wpList_append_run hgd s x t tx ho hrun h
/-- at a step of a region that draws -/
theorem step_append_run {P : Program} {w : World} {ops : Array Oper} {o : Oper} {a : Act} {K : Act → World → Prop} {Q : Exit → Act → World → Prop} {E : Prop} (hgd : o.guard = none) (s x : Operand) (t tx : TypeId)
    (ho : o.op = .call { callee := .builtin .append, args := #[s, x], argTypes := #[t, tx] }) {v' : Value} {w' : World} (hrun : (Builtin.append_ #[t, tx] o.type #[a.eval s, a.eval x]).run P w = .ok v' w')
    (h : K (a.put o.dst v') w') : if Region.wanted o (yielded ops a.tmps) = true then Oper.wp P o a w K Q else E := by
  have hw : Region.wanted o (yielded ops a.tmps) = true := by simp [Region.wanted, hgd]
  rw [if_pos hw]
  unfold Oper.wp execOp
  simp only [ho, resolve, invoke, builtin, Sem.run_bind, Sem.run_pure, Result.andThen_ok, List.map_toArray, List.map_cons, List.map_nil, hrun]
  exact h
end Go.Proofs.YtlddcnkiigamjaaDoor
/- what the graph laws' right makes, in plain words -/
namespace Go.Proofs.YtlddcnkiigamjaaDoor
open Go.RowKit
/-- a graph's right one, of so many nodes as n says -/
def w32 (x : Int) : Int := IntKind.i32.wrap x
def u64 (x : Int) : Int := x % 18446744073709551616
def rightA (n : Nat) (a : Ar) : Ar := (u64 a.1 % n, u64 a.2.1 % n, u64 a.2.2 % 2147483648)
def rightV (r : Raw) (n : Nat) : Raw :=
  ⟨(1 + n % 12 : Nat), (List.range (1 + n % 12)).map fun i => w32 (r.X[i]?.getD 0), (List.range (1 + n % 12)).map fun i => w32 (r.Y[i]?.getD 0), (r.arcs.take 40).map (rightA (1 + n % 12))⟩
theorem kpc_of {w w1 wr : World} {Bo : Nat} (hb : Below w.heap.size w w1) (hk : Kept (· = Bo) w1 wr) (hB : w.heap.size ≤ Bo) : KpC w wr :=
  ⟨Nat.le_trans hb.size hk.size, fun k cs t fr h => by
    have hlt := (Array.getElem?_eq_some_iff.1 h).1
    have h1 := hb.size
    exact (hk.block k (by omega) (by omega)).trans (hb.block k hlt)⟩
theorem below_of {w w1 wr : World} {Bo : Nat} (hb : Below w.heap.size w w1) (hk : Kept (· = Bo) w1 wr) (hB : w.heap.size ≤ Bo) : Below w.heap.size w wr :=
  ⟨hk.os.trans hb.os, hk.tape.trans hb.tape, hk.output.trans hb.output, Nat.le_trans hb.size hk.size, fun k hlt => by
    have h1 := hb.size
    exact (hk.block k (by omega) (by omega)).trans (hb.block k hlt)⟩
theorem range_push {f : Nat → Int} (k : Nat) : (List.range (k + 1)).map f = (List.range k).map f ++ [f k] := by rw [List.range_succ, List.map_append]; rfl
theorem w32_lt (x : Int) : IntKind.i64.wrap (w32 x) = w32 x := by
  have h : -2147483648 ≤ w32 x ∧ w32 x ≤ 2147483647 := by
    unfold w32
    rw [IntKind.wrap_i32]
    omega
  rw [IntKind.wrap_i64]; omega
end Go.Proofs.YtlddcnkiigamjaaDoor
/- an arc of a graph of ours set; turned, in plain words -/
namespace Go.Proofs.YtlddcnkiigamjaaDoor
open Go.RowKit
theorem ownsRow_setAt {w : World} {base : Nat} {e : TypeId} {size : Nat} {g n cap : Nat} {xs : List Value} (h : w.ownsRow base e size (.slice (some ⟨g, 0, none⟩) n cap) n xs) (j : Nat) (x : Value) :
    (w.setCell ⟨g, j, none⟩ x).ownsRow base e size (.slice (some ⟨g, 0, none⟩) n cap) n (xs.set j x) := by
  obtain ⟨hl, h2⟩ := h
  refine ⟨by rw [List.length_set]; exact hl, ?_⟩
  rcases h2 with ⟨e, _⟩ | ⟨g', cap', cur, ev, h3, h4, h5, h6, h7, h8⟩
  · cases e
  · obtain ⟨rfl, rfl⟩ : g = g' ∧ cap = cap' := by simpa using ev
    refine .inr ⟨g, cap, cur.setIfInBounds j x, rfl, h3, (show Blk w g cur e (0, 0) from h4).set j x, h5, h6, by simpa using h7, ?_⟩
    rw [Array.toList_setIfInBounds, List.take_set, h8]
theorem flat_set {α : Type} (m : Nat) (f : α → List Value) (hf : ∀ x, (f x).length = m) : ∀ (L : List α) (k d : Nat) (y : α) (u : Value), k < L.length → d < m → (∀ x, L[k]? = some x → (f x).set d u = f y) → (L.flatMap f).set (k * m + d) u = (L.set k y).flatMap f
  | x :: L, 0, d, y, u, _, hd, h => by
    rw [List.set_cons_zero, List.flatMap_cons, List.flatMap_cons, Nat.zero_mul, Nat.zero_add, List.set_append_left _ _ (by rw [hf]; exact hd), h x rfl]
  | x :: L, k + 1, d, y, u, hk, hd, h => by
    rw [List.set_cons_succ, List.flatMap_cons, List.flatMap_cons, List.set_append_right _ _ (by rw [hf, Nat.succ_mul]; omega), hf, show (k + 1) * m + d - m = k * m + d by rw [Nat.succ_mul]; omega, flat_set m f hf L k d y u (by simpa using hk) hd (fun x' hx' => h x' (by simpa using hx'))]
/-- an arc's end, or its weight, another one -/
def setArc (d : Nat) (u : Int) (a : Ar) : Ar := match d with
  | 0 => (u, a.2)
  | 1 => (a.1, u, a.2.2)
  | _ => (a.1, a.2.1, u)
theorem setArc_cells (d : Nat) (hd : d < 3) (u : Int) (a : Ar) : (arC a).set d (.int .i64 u) = arC (setArc d u a) := by
  match d, hd with
  | 0, _ => rfl
  | 1, _ => rfl
  | 2, _ => rfl
theorem OutI.setA {w1 W : World} {Bo : Nat} {vx vy : Value} {g n cap : Nat} {r : Raw} (h : OutI w1 Bo vx vy (.slice (some ⟨g, 0, none⟩) n cap) r W) (hn : r.arcs.length = n) (k d : Nat) (hk : k < r.arcs.length) (hd : d < 3) (u : Int) {o : Nat} (ho : o = k * 3 + d) :
    OutI w1 Bo vx vy (.slice (some ⟨g, 0, none⟩) n cap) { r with arcs := r.arcs.set k (setArc d u r.arcs[k]) } (W.setCell ⟨g, o, none⟩ (.int .i64 u)) := by
  subst ho
  have hown := h.own.2.2.1
  obtain ⟨hgb, cur, hc⟩ := ownsRow_blk' hown (g := g) rfl
  have hgBo : Bo ≠ g := fun e => by
    subst e
    have e2 := (show W.heap[Bo]? = some _ from h.blk).symm.trans (show W.heap[Bo]? = some _ from hc)
    cases e2
  have ox := ownsRow_set h.own.1 (p := ⟨g, k * 3 + d, none⟩) hc (by decide) (.int .i64 u)
  have oy := ownsRow_set h.own.2.1 (p := ⟨g, k * 3 + d, none⟩) hc (by decide) (.int .i64 u)
  have oa := ownsRow_setAt (n := n) (by rw [← hn]; rw [← hn] at hown; exact hown) (k * 3 + d) (.int .i64 u)
  rw [flat_set 3 arC arC_len r.arcs k d (setArc d u r.arcs[k]) (.int .i64 u) hk hd (fun x hx => by
    rw [List.getElem?_eq_getElem hk] at hx
    rw [← Option.some.inj hx]; exact setArc_cells d hd u _)] at oa
  refine ⟨h.blk.setOther ⟨g, k * 3 + d, none⟩ (.int .i64 u) hgBo, ⟨ox, oy, ?_, h.own.2.2.2⟩, ?_⟩
  · show World.ownsRow _ _ _ _ _ (r.arcs.set k _).length _
    rw [List.length_set, hn]; exact oa
  · have hk := h.kept
    exact ⟨hk.os, hk.tape, hk.output, by simpa using hk.size, fun j hj hs => (heap_setCell_other _ _ _ _ (show j ≠ g by omega)).trans (hk.block j hj hs)⟩
/-- all arcs the other way -/
def turnA (a : Ar) : Ar := (a.2.1, a.1, a.2.2)
def Raw.turned (r : Raw) : Raw := { r with arcs := r.arcs.map turnA }
theorem turn_step (L : List Ar) (k : Nat) (hk : k < L.length) : (((L.take k).map turnA ++ L.drop k).set k (setArc 0 L[k].2.1 L[k])).set k (setArc 1 L[k].1 (setArc 0 L[k].2.1 L[k])) = (L.take (k + 1)).map turnA ++ L.drop (k + 1) := by
  rw [List.set_set]
  have hl : ((L.take k).map turnA).length = k := by rw [List.length_map, List.length_take]; omega
  rw [List.set_append_right _ _ (by omega), hl, Nat.sub_self, List.drop_eq_getElem_cons hk, List.set_cons_zero, List.take_succ_eq_append_getElem hk, List.map_append, List.append_assoc]
  rfl
end Go.Proofs.YtlddcnkiigamjaaDoor
/- a node's other number, in plain words -/
namespace Go.Proofs.YtlddcnkiigamjaaDoor
open Go.RowKit
/-- a node's other number -/
def mvI (n by_ v : Int) : Int := (v + by_) % n
theorem mvI_range (n by_ v : Int) (hn : 1 ≤ n) : 0 ≤ mvI n by_ v ∧ mvI n by_ v < n := ⟨Int.emod_nonneg _ (by omega), Int.emod_lt_of_pos _ (by omega)⟩
theorem tmod_bounds (a n : Int) (hn : 1 ≤ n) : -n < a.tmod n ∧ a.tmod n < n ∧ a.tmod n = a - n * a.tdiv n := by
  have h1 := Int.tmod_lt_of_pos a (show 0 < n by omega)
  have h2 : -n < a.tmod n := by
    have h := Int.tmod_lt_of_pos (-a) (show 0 < n by omega)
    rw [Int.neg_tmod] at h
    omega
  exact ⟨h2, h1, by have := Int.tmod_add_mul_tdiv a n; omega⟩
theorem mv_eq (n by_ v : Int) (hn : 1 ≤ n) : ((v + by_.tmod n).tmod n + n).tmod n = mvI n by_ v := by
  obtain ⟨a1, a2, a3⟩ := tmod_bounds by_ n hn
  obtain ⟨b1, b2, b3⟩ := tmod_bounds (v + by_.tmod n) n hn
  rw [Int.tmod_eq_emod_of_nonneg (by omega)]
  unfold mvI
  rw [b3, a3]
  rw [show v + (by_ - n * by_.tdiv n) - n * (v + (by_ - n * by_.tdiv n)).tdiv n + n = (v + by_) + n * (1 - by_.tdiv n - (v + (by_ - n * by_.tdiv n)).tdiv n) by rw [Int.mul_sub, Int.mul_sub, Int.mul_one]; omega]
  exact Int.add_mul_emod_self_left _ _ _
end Go.Proofs.YtlddcnkiigamjaaDoor
/- graph: what look's five closures hand back: iterators over places. -/
namespace Go.Proofs.YtlddcnkiigamjaaDoor
open Go.RowKit Go.Shelf
attribute [local go_sem] Oper.semAt_some FK_round FK_depth Oper.semAt_none
/-- the raw graph's variable -/
structure RawAt (w : World) (Br : Nat) (nodes : Int) (X Y : List Int) (ars : List Ar) : Prop where
  ex : ∃ vx vy va, Blk w Br #[.int .i64 nodes, vx, vy, va] 26 (0, 0) ∧ SlX w vx X ∧ SlX w vy Y ∧ SlA w va ars
theorem RawAt.keep {w w' : World} {Br : Nat} {nodes : Int} {X Y : List Int} {ars : List Ar} (h : RawAt w Br nodes X Y ars) (hk : KpC w w') : RawAt w' Br nodes X Y ars := by
  obtain ⟨vx, vy, va, h1, h2, h3, h4⟩ := h
  exact ⟨vx, vy, va, hk.blk h1, h2.keep hk, h3.keep hk, h4.keep hk⟩
/-- an iterator over places -/
def ItOf (w : World) (gf : Nat) (lb : Array Value) (ps : List Pl) : Prop :=
  (gf = 76 ∧ ∃ Bs v, lb = #[.pointer (some ⟨Bs, 0, none⟩)] ∧ Blk w Bs #[v] 133 (0, 0) ∧ SlP w v ps) ∨
  (gf = 71 ∧ ∃ Br nodes X Y ars, lb = #[.pointer (some ⟨Br, 0, none⟩)] ∧ RawAt w Br nodes X Y ars ∧ X.length = Y.length ∧ ps = nodesP X Y X.length) ∨
  (gf = 72 ∧ ∃ Br nodes X Y ars, lb = #[.pointer (some ⟨Br, 0, none⟩)] ∧ RawAt w Br nodes X Y ars ∧ ps = arcsP nodes ars ars.length)
theorem ItOf.keep {w w' : World} {gf : Nat} {lb : Array Value} {ps : List Pl} (h : ItOf w gf lb ps) (hk : KpC w w') : ItOf w' gf lb ps := by
  rcases h with ⟨e, Bs, v, h1, h2, h3⟩ | ⟨e, Br, nodes, X, Y, ars, h1, h2, h3, h4⟩ | ⟨e, Br, nodes, X, Y, ars, h1, h2, h3⟩
  · exact .inl ⟨e, Bs, v, h1, hk.blk h2, h3.keep hk⟩
  · exact .inr (.inl ⟨e, Br, nodes, X, Y, ars, h1, h2.keep hk, h3, h4⟩)
  · exact .inr (.inr ⟨e, Br, nodes, X, Y, ars, h1, h2.keep hk, h3⟩)
theorem it_in (m : Nat) (L gf : Nat) (lb : Array Value) (ps : List Pl) (J : List Pl → World → Prop) (U : List PanicEntry → List Pl → World → Prop) (hJA : ∀ s W W', J s W → Below W.heap.size W W' → J s W')
    (hY : ∀ pre x W, J pre W → pre.length < ps.length → YieldAt FK (m - 1) Tryd.prog L (encP x) W fun e W' =>
      (e = .returned (.bool true) ∧ J (pre ++ [x]) W' ∧ KpC W W') ∨ (∃ ch, e = .panicked ch ∧ U ch (pre ++ [x]) W'))
    (W : World) (h : ItOf W gf lb ps) (h0 : J [] W) :
    CallsIn FK m Tryd.prog gf (#[.func (.yield L) #[] #[]] ++ lb) W fun e W' => (∃ v, e = .returned v ∧ J ps W') ∨ (∃ ch xs, e = .panicked ch ∧ xs <+: ps ∧ U ch xs W') := by
  rcases h with ⟨rfl, Bs, v, rfl, h2, h3⟩ | ⟨rfl, Br, nodes, X, Y, ars, rfl, ⟨vx, vy, va, hb, hx, hy, ha⟩, h3, rfl⟩ | ⟨rfl, Br, nodes, X, Y, ars, rfl, ⟨vx, vy, va, hb, hx, hy, ha⟩, rfl⟩
  · exact values_in m L Bs ps v J U hJA hY W h2 h3 h0
  · rw [nodesP_len] at hY
    exact nodes_in m L Br nodes vx vy va X Y J U hJA hY W hb hx hy h3 h0
  · rw [arcsP_len] at hY
    exact arcs_in m L Br nodes vx vy va ars J U hJA hY W hb ha h0
set_option maxRecDepth 100000 in
set_option maxHeartbeats 4000000 in
theorem values_new (m : Nat) (sl : Value) (W : World) (ps : List Pl) (h : SlP W sl ps) (hone : sl.oneCell' = true) :
    CallsIn FK m Tryd.prog 70 #[sl] W fun e W' => ∃ gf lb, e = .returned (.func (.func gf) #[] lb) ∧ ItOf W' gf lb ps ∧ Below W.heap.size W W' := by
  have hb := (Below.refl W.heap.size W).alloc (Nat.le_refl _) (.cells #[sl] 133)
  have H : Hid (ItOf (W.alloc (.cells #[sl] 133)) 76 #[.pointer (some ⟨W.heap.size, 0, none⟩)] ps ∧ Below W.heap.size W (W.alloc (.cells #[sl] 133))) := Lib.hid ⟨.inl ⟨rfl, _, _, rfl, Blk.new _ _ _ _, h.keep (KpC.of_below hb)⟩, hb⟩
  obtain ⟨a, cap, rfl, _⟩ := h
  clear hb hone
  have hmf : ∀ (fn : Fn) (first cap : Array Value) (w : World), (Instr.makeFunc fn first cap).run Tryd.prog w = .ok (.func fn first cap) w := fun _ _ _ _ => rfl
  refine callsIn_of_wp Tryd.func70 rfl (by simp [FK, Fence.list]) ?_ rfl
  simp only [Tryd.ntmps70, List.size_toArray, List.length_cons, List.length_nil, Nat.reduceAdd, Nat.reduceSub, Array.replicate_succ, Array.replicate_zero, List.push_toArray, List.append_toArray, List.nil_append, List.cons_append]
  gi_wp2_with fail
  go_ret
  exact ⟨_, _, rfl, H.out⟩
set_option maxRecDepth 100000 in
set_option maxHeartbeats 4000000 in
theorem one_in (m : Nat) (c n lo hi : Int) (W : World) :
    CallsIn FK m Tryd.prog 56 #[.int .i64 c, .int .i64 n, .int .i64 lo, .int .i64 hi] W fun e W' => ∃ gf lb, e = .returned (.func (.func gf) #[] lb) ∧ ItOf W' gf lb [⟨0, 0, c, n, lo, hi⟩] ∧ Below W.heap.size W W' := by
  have hb := (Below.refl W.heap.size W).alloc (Nat.le_refl _) (.cells #[.int .i64 0, .int .i64 0, .int .i64 c, .int .i64 n, .int .i64 lo, .int .i64 hi] 117)
  have hS : SlP (W.alloc (.cells #[.int .i64 0, .int .i64 0, .int .i64 c, .int .i64 n, .int .i64 lo, .int .i64 hi] 117)) (.slice (some ⟨W.heap.size, 0, none⟩) 1 1) [⟨0, 0, c, n, lo, hi⟩] := slP_new (L := [⟨0, 0, c, n, lo, hi⟩]) (Blk.new _ _ _ _) rfl (by show 1 ≤ 1000; omega)
  have C := Lib.hid (values_new (m - 1) _ _ _ hS rfl); have HB := Lib.hid hb
  clear hb hS
  refine callsIn_of_wp Tryd.func56 rfl (by simp [FK, Fence.list]) ?_ rfl
  simp only [Tryd.ntmps56, List.size_toArray, List.length_cons, List.length_nil, Nat.reduceAdd, Nat.reduceSub, Array.replicate_succ, Array.replicate_zero, List.push_toArray, List.append_toArray, List.nil_append, List.cons_append]
  gi_wp2_with fail
  refine ⟨by simp [FK, Fence.list], ?_⟩
  refine C.out.mono ?_
  rintro e W2 ⟨gf, lb, rfl, h1, h2⟩
  have H1 := Lib.hid h1; have H2 := Lib.hid (HB.out.next' h2)
  clear h1 h2
  gi_wp2_with fail
  go_ret
  exact ⟨_, _, rfl, H1.out, H2.out⟩
set_option maxRecDepth 100000 in
set_option maxHeartbeats 4000000 in
theorem look1_in (m Br : Nat) (nodes : Int) (X Y : List Int) (ars : List Ar) (W : World) (h : RawAt W Br nodes X Y ars) :
    CallsIn FK m Tryd.prog 55 #[.pointer (some ⟨Br, 0, none⟩)] W fun e W' => ∃ gf lb, e = .returned (.func (.func gf) #[] lb) ∧ ItOf W' gf lb [⟨0, 0, 5, nodes, 1, 16777217⟩] ∧ Below W.heap.size W W' := by
  obtain ⟨vx, vy, va, hb, _⟩ := h
  have c0 := hb.cell 0
  change W.cell? ⟨Br, 0, none⟩ = some (.int .i64 nodes) at c0
  refine callsIn_of_wp Tryd.func55 rfl (by simp [FK, Fence.list]) ?_ rfl
  simp only [Tryd.ntmps55, List.size_toArray, List.length_cons, List.length_nil, Nat.reduceAdd, Nat.reduceSub, Array.replicate_succ, Array.replicate_zero, List.push_toArray, List.append_toArray, List.nil_append, List.cons_append]
  gi_wp2_with fail
  refine ⟨by simp [FK, Fence.list], ?_⟩
  refine (one_in (m - 1) 5 nodes 1 16777217 W).mono ?_
  rintro e W2 ⟨gf, lb, rfl, h1, h2⟩
  have H1 := Lib.hid h1; have H2 := Lib.hid h2
  clear h1 h2
  gi_wp2_with fail
  go_ret
  exact ⟨_, _, rfl, H1.out, H2.out⟩
set_option maxRecDepth 100000 in
set_option maxHeartbeats 4000000 in
theorem nodes_new (m : Nat) (vx vy va : Value) (nodes : Int) (X Y : List Int) (ars : List Ar) (W : World) (hx : SlX W vx X) (hy : SlX W vy Y) (ha : SlA W va ars) (hl : X.length = Y.length) :
    CallsIn FK m Tryd.prog 60 #[.agg #[.int .i64 nodes, vx, vy, va]] W fun e W' => ∃ gf lb, e = .returned (.func (.func gf) #[] lb) ∧ ItOf W' gf lb (nodesP X Y X.length) ∧ Below W.heap.size W W' := by
  have hb := (Below.refl W.heap.size W).alloc (Nat.le_refl _) (.cells #[.int .i64 nodes, vx, vy, va] 26)
  have hk := KpC.of_below hb
  have H : Hid (ItOf (W.alloc (.cells #[.int .i64 nodes, vx, vy, va] 26)) 71 #[.pointer (some ⟨W.heap.size, 0, none⟩)] (nodesP X Y X.length) ∧ Below W.heap.size W (W.alloc (.cells #[.int .i64 nodes, vx, vy, va] 26))) := Lib.hid ⟨.inr (.inl ⟨rfl, _, nodes, X, Y, ars, rfl, ⟨vx, vy, va, Blk.new _ _ _ _, hx.keep hk, hy.keep hk, ha.keep hk⟩, hl, rfl⟩), hb⟩
  clear hl
  obtain ⟨ax, cx, rfl, _⟩ := hx
  obtain ⟨ay, cy, rfl, _⟩ := hy
  obtain ⟨aa, ca, rfl, _⟩ := ha
  clear hb hk
  have hmf : ∀ (fn : Fn) (first cap : Array Value) (w : World), (Instr.makeFunc fn first cap).run Tryd.prog w = .ok (.func fn first cap) w := fun _ _ _ _ => rfl
  refine callsIn_of_wp Tryd.func60 rfl (by simp [FK, Fence.list]) ?_ rfl
  simp only [Tryd.ntmps60, List.size_toArray, List.length_cons, List.length_nil, Nat.reduceAdd, Nat.reduceSub, Array.replicate_succ, Array.replicate_zero, List.push_toArray, List.append_toArray, List.nil_append, List.cons_append]
  gi_wp2_with fail
  go_ret
  exact ⟨_, _, rfl, H.out⟩
set_option maxRecDepth 100000 in
set_option maxHeartbeats 4000000 in
theorem arcs_new (m : Nat) (vx vy va : Value) (nodes : Int) (X Y : List Int) (ars : List Ar) (W : World) (hx : SlX W vx X) (hy : SlX W vy Y) (ha : SlA W va ars)  :
    CallsIn FK m Tryd.prog 63 #[.agg #[.int .i64 nodes, vx, vy, va]] W fun e W' => ∃ gf lb, e = .returned (.func (.func gf) #[] lb) ∧ ItOf W' gf lb (arcsP nodes ars ars.length) ∧ Below W.heap.size W W' := by
  have hb := (Below.refl W.heap.size W).alloc (Nat.le_refl _) (.cells #[.int .i64 nodes, vx, vy, va] 26)
  have hk := KpC.of_below hb
  have H : Hid (ItOf (W.alloc (.cells #[.int .i64 nodes, vx, vy, va] 26)) 72 #[.pointer (some ⟨W.heap.size, 0, none⟩)] (arcsP nodes ars ars.length) ∧ Below W.heap.size W (W.alloc (.cells #[.int .i64 nodes, vx, vy, va] 26))) := Lib.hid ⟨.inr (.inr ⟨rfl, _, nodes, X, Y, ars, rfl, ⟨vx, vy, va, Blk.new _ _ _ _, hx.keep hk, hy.keep hk, ha.keep hk⟩, rfl⟩), hb⟩
  obtain ⟨ax, cx, rfl, _⟩ := hx
  obtain ⟨ay, cy, rfl, _⟩ := hy
  obtain ⟨aa, ca, rfl, _⟩ := ha
  clear hb hk
  have hmf : ∀ (fn : Fn) (first cap : Array Value) (w : World), (Instr.makeFunc fn first cap).run Tryd.prog w = .ok (.func fn first cap) w := fun _ _ _ _ => rfl
  refine callsIn_of_wp Tryd.func63 rfl (by simp [FK, Fence.list]) ?_ rfl
  simp only [Tryd.ntmps63, List.size_toArray, List.length_cons, List.length_nil, Nat.reduceAdd, Nat.reduceSub, Array.replicate_succ, Array.replicate_zero, List.push_toArray, List.append_toArray, List.nil_append, List.cons_append]
  gi_wp2_with fail
  go_ret
  exact ⟨_, _, rfl, H.out⟩
set_option maxRecDepth 100000 in
set_option maxHeartbeats 4000000 in
theorem shapes_new (m : Nat) (vx vy va : Value) (nodes : Int) (X Y : List Int) (ars : List Ar) (W : World) (hx : SlX W vx X) (hy : SlX W vy Y) (ha : SlA W va ars) (hn : 1 ≤ nodes ∧ nodes ≤ 16777216) :
    CallsIn FK m Tryd.prog 58 #[.agg #[.int .i64 nodes, vx, vy, va]] W fun e W' => ∃ gf lb, e = .returned (.func (.func gf) #[] lb) ∧ ItOf W' gf lb [⟨0, 0, 6, X.length, nodes, nodes + 1⟩, ⟨0, 1, 6, Y.length, nodes, nodes + 1⟩] ∧ Below W.heap.size W W' := by
  have hw : IntKind.i64.wrap (nodes + 1) = nodes + 1 := wrap_small _ (by omega) (by omega)
  obtain ⟨w2, hw2⟩ : ∃ w2, w2 = (W.alloc (.cells #[.int .i64 nodes, vx, vy, va] 26)).alloc (.cells #[.int .i64 0, .int .i64 0, .int .i64 6, .int .i64 X.length, .int .i64 nodes, .int .i64 (nodes + 1), .int .i64 0, .int .i64 1, .int .i64 6, .int .i64 Y.length, .int .i64 nodes, .int .i64 (nodes + 1)] 117) := ⟨_, rfl⟩
  have hb : Below W.heap.size W w2 := by rw [hw2]; exact ((Below.refl W.heap.size W).alloc (Nat.le_refl _) _).alloc (by simp) _
  have hS : SlP w2 (.slice (some ⟨W.heap.size + 1, 0, none⟩) 2 2) [⟨0, 0, 6, X.length, nodes, nodes + 1⟩, ⟨0, 1, 6, Y.length, nodes, nodes + 1⟩] := by
    have h := Blk.new (W.alloc (.cells #[.int .i64 nodes, vx, vy, va] 26)) #[.int .i64 0, .int .i64 0, .int .i64 6, .int .i64 X.length, .int .i64 nodes, .int .i64 (nodes + 1), .int .i64 0, .int .i64 1, .int .i64 6, .int .i64 Y.length, .int .i64 nodes, .int .i64 (nodes + 1)] 117 (0, 0)
    rw [World.size_alloc, ← hw2] at h
    exact slP_new (L := [⟨0, 0, 6, X.length, nodes, nodes + 1⟩, ⟨0, 1, 6, Y.length, nodes, nodes + 1⟩]) h rfl (by show 2 ≤ 1000; omega)
  have C := Lib.hid (values_new (m - 1) _ _ _ hS rfl); have HB := Lib.hid hb; have HW2 := Lib.hid hw2
  obtain ⟨ax, cx, rfl, _⟩ := hx
  obtain ⟨ay, cy, rfl, _⟩ := hy
  obtain ⟨aa, ca, rfl, _⟩ := ha
  clear hb hS hw2
  refine callsIn_of_wp Tryd.func58 rfl (by simp [FK, Fence.list]) ?_ rfl
  simp only [Tryd.ntmps58, List.size_toArray, List.length_cons, List.length_nil, Nat.reduceAdd, Nat.reduceSub, Array.replicate_succ, Array.replicate_zero, List.push_toArray, List.append_toArray, List.nil_append, List.cons_append]
  gi_wp2_with fail
  rw [← HW2.out]
  refine ⟨by simp [FK, Fence.list], ?_⟩
  refine C.out.mono ?_
  rintro e W2 ⟨gf, lb, rfl, h1, h2⟩
  have H1 := Lib.hid h1; have H2 := Lib.hid (HB.out.next' h2)
  clear h1 h2
  gi_wp2_with fail
  go_ret
  exact ⟨_, _, rfl, H1.out, H2.out⟩
set_option maxRecDepth 100000 in
set_option maxHeartbeats 4000000 in
theorem look2_in (m Br : Nat) (nodes : Int) (X Y : List Int) (ars : List Ar) (W : World) (h : RawAt W Br nodes X Y ars) (hn : 1 ≤ nodes ∧ nodes ≤ 16777216) :
    CallsIn FK m Tryd.prog 57 #[.pointer (some ⟨Br, 0, none⟩)] W fun e W' => ∃ gf lb, e = .returned (.func (.func gf) #[] lb) ∧ ItOf W' gf lb [⟨0, 0, 6, X.length, nodes, nodes + 1⟩, ⟨0, 1, 6, Y.length, nodes, nodes + 1⟩] ∧ Below W.heap.size W W' := by
  obtain ⟨vx, vy, va, hb, hx, hy, ha⟩ := h
  have c0 := hb.cell 0; have c1 := hb.cell 1; have c2 := hb.cell 2; have c3 := hb.cell 3
  change W.cell? ⟨Br, 0, none⟩ = some (.int .i64 nodes) at c0
  change W.cell? ⟨Br, 1, none⟩ = some vx at c1
  change W.cell? ⟨Br, 2, none⟩ = some vy at c2
  change W.cell? ⟨Br, 3, none⟩ = some va at c3
  have C := Lib.hid (shapes_new (m - 1) vx vy va nodes X Y ars W hx hy ha hn)
  clear hx hy ha hb
  refine callsIn_of_wp Tryd.func57 rfl (by simp [FK, Fence.list]) ?_ rfl
  simp only [Tryd.ntmps57, List.size_toArray, List.length_cons, List.length_nil, Nat.reduceAdd, Nat.reduceSub, Array.replicate_succ, Array.replicate_zero, List.push_toArray, List.append_toArray, List.nil_append, List.cons_append]
  gi_wp2_with fail
  refine ⟨by simp [FK, Fence.list], ?_⟩
  refine C.out.mono ?_
  rintro e W2 ⟨gf, lb, rfl, h1, h2⟩
  have H1 := Lib.hid h1; have H2 := Lib.hid h2
  clear h1 h2
  gi_wp2_with fail
  go_ret
  exact ⟨_, _, rfl, H1.out, H2.out⟩
set_option maxRecDepth 100000 in
set_option maxHeartbeats 4000000 in
theorem look3_in (m Br : Nat) (nodes : Int) (X Y : List Int) (ars : List Ar) (W : World) (h : RawAt W Br nodes X Y ars) (hl : X.length = Y.length) :
    CallsIn FK m Tryd.prog 59 #[.pointer (some ⟨Br, 0, none⟩)] W fun e W' => ∃ gf lb, e = .returned (.func (.func gf) #[] lb) ∧ ItOf W' gf lb (nodesP X Y X.length) ∧ Below W.heap.size W W' := by
  obtain ⟨vx, vy, va, hb, hx, hy, ha⟩ := h
  have c0 := hb.cell 0; have c1 := hb.cell 1; have c2 := hb.cell 2; have c3 := hb.cell 3
  change W.cell? ⟨Br, 0, none⟩ = some (.int .i64 nodes) at c0
  change W.cell? ⟨Br, 1, none⟩ = some vx at c1
  change W.cell? ⟨Br, 2, none⟩ = some vy at c2
  change W.cell? ⟨Br, 3, none⟩ = some va at c3
  have C := Lib.hid (nodes_new (m - 1) vx vy va nodes X Y ars W hx hy ha hl)
  clear hx hy ha hb hl
  refine callsIn_of_wp Tryd.func59 rfl (by simp [FK, Fence.list]) ?_ rfl
  simp only [Tryd.ntmps59, List.size_toArray, List.length_cons, List.length_nil, Nat.reduceAdd, Nat.reduceSub, Array.replicate_succ, Array.replicate_zero, List.push_toArray, List.append_toArray, List.nil_append, List.cons_append]
  gi_wp2_with fail
  refine ⟨by simp [FK, Fence.list], ?_⟩
  refine C.out.mono ?_
  rintro e W2 ⟨gf, lb, rfl, h1, h2⟩
  have H1 := Lib.hid h1; have H2 := Lib.hid h2
  clear h1 h2
  gi_wp2_with fail
  go_ret
  exact ⟨_, _, rfl, H1.out, H2.out⟩
set_option maxRecDepth 100000 in
set_option maxHeartbeats 4000000 in
theorem look5_in (m Br : Nat) (nodes : Int) (X Y : List Int) (ars : List Ar) (W : World) (h : RawAt W Br nodes X Y ars) :
    CallsIn FK m Tryd.prog 62 #[.pointer (some ⟨Br, 0, none⟩)] W fun e W' => ∃ gf lb, e = .returned (.func (.func gf) #[] lb) ∧ ItOf W' gf lb (arcsP nodes ars ars.length) ∧ Below W.heap.size W W' := by
  obtain ⟨vx, vy, va, hb, hx, hy, ha⟩ := h
  have c0 := hb.cell 0; have c1 := hb.cell 1; have c2 := hb.cell 2; have c3 := hb.cell 3
  change W.cell? ⟨Br, 0, none⟩ = some (.int .i64 nodes) at c0
  change W.cell? ⟨Br, 1, none⟩ = some vx at c1
  change W.cell? ⟨Br, 2, none⟩ = some vy at c2
  change W.cell? ⟨Br, 3, none⟩ = some va at c3
  have C := Lib.hid (arcs_new (m - 1) vx vy va nodes X Y ars W hx hy ha)
  clear hx hy ha hb
  refine callsIn_of_wp Tryd.func62 rfl (by simp [FK, Fence.list]) ?_ rfl
  simp only [Tryd.ntmps62, List.size_toArray, List.length_cons, List.length_nil, Nat.reduceAdd, Nat.reduceSub, Array.replicate_succ, Array.replicate_zero, List.push_toArray, List.append_toArray, List.nil_append, List.cons_append]
  gi_wp2_with fail
  refine ⟨by simp [FK, Fence.list], ?_⟩
  refine C.out.mono ?_
  rintro e W2 ⟨gf, lb, rfl, h1, h2⟩
  have H1 := Lib.hid h1; have H2 := Lib.hid h2
  clear h1 h2
  gi_wp2_with fail
  go_ret
  exact ⟨_, _, rfl, H1.out, H2.out⟩
set_option maxRecDepth 100000 in
set_option maxHeartbeats 4000000 in
theorem look4_in (m Br : Nat) (nodes : Int) (X Y : List Int) (ars : List Ar) (W : World) (h : RawAt W Br nodes X Y ars) :
    CallsIn FK m Tryd.prog 61 #[.pointer (some ⟨Br, 0, none⟩)] W fun e W' => ∃ gf lb, e = .returned (.func (.func gf) #[] lb) ∧ ItOf W' gf lb [⟨0, 0, 8, ars.length, 0, 67108865⟩] ∧ Below W.heap.size W W' := by
  obtain ⟨vx, vy, va, hb, hx, hy, ha⟩ := h
  obtain ⟨aa, ca, rfl, _⟩ := ha
  have c3 := hb.cell 3
  change W.cell? ⟨Br, 3, none⟩ = some (.slice aa ars.length ca) at c3
  have C := Lib.hid (one_in (m - 1) 8 ars.length 0 67108865 W)
  clear hx hy hb
  refine callsIn_of_wp Tryd.func61 rfl (by simp [FK, Fence.list]) ?_ rfl
  simp only [Tryd.ntmps61, List.size_toArray, List.length_cons, List.length_nil, Nat.reduceAdd, Nat.reduceSub, Array.replicate_succ, Array.replicate_zero, List.push_toArray, List.append_toArray, List.nil_append, List.cons_append]
  gi_wp2_with fail
  refine ⟨by simp [FK, Fence.list], ?_⟩
  refine C.out.mono ?_
  rintro e W2 ⟨gf, lb, rfl, h1, h2⟩
  have H1 := Lib.hid h1; have H2 := Lib.hid h2
  clear h1 h2
  gi_wp2_with fail
  go_ret
  exact ⟨_, _, rfl, H1.out, H2.out⟩
end Go.Proofs.YtlddcnkiigamjaaDoor
/- a function that ranges over functions again and again: the marks among what it defers, at its end. -/
namespace Go.Proofs.YtlddcnkiigamjaaDoor
open Go.RowKit Go.Shelf
theorem KpC.put {W : World} {l : Nat} {o o' : Obj} (ho : W.heap[l]? = some o) (hc : o.isCells = false) : KpC W (W.putObj l o') :=
  ⟨by simp, fun k cs t fr hk => World.putObj_heap_other (fun e => by
    subst e
    rw [ho] at hk; cases hk; cases hc)⟩
theorem below_put {B : Nat} {w W : World} {l : Nat} {o' : Obj} (h : Below B w W) (hl : B ≤ l) : Below B w (W.putObj l o') :=
  ⟨h.os, h.tape, h.output, by simpa using h.size, fun k hk => (World.putObj_heap_other (by omega)).trans (h.block k hk)⟩
/-- marks that stand from B on -/
def MarksAt (B : Nat) (w : World) : List Deferred → Prop
  | [] => True
  | d :: ds => (∃ D, d = { target := .collected D, args := #[] } ∧ B ≤ D ∧ w.heap[D]? = some (.deferred (some [])) ∧ ∀ d' ∈ ds, ∀ D', d' = { target := .collected D', args := #[] } → D' < D) ∧ MarksAt B w ds
theorem MarksAt.keep {B : Nat} : ∀ {ds : List Deferred} {w w' : World}, MarksAt B w ds → (∀ D, B ≤ D → (∃ d ∈ ds, d = { target := .collected D, args := #[] }) → w'.heap[D]? = w.heap[D]?) → MarksAt B w' ds
  | [], _, _, _, _ => trivial
  | d :: ds, w, w', ⟨⟨D, e, h1, h2, h3⟩, h⟩, hk => ⟨⟨D, e, h1, (hk D h1 ⟨d, by simp, e⟩).trans h2, h3⟩, MarksAt.keep h fun D' h1' ⟨d', hd', e'⟩ => hk D' h1' ⟨d', by simp [hd'], e'⟩⟩
theorem leaves_marks {F : Fence} {n : Nat} {P : Program} {fn : Func} {tmps : Array Value} {R : Ending → World → Prop} {B : Nat} {w0 : World} {u : FrameMode} (hu : u ≠ .run) :
    ∀ (ds : List Deferred) (w : World), MarksAt B w ds → Below B w0 w → (∀ w', KpC w w' → Below B w0 w' → LeavesIn F n P fn tmps R [] u w') → LeavesInM F n P fn tmps R ds u w
  | [], w, _, hb, h => h w (KpC.refl w) hb
  | d :: ds, w, ⟨⟨D, e, h1, h2, h3⟩, hm⟩, hb, h => by
    subst e
    refine ⟨hu, .inl ⟨_, _, rfl, run_takeDeferred h2, leaves_marks hu ds _ (hm.keep fun D' h1' ⟨d', hd', e'⟩ => World.putObj_heap_other (by have := h3 d' hd' D' e'; omega)) (below_put hb h1) fun w' hk hb' => h w' ((KpC.put h2 rfl).trans hk) hb'⟩⟩
theorem MarksAt.lt {B : Nat} : ∀ {ds : List Deferred} {w : World}, MarksAt B w ds → ∀ d ∈ ds, ∀ D, d = { target := .collected D, args := #[] } → D < w.heap.size
  | d :: ds, w, ⟨⟨D, e, h1, h2, h3⟩, h⟩, d', hd', D', e' => by
    rcases List.mem_cons.1 hd' with rfl | hd'
    · rw [e] at e'
      have : D = D' := by simpa using e'
      subst this
      exact (Array.getElem?_eq_some_iff.1 h2).1
    · exact MarksAt.lt h d' hd' D' e'
/-- one mark more -/
theorem MarksAt.more {B D : Nat} {ds : List Deferred} {w w' : World} (h : MarksAt B w ds) (hb : Below w.heap.size w w') (hB : B ≤ w.heap.size) (hD : w.heap.size ≤ D) (hK : w'.heap[D]? = some (.deferred (some []))) :
    MarksAt B w' ({ target := .collected D, args := #[] } :: ds) :=
  ⟨⟨D, rfl, by omega, hK, fun d' hd' D' e' => by have := h.lt d' hd' D' e'; omega⟩, h.keep fun D' _ ⟨d', hd', e'⟩ => hb.block D' (h.lt d' hd' D' e')⟩
end Go.Proofs.YtlddcnkiigamjaaDoor
/- graph, in plain words: the first bad place. -/
namespace Go.Proofs.YtlddcnkiigamjaaDoor
open Go.RowKit
theorem find_pre {ps pre : List Pl} {x : Pl} (h : pre ++ [x] <+: ps) (hn : ∀ p ∈ pre, p.bad = false) (hb : x.bad = true) : ps.find? Pl.bad = some x := by
  obtain ⟨t, rfl⟩ := h
  rw [List.append_assoc, List.find?_append]
  have e : pre.find? Pl.bad = none := by
    rw [List.find?_eq_none]
    intro p hp
    rw [hn p hp]; decide
  rw [e]
  simp [hb]
theorem find_none {ps : List Pl} (hn : ∀ p ∈ ps, p.bad = false) : ps.find? Pl.bad = none := by
  rw [List.find?_eq_none]
  intro p hp
  rw [hn p hp]; decide
/-- what look tells: the phase, and the place -/
def lookV : List (List Pl) → Nat → Option (Nat × Pl)
  | [], _ => none
  | ps :: rest, k => match ps.find? Pl.bad with
    | some p => some (k, p)
    | none => lookV rest (k + 1)
end Go.Proofs.YtlddcnkiigamjaaDoor
