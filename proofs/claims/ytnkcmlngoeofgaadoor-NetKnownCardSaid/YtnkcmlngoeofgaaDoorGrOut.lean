/- a raw graph in a variable of the call's own, its lists ours: what it is, one element more. -/
import Derived.Test.YtnkcmlngoeofgaaDoorGrCopied
namespace Go.Proofs.YtnkcmlngoeofgaaDoor
open Go.RowKit
/-- the graph r lies in the variable Bo, its lists made behind w1 -/
structure OutI (w1 : World) (Bo : Nat) (vx vy va : Value) (r : Raw) (W : World) : Prop where
  blk : Blk W Bo #[.int .i64 r.nodes, vx, vy, va] 25 (0, 0)
  own : Own3 w1.heap.size W vx vy va r
  kept : Kept (· = Bo) w1 W
theorem Own3.below {base : Nat} {w w' : World} {vx vy va : Value} {r : Raw} (h : Own3 base w vx vy va r) (hb : Below w.heap.size w w') : Own3 base w' vx vy va r :=
  ⟨ownsRow_below h.1 hb, ownsRow_below h.2.1 hb, ownsRow_below h.2.2.1 hb, h.2.2.2⟩
theorem OutI.below {w1 : World} {Bo : Nat} {vx vy va : Value} {r : Raw} {W W' : World} (h : OutI w1 Bo vx vy va r W) (hb : Below W.heap.size W W') : OutI w1 Bo vx vy va r W' :=
  ⟨h.blk.below hb h.blk.lt, h.own.below hb, ⟨hb.os.trans h.kept.os, hb.tape.trans h.kept.tape, hb.output.trans h.kept.output, Nat.le_trans h.kept.size hb.size, fun k hk hs => (hb.block k (Nat.lt_of_lt_of_le hk h.kept.size)).trans (h.kept.block k hk hs)⟩⟩
theorem OutI.raw {w1 : World} {Bo : Nat} {vx vy va : Value} {r : Raw} {W : World} (h : OutI w1 Bo vx vy va r W) : RawO w1.heap.size W (.agg #[.int .i64 r.nodes, vx, vy, va]) r := ⟨vx, vy, va, rfl, h.own.1, h.own.2.1, h.own.2.2.1, h.own.2.2.2⟩

theorem OutI.pushX {w1 W : World} {Bo B : Nat} {vx vy va : Value} {r : Raw} {t : TypeId} {fr : Nat × Nat} {x : Int} (h : OutI w1 Bo vx vy va r W) (hB : Blk W B (inC x).toArray t fr) (hl : r.X.length ≤ 1000000) :
    ∃ v' W', (Builtin.append_ #[22, 22] 22 #[vx, .slice (some ⟨B, 0, none⟩) 1 1]).run Tryd.prog W = .ok v' W' ∧ (∃ a n c, v' = .slice a n c) ∧ Blk W' Bo #[.int .i64 r.nodes, vx, vy, va] 25 (0, 0) ∧ W.grownBy W' vx.ownBlock ∧ OutI w1 Bo v' vy va { r with X := r.X ++ [x] } (W'.setCell ⟨Bo, 1, none⟩ v') := by
  obtain ⟨i0, hi, hz0, hz1, hz2⟩ := info_parts infoI
  have hbase := h.kept.size
  have hs : SlF 1 W (.slice (some ⟨B, 0, none⟩) 1 1) 1 (inC x) := ⟨inC_len x, fun u hu => by simp only [inC, List.mem_cons, List.not_mem_nil, or_false] at hu; rw [hu]; rfl, _, 1, rfl, Nat.le_refl _, by unfold maxLen; omega, fun j u hu => ⟨B, 0, rfl, by rw [Nat.zero_add, hB.cell, List.getElem?_toArray]; exact hu⟩⟩
  obtain ⟨v', W', hr, hown, hg, hat, _⟩ := run_append_row (P := Tryd.prog) w1.heap.size 22 22 2 i0 _ 1 8 Tryd.underlying22 hi hz0 hz1 hz2 rfl (by omega) vx r.X.length _ h.own.1 _ 1 _ hs (by unfold maxLen; omega) (by omega) hbase
  have hBo : some Bo ≠ vx.ownBlock := fun e => by
    obtain ⟨_, c2, q2⟩ := ownsRow_blk' h.own.1 e.symm
    have e2 := (show W.heap[Bo]? = some _ from h.blk).symm.trans (show W.heap[Bo]? = some _ from q2)
    cases e2
  have hBlk : Blk W' Bo #[.int .i64 r.nodes, vx, vy, va] 25 (0, 0) := (hg.block Bo h.blk.lt hBo).trans h.blk
  have oth : ∀ {e : TypeId} {size : Nat} {v : Value} {n : Nat} {xs : List Value}, W.ownsRow w1.heap.size e size v n xs → (∀ b, v.ownBlock = some b → some b ≠ vx.ownBlock) → W'.ownsRow w1.heap.size e size v n xs := fun ho hd =>
    ownsRow_agree' ho fun k hk => hg.block k (ownsRow_blk' ho hk).2.choose_spec.lt (hd k hk)
  have oy := oth h.own.2.1 (fun b hb e => h.own.2.2.2 b e.symm hb)
  have oa := oth h.own.2.2.1 (fun b hb e => by
      obtain ⟨_, c1, q1⟩ := ownsRow_blk' h.own.2.2.1 hb
      obtain ⟨_, c2, q2⟩ := ownsRow_blk' h.own.1 e.symm
      have e2 := (show W.heap[b]? = some _ from q1).symm.trans (show W.heap[b]? = some _ from q2)
      cases e2)
  have hnew : W'.ownsRow w1.heap.size 2 1 v' (r.X ++ [x]).length ((r.X ++ [x]).flatMap inC) := by
    rw [List.length_append, List.flatMap_append]; simpa using hown
  have hK : Kept (· = Bo) w1 W' := ⟨hg.os.trans h.kept.os, hg.tape.trans h.kept.tape, hg.output.trans h.kept.output, Nat.le_trans h.kept.size hg.size, fun k hk hs => (hg.block k (by omega) (fun e => by have := (ownsRow_blk' h.own.1 e.symm).1; omega)).trans (h.kept.block k hk hs)⟩
  have hdx : ∀ b, v'.ownBlock = some b → ∀ {e : TypeId} {size : Nat} {v : Value} {n : Nat} {xs : List Value}, W.ownsRow w1.heap.size e size v n xs → (∀ b, v.ownBlock = some b → some b ≠ vx.ownBlock) → v.ownBlock = some b → False := fun b hb _ _ _ _ _ ho hd hv => by
    rcases hat with hat | hat
    · exact hd b hv (by rw [← hat, hb])
    · have e : b = W.heap.size := by rw [hat] at hb; exact (Option.some.inj hb).symm
      have := (ownsRow_blk' ho hv).2.choose_spec.lt
      omega
  obtain ⟨a', n', c', hv'⟩ := hown.one'
  refine ⟨v', W', hr, ⟨a', n', c', hv'⟩, hBlk, hg, ⟨?_, ?_, ?_⟩⟩
  · have h2 := hBlk.set 1 v'
    exact h2
  · exact Own3.set (r := { r with X := r.X ++ [x] }) (p := ⟨Bo, 1, none⟩) ⟨hnew, oy, oa, fun b h1 h2 => hdx b h1 h.own.2.1 (fun b hb e => h.own.2.2.2 b e.symm hb) h2⟩ hBlk (by decide) (by decide) v'
  · exact hK.setCell (p := ⟨Bo, 1, none⟩) rfl v'

theorem OutI.pushY {w1 W : World} {Bo B : Nat} {vx vy va : Value} {r : Raw} {t : TypeId} {fr : Nat × Nat} {x : Int} (h : OutI w1 Bo vx vy va r W) (hB : Blk W B (inC x).toArray t fr) (hl : r.Y.length ≤ 1000000) :
    ∃ v' W', (Builtin.append_ #[22, 22] 22 #[vy, .slice (some ⟨B, 0, none⟩) 1 1]).run Tryd.prog W = .ok v' W' ∧ (∃ a n c, v' = .slice a n c) ∧ Blk W' Bo #[.int .i64 r.nodes, vx, vy, va] 25 (0, 0) ∧ W.grownBy W' vy.ownBlock ∧ OutI w1 Bo vx v' va { r with Y := r.Y ++ [x] } (W'.setCell ⟨Bo, 2, none⟩ v') := by
  obtain ⟨i0, hi, hz0, hz1, hz2⟩ := info_parts infoI
  have hbase := h.kept.size
  have hs : SlF 1 W (.slice (some ⟨B, 0, none⟩) 1 1) 1 (inC x) := ⟨inC_len x, fun u hu => by simp only [inC, List.mem_cons, List.not_mem_nil, or_false] at hu; rw [hu]; rfl, _, 1, rfl, Nat.le_refl _, by unfold maxLen; omega, fun j u hu => ⟨B, 0, rfl, by rw [Nat.zero_add, hB.cell, List.getElem?_toArray]; exact hu⟩⟩
  obtain ⟨v', W', hr, hown, hg, hat, _⟩ := run_append_row (P := Tryd.prog) w1.heap.size 22 22 2 i0 _ 1 8 Tryd.underlying22 hi hz0 hz1 hz2 rfl (by omega) vy r.Y.length _ h.own.2.1 _ 1 _ hs (by unfold maxLen; omega) (by omega) hbase
  have hBo : some Bo ≠ vy.ownBlock := fun e => by
    obtain ⟨_, c2, q2⟩ := ownsRow_blk' h.own.2.1 e.symm
    have e2 := (show W.heap[Bo]? = some _ from h.blk).symm.trans (show W.heap[Bo]? = some _ from q2)
    cases e2
  have hBlk : Blk W' Bo #[.int .i64 r.nodes, vx, vy, va] 25 (0, 0) := (hg.block Bo h.blk.lt hBo).trans h.blk
  have oth : ∀ {e : TypeId} {size : Nat} {v : Value} {n : Nat} {xs : List Value}, W.ownsRow w1.heap.size e size v n xs → (∀ b, v.ownBlock = some b → some b ≠ vy.ownBlock) → W'.ownsRow w1.heap.size e size v n xs := fun ho hd =>
    ownsRow_agree' ho fun k hk => hg.block k (ownsRow_blk' ho hk).2.choose_spec.lt (hd k hk)
  have ox := oth h.own.1 (fun b hb e => h.own.2.2.2 b hb e.symm)
  have oa := oth h.own.2.2.1 (fun b hb e => by
      obtain ⟨_, c1, q1⟩ := ownsRow_blk' h.own.2.2.1 hb
      obtain ⟨_, c2, q2⟩ := ownsRow_blk' h.own.2.1 e.symm
      have e2 := (show W.heap[b]? = some _ from q1).symm.trans (show W.heap[b]? = some _ from q2)
      cases e2)
  have hnew : W'.ownsRow w1.heap.size 2 1 v' (r.Y ++ [x]).length ((r.Y ++ [x]).flatMap inC) := by
    rw [List.length_append, List.flatMap_append]; simpa using hown
  have hK : Kept (· = Bo) w1 W' := ⟨hg.os.trans h.kept.os, hg.tape.trans h.kept.tape, hg.output.trans h.kept.output, Nat.le_trans h.kept.size hg.size, fun k hk hs => (hg.block k (by omega) (fun e => by have := (ownsRow_blk' h.own.2.1 e.symm).1; omega)).trans (h.kept.block k hk hs)⟩
  have hdx : ∀ b, v'.ownBlock = some b → ∀ {e : TypeId} {size : Nat} {v : Value} {n : Nat} {xs : List Value}, W.ownsRow w1.heap.size e size v n xs → (∀ b, v.ownBlock = some b → some b ≠ vy.ownBlock) → v.ownBlock = some b → False := fun b hb _ _ _ _ _ ho hd hv => by
    rcases hat with hat | hat
    · exact hd b hv (by rw [← hat, hb])
    · have e : b = W.heap.size := by rw [hat] at hb; exact (Option.some.inj hb).symm
      have := (ownsRow_blk' ho hv).2.choose_spec.lt
      omega
  obtain ⟨a', n', c', hv'⟩ := hown.one'
  refine ⟨v', W', hr, ⟨a', n', c', hv'⟩, hBlk, hg, ⟨?_, ?_, ?_⟩⟩
  · have h2 := hBlk.set 2 v'
    exact h2
  · exact Own3.set (r := { r with Y := r.Y ++ [x] }) (p := ⟨Bo, 2, none⟩) ⟨ox, hnew, oa, fun b h1 h2 => hdx b h2 h.own.1 (fun b hb e => h.own.2.2.2 b hb e.symm) h1⟩ hBlk (by decide) (by decide) v'
  · exact hK.setCell (p := ⟨Bo, 2, none⟩) rfl v'

theorem OutI.pushA {w1 W : World} {Bo B : Nat} {vx vy va : Value} {r : Raw} {t : TypeId} {fr : Nat × Nat} {x : Ar} (h : OutI w1 Bo vx vy va r W) (hB : Blk W B (arC x).toArray t fr) (hl : r.arcs.length ≤ 1000000) :
    ∃ v' W', (Builtin.append_ #[23, 23] 23 #[va, .slice (some ⟨B, 0, none⟩) 1 1]).run Tryd.prog W = .ok v' W' ∧ (∃ a n c, v' = .slice a n c) ∧ Blk W' Bo #[.int .i64 r.nodes, vx, vy, va] 25 (0, 0) ∧ W.grownBy W' va.ownBlock ∧ OutI w1 Bo vx vy v' { r with arcs := r.arcs ++ [x] } (W'.setCell ⟨Bo, 3, none⟩ v') := by
  obtain ⟨i0, hi, hz0, hz1, hz2⟩ := info_parts infoA
  have hbase := h.kept.size
  have hs : SlF 3 W (.slice (some ⟨B, 0, none⟩) 1 1) 1 (arC x) := ⟨arC_len x, fun u hu => by simp only [arC, List.mem_cons, List.not_mem_nil, or_false] at hu; rcases hu with rfl | rfl | rfl <;> rfl, _, 1, rfl, Nat.le_refl _, by unfold maxLen; omega, fun j u hu => ⟨B, 0, rfl, by rw [Nat.zero_add, hB.cell, List.getElem?_toArray]; exact hu⟩⟩
  obtain ⟨v', W', hr, hown, hg, hat, _⟩ := run_append_row (P := Tryd.prog) w1.heap.size 23 23 54 i0 _ 3 24 Tryd.underlying23 hi hz0 hz1 hz2 rfl (by omega) va r.arcs.length _ h.own.2.2.1 _ 1 _ hs (by unfold maxLen; omega) (by omega) hbase
  have hBo : some Bo ≠ va.ownBlock := fun e => by
    obtain ⟨_, c2, q2⟩ := ownsRow_blk' h.own.2.2.1 e.symm
    have e2 := (show W.heap[Bo]? = some _ from h.blk).symm.trans (show W.heap[Bo]? = some _ from q2)
    cases e2
  have hBlk : Blk W' Bo #[.int .i64 r.nodes, vx, vy, va] 25 (0, 0) := (hg.block Bo h.blk.lt hBo).trans h.blk
  have oth : ∀ {e : TypeId} {size : Nat} {v : Value} {n : Nat} {xs : List Value}, W.ownsRow w1.heap.size e size v n xs → (∀ b, v.ownBlock = some b → some b ≠ va.ownBlock) → W'.ownsRow w1.heap.size e size v n xs := fun ho hd =>
    ownsRow_agree' ho fun k hk => hg.block k (ownsRow_blk' ho hk).2.choose_spec.lt (hd k hk)
  have ox := oth h.own.1 (fun b hb e => by
      obtain ⟨_, c1, q1⟩ := ownsRow_blk' h.own.1 hb
      obtain ⟨_, c2, q2⟩ := ownsRow_blk' h.own.2.2.1 e.symm
      have e2 := (show W.heap[b]? = some _ from q1).symm.trans (show W.heap[b]? = some _ from q2)
      cases e2)
  have oy := oth h.own.2.1 (fun b hb e => by
      obtain ⟨_, c1, q1⟩ := ownsRow_blk' h.own.2.1 hb
      obtain ⟨_, c2, q2⟩ := ownsRow_blk' h.own.2.2.1 e.symm
      have e2 := (show W.heap[b]? = some _ from q1).symm.trans (show W.heap[b]? = some _ from q2)
      cases e2)
  have hnew : W'.ownsRow w1.heap.size 54 3 v' (r.arcs ++ [x]).length ((r.arcs ++ [x]).flatMap arC) := by
    rw [List.length_append, List.flatMap_append]; simpa using hown
  have hK : Kept (· = Bo) w1 W' := ⟨hg.os.trans h.kept.os, hg.tape.trans h.kept.tape, hg.output.trans h.kept.output, Nat.le_trans h.kept.size hg.size, fun k hk hs => (hg.block k (by omega) (fun e => by have := (ownsRow_blk' h.own.2.2.1 e.symm).1; omega)).trans (h.kept.block k hk hs)⟩
  have hdx : ∀ b, v'.ownBlock = some b → ∀ {e : TypeId} {size : Nat} {v : Value} {n : Nat} {xs : List Value}, W.ownsRow w1.heap.size e size v n xs → (∀ b, v.ownBlock = some b → some b ≠ va.ownBlock) → v.ownBlock = some b → False := fun b hb _ _ _ _ _ ho hd hv => by
    rcases hat with hat | hat
    · exact hd b hv (by rw [← hat, hb])
    · have e : b = W.heap.size := by rw [hat] at hb; exact (Option.some.inj hb).symm
      have := (ownsRow_blk' ho hv).2.choose_spec.lt
      omega
  obtain ⟨a', n', c', hv'⟩ := hown.one'
  refine ⟨v', W', hr, ⟨a', n', c', hv'⟩, hBlk, hg, ⟨?_, ?_, ?_⟩⟩
  · have h2 := hBlk.set 3 v'
    exact h2
  · exact Own3.set (r := { r with arcs := r.arcs ++ [x] }) (p := ⟨Bo, 3, none⟩) ⟨ox, oy, hnew, h.own.2.2.2⟩ hBlk (by decide) (by decide) v'
  · exact hK.setCell (p := ⟨Bo, 3, none⟩) rfl v'
end Go.Proofs.YtnkcmlngoeofgaaDoor
