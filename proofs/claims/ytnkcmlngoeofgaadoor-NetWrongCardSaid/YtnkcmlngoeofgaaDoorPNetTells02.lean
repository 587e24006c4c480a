/- Texts of the law NetTells, merged: CopyD. -/
import Derived.Test.YtnkcmlngoeofgaaDoorPNetOnce02
import Derived.Test.YtnkcmlngoeofgaaDoorPNetOnce01
/- 'api.Raw{Nodes: g.Nodes, X: append([]int64{}, g.X...), ..}' in a region that draws: what its appends leave. -/
namespace Go.Proofs.YtnkcmlngoeofgaaDoor
open Go.RowKit
section
variable {F : Fence} {n : Nat} {P : Program} {ops : Array Oper} {Q : Exit → Act → World → Prop} {S : World → Prop} {D : Nat}
theorem heldD_three {i k m : Nat} {fuel : Nat} {listed : Array Bool} {a : Act} {w : World} (hr : Region.ready .any ops listed = [i, k, m])
    (h1 : wpOpIn F n P ops Q i (fun a' w' => ((listed.setIfInBounds i true).getD D true = false → S w') ∧ heldD F n P ops Q S D fuel (listed.setIfInBounds i true) a' w') a w)
    (h2 : wpOpIn F n P ops Q k (fun a' w' => ((listed.setIfInBounds k true).getD D true = false → S w') ∧ heldD F n P ops Q S D fuel (listed.setIfInBounds k true) a' w') a w)
    (h3 : wpOpIn F n P ops Q m (fun a' w' => ((listed.setIfInBounds m true).getD D true = false → S w') ∧ heldD F n P ops Q S D fuel (listed.setIfInBounds m true) a' w') a w) : heldD F n P ops Q S D (fuel + 1) listed a w :=
  ⟨fun h0 => (by rw [hr] at h0; cases h0), fun j hj => by
    rw [hr] at hj
    rcases List.mem_cons.1 hj with rfl | hj
    · exact h1
    · rcases List.mem_cons.1 hj with rfl | hj
      · exact h2
      · obtain rfl : j = m := by simpa using hj
        exact h3⟩
end
theorem ownsRow_grown {w w' : World} {g base : Nat} {e : TypeId} {size : Nat} {v : Value} {n : Nat} {xs : List Value} (h : w.ownsRow base e size v n xs) (hg : w.grownBy w' (some g)) (hne : ∀ b, v.ownBlock = some b → b ≠ g) : w'.ownsRow base e size v n xs :=
  ownsRow_agree' h fun b hb => hg.block b (ownsRow_blk' h hb).2.choose_spec.lt (fun e => hne b hb (Option.some.inj e))
/-- an append onto a literal without elements -/
theorem copyApp {α : Type} {W0 W : World} {g : Nat} {t e : TypeId} {size bytes : Nat} {z : Value} {f : α → List Value} {L : List α} {v : Value} (ht : Tryd.prog.underlying t = some (.slice e)) (hinfo : (Tryd.prog.info? e).map (fun i => (i.zero, i.size, i.bytes)) = some (some z, size, bytes)) (hzs : z.cells.size = size) (hsz : 0 < size) (hby : bytes ≤ 24)
    (hown : W.ownsRow W0.heap.size e size (.slice (some ⟨g, 0, none⟩) 0 0) 0 []) (hs : SlF size W v L.length (L.flatMap f)) (hL : L.length ≤ 1000000000000) (hb : Below W0.heap.size W0 W) (hg : W0.heap.size ≤ g) :
    ∃ a n c W', (Builtin.append_ #[t, t] t #[.slice (some ⟨g, 0, none⟩) 0 0, v]).run Tryd.prog W = .ok (.slice a n c) W' ∧ W'.ownsRow W0.heap.size e size (.slice a n c) L.length (L.flatMap f) ∧ Below W0.heap.size W0 W' ∧ W.grownBy W' (some g) ∧ (∀ b, (Value.slice a n c).ownBlock = some b → b < W'.heap.size ∧ (b = g ∨ b = W.heap.size)) ∧ W.heap.size ≤ W'.heap.size := by
  obtain ⟨i0, hi, hz0, hz1, hz2⟩ := info_parts hinfo
  obtain ⟨v', W', hr, ho, hgr, hat, _⟩ := run_append_row (P := Tryd.prog) W0.heap.size t t e i0 z size bytes ht hi hz0 hz1 hz2 hzs hsz _ 0 [] hown v L.length _ hs (by unfold maxLen; omega) (by
    rw [Nat.zero_add]
    exact Nat.le_trans (Nat.mul_le_mul hL hby) (by omega)) hb.size
  rw [Nat.zero_add, List.nil_append] at ho
  obtain ⟨a, n, c, rfl⟩ := ho.one'
  refine ⟨a, n, c, W', hr, ho, ⟨hgr.os.trans hb.os, hgr.tape.trans hb.tape, hgr.output.trans hb.output, Nat.le_trans hb.size hgr.size, fun k hk => (hgr.block k (Nat.lt_of_lt_of_le hk hb.size) (fun e => by have : k = g := Option.some.inj e; omega)).trans (hb.block k hk)⟩, hgr, fun b hb' => ⟨(ownsRow_blk' ho hb').2.choose_spec.lt, ?_⟩, hgr.size⟩
  rcases hat with h | h
  · rw [h] at hb'; exact .inl (Option.some.inj hb').symm
  · rw [h] at hb'; exact .inr (Option.some.inj hb').symm
/-- a graph's four values, stored in a variable of ours -/
theorem store4 {w0 W : World} {Bt base : Nat} {vx vy va y0 y1 y2 y3 : Value} {r : Raw} (hO : Own3 base W vx vy va r) (hB : Blk W Bt #[y0, y1, y2, y3] 25 (0, 0)) (hle : w0.heap.size ≤ Bt) (hb : Below w0.heap.size w0 W) :
    Blk ((((W.setCell ⟨Bt, 0, none⟩ (.int .i64 r.nodes)).setCell ⟨Bt, 1, none⟩ vx).setCell ⟨Bt, 2, none⟩ vy).setCell ⟨Bt, 3, none⟩ va) Bt #[.int .i64 r.nodes, vx, vy, va] 25 (0, 0) ∧
    Own3 base ((((W.setCell ⟨Bt, 0, none⟩ (.int .i64 r.nodes)).setCell ⟨Bt, 1, none⟩ vx).setCell ⟨Bt, 2, none⟩ vy).setCell ⟨Bt, 3, none⟩ va) vx vy va r ∧
    Below w0.heap.size w0 ((((W.setCell ⟨Bt, 0, none⟩ (.int .i64 r.nodes)).setCell ⟨Bt, 1, none⟩ vx).setCell ⟨Bt, 2, none⟩ vy).setCell ⟨Bt, 3, none⟩ va) := by
  refine ⟨(((hB.set 0 (.int .i64 r.nodes)).set 1 vx).set 2 vy).set 3 va, ?_, (((hb.setCell (p := ⟨Bt, 0, none⟩) hle _).setCell (p := ⟨Bt, 1, none⟩) hle _).setCell (p := ⟨Bt, 2, none⟩) hle _).setCell (p := ⟨Bt, 3, none⟩) hle _⟩
  exact (((hO.set (p := ⟨Bt, 0, none⟩) hB (by decide) (by decide) _).set (p := ⟨Bt, 1, none⟩) (hB.set 0 (.int .i64 r.nodes)) (by decide) (by decide) _).set (p := ⟨Bt, 2, none⟩) ((hB.set 0 (.int .i64 r.nodes)).set 1 vx) (by decide) (by decide) _).set (p := ⟨Bt, 3, none⟩) (((hB.set 0 (.int .i64 r.nodes)).set 1 vx).set 2 vy) (by decide) (by decide) _
end Go.Proofs.YtnkcmlngoeofgaaDoor
