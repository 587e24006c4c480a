/- octet: two writers. -/
import Derived.Test.YtaikcehdomaebaaDoorOctW
namespace Go.Proofs.YtaikcehdomaebaaDoor
open Go.RowKit
/-- two writers of our own, and a block that is kept in sight; nothing else turned -/
def Two (w0 w : World) (p1 : Nat) (l1 : List UInt8) (p2 : Nat) (l2 : List UInt8) (tr : Option (Nat × Array Value × TypeId)) : Prop :=
  ∃ F1 F2 : Nat → Prop, Wr w p1 l1 F1 ∧ Wr w p2 l2 F2 ∧ (∀ b, F1 b → ¬ F2 b) ∧ (∀ b, F1 b → w0.heap.size ≤ b) ∧ (∀ b, F2 b → w0.heap.size ≤ b) ∧ Below w0.heap.size w0 w ∧
    ∀ X cs t, tr = some (X, cs, t) → Blk w X cs t (0, 0) ∧ ¬ F1 X ∧ ¬ F2 X
section
variable {w0 w w' : World} {p1 p2 : Nat} {l1 l1' l2 l2' : List UInt8} {tr : Option (Nat × Array Value × TypeId)}
theorem Two.below (h : Two w0 w p1 l1 p2 l2 tr) : Below w0.heap.size w0 w := by obtain ⟨F1, F2, h1, h2, hd, b1, b2, hB, ht⟩ := h; exact hB
theorem Two.blk {X : Nat} {cs : Array Value} {t : TypeId} (h : Two w0 w p1 l1 p2 l2 (some (X, cs, t))) : Blk w X cs t (0, 0) := by obtain ⟨F1, F2, h1, h2, hd, b1, b2, hB, ht⟩ := h; exact (ht X cs t rfl).1
theorem Two.later (h : Two w0 w p1 l1 p2 l2 tr) (hb : Below w.heap.size w w') : Two w0 w' p1 l1 p2 l2 tr := by
  obtain ⟨F1, F2, h1, h2, hd, b1, b2, hB, ht⟩ := h
  exact ⟨F1, F2, h1.later hb, h2.later hb, hd, b1, b2, hB.trans (hb.mono hB.size), fun X cs t e => ⟨(ht X cs t e).1.below hb (ht X cs t e).1.lt, (ht X cs t e).2⟩⟩
theorem Two.forget (h : Two w0 w p1 l1 p2 l2 tr) : Two w0 w p1 l1 p2 l2 none := by
  obtain ⟨F1, F2, h1, h2, hd, b1, b2, hB, ht⟩ := h
  exact ⟨F1, F2, h1, h2, hd, b1, b2, hB, fun X cs t e => by cases e⟩
theorem Two.track (h : Two w0 w p1 l1 p2 l2 none) (cs : Array Value) (t : TypeId) : Two w0 (w.alloc (.cells cs t)) p1 l1 p2 l2 (some (w.heap.size, cs, t)) := by
  have ha := (Below.refl w.heap.size w).alloc (Nat.le_refl _) (.cells cs t)
  obtain ⟨F1, F2, h1, h2, hd, b1, b2, hB, ht⟩ := h
  refine ⟨F1, F2, h1.later ha, h2.later ha, hd, b1, b2, hB.trans (ha.mono hB.size), fun X cs' t' e => ?_⟩
  cases e
  exact ⟨Blk.new _ _ _ _, fun hf => by have := h1.lt _ hf; omega, fun hf => by have := h2.lt _ hf; omega⟩
end
theorem Two.fst {w0 w w' : World} {p1 p2 : Nat} {l1' l2 : List UInt8} {F1 F2 : Nat → Prop} {tr : Option (Nat × Array Value × TypeId)} (h2 : Wr w p2 l2 F2) (hd : ∀ b, F1 b → ¬ F2 b) (b1 : ∀ b, F1 b → w0.heap.size ≤ b) (b2 : ∀ b, F2 b → w0.heap.size ≤ b) (hB : Below w0.heap.size w0 w)
    (ht : ∀ X cs t, tr = some (X, cs, t) → Blk w X cs t (0, 0) ∧ ¬ F1 X ∧ ¬ F2 X) (h : WrOn w p1 l1' F1 w') : Two w0 w' p1 l1' p2 l2 tr := by
  obtain ⟨F', hw, hk, hF⟩ := h
  refine ⟨F', F2, hw, h2.kept hk (fun b hb hf => hd b hf hb), fun b hb hf => ?_, fun b hb => ?_, b2, hB.trans (hk.below hB.size b1), fun X cs t e => ?_⟩
  · rcases hF b hb with h | h
    · exact hd b h hf
    · have := h2.lt b hf; omega
  · rcases hF b hb with h | h
    · exact b1 b h
    · exact Nat.le_trans hB.size h
  · obtain ⟨t1, t2, t3⟩ := ht X cs t e
    refine ⟨hk.blk t1 t2, fun hf => ?_, t3⟩
    rcases hF X hf with h | h
    · exact t2 h
    · have := t1.lt; omega
theorem Two.snd {w0 w w' : World} {p1 p2 : Nat} {l1 l2' : List UInt8} {F1 F2 : Nat → Prop} {tr : Option (Nat × Array Value × TypeId)} (h1 : Wr w p1 l1 F1) (hd : ∀ b, F1 b → ¬ F2 b) (b1 : ∀ b, F1 b → w0.heap.size ≤ b) (b2 : ∀ b, F2 b → w0.heap.size ≤ b) (hB : Below w0.heap.size w0 w)
    (ht : ∀ X cs t, tr = some (X, cs, t) → Blk w X cs t (0, 0) ∧ ¬ F1 X ∧ ¬ F2 X) (h : WrOn w p2 l2' F2 w') : Two w0 w' p1 l1 p2 l2' tr := by
  obtain ⟨F', hw, hk, hF⟩ := h
  refine ⟨F1, F', h1.kept hk (fun b hb hf => hd b hb hf), hw, fun b hf hb => ?_, b1, fun b hb => ?_, hB.trans (hk.below hB.size b2), fun X cs t e => ?_⟩
  · rcases hF b hb with h | h
    · exact hd b hf h
    · have := h1.lt b hf; omega
  · rcases hF b hb with h | h
    · exact b2 b h
    · exact Nat.le_trans hB.size h
  · obtain ⟨t1, t2, t3⟩ := ht X cs t e
    refine ⟨hk.blk t1 t3, t2, fun hf => ?_⟩
    rcases hF X hf with h | h
    · exact t3 h
    · have := t1.lt; omega
end Go.Proofs.YtaikcehdomaebaaDoor
