/- THE WALKS over octet: the reader's Err. -/
import Derived.Test.YtaikcehdomaebaaDoorOctWU
namespace Go.Proofs.YtaikcehdomaebaaDoor
open Go.RowKit
theorem err_any (q : Nat) (R : RS) (w : World) (h : Ro true w q R) : Calls Tryd.prog 16 #[.pointer (some ⟨q, 0, none⟩)] w fun e w' =>
    ∃ v, e = .returned v ∧ (R.f = none → v = .nilIface) ∧ (∀ c i, R.f = some (c, i) → ∃ b, v = .iface 74 (.pointer (some ⟨b, 0, none⟩)) ∧ w.heap.size ≤ b ∧ Blk w' b #[.int .i64 c, .int .i64 0, .int .i64 (i : Nat), .int .i64 0] 42 (0, 0)) ∧ Below w.heap.size w w' := by
  obtain ⟨⟨fp, hb, hf0, hf1⟩, hle, hsz⟩ := id h
  have c2 := hb.cell 2
  change w.cell? ⟨q, 2, none⟩ = some (.pointer fp) at c2
  cases hf : R.f with
  | none =>
    obtain rfl := hf0 hf
    clear hf0 hf1 hb h hf
    go_enter Tryd.func16, Tryd.ntmps16
    go_wp2
    go_ret
    exact ⟨_, rfl, fun _ => rfl, fun _ _ h => (by cases h), Below.refl _ _⟩
  | some ci =>
    obtain ⟨c, i⟩ := ci
    obtain ⟨b, rfl, hfb⟩ := hf1 c i hf
    obtain ⟨hne, hB⟩ := hfb rfl
    have k0 := hB.cell 0; have k1 := hB.cell 1; have k2 := hB.cell 2; have k3 := hB.cell 3
    clear hf0 hf1 hb h hf hfb hB
    change w.cell? ⟨b, 0, none⟩ = some (.int .i64 c) at k0
    change w.cell? ⟨b, 1, none⟩ = some (.int .i64 0) at k1
    change w.cell? ⟨b, 2, none⟩ = some (.int .i64 i) at k2
    change w.cell? ⟨b, 3, none⟩ = some (.int .i64 0) at k3
    go_enter Tryd.func16, Tryd.ntmps16
    go_wp2
    go_ret
    refine ⟨_, rfl, fun h => (by cases h), fun c' i' h => ?_, (Below.refl _ _).alloc (Nat.le_refl _) _⟩
    simp only [Option.some.injEq, Prod.mk.injEq] at h
    obtain ⟨rfl, rfl⟩ := h
    exact ⟨_, rfl, Nat.le_refl _, Blk.new _ _ _ _⟩
theorem err_none (q : Nat) (R : RS) (w : World) (h : Ro true w q R) (hf : R.f = none) : Calls Tryd.prog 16 #[.pointer (some ⟨q, 0, none⟩)] w fun e w' => e = .returned .nilIface ∧ Below w.heap.size w w' := by
  refine (err_any q R w h).mono ?_
  rintro e w' ⟨v, rfl, h1, _, hb⟩
  exact ⟨by rw [h1 hf], hb⟩
theorem err_some (q : Nat) (R : RS) (w : World) (h : Ro true w q R) (c : Int) (i : Nat) (hf : R.f = some (c, i)) : Calls Tryd.prog 16 #[.pointer (some ⟨q, 0, none⟩)] w fun e w' =>
    ∃ b, e = .returned (.iface 74 (.pointer (some ⟨b, 0, none⟩))) ∧ w.heap.size ≤ b ∧ Blk w' b #[.int .i64 c, .int .i64 0, .int .i64 (i : Nat), .int .i64 0] 42 (0, 0) ∧ Below w.heap.size w w' := by
  refine (err_any q R w h).mono ?_
  rintro e w' ⟨v, rfl, _, h2, hb⟩
  obtain ⟨b, rfl, h3, h4⟩ := h2 c i hf
  exact ⟨b, rfl, h3, h4, hb⟩
end Go.Proofs.YtaikcehdomaebaaDoor
