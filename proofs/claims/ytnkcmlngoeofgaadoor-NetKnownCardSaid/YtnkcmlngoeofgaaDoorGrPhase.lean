/- graph, in plain words: the first bad place. -/
import Derived.Test.YtnkcmlngoeofgaaDoorGrPl
namespace Go.Proofs.YtnkcmlngoeofgaaDoor
open Go.RowKit
theorem find_pre {ps pre : List Pl} {x : Pl} (h : pre ++ [x] <+: ps) (hn : ∀ p ∈ pre, p.bad = false) (hb : x.bad = true) : ps.find? Pl.bad = some x := by
  obtain ⟨t, rfl⟩ := h
  rw [List.append_assoc, List.find?_append]
  have e : pre.find? Pl.bad = none := by
    rw [List.find?_eq_none]
    intro p hp
    rw [hn p hp]; decide
  rw [e]
  simp [hb]
theorem find_none {ps : List Pl} (hn : ∀ p ∈ ps, p.bad = false) : ps.find? Pl.bad = none := by
  rw [List.find?_eq_none]
  intro p hp
  rw [hn p hp]; decide
/-- what look tells: the phase, and the place -/
def lookV : List (List Pl) → Nat → Option (Nat × Pl)
  | [], _ => none
  | ps :: rest, k => match ps.find? Pl.bad with
    | some p => some (k, p)
    | none => lookV rest (k + 1)
end Go.Proofs.YtnkcmlngoeofgaaDoor
