/- what Check tells, as a fault; the graph laws' fails. -/
import Derived.Test.YtnkcmlngoeofgaaDoorGrTold
import Derived.Test.YtnkcmlngoeofgaaDoorGrCheck
import Derived.Test.YtnkcmlngoeofgaaDoorErrWrap
import Derived.Test.YtnkcmlngoeofgaaDoorGrCopied
namespace Go.Proofs.YtnkcmlngoeofgaaDoor
open Go.RowKit
/-- a fault's fields: code, phase, index, field -/
abbrev Ft := Int × Int × Int × Int
def faultOf : Option (Nat × Pl) → Ft
  | none => (0, 0, 0, 0)
  | some (k, p) => (p.co, (k : Nat), p.ix, p.fl)
/-- what is wrong with a graph first -/
def Raw.wrong (r : Raw) : Ft := faultOf (lookV (phases r.nodes r.X r.Y r.arcs) 0)
theorem lookV_mem : ∀ {L : List (List Pl)} {j k : Nat} {p : Pl}, lookV L j = some (k, p) → ∃ ps ∈ L, p ∈ ps
  | [], _, _, _, h => by cases h
  | ps :: L, j, k, p, h => by
    rw [lookV] at h
    split at h
    · rename_i q hq
      obtain ⟨_, rfl⟩ := Prod.mk.inj (Option.some.inj h)
      exact ⟨ps, by simp, List.mem_of_find?_eq_some hq⟩
    · obtain ⟨qs, hqs, hp⟩ := lookV_mem h
      exact ⟨qs, by simp [hqs], hp⟩
theorem nodesP_co {X Y : List Int} : ∀ (k : Nat) (p : Pl), p ∈ nodesP X Y k → p.co = 7
  | 0, p, h => by cases h
  | k + 1, p, h => by
    rcases List.mem_append.1 h with h | h
    · exact nodesP_co k p h
    · simp only [nodeP, List.mem_cons, List.not_mem_nil, or_false] at h
      rcases h with rfl | rfl <;> rfl
theorem arcsP_co {n : Int} {L : List Ar} : ∀ (k : Nat) (p : Pl), p ∈ arcsP n L k → p.co = 9 ∨ p.co = 10
  | 0, p, h => by cases h
  | k + 1, p, h => by
    rcases List.mem_append.1 h with h | h
    · exact arcsP_co k p h
    · simp only [arcP, List.mem_cons, List.not_mem_nil, or_false] at h
      rcases h with rfl | rfl | rfl
      · exact .inl rfl
      · exact .inl rfl
      · exact .inr rfl
theorem lookV_co {nodes : Int} {X Y : List Int} {ars : List Ar} {k : Nat} {p : Pl} (h : lookV (phases nodes X Y ars) 0 = some (k, p)) : p.co ≠ 0 := by
  obtain ⟨ps, hps, hp⟩ := lookV_mem h
  simp only [phases, List.mem_cons, List.not_mem_nil, or_false] at hps
  rcases hps with rfl | rfl | rfl | rfl | rfl
  · simp only [List.mem_cons, List.not_mem_nil, or_false] at hp; subst hp; simp
  · simp only [List.mem_cons, List.not_mem_nil, or_false] at hp; rcases hp with rfl | rfl <;> simp
  · rw [nodesP_co _ _ hp]; decide
  · simp only [List.mem_cons, List.not_mem_nil, or_false] at hp; subst hp; simp
  · rcases arcsP_co _ _ hp with h | h <;> rw [h] <;> decide
theorem checked_is {w : World} {v : Value} {r : Raw} (h : Checked w v r.nodes r.X r.Y r.arcs) : ErrIs w v r.wrong.1 r.wrong.2.1 r.wrong.2.2.1 r.wrong.2.2.2 := by
  unfold Raw.wrong
  rcases h with ⟨rfl, h⟩ | ⟨b, k, p, rfl, h, hb⟩
  · rw [h]; exact .inl ⟨rfl, rfl, rfl, rfl, rfl⟩
  · rw [h]; exact .inr ⟨lookV_co h, b, asTo_trouble b _, hb⟩
/-- Check, as a contract over raw graphs -/
theorem check_raw (v : Value) (r : Raw) (w : World) (h : RawV w v r) : Calls Tryd.prog 15 #[v] w fun e w' => ∃ u, e = .returned u ∧ ErrIs w' u r.wrong.1 r.wrong.2.1 r.wrong.2.2.1 r.wrong.2.2.2 ∧ Below w.heap.size w w' := by
  obtain ⟨vx, vy, va, rfl, hx, hy, ha⟩ := h
  refine (check_any vx vy va r.nodes r.X r.Y r.arcs w hx hy ha).mono ?_
  rintro e w' ⟨u, rfl, hc, hb⟩
  exact ⟨u, rfl, checked_is hc, hb⟩
theorem ErrIs.form {w : World} {v : Value} {c ph ix fl : Int} (h : ErrIs w v c ph ix fl) : (v = .nilIface ∧ c = 0) ∨ ((∃ t x, v = .iface t x) ∧ c ≠ 0) := by
  rcases h with ⟨h1, h2, _⟩ | ⟨hc, b, ⟨h3, _⟩, _⟩
  · exact .inl ⟨h1, h2⟩
  · exact .inr ⟨h3, hc⟩
set_option maxHeartbeats 1000000 in
theorem fails_any (v : Value) (r : Raw) (w : World) (c ph ix fl : Int) (hg : HG w) (h : RawV w v r) (he : r.wrong = (c, ph, ix, fl)) :
    Calls Tryd.prog 18 #[v, .int .i64 c, .int .i64 ph, .int .i64 ix, .int .i64 fl] w fun e w' => e = .returned (.bool true) ∧ Below w.heap.size w w' := by
  have hf := h
  obtain ⟨vx, vy, va, rfl, hx, hy, ha⟩ := hf
  have fx := hx.form; have fy := hy.form; have fa := ha.form
  have hb := (Below.refl w.heap.size w).alloc (Nat.le_refl _) (.cells #[.int .i64 r.nodes, vx, vy, va] 25)
  have C := Lib.hid (check_raw _ _ _ (h.below hb)); have HB := Lib.hid hb; have HG0 := Lib.hid hg
  rw [he] at C
  clear h hx hy ha hb hg he
  obtain ⟨_, _, _, rfl⟩ := fx
  obtain ⟨_, _, _, rfl⟩ := fy
  obtain ⟨_, _, _, rfl⟩ := fa
  go_enter Tryd.func18, Tryd.ntmps18
  go_wp2_with fail
  refine C.out.mono ?_
  rintro e w1 ⟨u, rfl, hi, hb1⟩
  have HB1 := Lib.hid (HB.out.next' hb1)
  have C2 := Lib.hid (lawTold_is w1 u c ph ix fl (HG0.out.later HB1.out) hi)
  clear hi hb1
  go_wp2_with fail
  refine C2.out.mono ?_
  rintro e w2 ⟨rfl, hb2⟩
  have HB2 := Lib.hid (HB1.out.next' hb2)
  clear hb2
  go_wp2_with fail
  go_ret
  exact ⟨rfl, HB2.out⟩
end Go.Proofs.YtnkcmlngoeofgaaDoor
