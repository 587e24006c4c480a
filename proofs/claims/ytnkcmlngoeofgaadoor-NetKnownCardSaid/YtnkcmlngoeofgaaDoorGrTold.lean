/- the graph laws' told. -/
import Derived.Test.YtnkcmlngoeofgaaDoorTold
import Derived.Deep.RegionHeld3
namespace Go.Proofs.YtnkcmlngoeofgaaDoor
open Go.RowKit
set_option maxHeartbeats 2000000 in
theorem lawTold_is (w : World) (v : Value) (c ph ix fl : Int) (hg : HG w) (h : ErrIs w v c ph ix fl) :
    Calls Tryd.prog 20 #[v, .agg #[.int .i64 c, .int .i64 ph, .int .i64 ix, .int .i64 fl]] w fun e w' => e = .returned (.bool true) ∧ Below w.heap.size w w' := by
  have hb := Blk.new w #[.int .i64 c, .int .i64 ph, .int .i64 ix, .int .i64 fl] 47 (0, 0)
  have hB : Below w.heap.size w (w.alloc (.cells #[.int .i64 c, .int .i64 ph, .int .i64 ix, .int .i64 fl] 47)) := (Below.refl _ _).alloc (Nat.le_refl _) _
  have CT : ∀ u, Below w.heap.size w u → Calls Tryd.prog 43 #[v] u fun e w' => e = .returned (.agg #[.int .i64 c, .int .i64 ph, .int .i64 ix, .int .i64 fl]) ∧ Below u.heap.size u w' := fun u hu => told_is u v c ph ix fl (hg.later hu) (h.later hu)
  have HCT := Lib.hid CT
  have hv : (v = .nilIface ∧ c = 0) ∨ ((∃ t x, v = .iface t x) ∧ c ≠ 0) := by
    rcases h with ⟨h1, h2, _⟩ | ⟨hc, b, ⟨h3, _⟩, _⟩
    · exact .inl ⟨h1, h2⟩
    · exact .inr ⟨h3, hc⟩
  have HB := Lib.hid hb; have HBl := Lib.hid hB
  have hlt : w.heap.size < (w.alloc (.cells #[.int .i64 c, .int .i64 ph, .int .i64 ix, .int .i64 fl] 47)).heap.size := hb.lt
  clear hb hB CT h hg
  rcases hv with ⟨rfl, hc⟩ | ⟨⟨t, x, rfl⟩, hc⟩
  all_goals
    first
      | (have hcz : (c != 0) = false := by rw [hc]; rfl
         have hcz2 : (c == 0) = true := by rw [hc]; rfl)
      | (have hcz : (c != 0) = true := by rw [bne_iff_ne]; exact hc
         have hcz2 : (c == 0) = false := by rw [beq_eq_false_iff_ne]; exact hc)
    clear hc
    go_enter Tryd.func20, Tryd.ntmps20
    go_wp2_with fail
    generalize w.alloc (.cells #[.int .i64 c, .int .i64 ph, .int .i64 ix, .int .i64 fl] 47) = w1 at *
    have c0 := HB.out.cell 0; have c1 := HB.out.cell 1; have c2 := HB.out.cell 2; have c3 := HB.out.cell 3
    have HW : Hid (Below w1.heap.size w1 w1.drew) := Lib.hid (Below.refl _ _).drew
    have HW0 : Hid (Below w1.heap.size w1 w1) := Lib.hid (Below.refl _ _)
    go_region_held3 (fun w' => w'.cell? ⟨w.heap.size, 0, none⟩ = some (.int .i64 c) ∧ w'.cell? ⟨w.heap.size, 1, none⟩ = some (.int .i64 ph) ∧ w'.cell? ⟨w.heap.size, 2, none⟩ = some (.int .i64 ix) ∧ w'.cell? ⟨w.heap.size, 3, none⟩ = some (.int .i64 fl))
      (first
        | exact ⟨c0, c1, c2, c3⟩
        | exact ⟨(World.cell?_of_block (HW.out.block _ hlt)).trans c0, (World.cell?_of_block (HW.out.block _ hlt)).trans c1, (World.cell?_of_block (HW.out.block _ hlt)).trans c2, (World.cell?_of_block (HW.out.block _ hlt)).trans c3⟩)
      ((go_at_call 43; (with_reducible refine (HCT.out _ (HBl.out.next' HW.out)).mono ?_); rintro e w' ⟨rfl, hbt⟩; replace HW := Lib.hid (HW.out.next' hbt)))
    go_wp2_with fail
    go_ret
    exact ⟨rfl, HBl.out.next' HW.out⟩
end Go.Proofs.YtnkcmlngoeofgaaDoor
