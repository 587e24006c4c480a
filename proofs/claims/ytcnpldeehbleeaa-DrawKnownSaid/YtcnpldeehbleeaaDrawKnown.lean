/- DrawKnown: the walk of the closed statement: the chapter's examples; the greatest numbers; none. -/
import Derived.Test.YtcnpldeehbleeaaDrawWorks
import Derived.Test.YtcnpldeehbleeaaLawKit
namespace Go.Proofs.Ytcnpldeehbleeaa
open Go.RowKit
theorem left_nil (w : World) : Calls Try.prog 17 #[.pointer none] w fun e w' => e = .returned (.int .i64 0) ∧ w = w' := by
  go_enter Try.func17, Try.ntmps17
  go_wp2
  go_ret
  exact ⟨rfl, rfl⟩
theorem next_nil (n : Int) (w : World) (hn : 1 ≤ n) : Calls Try.prog 13 #[.pointer none, .int .i64 n] w fun e w' => e = .returned (.int .i64 0) ∧ w = w' := by
  go_enter Try.func13, Try.ntmps13
  go_wp2_with fail
  refine (left_nil _).mono ?_
  rintro e w' ⟨rfl, rfl⟩
  go_wp2_with fail
  go_ret
  exact ⟨rfl, rfl⟩
theorem pick_nil (v : Value) (w : World) : Calls Try.prog 15 #[.pointer none, v] w fun e w' => e = .returned (.tuple #[.int .i64 0, .bool false]) ∧ w = w' := by
  go_enter Try.func15, Try.ntmps15
  go_wp2_with fail
  go_ret2
  exact ⟨rfl, rfl⟩
set_option maxHeartbeats 2000000 in
theorem lawDrawKnown_any (w : World) :
    Calls Try.prog 6 #[] w fun e w' => e = .returned (.bool true) ∧ Below w.heap.size w w' := by
  go_enter Try.func6, Try.ntmps6
  go_wp2_with fail
  refine (new_ex _ _ (by decide) (by decide) _ (SlI.lit w .u32 [4294967295, 4294967295, 4294967295, 5] 30 (by decide))).mono ?_
  rintro e w1 ⟨p, q, rfl, d1, hp, hq, hpl, hql, b1⟩
  simp only [World.size_alloc] at hp hq b1
  have B1 := Lib.hid (((Below.refl w.heap.size w).alloc (Nat.le_refl _) (.cells (icells .u32 [4294967295, 4294967295, 4294967295, 5]) 30)).trans (b1.mono (by omega)))
  clear b1
  go_wp2_with fail
  refine (pick_nil _ _).mono ?_
  rintro e w' ⟨rfl, rfl⟩
  have d2 := d1.later (later_lit _ (icells .i64 [1]) 3)
  have B2 := Lib.hid (below_lit B1.out B1.out.size (icells .i64 [1]) 3)
  clear d1 B1
  go_wp2_with fail
  refine (drawWorks_any _).mono ?_
  rintro e w3 ⟨rfl, b3⟩
  have d3 := d2.later b3
  have B3 := Lib.hid (B2.out.next3 B2.out.size b3); clear d2 b3 B2
  go_wp2_with fail
  refine (next_is p q _ [4294967295, 4294967295, 5] _ 4294967295 (by decide) (by decide) (by decide) _ d3).mono ?_
  rintro e w4 ⟨rfl, d4, k4⟩
  have B4 := Lib.hid (Kept.next B3.out B3.out.size (by omega) k4); clear d3 k4 B3
  go_wp2_with fail
  refine (next_is p q _ [4294967295, 5] _ 0 (by decide) (by decide) (by decide) _ d4).mono ?_
  rintro e w5 ⟨rfl, d5, k5⟩
  have B5 := Lib.hid (Kept.next B4.out B4.out.size (by omega) k5); clear d4 k5 B4
  go_wp2_with fail
  refine (next_is p q _ [5] _ 1 (by decide) (by decide) (by decide) _ d5).mono ?_
  rintro e w6 ⟨rfl, d6, k6⟩
  have B6 := Lib.hid (Kept.next B5.out B5.out.size (by omega) k6); clear d5 k6 B5
  go_wp2_with fail
  refine (next_is p q _ [5] _ 0 (by decide) (by decide) (by decide) _ d6).mono ?_
  rintro e w7 ⟨rfl, d7, k7⟩
  have B7 := Lib.hid (Kept.next B6.out B6.out.size (by omega) k7); clear d6 k7 B6
  go_wp2_with fail
  refine (left_is p q _ 1 (by decide) _ d7).mono ?_
  rintro e w' ⟨rfl, rfl⟩
  go_wp2_with fail
  refine (next_is p q _ [] _ 0 (by decide) (by decide) (by decide) _ d7).mono ?_
  rintro e w8 ⟨rfl, d8, k8⟩
  have B8 := Lib.hid (Kept.next B7.out B7.out.size (by omega) k8); clear d7 k8 B7
  go_wp2_with fail
  refine (left_is p q _ 0 (by decide) _ d8).mono ?_
  rintro e w' ⟨rfl, rfl⟩
  go_wp2_with fail
  refine (next_nil _ _ (by decide)).mono ?_
  rintro e w' ⟨rfl, rfl⟩
  go_wp2_with fail
  refine (left_nil _).mono ?_
  rintro e w' ⟨rfl, rfl⟩
  go_wp2
  go_ret
  exact ⟨rfl, B8.out⟩
end Go.Proofs.Ytcnpldeehbleeaa
