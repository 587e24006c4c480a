/- BitsKnown: the chapter's examples; rows without bits; the greatest ones; none. -/
import Derived.Test.YtcnpldeehbleeaaBitsOr
namespace Go.Proofs.Ytcnpldeehbleeaa
open Go.RowKit Go.Shelf
set_option maxHeartbeats 1000000 in
theorem new_big (n wd lg : Nat) (w : World) (hw : wd ≤ 67108864) (hn : n ≤ 9223372036854775807) (hlg1 : 1 ≤ lg) (hlg : (wd + 7) / 8 = lg) (hbig : 268435456 / lg < n) (hl : lg ≤ 8388608) :
    Calls Try.prog 26 #[.int .i64 n, .int .i64 wd] w fun e w' => e = .returned (.pointer none) ∧ Below w.heap.size w w' := by
  have e1 := tdiv8 wd hw
  have e4 : ((wd : Int) + 8 - 1) / 8 = lg := by omega
  have e5 : ((wd : Int) + 7) / 8 = lg := by omega
  rw [hlg] at e1
  have hl1 : decide ((0 : Int) < (lg : Int)) = true := by simp; omega
  have hl2 : decide (0 < lg) = true := by simp; omega
  have hq1 : ((268435456 : Int).tdiv (lg : Int)) = ((268435456 / lg : Nat) : Int) := by
    rw [Int.tdiv_eq_ediv_of_nonneg (by omega)]; rfl
  have hq2 : (268435456 : Int) / (lg : Int) = ((268435456 / lg : Nat) : Int) := rfl
  have hqq : 268435456 / lg ≤ 268435456 := Nat.div_le_self _ _
  generalize 268435456 / lg = q at *
  have hle1 : (q : Int) < (n : Int) := by omega
  have hlz : ((lg : Int) == 0) = false := by rw [beq_eq_false_iff_ne]; omega
  have e3 : IntKind.i64.wrap (lg : Int) = lg := wrap_small _ (by omega) (by omega)
  have hqw : IntKind.i64.wrap (q : Int) = q := wrap_small _ (by omega) (by omega)
  have hqv : wrap64 (q : Int) = q := IntWalk.wrap64_in _ ⟨by omega, by omega⟩
  clear hlg
  go_enter Try.func26, Try.ntmps26
  go_wp2
  go_ret
  exact ⟨rfl, Below.refl _ _⟩
theorem new_thin (w : World) :
    Calls Try.prog 26 #[.int .i64 1099511627776, .int .i64 0] w fun e w' => ∃ p g, e = .returned (.pointer (some ⟨p, 0, none⟩)) ∧ Bt w' p g 1099511627776 0 [] ∧ w.heap.size ≤ p ∧ w.heap.size ≤ g ∧ Below w.heap.size w w' :=
  new_any 1099511627776 0 w (by omega) (by omega) (by omega)
theorem set_thin (p g : Nat) (w : World) (h : Bt w p g 1099511627776 0 []) :
    Calls Try.prog 24 #[.pointer (some ⟨p, 0, none⟩), .int .i64 0, .int .i64 0, .bool true] w fun e w' => e = .returned (.bool false) ∧ Below w.heap.size w w' := by
  have hno : ¬ ((0 : Int) ≤ 0 ∧ (0 : Int) < (1099511627776 : Nat) ∧ (0 : Int) ≤ 0 ∧ (0 : Int) < (0 : Nat)) := fun h => absurd h.2.2.2 (by decide)
  have hal : Bt (w.alloc (.cells #[.bool true] 4)) p g 1099511627776 0 [] := ⟨h.head.alloc _, h.body.alloc _, h.ne, h.long, h.wide, h.rows, h.most⟩
  have C := Lib.hid (place_none p g 1099511627776 0 [] 0 0 (.func (.func 34) #[] #[.pointer (some ⟨w.heap.size, 0, none⟩)]) _ hal hno)
  clear h hal hno
  go_enter Try.func24, Try.ntmps24
  go_wp2_with fail
  refine C.out.mono ?_; rintro e w' ⟨rfl, rfl⟩
  go_wp2
  go_ret
  exact ⟨rfl, (Below.refl _ _).alloc (Nat.le_refl _) _⟩
theorem get_is (p g n wd : Nat) (l : List UInt8) (r i : Int) (b : Bool) (w : World) (h : Bt w p g n wd l) (hb : getB n wd l r i = b) :
    Calls Try.prog 23 #[.pointer (some ⟨p, 0, none⟩), .int .i64 r, .int .i64 i] w fun e w' => e = .returned (.bool b) ∧ Below w.heap.size w w' := by
  subst hb; exact get_any p g n wd l r i w h
theorem row_empty (p g n wd : Nat) (l : List UInt8) (r : Int) (w : World) (h : Bt w p g n wd l) (he : rowOf n wd l r = []) :
    Calls Try.prog 29 #[.pointer (some ⟨p, 0, none⟩), .int .i64 r] w fun e w' => ∃ a c, e = .returned (.slice a 0 c) ∧ Below w.heap.size w w' := by
  refine (row_any p g n wd l r w h).mono ?_
  rintro e w' ⟨v, rfl, hs, hb⟩
  rw [he] at hs
  obtain ⟨a, c, rfl, _⟩ := hs
  exact ⟨a, c, rfl, hb⟩
theorem rows_nil (w : World) : Calls Try.prog 28 #[.pointer none] w fun e w' => e = .returned (.int .i64 0) ∧ w = w' := by
  go_enter Try.func28, Try.ntmps28
  go_wp2
  go_ret
  exact ⟨rfl, rfl⟩
theorem bytes_nil (w : World) : Calls Try.prog 22 #[.pointer none] w fun e w' => e = .returned (.string ⟨#[]⟩) ∧ w = w' := by
  go_enter Try.func22, Try.ntmps22
  go_wp2
  go_ret
  exact ⟨rfl, rfl⟩
theorem place_nil (f : Value) (w : World) :
    Calls Try.prog 32 #[.pointer none, .int .i64 0, .int .i64 0, f] w fun e w' => e = .returned (.bool false) ∧ w = w' := by
  go_enter Try.func32, Try.ntmps32
  go_wp2_with fail
  refine (rows_nil _).mono ?_; rintro e w' ⟨rfl, rfl⟩
  go_wp2
  go_ret
  exact ⟨rfl, rfl⟩
theorem get_nil (w : World) : Calls Try.prog 23 #[.pointer none, .int .i64 0, .int .i64 0] w fun e w' => e = .returned (.bool false) ∧ w = w' := by
  go_enter Try.func23, Try.ntmps23
  go_wp2_with fail
  refine (place_nil _ _).mono ?_; rintro e w' ⟨rfl, rfl⟩
  go_wp2
  go_ret
  exact ⟨rfl, rfl⟩
theorem set_nil (w : World) : Calls Try.prog 24 #[.pointer none, .int .i64 0, .int .i64 0, .bool true] w fun e w' => e = .returned (.bool false) ∧ Below w.heap.size w w' := by
  go_enter Try.func24, Try.ntmps24
  go_wp2_with fail
  refine (place_nil _ _).mono ?_; rintro e w' ⟨rfl, rfl⟩
  go_wp2
  go_ret
  exact ⟨rfl, (Below.refl _ _).alloc (Nat.le_refl _) _⟩
theorem row_nil_any (r : Int) (w : World) : Calls Try.prog 29 #[.pointer none, .int .i64 r] w fun e w' => e = .returned (.slice none 0 0) ∧ Below w.heap.size w w' := by
  refine ((callsIn_wide (n := 3)).1 (row_nil 3 (by omega) r w)).mono ?_
  rintro e w' ⟨v, rfl, _, hv, hb⟩
  rw [hv.2 rfl]
  exact ⟨rfl, hb⟩
theorem or_nil (p : Nat) (w : World) : Calls Try.prog 25 #[.pointer none, .int .i64 0, .pointer (some ⟨p, 0, none⟩), .int .i64 0] w fun e w' => e = .returned (.bool false) ∧ Below w.heap.size w w' := by
  go_enter Try.func25, Try.ntmps25
  go_wp2_with fail
  go_quiet (fail)
  go_wp2_with fail
  go_ret
  exact ⟨rfl, ⟨rfl, rfl, rfl, Nat.le_refl _, fun _ _ => rfl⟩⟩
theorem or_nil' (p : Nat) (w : World) : Calls Try.prog 25 #[.pointer (some ⟨p, 0, none⟩), .int .i64 0, .pointer none, .int .i64 0] w fun e w' => e = .returned (.bool false) ∧ Below w.heap.size w w' := by
  go_enter Try.func25, Try.ntmps25
  go_wp2_with fail
  go_quiet (fail)
  go_wp2_with fail
  go_ret
  exact ⟨rfl, ⟨rfl, rfl, rfl, Nat.le_refl _, fun _ _ => rfl⟩⟩
set_option maxHeartbeats 8000000 in
set_option maxRecDepth 100000 in
theorem lawBitsKnown_any (w : World) :
    Calls Try.prog 10 #[] w fun e w' => e = .returned (.bool true) ∧ Below w.heap.size w w' := by
  have HB := Lib.hid (Below.refl w.heap.size w)
  go_enter Try.func10, Try.ntmps10
  go_wp2_with fail
  refine (new_any 0 67108864 _ (by omega) (by omega) (by omega)).mono ?_; rintro e w_1 ⟨p, g, rfl, hbt, hp, hg, hb⟩
  have HB_1 := Lib.hid (HB.out.next' hb)
  have Hflat_1 := Lib.hid hbt
  clear HB hbt hb
  go_wp2_with fail
  refine (new_thin _).mono ?_; rintro e w_2 ⟨p2, g2, rfl, hbt, hp2, hg2, hb⟩
  have Hflat_2 := Lib.hid (Hflat_1.out.later hb)
  have HB_2 := Lib.hid (HB_1.out.next' hb)
  have Hthin_2 := Lib.hid hbt
  clear Hflat_1 HB_1 hbt hb
  go_wp2_with fail
  refine (bytes_any _ _ _ _ _ _ Hflat_2.out).mono ?_; rintro e w' ⟨rfl, rfl⟩
  go_wp2_with fail
  refine (wide_any _ _ _ _ _ _ Hflat_2.out).mono ?_; rintro e w' ⟨rfl, rfl⟩
  go_wp2_with fail
  refine (rows_any _ _ _ _ _ _ Hthin_2.out).mono ?_; rintro e w' ⟨rfl, rfl⟩
  go_wp2_with fail
  refine (bytes_any _ _ _ _ _ _ Hthin_2.out).mono ?_; rintro e w' ⟨rfl, rfl⟩
  go_wp2_with fail
  refine (set_thin p2 g2 _ Hthin_2.out).mono ?_; rintro e w_7 ⟨rfl, hb⟩
  have HB_7 := Lib.hid (HB_2.out.next' hb)
  clear Hflat_2 Hthin_2 HB_2 hb
  go_wp2_with fail
  refine (new_big 64 67108864 8388608 _ (by omega) (by omega) (by omega) rfl (by omega) (by omega)).mono ?_; rintro e w_8 ⟨rfl, hb⟩
  have HB_8 := Lib.hid (HB_7.out.next' hb)
  clear HB_7 hb
  go_wp2_with fail
  refine (new_none 1 67108865 _ (by omega)).mono ?_; rintro e w' ⟨rfl, rfl⟩
  go_wp2_with fail
  refine (new_none (-1) 0 _ (by omega)).mono ?_; rintro e w' ⟨rfl, rfl⟩
  go_wp2_with fail
  refine (new_big 4611686018427387904 8 1 _ (by omega) (by omega) (by omega) rfl (by omega) (by omega)).mono ?_; rintro e w_11 ⟨rfl, hb⟩
  have HB_11 := Lib.hid (HB_8.out.next' hb)
  clear HB_8 hb
  go_wp2_with fail
  refine (from_yes 3 8 ⟨#[128, 0, 1]⟩ _ (by omega) (by omega) (by omega) rfl (pad_zero 3 8 _ rfl)).mono ?_; rintro e w_12 ⟨p3, g3, rfl, hbt, hp3, hg3, hb⟩
  have HB_12 := Lib.hid (HB_11.out.next' hb)
  have Hb_12 := Lib.hid hbt
  have hne3 := hbt.ne
  have hg33 : w.heap.size ≤ g3 := Nat.le_trans HB_11.out.size hg3
  clear HB_11 hbt hb
  go_wp2_with fail
  refine (get_is p3 g3 3 8 _ (0) (7) true _ Hb_12.out (by decide)).mono ?_; rintro e w_13 ⟨rfl, hb⟩
  have Hb_13 := Lib.hid (Hb_12.out.later hb)
  have HB_13 := Lib.hid (HB_12.out.next' hb)
  clear Hb_12 HB_12 hb
  go_wp2_with fail
  refine (get_is p3 g3 3 8 _ (0) (0) false _ Hb_13.out (by decide)).mono ?_; rintro e w_14 ⟨rfl, hb⟩
  have Hb_14 := Lib.hid (Hb_13.out.later hb)
  have HB_14 := Lib.hid (HB_13.out.next' hb)
  clear Hb_13 HB_13 hb
  go_wp2_with fail
  refine (get_is p3 g3 3 8 _ (2) (0) true _ Hb_14.out (by decide)).mono ?_; rintro e w_15 ⟨rfl, hb⟩
  have Hb_15 := Lib.hid (Hb_14.out.later hb)
  have HB_15 := Lib.hid (HB_14.out.next' hb)
  clear Hb_14 HB_14 hb
  go_wp2_with fail
  refine (row_empty p3 g3 3 8 _ (1) _ Hb_15.out (by decide)).mono ?_; rintro e w_16 ⟨a_1, c_1, rfl, hb⟩
  have Hb_16 := Lib.hid (Hb_15.out.later hb)
  have HB_16 := Lib.hid (HB_15.out.next' hb)
  clear Hb_15 HB_15 hb
  go_wp2_with fail
  refine (row_empty p3 g3 3 8 _ (-1) _ Hb_16.out (by decide)).mono ?_; rintro e w_17 ⟨a_m1, c_m1, rfl, hb⟩
  have Hb_17 := Lib.hid (Hb_16.out.later hb)
  have HB_17 := Lib.hid (HB_16.out.next' hb)
  clear Hb_16 HB_16 hb
  go_wp2_with fail
  refine (row_empty p3 g3 3 8 _ (3) _ Hb_17.out (by decide)).mono ?_; rintro e w_18 ⟨a_3, c_3, rfl, hb⟩
  have Hb_18 := Lib.hid (Hb_17.out.later hb)
  have HB_18 := Lib.hid (HB_17.out.next' hb)
  clear Hb_17 HB_17 hb
  go_wp2_with fail
  refine (get_is p3 g3 3 8 _ (3) (0) false _ Hb_18.out (by decide)).mono ?_; rintro e w_19 ⟨rfl, hb⟩
  have Hb_19 := Lib.hid (Hb_18.out.later hb)
  have HB_19 := Lib.hid (HB_18.out.next' hb)
  clear Hb_18 HB_18 hb
  go_wp2_with fail
  refine (get_is p3 g3 3 8 _ (0) (8) false _ Hb_19.out (by decide)).mono ?_; rintro e w_20 ⟨rfl, hb⟩
  have Hb_20 := Lib.hid (Hb_19.out.later hb)
  have HB_20 := Lib.hid (HB_19.out.next' hb)
  clear Hb_19 HB_19 hb
  go_wp2_with fail
  refine (get_is p3 g3 3 8 _ (0) (-1) false _ Hb_20.out (by decide)).mono ?_; rintro e w_21 ⟨rfl, hb⟩
  have Hb_21 := Lib.hid (Hb_20.out.later hb)
  have HB_21 := Lib.hid (HB_20.out.next' hb)
  clear Hb_20 HB_20 hb
  go_wp2_with fail
  refine (or_yes p3 g3 3 8 _ p3 g3 3 _ 1 0 _ Hb_21.out Hb_21.out hne3 (Or.inr ⟨rfl, rfl⟩) (by omega) (by omega)).mono ?_; rintro e w_22 ⟨rfl, hbt, hk⟩
  have HB_22 := Lib.hid (HB_21.out.trans (hk.below (B := w.heap.size) HB_21.out.size (fun k hk => by omega)))
  have Hb_22 := Lib.hid hbt
  clear Hb_21 HB_21 hbt hk
  go_wp2_with fail
  refine (get_is p3 g3 3 8 _ (1) (7) true _ Hb_22.out (by decide)).mono ?_; rintro e w_23 ⟨rfl, hb⟩
  have Hb_23 := Lib.hid (Hb_22.out.later hb)
  have HB_23 := Lib.hid (HB_22.out.next' hb)
  clear Hb_22 HB_22 hb
  go_wp2_with fail
  refine (or_yes p3 g3 3 8 _ p3 g3 3 _ 1 1 _ Hb_23.out Hb_23.out hne3 (Or.inr ⟨rfl, rfl⟩) (by omega) (by omega)).mono ?_; rintro e w_24 ⟨rfl, hbt, hk⟩
  have HB_24 := Lib.hid (HB_23.out.trans (hk.below (B := w.heap.size) HB_23.out.size (fun k hk => by omega)))
  have Hb_24 := Lib.hid hbt
  clear Hb_23 HB_23 hbt hk
  go_wp2_with fail
  refine (works_any _).mono ?_; rintro e w_25 ⟨rfl, hb⟩
  have Hb_25 := Lib.hid (Hb_24.out.later hb)
  have HB_25 := Lib.hid (HB_24.out.next' hb)
  clear Hb_24 HB_24 hb
  go_wp2_with fail
  refine (rows_nil _).mono ?_; rintro e w' ⟨rfl, rfl⟩
  go_wp2_with fail
  refine (wide_nil _).mono ?_; rintro e w' ⟨rfl, rfl⟩
  go_wp2_with fail
  refine (get_nil _).mono ?_; rintro e w' ⟨rfl, rfl⟩
  go_wp2_with fail
  refine (set_nil _).mono ?_; rintro e w_29 ⟨rfl, hb⟩
  have Hb_29 := Lib.hid (Hb_25.out.later hb)
  have HB_29 := Lib.hid (HB_25.out.next' hb)
  clear Hb_25 HB_25 hb
  go_wp2_with fail
  refine (row_nil_any 0 _).mono ?_; rintro e w_30 ⟨rfl, hb⟩
  have Hb_30 := Lib.hid (Hb_29.out.later hb)
  have HB_30 := Lib.hid (HB_29.out.next' hb)
  clear Hb_29 HB_29 hb
  go_wp2_with fail
  refine (bytes_nil _).mono ?_; rintro e w' ⟨rfl, rfl⟩
  go_wp2_with fail
  refine (or_nil p3 _).mono ?_; rintro e w_32 ⟨rfl, hb⟩
  have Hb_32 := Lib.hid (Hb_30.out.later hb)
  have HB_32 := Lib.hid (HB_30.out.next' hb)
  clear Hb_30 HB_30 hb
  go_wp2_with fail
  refine (or_nil' p3 _).mono ?_; rintro e w_33 ⟨rfl, hb⟩
  have Hb_33 := Lib.hid (Hb_32.out.later hb)
  have HB_33 := Lib.hid (HB_32.out.next' hb)
  clear Hb_32 HB_32 hb
  go_wp2_with fail
  go_ret
  exact ⟨rfl, HB_33.out⟩
end Go.Proofs.Ytcnpldeehbleeaa
