/- THE WALK over draw's examples. -/
import Derived.Test.YtcnpldeehbleeaaDraw
namespace Go.Proofs.Ytcnpldeehbleeaa
open Go.RowKit
theorem next_is (p q : Nat) (l l' : List Int) (n x : Int) (hn : -9223372036854775808 ≤ n ∧ n ≤ 9223372036854775807) (hx : nextV l n = x) (hl : nextL l n = l') (w : World) (h : Dr w p q l) :
    Calls Try.prog 13 #[.pointer (some ⟨p, 0, none⟩), .int .i64 n] w fun e w' => e = .returned (.int .i64 x) ∧ Dr w' p q l' ∧ Kept (· = p) w w' := by
  rw [← hx, ← hl]; exact next_any p q l n hn w h
theorem left_is (p q : Nat) (l : List Int) (n : Int) (hn : (l.length : Int) = n) (w : World) (h : Dr w p q l) :
    Calls Try.prog 17 #[.pointer (some ⟨p, 0, none⟩)] w fun e w' => e = .returned (.int .i64 n) ∧ w = w' := by
  rw [← hn]; exact left_any p q l w h
theorem pick_is (p q : Nat) (l row l' : List Int) (v : Value) (x : Int) (ok : Bool) (hpk : ∀ y b, Picked row l y b → y = x ∧ b = ok) (hl : pickL l row = l') (w : World) (h : Dr w p q l) (hv : SlI w v .i64 row) (hvp : row ≠ [] → v.ownBlock ≠ some p) :
    Calls Try.prog 15 #[.pointer (some ⟨p, 0, none⟩), v] w fun e w' => e = .returned (.tuple #[.int .i64 x, .bool ok]) ∧ Dr w' p q l' ∧ Kept (· = p) w w' := by
  rw [← hl]
  refine (pick_any p q l row v w h hv hvp).mono ?_
  rintro e w' ⟨y, b, rfl, h1, h2, h3⟩
  obtain ⟨rfl, rfl⟩ := hpk y b h1
  exact ⟨rfl, h2, h3⟩
theorem SlI.lit (w : World) (k : IntKind) (l : List Int) (t : TypeId) (hl : l.length ≤ 1000) : SlI (w.alloc (.cells (icells k l) t)) (.slice (some ⟨w.heap.size, 0, none⟩) l.length l.length) k l :=
  ⟨_, _, rfl, Nat.le_refl _, by unfold maxLen; omega, fun i hi => ⟨_, _, rfl, by rw [Nat.zero_add, (Blk.new w _ _ _).cell, icells_get _ _ _ hi]⟩⟩
theorem new_ex (v : Value) (l : List Int) (hl : l.length ≤ 1000) (hx : ∀ x ∈ l, 0 ≤ x ∧ x < 4294967296) (w : World) (hs : SlI w v .u32 l) :
    Calls Try.prog 11 #[v] w fun e w' => ∃ p q, e = .returned (.pointer (some ⟨p, 0, none⟩)) ∧ Dr w' p q l ∧ w.heap.size ≤ p ∧ w.heap.size ≤ q ∧ p < w'.heap.size ∧ q < w'.heap.size ∧ Below w.heap.size w w' := by
  refine (new_any v l hl hx w hs).mono ?_
  rintro e w' ⟨rfl, h1, h2⟩
  have h3 := h1
  obtain ⟨_, hb, _, _, _, hq, _⟩ := h3
  exact ⟨_, _, rfl, h1, by omega, by omega, hb.lt, hq, h2⟩
theorem Kept.next {B p : Nat} {w0 w w' : World} (hb : Below B w0 w) (hB : B ≤ w.heap.size) (hp : B ≤ p) (h : Kept (· = p) w w') : Below B w0 w' := hb.trans (h.below hB (fun k hk => by omega))
theorem _root_.Go.RowKit.Below.next3 {B : Nat} {w0 w w' : World} (h : Below B w0 w) (hB : B ≤ w.heap.size) (k : Below w.heap.size w w') : Below B w0 w' := h.trans (k.mono hB)
theorem Dr.later {w w' : World} {p q : Nat} {l : List Int} (h : Dr w p q l) (hb : Below w.heap.size w w') : Dr w' p q l :=
  h.kept (S := fun _ => False) ⟨hb.os, hb.tape, hb.output, hb.size, fun k hk _ => hb.block k hk⟩ id id
theorem Dr.lt {w : World} {p q : Nat} {l : List Int} (h : Dr w p q l) : p < w.heap.size ∧ q < w.heap.size := by
  obtain ⟨_, hb, _, _, _, hq, _⟩ := h
  exact ⟨hb.lt, hq⟩
theorem SlI.nil (w : World) (k : IntKind) : SlI w (.slice none 0 0) k [] := ⟨none, 0, rfl, Nat.le_refl _, Nat.zero_le _, fun i hi => absurd hi (Nat.not_lt_zero i)⟩
theorem below_lit {B : Nat} {w0 w : World} (h : Below B w0 w) (hB : B ≤ w.heap.size) (cs : Array Value) (t : TypeId) : Below B w0 (w.alloc (.cells cs t)) := h.alloc hB _
theorem later_lit (w : World) (cs : Array Value) (t : TypeId) : Below w.heap.size w (w.alloc (.cells cs t)) := (Below.refl _ _).alloc (Nat.le_refl _) _
theorem picked_is (row l : List Int) (x : Int) (hr : row ≠ []) (hx : row[(nextV l row.length).toNat]? = some x) : ∀ y b, Picked row l y b → y = x ∧ b = true := by
  rintro y b (⟨h, _⟩ | ⟨rfl, h, rfl⟩)
  · exact absurd h hr
  · rw [List.getElem?_eq_getElem h] at hx
    exact ⟨by simpa using hx, rfl⟩
theorem picked_none (l : List Int) : ∀ y b, Picked [] l y b → y = 0 ∧ b = false := by
  rintro y b (⟨_, h1, h2⟩ | ⟨_, h, _⟩)
  · exact ⟨h1, h2⟩
  · exact absurd h (Nat.not_lt_zero _)
set_option maxHeartbeats 2000000 in
theorem drawWorks_any (w : World) :
    Calls Try.prog 12 #[] w fun e w' => e = .returned (.bool true) ∧ Below w.heap.size w w' := by
  go_enter Try.func12, Try.ntmps12
  go_wp2_with fail
  refine (new_ex _ _ (by decide) (by decide) _ (SlI.lit w .u32 [7, 10, 2] 30 (by decide))).mono ?_
  rintro e w1 ⟨p, q, rfl, d1, hp, hq, hpl, hql, b1⟩
  simp only [World.size_alloc] at hp hq b1
  have B1 := Lib.hid (((Below.refl w.heap.size w).alloc (Nat.le_refl _) (.cells (icells .u32 [7, 10, 2]) 30)).trans (b1.mono (by omega)))
  clear b1
  go_wp2_with fail
  refine (next_is p q _ [10, 2] _ 2 (by decide) (by decide) (by decide) _ d1).mono ?_
  rintro e w2 ⟨rfl, d2, k2⟩
  have B2 := Lib.hid (Kept.next B1.out B1.out.size (by omega) k2); clear d1 k2 B1
  go_wp2_with fail
  refine (left_is p q _ 2 (by decide) _ d2).mono ?_
  rintro e w' ⟨rfl, rfl⟩
  go_wp2_with fail
  refine (next_is p q _ [10, 2] _ 0 (by decide) (by decide) (by decide) _ d2).mono ?_
  rintro e w3 ⟨rfl, d3, k3⟩
  have B3 := Lib.hid (Kept.next B2.out B2.out.size (by omega) k3); clear d2 k3 B2
  go_wp2_with fail
  refine (next_is p q _ [2] _ 1 (by decide) (by decide) (by decide) _ d3).mono ?_
  rintro e w4 ⟨rfl, d4, k4⟩
  have B4 := Lib.hid (Kept.next B3.out B3.out.size (by omega) k4); clear d3 k4 B3
  have hl4 := d4.lt
  go_wp2_with fail
  refine (pick_is p q [2] [4, 5, 6] [] _ 6 true (picked_is _ _ _ (by decide) (by decide)) (by decide) _ (d4.later (later_lit _ (icells .i64 [4, 5, 6]) 3)) (SlI.lit w4 .i64 [4, 5, 6] 3 (by decide)) (fun _ => by show some _ ≠ some _; simp; omega)).mono ?_
  rintro e w5 ⟨rfl, d5, k5⟩
  have B5 := Lib.hid (Kept.next (below_lit B4.out B4.out.size (icells .i64 [4, 5, 6]) 3) (Nat.le_trans B4.out.size (by simp)) (by omega) k5); clear d4 k5 B4
  go_wp2_with fail
  refine (new_ex _ [] (by decide) (by decide) _ (SlI.nil _ _)).mono ?_
  rintro e w6 ⟨p2, q2, rfl, e6, hp2, hq2, hpl2, hql2, b6⟩
  have hl5 := d5.lt
  have d6 := d5.later b6
  have B6 := Lib.hid (B5.out.next3 B5.out.size b6); clear d5 b6
  have hB5 := B5.out.size
  clear B5
  go_wp2_with fail
  have hl6 := e6.lt
  refine (pick_is p2 q2 [] [8] [] _ 8 true (picked_is _ _ _ (by decide) (by decide)) (by decide) _ (e6.later (later_lit _ (icells .i64 [8]) 3)) (SlI.lit w6 .i64 [8] 3 (by decide)) (fun _ => by show some _ ≠ some _; simp; omega)).mono ?_
  rintro e w7 ⟨rfl, e7, k7⟩
  have d7 := (d6.later (later_lit w6 (icells .i64 [8]) 3)).kept k7 (by show ¬ p = p2; omega) (by show ¬ q = p2; omega)
  have B7 := Lib.hid (Kept.next (below_lit B6.out B6.out.size (icells .i64 [8]) 3) (Nat.le_trans B6.out.size (by simp)) (by omega) k7); clear d6 e6 k7 B6
  go_wp2_with fail
  refine (pick_is p2 q2 [] [] [] _ 0 false (picked_none _) (by decide) _ e7 (SlI.nil _ _) (fun h => absurd rfl h)).mono ?_
  rintro e w8 ⟨rfl, e8, k8⟩
  have d8 := d7.kept k8 (by show ¬ p = p2; omega) (by show ¬ q = p2; omega)
  have B8 := Lib.hid (Kept.next B7.out B7.out.size (by omega) k8); clear d7 e7 k8 B7
  go_wp2_with fail
  refine (next_is p q _ [] _ 0 (by decide) (by decide) (by decide) _ d8).mono ?_
  rintro e w9 ⟨rfl, d9, k9⟩
  have e9 := e8.kept k9 (by show ¬ p2 = p; omega) (by show ¬ q2 = p; omega)
  have B9 := Lib.hid (Kept.next B8.out B8.out.size (by omega) k9); clear d8 e8 k9 B8
  go_wp2_with fail
  refine (left_is p q _ 0 (by decide) _ d9).mono ?_
  rintro e w' ⟨rfl, rfl⟩
  go_wp2_with fail
  refine (next_is p2 q2 _ [] _ 0 (by decide) (by decide) (by decide) _ e9).mono ?_
  rintro e w10 ⟨rfl, e10, k10⟩
  have B10 := Lib.hid (Kept.next B9.out B9.out.size (by omega) k10); clear e9 k10 B9
  go_wp2
  go_ret
  exact ⟨rfl, B10.out⟩
end Go.Proofs.Ytcnpldeehbleeaa
