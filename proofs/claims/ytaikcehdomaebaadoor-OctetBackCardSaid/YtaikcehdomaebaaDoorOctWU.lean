/- THE WALKS over octet: the writer's numbers, one at a time; the reader's. -/
import Derived.Test.YtaikcehdomaebaaDoorOctPut8
import Derived.Test.YtaikcehdomaebaaDoorOctPut32
import Derived.Test.YtaikcehdomaebaaDoorOctPut64
import Derived.Test.YtaikcehdomaebaaDoorOctGet8
import Derived.Test.YtaikcehdomaebaaDoorOctGet32
import Derived.Test.YtaikcehdomaebaaDoorOctGet64
namespace Go.Proofs.YtaikcehdomaebaaDoor
open Go.RowKit
theorem sl_one {w : World} {g : Nat} {k : IntKind} {x : Int} {t : TypeId} {fr : Nat × Nat} (hg : Blk w g #[.int k x] t fr) : SlI w (.slice (some ⟨g, 0, none⟩) 1 1) k [x] :=
  ⟨_, 1, rfl, Nat.le_refl _, by unfold maxLen; decide, fun i hi => ⟨g, 0, rfl, by
    have : i = 0 := by simpa using hi
    subst this
    exact hg.cell 0⟩⟩
theorem own_not {F : Nat → Prop} {g n c : Nat} (h : ¬ F g) : ∀ b, (Value.slice (some ⟨g, 0, none⟩) n c).ownBlock = some b → ¬ F b := fun b hb => by
  obtain rfl : g = b := by simpa [Value.ownBlock] using hb
  exact h
theorem wU8_any (p : Nat) (l : List UInt8) (F : Nat → Prop) (g : Nat) (x : Int) (t : TypeId) (fr : Nat × Nat) (w : World) (h : Wr w p l F) (hg : Blk w g #[.int .u8 x] t fr) (hgF : ¬ F g) (hl : l.length ≤ 1000000000) :
    Calls Tryd.prog 19 #[.pointer (some ⟨p, 0, none⟩), .slice (some ⟨g, 0, none⟩) 1 1] w fun e w' => (∃ v, e = .returned v) ∧ WrOn w p (l ++ leb (n64 x) 1) F w' := by
  have C := put8_any p l F 1 (by decide) _ [x] w h (sl_one hg) (by simp; omega) (own_not hgF)
  simp only [List.flatMap_cons, List.flatMap_nil, List.append_nil] at C
  have HC := Lib.hid C
  clear C h hg hgF
  go_enter Tryd.func19, Tryd.ntmps19
  go_wp2_with fail
  refine HC.out.mono ?_
  rintro e w' ⟨⟨v, rfl⟩, hon⟩
  go_wp2_with fail
  go_end0
  exact ⟨⟨_, rfl⟩, hon⟩
theorem wU32_any (p : Nat) (l : List UInt8) (F : Nat → Prop) (g : Nat) (x : Int) (t : TypeId) (fr : Nat × Nat) (w : World) (h : Wr w p l F) (hg : Blk w g #[.int .u32 x] t fr) (hgF : ¬ F g) (hl : l.length ≤ 1000000000) :
    Calls Tryd.prog 9 #[.pointer (some ⟨p, 0, none⟩), .slice (some ⟨g, 0, none⟩) 1 1] w fun e w' => (∃ v, e = .returned v) ∧ WrOn w p (l ++ leb (n64 x) 4) F w' := by
  have C := put32_any p l F 4 (by decide) _ [x] w h (sl_one hg) (by simp; omega) (own_not hgF)
  simp only [List.flatMap_cons, List.flatMap_nil, List.append_nil] at C
  have HC := Lib.hid C
  clear C h hg hgF
  go_enter Tryd.func9, Tryd.ntmps9
  go_wp2_with fail
  refine HC.out.mono ?_
  rintro e w' ⟨⟨v, rfl⟩, hon⟩
  go_wp2_with fail
  go_end0
  exact ⟨⟨_, rfl⟩, hon⟩
theorem wU64_any (p : Nat) (l : List UInt8) (F : Nat → Prop) (g : Nat) (x : Int) (hx : 0 ≤ x ∧ x < 18446744073709551616) (t : TypeId) (fr : Nat × Nat) (w : World) (h : Wr w p l F) (hg : Blk w g #[.int .u64 x] t fr) (hgF : ¬ F g) (hl : l.length ≤ 1000000000) :
    Calls Tryd.prog 12 #[.pointer (some ⟨p, 0, none⟩), .slice (some ⟨g, 0, none⟩) 1 1] w fun e w' => (∃ v, e = .returned v) ∧ WrOn w p (l ++ leb (n64 x) 8) F w' := by
  have C := put64_any p l F 8 (by decide) _ [x] w h (sl_one hg) (fun y hy => (List.mem_singleton.1 hy) ▸ hx) (by simp; omega) (own_not hgF)
  simp only [List.flatMap_cons, List.flatMap_nil, List.append_nil] at C
  have HC := Lib.hid C
  clear C h hg hgF
  go_enter Tryd.func12, Tryd.ntmps12
  go_wp2_with fail
  refine HC.out.mono ?_
  rintro e w' ⟨⟨v, rfl⟩, hon⟩
  go_wp2_with fail
  go_end0
  exact ⟨⟨_, rfl⟩, hon⟩
theorem rU8_any (fu : Bool) (q : Nat) (R : RS) (w : World) (h : Ro fu w q R) : Calls Tryd.prog 22 #[.pointer (some ⟨q, 0, none⟩)] w fun e w' => e = .returned (.int .u8 ((R.num 1).1 : Nat)) ∧ RoOn fu w q (R.num 1).2 w' := by
  have C := Lib.hid (get8_any fu q R 1 (by decide) w h)
  generalize (R.num 1).1 = v at *
  generalize (R.num 1).2 = R1 at *
  clear h
  go_enter Tryd.func22, Tryd.ntmps22
  go_wp2_with fail
  refine C.out.mono ?_
  rintro e w' ⟨rfl, hon⟩
  go_wp2_with fail
  go_ret
  exact ⟨rfl, hon⟩
theorem rU32_any (fu : Bool) (q : Nat) (R : RS) (w : World) (h : Ro fu w q R) : Calls Tryd.prog 14 #[.pointer (some ⟨q, 0, none⟩)] w fun e w' => e = .returned (.int .u32 ((R.num 4).1 : Nat)) ∧ RoOn fu w q (R.num 4).2 w' := by
  have C := Lib.hid (get32_any fu q R 4 (by decide) w h)
  generalize (R.num 4).1 = v at *
  generalize (R.num 4).2 = R1 at *
  clear h
  go_enter Tryd.func14, Tryd.ntmps14
  go_wp2_with fail
  refine C.out.mono ?_
  rintro e w' ⟨rfl, hon⟩
  go_wp2_with fail
  go_ret
  exact ⟨rfl, hon⟩
theorem rU64_any (fu : Bool) (q : Nat) (R : RS) (w : World) (h : Ro fu w q R) : Calls Tryd.prog 15 #[.pointer (some ⟨q, 0, none⟩)] w fun e w' => e = .returned (.int .u64 ((R.num 8).1 : Nat)) ∧ RoOn fu w q (R.num 8).2 w' := by
  have C := Lib.hid (get64_any fu q R 8 (by decide) w h)
  generalize (R.num 8).1 = v at *
  generalize (R.num 8).2 = R1 at *
  clear h
  go_enter Tryd.func15, Tryd.ntmps15
  go_wp2_with fail
  refine C.out.mono ?_
  rintro e w' ⟨rfl, hon⟩
  go_wp2_with fail
  go_ret
  exact ⟨rfl, hon⟩
theorem rText_any (fu : Bool) (q : Nat) (R : RS) (n : Int) (w : World) (h : Ro fu w q R) (hn : n ≤ 9223372036854775807) : Calls Tryd.prog 21 #[.pointer (some ⟨q, 0, none⟩), .int .i64 n] w fun e w' => e = .returned (.string (R.take n).1) ∧ RoOn fu w q (R.take n).2 w' := by
  have C := Lib.hid (rTake_any fu q R n w h hn)
  generalize (R.take n).1 = v at *
  generalize (R.take n).2 = R1 at *
  clear h
  go_enter Tryd.func21, Tryd.ntmps21
  go_wp2_with fail
  refine C.out.mono ?_
  rintro e w' ⟨rfl, hon⟩
  go_wp2_with fail
  go_ret
  exact ⟨rfl, hon⟩
end Go.Proofs.YtaikcehdomaebaaDoor
