/- graph.Moved's closure: a node's other number. -/
import Derived.Test.YtnkcmlngoeofgaaDoorGrTurned
import Derived.BigQuiet
import Derived.Deep.QuietTactic
namespace Go.Proofs.YtnkcmlngoeofgaaDoor
open Go.RowKit
/-- a node's other number -/
def mvI (n by_ v : Int) : Int := (v + by_) % n
theorem mvI_range (n by_ v : Int) (hn : 1 ≤ n) : 0 ≤ mvI n by_ v ∧ mvI n by_ v < n := ⟨Int.emod_nonneg _ (by omega), Int.emod_lt_of_pos _ (by omega)⟩
theorem tmod_bounds (a n : Int) (hn : 1 ≤ n) : -n < a.tmod n ∧ a.tmod n < n ∧ a.tmod n = a - n * a.tdiv n := by
  have h1 := Int.tmod_lt_of_pos a (show 0 < n by omega)
  have h2 : -n < a.tmod n := by
    have h := Int.tmod_lt_of_pos (-a) (show 0 < n by omega)
    rw [Int.neg_tmod] at h
    omega
  exact ⟨h2, h1, by have := Int.tmod_add_mul_tdiv a n; omega⟩
theorem mv_eq (n by_ v : Int) (hn : 1 ≤ n) : ((v + by_.tmod n).tmod n + n).tmod n = mvI n by_ v := by
  obtain ⟨a1, a2, a3⟩ := tmod_bounds by_ n hn
  obtain ⟨b1, b2, b3⟩ := tmod_bounds (v + by_.tmod n) n hn
  rw [Int.tmod_eq_emod_of_nonneg (by omega)]
  unfold mvI
  rw [b3, a3]
  rw [show v + (by_ - n * by_.tdiv n) - n * (v + (by_ - n * by_.tdiv n)).tdiv n + n = (v + by_) + n * (1 - by_.tdiv n - (v + (by_ - n * by_.tdiv n)).tdiv n) by rw [Int.mul_sub, Int.mul_sub, Int.mul_one]; omega]
  exact Int.add_mul_emod_self_left _ _ _
set_option maxHeartbeats 1000000 in
theorem move_any (n by_ v : Int) (Br Bb : Nat) (vx vy va : Value) (w : World) (hr : Blk w Br #[.int .i64 n, vx, vy, va] 25 (0, 0)) (hb : Blk w Bb #[.int .i64 by_] 3 (0, 0)) (hn : 1 ≤ n ∧ n ≤ 16777216) (hv : 0 ≤ v ∧ v < n) :
    Calls Tryd.prog 51 #[.int .i64 v, .pointer (some ⟨Bb, 0, none⟩), .pointer (some ⟨Br, 0, none⟩)] w fun e w' => e = .returned (.int .i64 (mvI n by_ v)) ∧ Below w.heap.size w w' := by
  have c0 := hr.cell 0; have c1 := hb.cell 0
  change w.cell? ⟨Br, 0, none⟩ = some (.int .i64 n) at c0
  change w.cell? ⟨Bb, 0, none⟩ = some (.int .i64 by_) at c1
  obtain ⟨t1, ht1⟩ : ∃ t, t = by_.tmod n := ⟨_, rfl⟩
  obtain ⟨t2, ht2⟩ : ∃ t, t = (v + t1).tmod n := ⟨_, rfl⟩
  obtain ⟨t3, ht3⟩ : ∃ t, t = (t2 + n).tmod n := ⟨_, rfl⟩
  have hm : Hid (t3 = mvI n by_ v) := Lib.hid (by rw [ht3, ht2, ht1]; exact mv_eq n by_ v hn.1)
  have b1 := tmod_bounds by_ n hn.1
  have b2 := tmod_bounds (v + t1) n hn.1
  have b3 := tmod_bounds (t2 + n) n hn.1
  rw [← ht1] at b1; rw [← ht2] at b2; rw [← ht3] at b3
  have e1 : by_.tmod n = t1 := ht1.symm
  have e2 : (v + t1).tmod n = t2 := ht2.symm
  have e3 : (t2 + n).tmod n = t3 := ht3.symm
  have w1 : IntKind.i64.wrap t1 = t1 := by rw [IntKind.wrap_i64]; omega
  have w2 : IntKind.i64.wrap (v + t1) = v + t1 := by rw [IntKind.wrap_i64]; omega
  have w3 : IntKind.i64.wrap t2 = t2 := by rw [IntKind.wrap_i64]; omega
  have w4 : IntKind.i64.wrap (t2 + n) = t2 + n := by rw [IntKind.wrap_i64]; omega
  have w5 : IntKind.i64.wrap t3 = t3 := by rw [IntKind.wrap_i64]; omega
  have hn0 : ¬ n = 0 := by omega
  clear ht1 ht2 ht3 b1 b2 b3 hr hb hn hv
  go_enter Tryd.func51, Tryd.ntmps51
  go_wp2_with fail
  go_quiet (fail)
  generalize hwd : w.drewN _ = wd at *
  go_wp2_with fail
  go_ret
  refine ⟨by rw [← hm.out]; first | done | rfl, ?_⟩
  rw [← hwd]; exact below_drewN (Below.refl _ _) _
end Go.Proofs.YtnkcmlngoeofgaaDoor
