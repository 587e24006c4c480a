/- THE WALKS over the reference of chapter 2, and Differ. -/
import Derived.Test.YtaikcehdomaebaaFCrcWB
namespace Go.Proofs.Ytaikcehdomaebaa
open Go.RowKit
theorem take_any (r b : Nat) (hr : r < 4294967296) (hb : b < 2) (w : World) :
    Calls Try.prog 47 #[.int .u32 r, .int .u32 b] w fun e w' => e = .returned (.int .u32 (Crc.step (r ^^^ b) : Nat)) ∧ w = w' := by
  have h1 : bits BinOp.and IntKind.u32 (↑r) 1 = ((r % 2 : Nat) : Int) := by
    rw [show (1 : Int) = ((1 : Nat) : Int) from rfl, u32_and_nat _ _ hr (by decide), nat_mask1]
  have e2 : (r ^^^ b) / 2 = r / 2 := by rw [Crc.xor_div2, show b / 2 = 0 from by omega, Nat.xor_zero]
  by_cases h : r % 2 = b
  · have e1 : (r ^^^ b) % 2 = 0 := by rw [Crc.xor_mod2, h, show b % 2 = b from by omega, Nat.xor_self]
    have hf := Lib.hid (show Crc.step (r ^^^ b) = r / 2 by unfold Crc.step; rw [e1, e2]; simp)
    clear e1 e2
    have hn : (((r % 2 : Nat) : Int) != (b : Int)) = false := by simp; omega
    clear h
    go_enter Try.func47, Try.ntmps47
    go_wp2
    go_ret
    exact ⟨by rw [hf.out]; simp, rfl⟩
  · have e1 : (r ^^^ b) % 2 = 1 := by rw [Crc.xor_mod2]; rcases Crc.mod2 r with h2 | h2 <;> rcases Crc.mod2 b with h3 | h3 <;> rw [h2, h3] <;> first | omega | rfl
    have hf := Lib.hid (show Crc.step (r ^^^ b) = r / 2 ^^^ Crc.poly by unfold Crc.step; rw [e1, e2]; simp)
    clear e1 e2
    have hn : (((r % 2 : Nat) : Int) != (b : Int)) = true := by simp; omega
    clear h
    go_enter Try.func47, Try.ntmps47
    go_wp2
    go_ret
    refine ⟨?_, rfl⟩
    have e : ((r : Int) / 2) = ((r / 2 : Nat) : Int) := by omega
    have e2 := u32_xor_nat (r / 2) 3988292384 (by omega) (by decide)
    show Ending.returned (.int .u32 (bits BinOp.xor IntKind.u32 (↑r / 2) 3988292384)) = _
    rw [hf.out, e]
    exact congrArg (fun n => Ending.returned (.int .u32 n)) e2
theorem bit_and (b k : Nat) (hb : b < 2 ^ 8) : bits BinOp.and IntKind.u8 ((b : Int) / 2 ^ k) 1 = ((b / 2 ^ k % 2 : Nat) : Int) := by
  have h1 : b / 2 ^ k < 256 := Nat.lt_of_le_of_lt (Nat.div_le_self _ _) hb
  have e : ((b : Int) / 2 ^ k) = ((b / 2 ^ k : Nat) : Int) := by simp
  rw [e, show (1 : Int) = ((1 : Nat) : Int) from rfl, u8_and_nat _ _ h1 (by decide), nat_mask1]
set_option maxHeartbeats 400000 in
theorem refMore_any (r : Nat) (hr : r < 4294967296) (s : ByteArray) (hs : s.size ≤ 1000000) (w : World) :
    Calls Try.prog 34 #[.int .u32 r, .string s] w fun e w' => e = .returned (.int .u32 (Crc.more r s.data.toList)) ∧ w = w' := by
  have hn := not_ones r hr
  go_enter Try.func34, Try.ntmps34
  go_wp2
  go_loop [5, 6] (fun x i => ∃ k : Nat, k ≤ 8 * s.size ∧ i = .int .i64 k ∧ x = .int .u32 (Crc.feed k (r ^^^ Crc.ones) (Crc.num s.data.toList))) (fun _ i => 8 * s.size - (intOf i).toNat)
  case atStart => exact ⟨0, by omega, rfl, rfl⟩
  case round =>
    obtain ⟨k, hk, rfl, rfl⟩ := hrel
    clear hn
    have hreg := Crc.feed_lt k (r ^^^ Crc.ones) (Crc.num s.data.toList) (Crc.ones_xor r hr)
    generalize hX : Crc.feed k (r ^^^ Crc.ones) (Crc.num s.data.toList) = x at *
    have HX := Lib.hid hX; clear hX
    by_cases hlt : k < 8 * s.size
    · have hby := (s[k / 8]).toNat_lt
      have hbit := bit_and (s[k / 8]).toNat (k % 8) hby
      have hnb := Lib.hid (Crc.num_bit s.data.toList k (by simpa using (show k / 8 < s.size by omega)))
      generalize hB : (s[k / 8]).toNat / 2 ^ (k % 8) % 2 = b at hbit
      have hb2 : b < 2 := by omega
      have HB := Lib.hid hB; clear hB
      go_wp2_with fail
      ((with_reducible refine (take_any x b hreg hb2 _).mono ?_); rintro e w' ⟨rfl, rfl⟩)
      go_wp2
      go_round
      case rel => exact ⟨k + 1, by omega, by go_num, by rw [Crc.feed_snoc, HX.out, hnb.out, ← HB.out]; rfl⟩
      case measure => simp [intOf]; omega
    · obtain rfl : k = 8 * s.size := by omega
      have hn2 := not_ones x hreg
      go_wp2
      go_ret
      refine ⟨?_, rfl⟩
      have : Crc.more r s.data.toList = x ^^^ Crc.ones := by
        unfold Crc.more; rw [Crc.reg_feed]; rw [← HX.out, Array.length_toList]; rfl
      rw [this]; rfl
set_option maxHeartbeats 400000 in
theorem refSum_any (s : ByteArray) (hs : s.size ≤ 1000000) (w : World) :
    Calls Try.prog 18 #[.string s] w fun e w' => e = .returned (.int .u32 (Crc.sum s.data.toList)) ∧ w = w' := by
  go_enter Try.func18, Try.ntmps18
  go_wp2_with fail
  refine (refMore_any 0 (by decide) s hs _).mono ?_; rintro e w' ⟨rfl, rfl⟩
  go_wp2
  go_ret
  exact ⟨rfl, rfl⟩
end Go.Proofs.Ytaikcehdomaebaa
