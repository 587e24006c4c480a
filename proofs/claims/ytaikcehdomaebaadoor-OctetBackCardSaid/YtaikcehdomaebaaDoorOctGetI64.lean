/- THE WALKS over octet: get, at int64. -/
import Derived.Test.YtaikcehdomaebaaDoorOctR
namespace Go.Proofs.YtaikcehdomaebaaDoor
open Go.RowKit
set_option maxHeartbeats 1000000 in
theorem getI64_any (fu : Bool) (q : Nat) (R : RS) (many : Nat) (hmany : many ≤ 8) (w : World) (h : Ro fu w q R) :
    Calls Tryd.prog 40 #[.pointer (some ⟨q, 0, none⟩), .int .i64 many] w fun e w' => e = .returned (.int .i64 (wrap64 ((R.num many).1 : Nat))) ∧ RoOn fu w q (R.num many).2 w' := by
  have hb := R.take_size many
  have hnl := R.num_lt many
  have hnl2 : (R.num many).1 < 18446744073709551616 := Nat.lt_of_lt_of_le hnl (Nat.le_trans (Nat.pow_le_pow_right (by decide) hmany) (by decide))
  clear hnl
  have C := Lib.hid (rTake_any fu q R many w h (by omega))
  obtain ⟨s, hs⟩ : ∃ s, s = (R.take many).1 := ⟨_, rfl⟩
  obtain ⟨R1, hR1⟩ : ∃ R1, R1 = (R.take many).2 := ⟨_, rfl⟩
  have hn1 : (R.num many).1 = deb s.data.toList := by rw [hs]; rfl
  have hn2 : (R.num many).2 = R1 := by rw [hR1]; rfl
  rw [hn1, hn2]
  rw [hn1] at hnl2
  rw [← hs, ← hR1] at C
  rw [← hs] at hb
  clear hn1 hn2 hs hR1
  clear h
  go_enter Tryd.func40, Tryd.ntmps40
  go_wp2_with fail
  refine C.out.mono ?_
  rintro e w1 ⟨rfl, hon⟩
  have Hon := Lib.hid hon
  clear hon
  go_wp2_with fail
  go_loop [6, 7, 13] (fun n _ i => ∃ k : Nat, k ≤ s.size ∧ i = .int .i64 k ∧ n = .int .u64 (deb (s.data.toList.take k) : Nat)) (fun _ _ i => s.size - (intOf i).toNat)
  case atStart => exact ⟨0, Nat.zero_le _, rfl, by simp [deb]⟩
  case round =>
    obtain ⟨k, hk, rfl, rfl⟩ := hrel
    by_cases hlt : k < s.size
    · obtain ⟨A, hA⟩ : ∃ A, A = deb (s.data.toList.take k) := ⟨_, rfl⟩
      obtain ⟨B, hB⟩ : ∃ B, B = deb (s.data.toList.take (k + 1)) := ⟨_, rfl⟩
      have hst := deb_take s k hlt (by omega)
      rw [← hA, ← hB] at hst
      rw [← hA]
      have HA := Lib.hid hA; have HB := Lib.hid hB
      clear hA hB
      have ex : IntKind.u64.wrap ((s[k].toNat : Nat) : Int) = ((s[k].toNat : Nat) : Int) := by
        have := s[k].toNat_lt
        rw [n64_wrap, n64_nat _ (by omega)]
      go_wp2_with fail
      go_round
      case rel => exact ⟨k + 1, by omega, by go_num, by rw [HB.out]⟩
      case measure => simp [intOf]; omega
    · obtain rfl : k = s.size := by omega
      go_wp2_with fail
      go_ret
      have ht : s.data.toList.take s.size = s.data.toList := List.take_length
      have hv : wrap64 ((deb (s.data.toList.take s.size) : Nat) : Int) = wrap64 ((deb s.data.toList : Nat) : Int) := by rw [ht]
      exact ⟨congrArg (fun z => Ending.returned (.int .i64 z)) hv, Hon.out⟩
end Go.Proofs.YtaikcehdomaebaaDoor
