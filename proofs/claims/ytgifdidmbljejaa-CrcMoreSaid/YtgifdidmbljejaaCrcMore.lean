/- CrcMore: the walk. -/
import Derived.Test.YtgifdidmbljejaaCrcWalksB
import Derived.Test.YtgifdidmbljejaaLawKit
namespace Go.Proofs.Ytgifdidmbljejaa
open Go.RowKit
set_option maxHeartbeats 1000000 in
theorem lawMore_any (s t : ByteArray) (hs : s.size ≤ 9223372036854775807) (ht : t.size ≤ 9223372036854775807) (w : World) :
    Calls Try.prog 3 #[.string s, .string t] w fun e w' => e = .returned (.bool true) ∧ Below w.heap.size w w' := by
  go_enter Try.func3, Try.ntmps3
  go_wp2_with fail
  refine (few_any s 300 _ hs (by decide)).mono ?_
  rintro e w' ⟨rfl, rfl⟩
  go_wp2_with fail
  refine (few_any t 300 _ ht (by decide)).mono ?_
  rintro e w' ⟨rfl, rfl⟩
  generalize hA : s.extract 0 (min s.size 300) = a
  generalize hB : t.extract 0 (min t.size 300) = b
  have hal : a.size ≤ 300 := by subst hA; simp; omega
  have hbl : b.size ≤ 300 := by subst hB; simp; omega
  clear hA hB
  go_wp2_with fail
  refine (sum_is (Crc.more (Crc.sum a.data.toList) b.data.toList) _ (by simp; omega) _ (by rw [← Crc.sum_append]; simp)).mono ?_
  rintro e w1 ⟨rfl, hb1⟩
  have hlt := Crc.sum_lt a.data.toList
  go_wp2_with fail
  refine (sum_any a (by omega) _).mono ?_
  rintro e w2 ⟨rfl, hb2⟩
  generalize Crc.sum a.data.toList = x at *
  go_wp2_with fail
  refine (more_any x hlt b (by omega) _).mono ?_
  rintro e w3 ⟨rfl, hb3⟩
  generalize Crc.more x b.data.toList = y at *
  have hlt2 := Crc.sum_lt b.data.toList
  go_wp2_with fail
  refine (sum_any b (by omega) _).mono ?_
  rintro e w4 ⟨rfl, hb4⟩
  generalize hz : Crc.sum b.data.toList = z at *
  have HZ := Lib.hid hz; clear hz
  go_wp2_with fail
  refine (more_any z hlt2 _ (by decide) _).mono ?_
  rintro e w5 ⟨rfl, hb5⟩
  rw [show Crc.more z (ByteArray.mk #[]).data.toList = z from Crc.more_nil z]
  go_wp2_with fail
  refine (sum_is z b (by omega) _ HZ.out).mono ?_
  rintro e w6 ⟨rfl, hb6⟩
  go_wp2_with fail
  refine (works_any _).mono ?_
  rintro e w7 ⟨rfl, hb7⟩
  go_wp2
  go_ret
  exact ⟨rfl, (((((hb1.next hb2).next hb3).next hb4).next hb5).next hb6).next hb7⟩
end Go.Proofs.Ytgifdidmbljejaa
