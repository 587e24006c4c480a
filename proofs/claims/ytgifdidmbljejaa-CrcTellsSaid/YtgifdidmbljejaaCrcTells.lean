/- CrcTells: the walk. -/
import Derived.Test.YtgifdidmbljejaaCrcDiffer
import Derived.Test.YtgifdidmbljejaaCrcRefDiffer
import Derived.Test.YtgifdidmbljejaaLater
namespace Go.Proofs.Ytgifdidmbljejaa
open Go.RowKit
/-- what Differ answers of any two texts -/
def firstOf (a b : ByteArray) : Int := if a.size = b.size then Crc.loBit (8 * a.size) (Crc.num a.data.toList ^^^ Crc.num b.data.toList) else -1
def lastOf (a b : ByteArray) : Int := if a.size = b.size then Crc.hiBit (8 * a.size) (Crc.num a.data.toList ^^^ Crc.num b.data.toList) else -1
theorem differ_all (a b : ByteArray) (ha : a.size ≤ 1000) (hb : b.size ≤ 1000) (w : World) :
    Calls Try.prog 13 #[.string a, .string b] w fun e w' => e = .returned (.tuple #[.int .i64 (firstOf a b), .int .i64 (lastOf a b)]) ∧ Below w.heap.size w w' := by
  unfold firstOf lastOf
  by_cases h : a.size = b.size
  · rw [if_pos h, if_pos h]; exact differ_any a b ha hb h w
  · rw [if_neg h, if_neg h]; exact differ_ne a b h w
theorem refDiffer_all (a b : ByteArray) (ha : a.size ≤ 1000) (w : World) :
    Calls Try.prog 14 #[.string a, .string b] w fun e w' => e = .returned (.tuple #[.int .i64 (firstOf a b), .int .i64 (lastOf a b)]) ∧ Below w.heap.size w w' := by
  unfold firstOf lastOf
  by_cases h : a.size = b.size
  · rw [if_pos h, if_pos h]; exact refDiffer_any a b ha h w
  · rw [if_neg h, if_neg h]; exact refDiffer_ne a b h w
set_option maxHeartbeats 2000000 in
theorem lawTells_any (s t : ByteArray) (r : Nat) (hs : s.size ≤ 9223372036854775807) (ht : t.size ≤ 9223372036854775807) (hr : r < 4294967296) (w : World) :
    Calls Try.prog 6 #[.string s, .string t, .int .u32 r] w fun e w' => e = .returned (.bool true) ∧ Below w.heap.size w w' := by
  go_enter Try.func6, Try.ntmps6
  go_wp2_with fail
  refine (few_any s 300 _ hs (by decide)).mono ?_; rintro e w' ⟨rfl, rfl⟩
  go_wp2_with fail
  refine (few_any t 300 _ ht (by decide)).mono ?_; rintro e w' ⟨rfl, rfl⟩
  generalize hA : s.extract 0 (min s.size 300) = a
  generalize hB : t.extract 0 (min t.size 300) = b
  have hal : a.size ≤ 300 := by subst hA; simp; omega
  have hbl : b.size ≤ 300 := by subst hB; simp; omega
  clear hA hB hs ht
  go_wp2_with fail
  ((with_reducible refine (differ_all a b (by omega) (by omega) _).mono ?_); rintro e w1 ⟨rfl, hb1⟩)
  go_wp2_with fail
  ((with_reducible refine (refDiffer_all a b (by omega) _).mono ?_); rintro e w2 ⟨rfl, hb2⟩)
  generalize firstOf a b = f1 at *
  generalize lastOf a b = f2 at *
  go_wp2_with fail
  all_goals
    refine wp_region_later (by kernel_rfl) (by kernel_rfl) ?_
    repeat (go_big_quiet_step (exact calls_later (differ_all _ _ (by first | omega | (simp; omega)) (by first | omega | (simp; omega)) _)))
    refine wpQuiet_nil ?_
    rintro _ ⟨⟨w3, hb3⟩, rfl⟩
    go_wp2_with fail
    refine wp_region_later (by kernel_rfl) (by kernel_rfl) ?_
    repeat (go_big_quiet_step (exact calls_later (refDiffer_all _ _ (by first | omega | (simp; omega)) _)))
    refine wpQuiet_nil ?_
    rintro _ ⟨⟨w4, hb4⟩, rfl⟩
    generalize firstOf _ _ = f3
    generalize lastOf _ _ = f4
    go_wp2_with fail
    have hlt := Crc.sum_lt a.data.toList
    ((with_reducible refine (sum_any a (by omega) _).mono ?_); rintro e w5 ⟨rfl, hb5⟩)
    generalize hx : Crc.sum a.data.toList = x at *
    have HX := Lib.hid hx; clear hx
    go_wp2_with fail
    ((with_reducible refine (refSum_any a (by omega) _).mono ?_); rintro e w' ⟨rfl, rfl⟩)
    rw [HX.out]
    go_wp2_with fail
    ((with_reducible refine (more_any r hr a (by omega) _).mono ?_); rintro e w6 ⟨rfl, hb6⟩)
    generalize hy : Crc.more r a.data.toList = y at *
    have HY := Lib.hid hy; clear hy
    go_wp2_with fail
    ((with_reducible refine (refMore_any r hr a (by omega) _).mono ?_); rintro e w' ⟨rfl, rfl⟩)
    rw [HY.out]
    go_wp2_with fail
    ((with_reducible refine (works_any _).mono ?_); rintro e w7 ⟨rfl, hb7⟩)
    go_wp2
    go_ret
    exact ⟨rfl, ((((hb1.next hb2).next hb3).next hb4).next hb5).next (hb6.next hb7)⟩
end Go.Proofs.Ytgifdidmbljejaa
