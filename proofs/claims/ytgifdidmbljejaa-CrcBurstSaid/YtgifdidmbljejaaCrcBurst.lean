/- CrcBurst: the walk: two texts of one length that differ, within 32 bits in a row, have unlike sums. -/
import Derived.Test.YtgifdidmbljejaaCrcTurned
import Derived.Test.YtgifdidmbljejaaCrcDiffer
namespace Go.Proofs.Ytgifdidmbljejaa
open Go.RowKit
theorem turnW_lt (a n x : Nat) (hx : x < 4294967296) : turnW a n x < 4294967296 := Nat.lt_of_le_of_lt (Nat.mod_le _ _) hx
theorem turnW_fits (a n x : Nat) (ha : a ≤ 8 * n) : 2 ^ a * turnW a n x < 2 ^ (8 * n) := by
  have h1 : turnW a n x < 2 ^ min 32 (8 * n - a) := Nat.mod_lt _ (Nat.two_pow_pos _)
  have h2 : 2 ^ min 32 (8 * n - a) ≤ 2 ^ (8 * n - a) := Nat.pow_le_pow_right (by omega) (by omega)
  have e : 2 ^ (8 * n) = 2 ^ a * 2 ^ (8 * n - a) := by rw [← Nat.pow_add]; congr 1; omega
  rw [e]
  exact Nat.mul_lt_mul_of_pos_left (Nat.lt_of_lt_of_le h1 h2) (Nat.two_pow_pos _)
theorem bytes_eq (s t : ByteArray) (hl : t.size = s.size) (h : Crc.num s.data.toList = Crc.num t.data.toList) : s = t := by
  have := Crc.num_inj _ _ (show s.data.toList.length = t.data.toList.length from hl.symm) h
  have h2 : s.data = t.data := Array.toList_inj.1 this
  cases s; cases t; simp_all
set_option maxHeartbeats 1000000 in
theorem lawBurst_any (s : ByteArray) (a x : Nat) (hs : s.size ≤ 9223372036854775807) (ha : a < 65536) (hx : x < 4294967296) (w : World) :
    Calls Try.prog 7 #[.string s, .int .u16 a, .int .u32 x] w fun e w' => e = .returned (.bool true) ∧ Below w.heap.size w w' := by
  go_enter Try.func7, Try.ntmps7
  go_wp2_with fail
  ((with_reducible refine (works_any _).mono ?_); rintro e w1 ⟨rfl, hb1⟩)
  go_wp2_with fail
  refine (few_any s 400 _ hs (by decide)).mono ?_; rintro e w' ⟨rfl, rfl⟩
  generalize hA : s.extract 0 (min s.size 400) = b
  have hbl : b.size ≤ 400 := by subst hA; simp; omega
  clear hA hs
  by_cases h0 : b.size = 0
  · have h00 : ((b.size : Int) == 0) = true := by simp [h0]
    clear h0
    go_wp2
    go_ret
    exact ⟨rfl, hb1⟩
  · have h00 : ((b.size : Int) == 0) = false := by rw [beq_eq_false_iff_ne]; omega
    have hpos : 0 < b.size := by omega
    clear h0
    have hmod : a % (8 * b.size) < 8 * b.size := Nat.mod_lt _ (by omega)
    have e : ((a : Int) % (8 * (b.size : Int))) = ((a % (8 * b.size) : Nat) : Int) := by simp
    have E := Lib.hid e; clear e
    go_wp2_with fail
    rw [E.out]
    clear E
    generalize a % (8 * b.size) = p at *
    ((with_reducible refine (turned_any b (by omega) p (by omega) x hx _).mono ?_); rintro e w2 ⟨t, rfl, hts, htn, hb2⟩)
    have hW2 := turnW_lt p b.size x hx
    have hWf := turnW_fits p b.size x (by omega)
    have Htn := Lib.hid htn; clear htn
    have Hts := Lib.hid hts
    have Hdx := Lib.hid (Crc.xor_cancel _ _ _ Htn.out)
    generalize hW : turnW p b.size x = W at *
    clear hW
    go_wp2_with fail
    ((with_reducible refine (differ_any b t (by omega) (by omega) (by omega) _).mono ?_); rintro e w3 ⟨rfl, hb3⟩)
    rw [Hdx.out]
    by_cases h0 : W = 0
    · subst h0
      have hbt : b = t := bytes_eq b t hts (by rw [Htn.out]; simp)
      subst hbt
      rw [Nat.mul_zero, Crc.lo_0, Crc.hi_0]
      clear hts hWf
      go_wp2
      go_ret
      exact ⟨rfl, (hb1.next hb2).next hb3⟩
    · have hwi := Crc.within (8 * b.size) p W h0 hW2 hWf
      have hne := Crc.sum_ne b.data.toList t.data.toList (show b.data.toList.length = t.data.toList.length from hts.symm) p W Htn.out h0 hW2 hWf
      have hbt : (b.toList == t.toList) = false := by
        rw [beq_eq_false_iff_ne]; intro e; rw [ByteArray.toList_eq, ByteArray.toList_eq] at e; rw [e] at hne; exact hne rfl
      have hl1 := Crc.sum_lt b.data.toList
      have hl2 := Crc.sum_lt t.data.toList
      have hbd := Crc.loBit_bd (8 * b.size) (2 ^ p * W)
      have htl : t.size ≤ 400 := by omega
      generalize Crc.loBit (8 * b.size) (2 ^ p * W) = lo at *
      generalize Crc.hiBit (8 * b.size) (2 ^ p * W) = hi at *
      have Hne := Lib.hid hne
      clear hts hWf h0 hne
      obtain ⟨q, rfl⟩ : ∃ q : Nat, lo = q := ⟨lo.toNat, by omega⟩
      go_wp2_with fail
      ((with_reducible refine (sum_any b (by omega) _).mono ?_); rintro e w4 ⟨rfl, hb4⟩)
      generalize Crc.sum b.data.toList = x1 at *
      go_wp2_with fail
      ((with_reducible refine (sum_any t (by omega) _).mono ?_); rintro e w5 ⟨rfl, hb5⟩)
      generalize Crc.sum t.data.toList = x2 at *
      have hx12 : ((x1 : Int) != (x2 : Int)) = true := by rw [bne_iff_ne]; have := Hne.out; omega
      go_wp2_with fail
      refine (turned_any b (by omega) q (by omega) 1 (by decide) _).mono ?_
      rintro e w6 ⟨u, rfl, hus, hun, hb6⟩
      have hbu : (u.toList == b.toList) = false := by
        rw [beq_eq_false_iff_ne, ne_eq, ByteArray.toList_eq, ByteArray.toList_eq]; intro e
        rw [e] at hun
        have h1 : turnW q b.size 1 = 1 := by
          unfold turnW
          have : 1 < 2 ^ min 32 (8 * b.size - q) := Nat.one_lt_two_pow (by omega)
          exact Nat.mod_eq_of_lt this
        rw [h1, Nat.mul_one] at hun
        have := Crc.xor_cancel _ _ _ hun
        rw [Nat.xor_self] at this
        have := Nat.two_pow_pos q
        omega
      clear hun hus
      go_wp2
      go_ret
      exact ⟨rfl, ((((hb1.next hb2).next hb3).next hb4).next hb5).next hb6⟩
end Go.Proofs.Ytgifdidmbljejaa
