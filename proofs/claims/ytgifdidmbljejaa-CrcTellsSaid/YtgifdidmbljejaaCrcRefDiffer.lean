/- THE WALKS over Differ: the reference's. -/
import Derived.Test.YtgifdidmbljejaaCrcRef
import Derived.RegionTactic
import Derived.ChangeAlike
namespace Go.Proofs.Ytgifdidmbljejaa
open Go.RowKit
set_option maxHeartbeats 1000000 in
theorem refDiffer_any (a b : ByteArray) (ha : a.size ≤ 1000) (hab : a.size = b.size) (w : World) :
    Calls Try.prog 14 #[.string a, .string b] w fun e w' => e = .returned (.tuple #[.int .i64 (Crc.loBit (8 * a.size) (Crc.num a.data.toList ^^^ Crc.num b.data.toList)), .int .i64 (Crc.hiBit (8 * a.size) (Crc.num a.data.toList ^^^ Crc.num b.data.toList))]) ∧ Below w.heap.size w w' := by
  have hne : ((a.size : Int) != (b.size : Int)) = false := by simp; omega
  have h1 : a.size ≤ b.size := by omega
  clear hab
  generalize hXX : Crc.num a.data.toList ^^^ Crc.num b.data.toList = X
  have HXX := Lib.hid hXX; clear hXX
  go_enter Try.func14, Try.ntmps14
  go_wp2
  go_loopw [6, 7, 8] (fun f l i wr => ∃ k : Nat, k ≤ 8 * a.size ∧ i = .int .i64 k ∧ f = .int .i64 (Crc.loBit k X) ∧ l = .int .i64 (Crc.hiBit k X) ∧ Below w.heap.size w wr) (fun _ _ i _ => 8 * a.size - (intOf i).toNat)
  case atStart => exact ⟨0, by omega, rfl, rfl, rfl, Below.refl _ _⟩
  case round =>
    obtain ⟨k, hk, rfl, rfl, rfl, hbl⟩ := hrel
    have HB := Lib.hid hbl; clear hbl
    by_cases hlt : k < 8 * a.size
    · have hlta : k / 8 < a.size := by omega
      have hltb : k / 8 < b.size := by omega
      have hia : 0 ≤ (k : Int) / 8 ∧ (k : Int) / 8 < (a.size : Int) := by omega
      have hib : 0 ≤ (k : Int) / 8 ∧ (k : Int) / 8 < (b.size : Int) := by omega
      have hib2 : (k : Int) / 8 < (b.size : Int) := by omega
      have hxa := (a[k / 8]).toNat_lt
      have hxb := (b[k / 8]).toNat_lt
      have hba := bit_and (a[k / 8]).toNat (k % 8) hxa
      have hbb := bit_and (b[k / 8]).toNat (k % 8) hxb
      have htest := Lib.hid (Crc.xor_testBit _ _ k _ _ (Crc.num_bit a.data.toList k (by simpa using hlta)) (Crc.num_bit b.data.toList k (by simpa using hltb)))
      change Hid (_ = decide ((a[k / 8]).toNat / 2 ^ (k % 8) % 2 ≠ (b[k / 8]).toNat / 2 ^ (k % 8) % 2)) at htest
      rw [HXX.out] at htest
      generalize (a[k / 8]).toNat / 2 ^ (k % 8) % 2 = x at *
      generalize (b[k / 8]).toNat / 2 ^ (k % 8) % 2 = y at *
      have hlo := Lib.hid (show Crc.loBit (k + 1) X = _ from rfl)
      have hhi := Lib.hid (show Crc.hiBit (k + 1) X = _ from rfl)
      have hl2 : Hid (Crc.loBit (k + 1) X = if 0 ≤ Crc.loBit k X then Crc.loBit k X else if X.testBit k then (k : Int) else -1) := rfl
      have hh2 : Hid (Crc.hiBit (k + 1) X = if X.testBit k then (k : Int) else Crc.hiBit k X) := rfl
      rw [htest.out] at hl2 hh2
      clear htest hlo hhi
      have hfb := Crc.loBit_bd k X
      have hlb := Crc.hiBit_bd k X
      generalize hf : Crc.loBit k X = f at *
      generalize hg : Crc.hiBit k X = g at *
      have HF := Lib.hid hf; have HG := Lib.hid hg; clear hf hg
      by_cases h0 : x = y
      · have h00 : ((x : Int) != (y : Int)) = false := by simp [h0]
        have H0 := Lib.hid h0; clear h0
        go_wp2
        go_region
        go_wp2
        go_roundw
        case rel => exact ⟨k + 1, by omega, by go_num, by rw [hl2.out, H0.out]; congr 1; split <;> (try simp) <;> omega, by rw [hh2.out, H0.out]; simp, HB.out.drew⟩
        case measure => simp [intOf]; omega
      · have h00 : ((x : Int) != (y : Int)) = true := by rw [bne_iff_ne]; omega
        have H0 := Lib.hid h0; clear h0
        go_wp2
        go_region
        by_cases hf0 : f < 0
        · go_wp2
          go_roundw
          case rel => exact ⟨k + 1, by omega, by go_num, by rw [hl2.out, if_neg (by omega)]; simp [H0.out], by rw [hh2.out]; simp [H0.out], HB.out.drew⟩
          case measure => simp [intOf]; omega
        · go_wp2
          go_roundw
          case rel => exact ⟨k + 1, by omega, by go_num, by rw [hl2.out, if_pos (by omega)], by rw [hh2.out]; simp [H0.out], HB.out.drew⟩
          case measure => simp [intOf]; omega
    · obtain rfl : k = 8 * a.size := by omega
      go_wp2
      go_ret2
      exact ⟨rfl, HB.out⟩
theorem refDiffer_ne (a b : ByteArray) (hab : a.size ≠ b.size) (w : World) :
    Calls Try.prog 14 #[.string a, .string b] w fun e w' => e = .returned (.tuple #[.int .i64 (-1), .int .i64 (-1)]) ∧ Below w.heap.size w w' := by
  have hne : ((a.size : Int) != (b.size : Int)) = true := by simp; omega
  go_enter Try.func14, Try.ntmps14
  go_wp2
  go_ret2
  exact ⟨rfl, Below.refl _ _⟩
end Go.Proofs.Ytgifdidmbljejaa
