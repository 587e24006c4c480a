/- THE WALKS over the reference of chapter 1: Put. -/
import Derived.Test.YtaikcehdomaebaaDoorOctW
namespace Go.Proofs.YtaikcehdomaebaaDoor
open Go.RowKit
theorem str_app' (a b : List UInt8) : ((⟨a.toArray⟩ : ByteArray) ++ ⟨b.toArray⟩) = ⟨(a ++ b).toArray⟩ := by
  apply ByteArray.ext
  simp
set_option maxHeartbeats 1000000 in
set_option maxRecDepth 100000 in
theorem put_ref (N many : Nat) (hN : N < 18446744073709551616) (hm : many ≤ 8) (w : World) :
    Calls Tryd.prog 41 #[.int .u64 N, .int .i64 many] w fun e w' => e = .returned (.string ⟨(leb N many).toArray⟩) ∧ Below w.heap.size w w' := by
  go_enter Tryd.func41, Tryd.ntmps41
  go_wp2_with fail
  go_loopw [0, 5, 6] (fun n s i wr => ∃ j : Nat, j ≤ many ∧ i = .int .i64 j ∧ n = .int .u64 (N / 256 ^ j : Nat) ∧ s = .string ⟨(leb N j).toArray⟩ ∧ Below w.heap.size w wr) (fun _ _ i _ => many - (intOf i).toNat)
  case atStart => exact ⟨0, Nat.zero_le _, rfl, by simp, rfl, Below.refl _ _⟩
  case round =>
    obtain ⟨j, hj, rfl, rfl, rfl, hb⟩ := hrel
    have HB := Lib.hid hb
    clear hb
    by_cases hlt : j < many
    · obtain ⟨m, hm'⟩ : ∃ m, m = N / 256 ^ j := ⟨_, rfl⟩
      obtain ⟨m2, hm2⟩ : ∃ m2, m2 = N / 256 ^ (j + 1) := ⟨_, rfl⟩
      have hmm : m2 = m / 256 := by rw [hm', hm2, Nat.pow_succ, Nat.div_div_eq_div_mul]
      obtain ⟨y, hy⟩ : ∃ y : UInt8, y = UInt8.ofNat (m % 256) := ⟨_, rfl⟩
      have hyt : y.toNat = m % 256 := by rw [hy]; exact UInt8.toNat_ofNat_of_lt' (Nat.mod_lt _ (by decide))
      have hmN : m < 18446744073709551616 := by rw [hm']; exact Nat.lt_of_le_of_lt (Nat.div_le_self _ _) (by omega)
      have hsn := leb_snoc j N
      rw [← hm', ← hy] at hsn
      have hlen := leb_length j N
      have hcc : ¬ 9223372036854775807 < (leb N j).length + 1 := by omega
      have e2 : (m : Int) / 256 = (m2 : Int) := by omega
      have e1 : (m : Int) % 256 = (y.toNat : Int) := by rw [hyt]; omega
      have e3 : (m : Int).tmod 256 = (y.toNat : Int) := by rw [Int.tmod_eq_emod_of_nonneg (by omega)]; exact e1
      have hyb := y.toNat_lt
      have ew : IntKind.u8.wrap (y.toNat : Int) = (y.toNat : Int) := by simp [IntKind.wrap, IntKind.signed, IntKind.bits]; omega
      have hcv : (convert 67 9 (.slice (some ⟨wr.heap.size, 0, none⟩) 1 1)).run Tryd.prog (wr.alloc (.cells #[.int .u8 (y.toNat : Int)] 5)) = .ok (.string ⟨#[y]⟩) (wr.alloc (.cells #[.int .u8 (y.toNat : Int)] 5)) := conv_block (wr.alloc (.cells #[.int .u8 (y.toNat : Int)] 5)) wr.heap.size [y] #[] 5 (0, 0) 1 (by simpa [u8cells] using Blk.new wr #[.int .u8 (y.toNat : Int)] 5 (0, 0)) (P := Tryd.prog) Tryd.underlying67 Tryd.underlying5 Tryd.underlying9
      rw [← hm']
      have Hsn := Lib.hid hsn; have Hm := Lib.hid hm'; have Hm2 := Lib.hid hm2; have Hy := Lib.hid hy; have Hmm := Lib.hid hmm; have Hyt := Lib.hid hyt; have Hlen := Lib.hid hlen
      clear hsn hm' hm2 hy hmm hyt hlen
      generalize leb N j = l at *
      go_wp2_with fail
      go_roundw
      case rel => exact ⟨j + 1, by omega, by go_num, by rw [Hm2.out], by rw [Hsn.out, ← str_app'], HB.out.alloc HB.out.size _⟩
      case measure => simp [intOf]; omega
    · obtain rfl : j = many := by omega
      go_wp2_with fail
      go_ret
      exact ⟨rfl, HB.out⟩
end Go.Proofs.YtaikcehdomaebaaDoor
