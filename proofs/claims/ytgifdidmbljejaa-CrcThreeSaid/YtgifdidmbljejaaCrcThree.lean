/- CrcThree: the walk: the sums of three texts of one length, and of all three taken together, bit by bit, taken together, are 0. -/
import Derived.Test.YtgifdidmbljejaaCrcWalksB
import Derived.Test.YtgifdidmbljejaaHeap
import Derived.Test.YtgifdidmbljejaaLater
import Derived.RegionTactic
import Derived.ChangeAlike
namespace Go.Proofs.Ytgifdidmbljejaa
open Go.RowKit
theorem infoU8 : (Try.prog.info? 5).map (fun i => (i.zero, i.size, i.bytes)) = some (some (.int .u8 0), 1, 1) := by kernel_rfl
theorem run_min4 {P : Program} (x y z v : Int) (u : World) (m : Int) (hm : m = min (min (min x y) z) v) : (Builtin.min_ #[3, 3, 3, 3] 3 #[.int .i64 x, .int .i64 y, .int .i64 z, .int .i64 v]).run P u = .ok (.int .i64 m) u := by
  have e : m = if v < (if z < (if y < x then y else x) then z else if y < x then y else x) then v else if z < (if y < x then y else x) then z else if y < x then y else x := by
    rw [hm]; simp only [Int.min_def]
    repeat' split
    all_goals omega
  rw [e]
  simp [Builtin.min_, Builtin.min2]
def zip3 (a b c : ByteArray) (n : Nat) : List UInt8 := List.zipWith (fun x y => x ^^^ y) (List.zipWith (fun x y => x ^^^ y) (a.data.toList.take n) (b.data.toList.take n)) (c.data.toList.take n)
theorem zip3_len (a b c : ByteArray) (n : Nat) (hna : n ≤ a.size) (hnb : n ≤ b.size) (hnc : n ≤ c.size) : (zip3 a b c n).length = n := by
  have h1 : a.data.toList.length = a.size := rfl
  have h2 : b.data.toList.length = b.size := rfl
  have h3 : c.data.toList.length = c.size := rfl
  simp only [zip3, List.length_zipWith, List.length_take]; omega
theorem zip3_get (a b c : ByteArray) (n : Nat) (hna : n ≤ a.size) (hnb : n ≤ b.size) (hnc : n ≤ c.size) : ∀ i (h : i < (zip3 a b c n).length) (hi : i < n), (zip3 a b c n)[i] = a[i] ^^^ b[i] ^^^ c[i] := by
  intro i h _; simp [zip3]; rfl
set_option maxHeartbeats 1000000 in
theorem lawThree_any (a b c : ByteArray) (ha : a.size ≤ 9223372036854775807) (hb : b.size ≤ 9223372036854775807) (hc : c.size ≤ 9223372036854775807) (w : World) :
    Calls Try.prog 4 #[.string a, .string b, .string c] w fun e w' => e = .returned (.bool true) ∧ Below w.heap.size w w' := by
  obtain ⟨n, hn⟩ : ∃ n : Nat, n = min (min (min a.size b.size) c.size) 300 := ⟨_, rfl⟩
  have hmin := fun u => run_min4 (P := Try.prog) (a.size : Int) b.size c.size 300 u (n : Int) (by omega)
  have hna : n ≤ a.size := by omega
  have hnb : n ≤ b.size := by omega
  have hnc : n ≤ c.size := by omega
  have hn3 : n ≤ 300 := by omega
  clear hn
  have hmk := run_make_bytes (P := Try.prog) 28 5 Try.underlying28 infoU8 n (by omega)
  have hZ := zip3_get a b c n hna hnb hnc
  have hZl := zip3_len a b c n hna hnb hnc
  have h3 : Hid (Crc.sum (a.data.toList.take n) ^^^ Crc.sum (b.data.toList.take n) ^^^ Crc.sum (c.data.toList.take n) ^^^ Crc.sum (zip3 a b c n) = 0) := by
    have h1 : a.data.toList.length = a.size := rfl
    have h2 : b.data.toList.length = b.size := rfl
    have h3 : c.data.toList.length = c.size := rfl
    exact Crc.three _ _ _ (by simp only [List.length_take]; omega) (by simp only [List.length_take]; omega)
  have HZL := Lib.hid hZl; have HZ := Lib.hid hZ; clear hZl hZ
  generalize zip3 a b c n = Z at *
  go_enter Try.func4, Try.ntmps4
  go_wp2
  have hB0 : Blk (w.alloc (.cells (u8cells (List.replicate n 0)) 5)) w.heap.size (u8cells (Z.take 0 ++ List.replicate (Z.length - 0) 0) ++ #[]) 5 (0, 0) := by
    rw [HZL.out]; simpa using Blk.new w (u8cells (List.replicate n 0)) 5 (0, 0)
  have HB0 := Lib.hid hB0; clear hB0 hmk hmin
  have Hb0 := Lib.hid ((Below.refl w.heap.size w).alloc (Nat.le_refl _) (.cells (u8cells (List.replicate n 0)) 5))
  generalize w.alloc (.cells (u8cells (List.replicate n 0)) 5) = w0 at *
  go_loopw [9] (fun i wr => ∃ k : Nat, k ≤ n ∧ i = .int .i64 k ∧ Blk wr w.heap.size (u8cells (Z.take k ++ List.replicate (Z.length - k) 0) ++ #[]) 5 (0, 0) ∧ Below w.heap.size w wr) (fun i _ => n - (intOf i).toNat)
  case atStart => exact ⟨0, by omega, rfl, HB0.out, Hb0.out⟩
  case round =>
    obtain ⟨k, hk, rfl, hB, hb⟩ := hrel
    have Hb := Lib.hid hb; have HB := Lib.hid hB
    clear hb hB HB0 Hb0
    by_cases h1 : k < n
    · have hlen : k < (Z.take k ++ List.replicate (Z.length - k) 0).length := by simp [HZL.out]; omega
      have hcell := HB.out.cell k
      rw [u8cells_get _ _ _ hlen] at hcell
      have hfz := HB.out.free k (.inr (Nat.zero_le _))
      have hka : k < a.size := by omega
      have hkb : k < b.size := by omega
      have hkc : k < c.size := by omega
      have hZk : k < Z.length := by rw [HZL.out]; exact h1
      have hx1 := u8_xor_nat (a[k]).toNat (b[k]).toNat (a[k]).toNat_lt (b[k]).toNat_lt
      have hx2 := u8_xor_nat ((a[k]).toNat ^^^ (b[k]).toNat) (c[k]).toNat (Nat.xor_lt_two_pow (n := 8) (a[k]).toNat_lt (b[k]).toNat_lt) (c[k]).toNat_lt
      have hz : (a[k]).toNat ^^^ (b[k]).toNat ^^^ (c[k]).toNat = (Z[k]).toNat := by rw [HZ.out k hZk h1, UInt8.toNat_xor, UInt8.toNat_xor]
      rw [hz] at hx2
      clear hz
      go_wp2
      go_region
      have HB1 := Lib.hid ((HB.out.set k (.int .u8 ((Z[k]).toNat : Int))).drew)
      rw [u8cells_set _ _ _ hlen, Crc.set_zeros _ _ hZk] at HB1
      have Hb1 := Lib.hid ((Hb.out.setCell (p := ⟨w.heap.size, k, none⟩) (Nat.le_refl _) (.int .u8 ((Z[k]).toNat : Int))).drew)
      generalize (wr.setCell ⟨w.heap.size, k, none⟩ (.int .u8 ((Z[k]).toNat : Int))).drew = w1 at *
      clear hx1 hx2 hcell hfz hlen
      go_wp2
      go_roundw
      case rel => exact ⟨k + 1, by omega, by go_num, HB1.out, Hb1.out⟩
      case measure => simp [intOf]; omega
    · obtain rfl : k = n := by omega
      have ea : (a.extract 0 k).data.toList = a.data.toList.take k := by simp
      have eb : (b.extract 0 k).data.toList = b.data.toList.take k := by simp
      have ec : (c.extract 0 k).data.toList = c.data.toList.take k := by simp
      rw [← ea, ← eb, ← ec] at h3
      clear ea eb ec
      have sa : (a.extract 0 k).size ≤ 9223372036854775807 := by simp; omega
      have sb : (b.extract 0 k).size ≤ 9223372036854775807 := by simp; omega
      have sc : (c.extract 0 k).size ≤ 9223372036854775807 := by simp; omega
      have sz : (⟨Z.toArray⟩ : ByteArray).size ≤ 9223372036854775807 := by
        show Z.length ≤ _
        rw [HZL.out]; omega
      have CA := Lib.hid (fun w => sum_any (a.extract 0 k) sa w)
      have CB := Lib.hid (fun w => sum_any (b.extract 0 k) sb w)
      have CC := Lib.hid (fun w => sum_any (c.extract 0 k) sc w)
      have CZ := Lib.hid (fun w => sum_any ⟨Z.toArray⟩ sz w)
      have la := Crc.sum_lt (a.extract 0 k).data.toList
      have lb := Crc.sum_lt (b.extract 0 k).data.toList
      have lc := Crc.sum_lt (c.extract 0 k).data.toList
      have lz := Crc.sum_lt Z
      change Hid (∀ w, Calls _ _ _ w fun e w' => e = .returned (.int .u32 (Crc.sum Z)) ∧ Below w.heap.size w w') at CZ
      generalize Crc.sum (a.extract 0 k).data.toList = xa at *
      generalize Crc.sum (b.extract 0 k).data.toList = xb at *
      generalize Crc.sum (c.extract 0 k).data.toList = xc at *
      generalize Crc.sum Z = xz at *
      have q1 := u32_xor_nat xa xb la lb
      have l1 : xa ^^^ xb < 4294967296 := Nat.xor_lt_two_pow (n := 32) la lb
      have q2 := u32_xor_nat _ xc l1 lc
      have l2 : xa ^^^ xb ^^^ xc < 4294967296 := Nat.xor_lt_two_pow (n := 32) l1 lc
      have q3 := u32_xor_nat _ xz l2 lz
      rw [h3.out] at q3
      have hcv : ∀ x : Later wr.heap.size wr, (convert 28 9 (.slice (some ⟨w.heap.size, 0, none⟩) k k)).run Try.prog x.w = .ok (.string ⟨Z.toArray⟩) x.w := fun x => by
        have h := conv_block x.w w.heap.size Z #[] 5 (0, 0) k (by
          have := HB.out.below x.h HB.out.lt
          rw [List.take_of_length_le (by rw [HZL.out]; omega), HZL.out, Nat.sub_self] at this
          simpa using this) (P := Try.prog) Try.underlying28 Try.underlying5 Try.underlying9
        rwa [HZL.out] at h
      clear la lb lc lz l1 l2 sa sb sc sz
      go_wp2_with fail
      refine wp_region_later (by kernel_rfl) (by kernel_rfl) ?_
      repeat (go_big_quiet_step (first | (with_reducible exact calls_later (CA.out _)) | (with_reducible exact calls_later (CB.out _)) | (with_reducible exact calls_later (CC.out _)) | (with_reducible exact calls_later (CZ.out _)) | exact calls_later (works_any _)))
      refine wpQuiet_nil ?_
      rintro _ ⟨⟨w4, hb4⟩, rfl⟩
      go_wp2
      go_ret
      exact ⟨rfl, Hb.out.trans (hb4.mono Hb.out.size)⟩
end Go.Proofs.Ytgifdidmbljejaa
