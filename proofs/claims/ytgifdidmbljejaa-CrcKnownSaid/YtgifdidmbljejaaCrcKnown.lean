/- CrcKnown: the walk of the closed statement: the chapter's examples; single bits; where texts differ. -/
import Derived.Test.YtgifdidmbljejaaCrcTurned
import Derived.Test.YtgifdidmbljejaaCrcDiffer
namespace Go.Proofs.Ytgifdidmbljejaa
open Go.RowKit
theorem infoU8' : (Try.prog.info? 5).map (fun i => (i.zero, i.size, i.bytes)) = some (some (.int .u8 0), 1, 1) := by kernel_rfl
def z32 : List UInt8 := List.replicate 32 0
def zs : ByteArray := ⟨z32.toArray⟩
theorem zs_size : zs.size = 32 := rfl
theorem zs_num : Crc.num zs.data.toList = 0 := Crc.num_zeros 32
theorem differ_is (a b : ByteArray) (f l : Int) (ha : a.size ≤ 1000) (hb : b.size ≤ 1000) (hab : a.size = b.size) (hf : Crc.loBit (8 * a.size) (Crc.num a.data.toList ^^^ Crc.num b.data.toList) = f) (hl : Crc.hiBit (8 * a.size) (Crc.num a.data.toList ^^^ Crc.num b.data.toList) = l) (w : World) :
    Calls Try.prog 13 #[.string a, .string b] w fun e w' => e = .returned (.tuple #[.int .i64 f, .int .i64 l]) ∧ Below w.heap.size w w' := by
  rw [← hf, ← hl]; exact differ_any a b ha hb hab w
def OneBit (w : World) (i : Nat) (e : Ending) (w' : World) : Prop := ∃ t : ByteArray, e = .returned (.string t) ∧ t.size ≤ 1000 ∧ Crc.sum t.data.toList = Crc.one i ∧ Below w.heap.size w w'
theorem turned_one (i : Nat) (hi : i < 256) (w : World) :
    Calls Try.prog 17 #[.string zs, .int .i64 i, .int .u32 1] w (OneBit w i) := by
  refine (turned_any zs (by decide) i (by omega) 1 (by decide) w).mono ?_
  rintro e w' ⟨t, rfl, h1, h2, h3⟩
  rw [zs_size] at h1 h2
  refine ⟨t, rfl, by omega, ?_, h3⟩
  have e1 : turnW i 32 1 = 1 := by
    unfold turnW
    have : 1 < 2 ^ min 32 (8 * 32 - i) := Nat.one_lt_two_pow (by omega)
    exact Nat.mod_eq_of_lt this
  rw [e1, zs_num, Nat.zero_xor, Nat.mul_one] at h2
  rw [Crc.sum_feed, h2, show t.data.toList.length = 32 from h1]
  rfl
theorem _root_.Go.RowKit.Below.next2 {w w1 w2 : World} (h : Below w.heap.size w w1) (k : Below w1.heap.size w1 w2) : Below w.heap.size w w2 := h.trans (k.mono h.size)
set_option maxRecDepth 100000 in
set_option maxHeartbeats 2000000 in
theorem lawKnown_any (w : World) :
    Calls Try.prog 8 #[] w fun e w' => e = .returned (.bool true) ∧ Below w.heap.size w w' := by
  have hmk := run_make_bytes (P := Try.prog) 28 5 Try.underlying28 infoU8' 32 (by omega)
  change ∀ u, Sem.run Try.prog (Instr.makeSlice 28 (.int .i64 32) (.int .i64 32)) u = .ok (.slice (some ⟨u.heap.size, 0, none⟩) 32 32) (u.alloc (.cells (u8cells z32) 5)) at hmk
  have hcv : ∀ u : World, (convert 28 9 (.slice (some ⟨u.heap.size, 0, none⟩) 32 32)).run Try.prog (u.alloc (.cells (u8cells z32) 5)) = .ok (.string zs) (u.alloc (.cells (u8cells z32) 5)) := fun u =>
    conv_block _ u.heap.size z32 #[] 5 (0, 0) 32 (by simpa using Blk.new u (u8cells z32) 5 (0, 0)) Try.underlying28 Try.underlying5 Try.underlying9
  go_enter Try.func8, Try.ntmps8
  go_wp2_with fail
  refine (differ_is _ _ 7 8 (by decide) (by decide) (by decide) (by decide +kernel) (by decide +kernel) _).mono ?_
  rintro e w1 ⟨rfl, hb1⟩
  go_wp2_with fail
  refine (differ_ne _ _ (by decide) _).mono ?_
  rintro e w2 ⟨rfl, hb2⟩
  go_wp2_with fail
  refine (differ_is _ _ (-1) (-1) (by decide) (by decide) (by decide) (by decide +kernel) (by decide +kernel) _).mono ?_
  rintro e w3 ⟨rfl, hb3⟩
  have hb4 := Lib.hid ((Below.refl w3.heap.size w3).alloc (Nat.le_refl _) (.cells (u8cells z32) 5))
  go_wp2_with fail
  have hS : Crc.sum zs.data.toList = Crc.feed 256 Crc.ones 0 ^^^ Crc.ones := by rw [Crc.sum_feed, zs_num, show zs.data.toList.length = 32 from rfl]
  have HS := Lib.hid hS; clear hS
  have HN : Hid (∀ i, i < 256 → Crc.one i ≠ Crc.feed 256 Crc.ones 0 ^^^ Crc.ones) := Crc.one_ne_none
  generalize Crc.feed 256 Crc.ones 0 ^^^ Crc.ones = S0 at *
  ((with_reducible refine (sum_is S0 zs (by decide) _ HS.out).mono ?_); rintro e w5 ⟨rfl, hb5⟩)
  have Hb := Lib.hid ((((hb1.next hb2).next hb3).next hb4.out).next hb5)
  clear hb1 hb2 hb3 hb4 hb5 hmk hcv
  go_wp2_with fail
  go_loopw [9, 10] (fun i _ wr => ∃ n : Nat, n ≤ 256 ∧ i = .int .i64 n ∧ Below w.heap.size w wr) (fun i _ _ => 256 - (intOf i).toNat)
  case atStart => exact ⟨0, by omega, rfl, Hb.out⟩
  case round =>
    obtain ⟨n, hn, rfl, hbr⟩ := hrel
    have Hbr := Lib.hid hbr; clear hbr Hb
    by_cases hlt : n < 256
    · have hd : decide ((n : Int) < 256) = true := by simp; omega
      go_wp2_with fail
      obtain ⟨wo, rfl⟩ : ∃ wo : World, wo = wr := ⟨_, rfl⟩
      go_loopw [10] (fun k wr => ∃ m : Nat, m ≤ n ∧ k = .int .i64 m ∧ Below w.heap.size w wr) (fun k _ => n - (intOf k).toNat)
      case atStart => exact ⟨0, by omega, rfl, Hbr.out⟩
      case round =>
        obtain ⟨m, hm, rfl, hbr⟩ := hrel
        clear Hbr
        by_cases hlm : m < n
        · have h1 : ((Crc.one n : Int) == (S0 : Int)) = false := by rw [beq_eq_false_iff_ne]; have := HN.out n hlt; omega
          have h2 : ((Crc.one n : Int) == (Crc.one m : Int)) = false := by rw [beq_eq_false_iff_ne]; have := Crc.one_ne n m hlt hlm; omega
          generalize hx : Crc.one n = x at *
          generalize hy : Crc.one m = y at *
          have HX := Lib.hid hx; have HY := Lib.hid hy; clear hx hy
          go_wp2_with fail
          ((with_reducible refine (turned_one n hlt _).mono ?_); rintro e w1 ⟨t1, rfl, ht1, hs1, hb1⟩)
          have HS1 := Lib.hid hs1; clear hs1
          go_wp2_with fail
          ((with_reducible refine (sum_is x t1 (by omega) _ (HS1.out.trans HX.out)).mono ?_); rintro e w2 ⟨rfl, hb2⟩)
          go_wp2_with fail
          ((with_reducible refine (turned_one n hlt _).mono ?_); rintro e w3 ⟨t3, rfl, ht3, hs3, hb3⟩)
          have HS3 := Lib.hid hs3; clear hs3
          go_wp2_with fail
          ((with_reducible refine (sum_is x t3 (by omega) _ (HS3.out.trans HX.out)).mono ?_); rintro e w4 ⟨rfl, hb4⟩)
          go_wp2_with fail
          ((with_reducible refine (turned_one m (by omega) _).mono ?_); rintro e w5 ⟨t5, rfl, ht5, hs5, hb5⟩)
          have HS5 := Lib.hid hs5; clear hs5
          go_wp2_with fail
          ((with_reducible refine (sum_is y t5 (by omega) _ (HS5.out.trans HY.out)).mono ?_); rintro e w6 ⟨rfl, hb6⟩)
          go_wp2
          go_roundw
          case rel => exact ⟨m + 1, by omega, by go_num, (((((hbr.next2 hb1).next2 hb2).next2 hb3).next2 hb4).next2 hb5).next2 hb6⟩
          case measure => simp [intOf]; omega
        · obtain rfl : m = n := by omega
          go_wp2
          go_roundw
          case rel => exact ⟨m + 1, by omega, by go_num, hbr⟩
          case measure => simp [intOf]; omega
    · obtain rfl : n = 256 := by omega
      go_wp2_with fail
      ((with_reducible refine (works_any _).mono ?_); rintro e w7 ⟨rfl, hb7⟩)
      go_wp2
      go_ret
      exact ⟨rfl, Hbr.out.next2 hb7⟩
end Go.Proofs.Ytgifdidmbljejaa
