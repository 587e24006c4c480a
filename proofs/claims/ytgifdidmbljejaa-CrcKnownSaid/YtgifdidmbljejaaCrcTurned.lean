/- THE WALK over turned. -/
import Derived.Test.YtgifdidmbljejaaCrcRef
import Derived.Test.YtgifdidmbljejaaHeap
import Derived.RegionTactic
import Derived.ChangeAlike
namespace Go.Proofs.Ytgifdidmbljejaa
open Go.RowKit
/-- the bits that are turned, of a text of n bytes, from at_ on -/
def turnW (at_ n x : Nat) : Nat := x % 2 ^ min 32 (8 * n - at_)
def Turned (w : World) (s : ByteArray) (at_ x : Nat) (e : Ending) (w' : World) : Prop :=
  ∃ t : ByteArray, e = .returned (.string t) ∧ t.size = s.size ∧ Crc.num t.data.toList = Crc.num s.data.toList ^^^ 2 ^ at_ * turnW at_ s.size x ∧ Below w.heap.size w w'
theorem flip_byte (b r : Nat) (hb : b < 2 ^ 8) (hr : r < 8) : bits BinOp.xor IntKind.u8 (b : Int) (2 ^ r % 256) = ((UInt8.ofNat (b ^^^ 2 ^ r)).toNat : Int) := by
  have hp : 2 ^ r < 2 ^ 8 := Nat.pow_lt_pow_right (by omega) hr
  have e : ((2 : Int) ^ r % 256) = ((2 ^ r : Nat) : Int) := by
    have : ((2 : Int) ^ r) = ((2 ^ r : Nat) : Int) := by simp
    rw [this]; generalize 2 ^ r = y at hp; omega
  have hlt : b ^^^ 2 ^ r < 2 ^ 8 := Nat.xor_lt_two_pow hb hp
  rw [e, u8_xor_nat _ _ hb hp, UInt8.toNat_ofNat_of_lt' hlt]
set_option maxHeartbeats 1000000 in
theorem turned_any (s : ByteArray) (hs : s.size ≤ 1000) (at_ : Nat) (hat : at_ ≤ 10000) (x : Nat) (hx : x < 4294967296) (w : World) :
    Calls Try.prog 17 #[.string s, .int .i64 at_, .int .u32 x] w (Turned w s at_ x) := by
  have hcv := run_bytes_of_string w 9 28 5 s Try.underlying9 Try.underlying28 Try.underlying5
  generalize hcap : grownCap w s.size 0 5 = cap at *
  have hge : s.size ≤ cap := by rw [← hcap]; exact grownCap_ge w s.size 0 5
  clear hcap
  rw [bytesRow_size s cap hge, bytesRow_eq] at hcv
  go_enter Try.func17, Try.ntmps17
  go_wp2
  have hB0 : Blk (w.alloc (.cells (u8cells s.data.toList ++ Array.replicate (cap - s.size) (.int .u8 0)) 5 (cap, cap + 1))).drew w.heap.size (u8cells s.data.toList ++ Array.replicate (cap - s.size) (.int .u8 0)) 5 (cap, cap + 1) := (Blk.new _ _ _ _).drew
  have hb0 : Below w.heap.size w (w.alloc (.cells (u8cells s.data.toList ++ Array.replicate (cap - s.size) (.int .u8 0)) 5 (cap, cap + 1))).drew := ((Below.refl _ _).alloc (Nat.le_refl _) _).drew
  generalize hex : Array.replicate (cap - s.size) (Value.int .u8 0) = ex at *
  clear hex hcv
  generalize (w.alloc (.cells (u8cells s.data.toList ++ ex) 5 (cap, cap + 1))).drew = w0 at *
  have hlen : s.data.toList.length = s.size := rfl
  have HB0 := Lib.hid hB0; have Hb0 := Lib.hid hb0; have HL := Lib.hid hlen; clear hB0 hb0 hlen
  go_loopw [8] (fun i wr => ∃ (k : Nat) (L : List UInt8), k ≤ 32 ∧ (k = 0 ∨ at_ + k ≤ 8 * s.size) ∧ i = .int .i64 k ∧ L.length = s.size ∧ Crc.num L = Crc.num s.data.toList ^^^ 2 ^ at_ * (x % 2 ^ k) ∧ Blk wr w.heap.size (u8cells L ++ ex) 5 (cap, cap + 1) ∧ Below w.heap.size w wr) (fun i _ => 32 - (intOf i).toNat)
  case atStart => exact ⟨0, s.data.toList, by omega, .inl rfl, rfl, HL.out, by simp [Nat.mod_one], HB0.out, Hb0.out⟩
  case round =>
    obtain ⟨k, L, hk, hk2, rfl, hL, hN, hB, hb⟩ := hrel
    have Hb := Lib.hid hb; have HN := Lib.hid hN; have HLL := Lib.hid hL; have HB := Lib.hid hB
    have Hk2 := Lib.hid hk2
    clear hb hN hL hB hk2 HB0 Hb0
    by_cases h1 : k < 32 ∧ at_ + k < 8 * s.size
    · obtain ⟨h1, h2⟩ := h1
      have hbit : bits BinOp.and IntKind.u32 ((x : Int) / 2 ^ k) 1 = ((x / 2 ^ k % 2 : Nat) : Int) := by
        have e : ((x : Int) / 2 ^ k) = ((x / 2 ^ k : Nat) : Int) := by simp
        rw [e, show (1 : Int) = ((1 : Nat) : Int) from rfl, u32_and_nat _ _ (Nat.lt_of_le_of_lt (Nat.div_le_self _ _) hx) (by decide), nat_mask1]
      by_cases h3 : x / 2 ^ k % 2 = 1
      · have hq : (at_ + k) / 8 < L.length := by rw [HLL.out]; omega
        have hcell := HB.out.cell ((at_ + k) / 8)
        rw [u8cells_get L ex _ hq] at hcell
        have hfz := HB.out.free ((at_ + k) / 8) (.inl (by show _ < cap; omega))
        have hqs : (at_ + k) / 8 < s.size := by omega
        have H3 := Lib.hid h3
        rw [h3] at hbit
        clear h3
        have hby := (L[(at_ + k) / 8]).toNat_lt
        go_wp2
        go_region
        rw [flip_byte _ ((at_ + k) % 8) hby (by omega)]
        have hfl := Lib.hid (Crc.num_flip L (at_ + k) hq)
        have HB1 := Lib.hid ((HB.out.set ((at_ + k) / 8) (.int .u8 ((UInt8.ofNat ((L[(at_ + k) / 8]).toNat ^^^ 2 ^ ((at_ + k) % 8))).toNat : Int))).drew)
        rw [u8cells_set L ex _ hq] at HB1
        have Hb1 := Lib.hid ((Hb.out.setCell (p := ⟨w.heap.size, (at_ + k) / 8, none⟩) (Nat.le_refl _) (.int .u8 ((UInt8.ofNat ((L[(at_ + k) / 8]).toNat ^^^ 2 ^ ((at_ + k) % 8))).toNat : Int))).drew)
        generalize (UInt8.ofNat ((L[(at_ + k) / 8]).toNat ^^^ 2 ^ ((at_ + k) % 8))) = nb at *
        clear hcell hfz hby
        generalize (wr.setCell ⟨w.heap.size, (at_ + k) / 8, none⟩ (.int .u8 (nb.toNat : Int))).drew = w1 at *
        go_wp2
        go_roundw
        case rel => exact ⟨k + 1, L.set ((at_ + k) / 8) nb, by omega, .inr (by omega), by go_num, by rw [List.length_set]; exact HLL.out, by rw [hfl.out, Crc.grow_bit _ _ _ H3.out, HN.out, Nat.xor_assoc], HB1.out, Hb1.out⟩
        case measure => simp [intOf]; omega
      · have h30 : ((x / 2 ^ k % 2 : Nat) : Int) = 0 := by omega
        rw [h30] at hbit
        have H3 := Lib.hid h3
        clear h3 h30
        go_wp2
        go_roundw
        case rel => exact ⟨k + 1, L, by omega, .inr (by omega), by go_num, HLL.out, by rw [Crc.keep_bit _ _ _ H3.out]; exact HN.out, HB.out, Hb.out⟩
        case measure => simp [intOf]; omega
    · have hcv2 := conv_block wr w.heap.size L ex 5 (cap, cap + 1) cap HB.out Try.underlying28 Try.underlying5 Try.underlying9
      rw [HLL.out] at hcv2
      by_cases h4 : k < 32
      all_goals
        go_wp2
        go_ret
        refine ⟨⟨L.toArray⟩, rfl, HLL.out, ?_, Hb.out⟩
        have e : min 32 (8 * s.size - at_) = k ∨ k = 0 ∧ 8 * s.size ≤ at_ := by rcases Hk2.out with h | h <;> omega
        unfold turnW
        rcases e with e | ⟨e, e2⟩
        · rw [e]; exact HN.out
        · have e3 : 8 * s.size - at_ = 0 := by omega
          rw [e3]
          have := HN.out
          rw [e] at this
          simpa using this
end Go.Proofs.Ytgifdidmbljejaa
