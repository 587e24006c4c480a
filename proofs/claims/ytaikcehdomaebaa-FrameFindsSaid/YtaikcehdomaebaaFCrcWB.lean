/- THE WALKS over crc: the closure. -/
import Derived.Test.YtaikcehdomaebaaFCrcW
import Derived.Test.YtaikcehdomaebaaRows
import Derived.WalkKit
import Derived.WalkSpells
import Derived.WalkLawsBesides
import Derived.Lib.Hide
namespace Go.Proofs.Ytaikcehdomaebaa
open Go.RowKit

/-- the register in its cell, the table in its own -/
structure Reg (b c : Nat) (w wr : World) (x : Nat) : Prop where
  cell : wr.cell? ⟨b, 0, none⟩ = some (.int .u32 x)
  free : wr.frozen? ⟨b, 0, none⟩ = false
  tab : ∀ i, i < 16 → wr.cell? ⟨c, i, none⟩ = some (.int .u32 (row i))
  below : Below b w wr
theorem Reg.set {b c : Nat} {w wr : World} {x : Nat} (h : Reg b c w wr x) (hbc : b < c) (y : Nat) : Reg b c w ((wr.setCell ⟨b, 0, none⟩ (.int .u32 y)).drew) y := by
  refine ⟨?_, ?_, fun i hi => ?_, (h.below.setCell (Nat.le_refl _) _).drew⟩
  · exact World.cell?_setCell_same _ _ _ h.cell
  · exact (World.frozen?_setCell _ _ _ _).trans h.free
  · show (wr.setCell _ _).cell? _ = _
    rw [← h.tab i hi]
    exact World.cell?_of_block (heap_setCell_other _ _ _ _ (by simpa using (show c ≠ b by omega)))
theorem bytes_step (x b : Nat) : Crc.steps 4 (Crc.steps 4 (x ^^^ b)) = Crc.steps 8 (x ^^^ b) := (Crc.steps_add 4 4 _).symm
theorem xor_byte (x b : Nat) (hx : x < 4294967296) (hb : b < 256) : bits BinOp.xor IntKind.u32 (x : Int) (b : Int) = ((x ^^^ b : Nat) : Int) := by
  rw [u32_xor_nat _ _ hx (by omega)]
theorem half_turn (x : Nat) (hx : x < 4294967296) : bits BinOp.xor IntKind.u32 ((x : Int) / 16) (row (x % 16)) = (Crc.steps 4 x : Int) := by
  have h : ((x : Int) / 16) = ((x / 16 : Nat) : Int) := by omega
  unfold row
  rw [h, u32_xor_nat _ _ (by omega) (Crc.steps_lt _ _ (by omega)), Crc.steps_split 4 x]
theorem and15 (x : Nat) (hx : x < 4294967296) : bits BinOp.and IntKind.u32 (x : Int) 15 = ((x % 16 : Nat) : Int) := by
  rw [show (15 : Int) = ((15 : Nat) : Int) from rfl, u32_and_nat _ _ hx (by decide), nat_mask4]
theorem take_snoc (s : ByteArray) (k : Nat) (h : k < s.size) : s.data.toList.take (k + 1) = s.data.toList.take k ++ [s[k]] := by
  rw [List.take_succ_eq_append_getElem (by simpa using h)]; rfl

set_option maxHeartbeats 1000000 in
theorem take1_any (r : Nat) (hr : r < 4294967296) (s : ByteArray) (hs : s.size ≤ 9223372036854775807) (b c : Nat) (hbc : b < c) (w : World) (h0 : Reg b c w w r) :
    Calls Try.prog 55 #[.string s, .pointer (some ⟨b, 0, none⟩), .pointer (some ⟨c, 0, none⟩)] w fun e w' => e = .returned (.int .u32 (Crc.reg r s.data.toList)) ∧ Below b w w' := by
  go_enter Try.func55, Try.ntmps55
  go_wp2
  go_loopw [8] (fun i wr => ∃ k : Nat, k ≤ s.size ∧ i = .int .i64 k ∧ Reg b c w wr (Crc.reg r (s.data.toList.take k))) (fun i _ => s.size - (intOf i).toNat)
  case atStart => exact ⟨0, by omega, rfl, h0⟩
  case round =>
    obtain ⟨k, hk, rfl, R⟩ := hrel
    clear h0
    have hreg := Crc.reg_lt (s.data.toList.take k) r hr
    generalize hX : Crc.reg r (s.data.toList.take k) = x at *
    have HX := Lib.hid hX; clear hX
    have hce := R.cell
    have hfr := R.free
    by_cases hlt : k < s.size
    · have hby := (s[k]).toNat_lt
      go_wp2
      go_region
      rw [xor_byte x _ hreg hby]
      have hreg1 : x ^^^ (s[k]).toNat < 4294967296 := Nat.xor_lt_two_pow (n := 32) hreg (by omega)
      have R1 := R.set hbc (x ^^^ (s[k]).toNat)
      generalize hX1 : x ^^^ (s[k]).toNat = x1 at *
      have HX1 := Lib.hid hX1; clear hX1 hce hfr R
      generalize (wr.setCell ⟨b, 0, none⟩ (.int .u32 x1)).drew = w1 at *
      have hce := R1.cell
      have hfr := R1.free
      have hta := R1.tab (x1 % 16) (by omega)
      have han := and15 x1 hreg1
      go_wp2
      go_region
      rw [half_turn x1 hreg1]
      have hreg2 := Crc.steps_lt 4 x1 hreg1
      have R2 := R1.set hbc (Crc.steps 4 x1)
      generalize hX2 : Crc.steps 4 x1 = x2 at *
      have HX2 := Lib.hid hX2; clear hX2 hce hfr R1 hta han hreg1
      generalize (w1.setCell ⟨b, 0, none⟩ (.int .u32 x2)).drew = w2 at *
      have hce := R2.cell
      have hfr := R2.free
      have hta := R2.tab (x2 % 16) (by omega)
      have han := and15 x2 hreg2
      go_wp2
      go_region
      rw [half_turn x2 hreg2]
      have R3 := R2.set hbc (Crc.steps 4 x2)
      have HX3 : Hid (Crc.reg r (s.data.toList.take (k + 1)) = Crc.steps 4 x2) := by
        show _ = _
        rw [take_snoc s k hlt, Crc.reg_append, HX.out, ← HX2.out, ← HX1.out, bytes_step]; rfl
      generalize Crc.steps 4 x2 = x3 at *
      clear hce hfr R2 hta han hreg2
      generalize (w2.setCell ⟨b, 0, none⟩ (.int .u32 x3)).drew = w3 at *
      go_wp2
      go_roundw
      case rel => exact ⟨k + 1, by omega, by go_num, by rw [HX3.out]; exact R3⟩
      case measure => simp [intOf]; omega
    · obtain rfl : k = s.size := by omega
      go_wp2
      go_ret
      refine ⟨?_, R.below⟩
      rw [← HX.out, List.take_of_length_le (by simp)]
      rfl

theorem _root_.Go.RowKit.Below.next {w w1 w2 : World} (h : Below w.heap.size w w1) (k : Below w1.heap.size w1 w2) : Below w.heap.size w w2 := h.trans (k.mono h.size)
theorem reg_new (w : World) (x : Nat) : Reg w.heap.size (w.heap.size + 2) (((w.alloc (.cells #[.int .u32 x] 42)).alloc (.cells (tab 16) 102)).alloc (.cells (tab 16) 102)) (((w.alloc (.cells #[.int .u32 x] 42)).alloc (.cells (tab 16) 102)).alloc (.cells (tab 16) 102)) x := by
  have h0 : ∀ A B : Obj, (((w.alloc (.cells #[.int .u32 x] 42)).alloc A).alloc B).heap[w.heap.size]? = some (.cells #[.int .u32 x] 42) := fun A B => by
    rw [Below.heap_alloc _ _ _ (by simp; omega), Below.heap_alloc _ _ _ (by simp), heap_alloc_new]
  refine ⟨?_, ?_, fun i hi => ?_, Below.refl _ _⟩
  · unfold World.cell?; simp only [h0]; rfl
  · unfold World.frozen?; simp only [h0]; simp
  · unfold World.cell?; simp only [show w.heap.size + 2 = w.heap.size + 1 + 1 from rfl, heap_new3]
    have := tab_get 16 i hi
    rw [if_pos hi] at this
    simpa using this
theorem not_ones (r : Nat) (hr : r < 4294967296) : bits BinOp.xor IntKind.u32 IntKind.u32.max (r : Int) = ((r ^^^ Crc.ones : Nat) : Int) := by
  rw [show IntKind.u32.max = ((4294967295 : Nat) : Int) from by decide, u32_xor_nat _ _ (by decide) hr, Nat.xor_comm]; rfl
set_option maxHeartbeats 400000 in
theorem more_any (r : Nat) (hr : r < 4294967296) (s : ByteArray) (hs : s.size ≤ 9223372036854775807) (w : World) :
    Calls Try.prog 38 #[.int .u32 r, .string s] w fun e w' => e = .returned (.int .u32 (Crc.more r s.data.toList)) ∧ Below w.heap.size w w' := by
  have hn := not_ones r hr
  go_enter Try.func38, Try.ntmps38
  go_wp2_with (go_at_call 48; refine (taker_any _ _).mono ?_; rintro e w' ⟨rfl, rfl⟩)
  have hreg : Reg w.heap.size (w.heap.size + 2) (((w.alloc (.cells #[.int .u32 (r ^^^ Crc.ones : Nat)] 42)).alloc (.cells (tab 16) 102)).alloc (.cells (tab 16) 102)) (((w.alloc (.cells #[.int .u32 (r ^^^ Crc.ones : Nat)] 42)).alloc (.cells (tab 16) 102)).alloc (.cells (tab 16) 102)) (r ^^^ Crc.ones) := reg_new w _
  refine (take1_any _ (Crc.ones_xor r hr) s hs _ _ (by omega) _ hreg).mono ?_
  rintro e w' ⟨rfl, hb⟩
  have hn2 := not_ones _ (Crc.reg_lt s.data.toList _ (Crc.ones_xor r hr))
  go_wp2
  go_ret
  refine ⟨rfl, ?_⟩
  exact ((((Below.refl _ _).alloc (Nat.le_refl _) _).alloc (by simp) _).alloc (by simp; omega) _).trans hb
set_option maxHeartbeats 400000 in
theorem sum_any (s : ByteArray) (hs : s.size ≤ 9223372036854775807) (w : World) :
    Calls Try.prog 24 #[.string s] w fun e w' => e = .returned (.int .u32 (Crc.sum s.data.toList)) ∧ Below w.heap.size w w' := by
  go_enter Try.func24, Try.ntmps24
  go_wp2_with fail
  refine (more_any 0 (by decide) s hs _).mono ?_
  rintro e w' ⟨rfl, hb⟩
  go_wp2
  go_ret
  exact ⟨rfl, hb⟩
theorem sum_is (n : Nat) (s : ByteArray) (hs : s.size ≤ 9223372036854775807) (w : World) (h : Crc.sum s.data.toList = n) :
    Calls Try.prog 24 #[.string s] w fun e w' => e = .returned (.int .u32 n) ∧ Below w.heap.size w w' := by
  rw [← h]; exact sum_any s hs w
end Go.Proofs.Ytaikcehdomaebaa
