/- THE WALKS over Differ: the program's. -/
import Derived.Test.YtgifdidmbljejaaCrcRef
import Derived.RegionTactic
import Derived.ChangeAlike
namespace Go.Proofs.Ytgifdidmbljejaa
open Go.RowKit
theorem tab_byte (T : ByteArray) (f : Nat → Int) (hs : T.size = 256) (h : ∀ i : Nat, i < 256 → ((T.data[i]?.getD 0).toNat : Int) = f i) (x : Nat) (hx : x < T.size) : wrap64 (T[x].toNat : Int) = f x := by
  have h1 := h x (by omega)
  have e : T.data[x]?.getD 0 = T[x] := by
    have : x < T.data.size := hx
    rw [Array.getElem?_eq_getElem this]; rfl
  rw [e] at h1
  rw [← h1]
  have := T[x].toNat_lt
  exact IntWalk.wrap64_in _ ⟨by omega, by omega⟩
set_option maxRecDepth 100000 in
theorem tz8_any (x : Nat) (hx : x < 256) (w : World) :
    Calls Try.prog 19 #[.int .u8 x] w fun e w' => e = .returned (.int .i64 (Crc.tz8 x)) ∧ w = w' := by
  go_enter Try.func19, Try.ntmps19
  go_wp2
  go_ret
  exact ⟨congrArg (fun n => Ending.returned (.int .i64 n)) (tab_byte _ Crc.tz8 rfl (by decide +kernel) x _), rfl⟩
set_option maxRecDepth 100000 in
theorem len8_any (x : Nat) (hx : x < 256) (w : World) :
    Calls Try.prog 20 #[.int .u8 x] w fun e w' => e = .returned (.int .i64 (Crc.len8 x)) ∧ w = w' := by
  go_enter Try.func20, Try.ntmps20
  go_wp2
  go_ret
  exact ⟨congrArg (fun n => Ending.returned (.int .i64 n)) (tab_byte _ Crc.len8 rfl (by decide +kernel) x _), rfl⟩
set_option maxHeartbeats 1000000 in
theorem differ_any (a b : ByteArray) (ha : a.size ≤ 1000) (_hb : b.size ≤ 1000) (hab : a.size = b.size) (w : World) :
    Calls Try.prog 13 #[.string a, .string b] w fun e w' => e = .returned (.tuple #[.int .i64 (Crc.loBit (8 * a.size) (Crc.num a.data.toList ^^^ Crc.num b.data.toList)), .int .i64 (Crc.hiBit (8 * a.size) (Crc.num a.data.toList ^^^ Crc.num b.data.toList))]) ∧ Below w.heap.size w w' := by
  have hne : ((a.size : Int) != (b.size : Int)) = false := by simp; omega
  have h1 : a.size ≤ b.size := by omega
  have h2 : b.size ≤ a.size := by omega
  have hAB := Lib.hid hab
  clear hab
  generalize hXX : Crc.num a.data.toList ^^^ Crc.num b.data.toList = X
  have HXX := Lib.hid hXX; clear hXX
  go_enter Try.func13, Try.ntmps13
  go_wp2
  go_loopw [4, 5, 17] (fun f l i wr => ∃ k : Nat, k ≤ a.size ∧ i = .int .i64 k ∧ f = .int .i64 (Crc.loBit (8 * k) X) ∧ l = .int .i64 (Crc.hiBit (8 * k) X) ∧ Below w.heap.size w wr) (fun _ _ i _ => a.size - (intOf i).toNat)
  case atStart => exact ⟨0, by omega, rfl, rfl, rfl, Below.refl _ _⟩
  case round =>
    obtain ⟨k, hk, rfl, rfl, rfl, hbl⟩ := hrel
    have HB := Lib.hid hbl; clear hbl
    by_cases hlt : k < a.size
    · have hltb : k < b.size := by omega
      have hxa := (a[k]).toNat_lt
      have hxb := (b[k]).toNat_lt
      have hbx := u8_xor_nat (a[k]).toNat (b[k]).toNat hxa hxb
      have hl := Lib.hid (Crc.lo_step X k ((a[k]).toNat ^^^ (b[k]).toNat) (by rw [← HXX.out]; exact Crc.xor_byte _ _ k (by simpa using hlt) (by simpa using (show k < b.size by omega))))
      have hh := Lib.hid (Crc.hi_step X k ((a[k]).toNat ^^^ (b[k]).toNat) (by rw [← HXX.out]; exact Crc.xor_byte _ _ k (by simpa using hlt) (by simpa using (show k < b.size by omega))))
      have hxlt : (a[k]).toNat ^^^ (b[k]).toNat < 256 := Nat.xor_lt_two_pow (n := 8) hxa hxb
      generalize hx : (a[k]).toNat ^^^ (b[k]).toNat = x at *
      clear hx
      have hfb := Crc.loBit_bd (8 * k) X
      have hlb := Crc.hiBit_bd (8 * k) X
      generalize hf : Crc.loBit (8 * k) X = f at *
      generalize hg : Crc.hiBit (8 * k) X = g at *
      have HF := Lib.hid hf; have HG := Lib.hid hg; clear hf hg
      by_cases h0 : x = 0
      · subst h0
        go_wp2
        go_region
        go_wp2
        go_roundw
        case rel => exact ⟨k + 1, by omega, by go_num, by rw [hl.out]; congr 1; split <;> (try simp) <;> omega, by rw [hh.out]; simp, HB.out.drew⟩
        case measure => simp [intOf]; omega
      · have h00 : ((x : Int) == 0) = false := by simpa using h0
        go_wp2
        go_region
        have htz : Crc.tz8 x = Crc.loBit 8 x := by unfold Crc.tz8; rw [if_neg h0]
        have hle : Crc.len8 x - 1 = Crc.hiBit 8 x := by unfold Crc.len8; omega
        have hb1 := Crc.loBit_bd 8 x
        have hb2 := Crc.hiBit_bd 8 x
        have hl1 := Crc.lo8 x hxlt h0
        have hh1 := Crc.hi8 x hxlt h0
        have h3 : 0 ≤ Crc.tz8 x ∧ Crc.tz8 x ≤ 8 := by omega
        have h4 : 0 ≤ Crc.len8 x ∧ Crc.len8 x ≤ 8 := by omega
        rw [← htz, if_neg h0] at hl
        rw [← hle, if_neg h0] at hh
        clear htz hle hb1 hb2 hl1 hh1
        by_cases hf0 : f < 0
        · have hl2 := Lib.hid (hl.out.trans (if_neg (by omega)))
          go_wp2_with fail
          ((with_reducible refine (tz8_any x hxlt _).mono ?_); rintro e w' ⟨rfl, rfl⟩)
          generalize Crc.tz8 x = tz at *
          go_wp2_with fail
          ((with_reducible refine (len8_any x hxlt _).mono ?_); rintro e w' ⟨rfl, rfl⟩)
          generalize Crc.len8 x = ln at *
          go_wp2
          go_roundw
          case rel => exact ⟨k + 1, by omega, by go_num, by rw [hl2.out], by rw [hh.out]; congr 1; omega, HB.out.drew⟩
          case measure => simp [intOf]; omega
        · have hl2 := Lib.hid (hl.out.trans (if_pos (by omega)))
          go_wp2_with fail
          ((with_reducible refine (len8_any x hxlt _).mono ?_); rintro e w' ⟨rfl, rfl⟩)
          generalize Crc.len8 x = ln at *
          go_wp2
          go_roundw
          case rel => exact ⟨k + 1, by omega, by go_num, by rw [hl2.out], by rw [hh.out]; congr 1; omega, HB.out.drew⟩
          case measure => simp [intOf]; omega
    · obtain rfl : k = a.size := by omega
      go_wp2
      go_ret2
      exact ⟨rfl, HB.out⟩
theorem differ_ne (a b : ByteArray) (hab : a.size ≠ b.size) (w : World) :
    Calls Try.prog 13 #[.string a, .string b] w fun e w' => e = .returned (.tuple #[.int .i64 (-1), .int .i64 (-1)]) ∧ Below w.heap.size w w' := by
  have hne : ((a.size : Int) != (b.size : Int)) = true := by simp; omega
  go_enter Try.func13, Try.ntmps13
  go_wp2
  go_ret2
  exact ⟨rfl, Below.refl _ _⟩
end Go.Proofs.Ytgifdidmbljejaa
