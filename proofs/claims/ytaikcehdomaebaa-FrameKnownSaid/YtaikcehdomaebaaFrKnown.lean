/- FrameKnown: the walk. -/
import Derived.Test.YtaikcehdomaebaaFrKnownA
namespace Go.Proofs.Ytaikcehdomaebaa
open Go.RowKit
set_option maxHeartbeats 1000000 in
set_option maxRecDepth 100000 in
theorem known_any (w : World) : Calls Try.prog 7 #[] w fun e w' => e = .returned (.bool true) ∧ Below w.heap.size w w' := by
  have DL := Lib.hid kn_q
  have DB : Hid ((⟨#[77, 73, 76, 69, 50, 1, 0]⟩ : ByteArray).size ≤ 1000000) := Lib.hid (by show 7 ≤ 1000000; omega)
  have M16 : ∀ u : World, (Instr.makeSlice 22 (.int .i64 16) (.int .i64 16)).run Try.prog u = .ok (.slice (some ⟨u.heap.size, 0, none⟩) 16 16) (u.alloc (.cells (secs 16) 44)) := fun u => make_secs 16 (by omega) u
  have M17 : ∀ u : World, (Instr.makeSlice 22 (.int .i64 17) (.int .i64 17)).run Try.prog u = .ok (.slice (some ⟨u.heap.size, 0, none⟩) 17 17) (u.alloc (.cells (secs 17) 44)) := fun u => make_secs 17 (by omega) u
  have S16 := Lib.hid (slS_zeros w 16 (by omega))
  have S17 := Lib.hid (fun u => slS_zeros u 17 (by omega))
  have K16 := Lib.hid kn_k16; have Z16 := Lib.hid kn_z16; have D16 := Lib.hid kn_d16; have L16 := Lib.hid kn_l16
  generalize e16 = E16 at *
  generalize secs 16 = C16 at *
  generalize secs 17 = C17 at *
  go_enter Try.func7, Try.ntmps7
  go_wp2_with fail
  refine (enc_is _ (zeros 16) _ E16 0 S16.out (fun x hx => by rw [List.eq_of_mem_replicate hx]; exact Nat.zero_le _) (by simp [zeros]) K16.out).mono ?_
  rintro e w1 ⟨rfl, hb1⟩
  have HB1 : Hid (Below w.heap.size w w1) := Lib.hid (((Below.refl w.heap.size w).alloc (Nat.le_refl _) _).trans (hb1.mono (by simp)))
  clear hb1
  go_wp2_with fail
  refine (dec_is E16 0 w1 (by rw [Z16.out]; decide) D16.out).mono ?_
  rintro e w2 ⟨v2, rfl, hsl, hb2⟩
  obtain ⟨a2, c2, rfl, hjunk⟩ := hsl
  rw [L16.out]
  have HB2 : Hid (Below w.heap.size w w2) := Lib.hid (HB1.out.next' hb2)
  clear hb2 hjunk
  go_wp2_with fail
  refine (enc_is _ (zeros 17) _ ⟨#[]⟩ 2 (S17.out _) (fun x hx => by rw [List.eq_of_mem_replicate hx]; exact Nat.zero_le _) (by simp [zeros]) kn_k17).mono ?_
  rintro e w3 ⟨rfl, hb3⟩
  have HB3 : Hid (Below w.heap.size w w3) := Lib.hid (HB2.out.next' (((Below.refl w2.heap.size w2).alloc (Nat.le_refl _) _).trans (hb3.mono (by simp))))
  clear hb3
  go_wp2_with fail
  refine (enc_is _ [(-1, ⟨#[]⟩)] _ ⟨#[]⟩ 2 (SlS.one _ _ _ _) (by intro x hx'; obtain rfl := List.mem_singleton.1 hx'; exact Nat.zero_le _) (by simp) kn_km1).mono ?_
  rintro e w4 ⟨rfl, hb4⟩
  have HB4 : Hid (Below w.heap.size w w4) := Lib.hid (HB3.out.next' (((Below.refl w3.heap.size w3).alloc (Nat.le_refl _) _).trans (hb4.mono (by simp))))
  clear hb4
  go_wp2_with fail
  obtain ⟨NL, hNL⟩ : ∃ n : Nat, n = 1761052712 := ⟨_, rfl⟩
  refine (refSum_is NL lng (by decide) w4 (by rw [hNL]; exact kn_sum)).mono ?_
  rintro e w5 ⟨rfl, rfl⟩
  have n0 : (NL : Int) % 256 = 40 := by omega
  have n1 : (NL : Int) / 256 % 256 = 136 := by omega
  have n2 : (NL : Int) / 65536 % 256 = 247 := by omega
  have n3 : (NL : Int) / 16777216 % 256 = 104 := by omega
  clear hNL
  have CV : (convert 32 9 (.slice (some ⟨w4.heap.size, 0, none⟩) 4 4)).run Try.prog (w4.alloc (.cells #[.int .u8 40, .int .u8 136, .int .u8 247, .int .u8 104] 5)) = .ok (.string ⟨#[40, 136, 247, 104]⟩) (w4.alloc (.cells #[.int .u8 40, .int .u8 136, .int .u8 247, .int .u8 104] 5)) :=
    conv_block _ w4.heap.size [40, 136, 247, 104] #[] 5 (0, 0) 4 (Blk.new w4 #[.int .u8 40, .int .u8 136, .int .u8 247, .int .u8 104] 5 (0, 0)) Try.underlying32 Try.underlying5 Try.underlying9
  go_wp2_with fail
  refine (dec_is _ 23 _ DL.out.2 DL.out.1).mono ?_
  rintro e w6 ⟨v6, rfl, hjunk, hb6⟩
  clear hjunk
  have HB6 : Hid (Below w.heap.size w w6) := Lib.hid (HB4.out.next' (((Below.refl w4.heap.size w4).alloc (Nat.le_refl _) _).trans (hb6.mono (by simp))))
  clear hb6
  have K0 := Lib.hid works_k0; have Z0 := Lib.hid works_z0; have D0 := Lib.hid kn_d0; have L0 := Lib.hid kn_l0
  generalize s0 = S0 at *
  go_wp2_with fail
  refine (enc_is _ [] _ S0 0 (SlS.nil w6) (by simp) (by simp) K0.out).mono ?_
  rintro e w7 ⟨rfl, hb7⟩
  have HB7 : Hid (Below w.heap.size w w7) := Lib.hid (HB6.out.next' hb7)
  clear hb7
  go_wp2_with fail
  refine (dec_is S0 0 w7 (by rw [Z0.out]; decide) D0.out).mono ?_
  rintro e w8 ⟨v8, rfl, hsl, hb8⟩
  obtain ⟨a8, c8, rfl, hjunk⟩ := hsl
  rw [L0.out]
  have HB8 : Hid (Below w.heap.size w w8) := Lib.hid (HB7.out.next' hb8)
  clear hb8 hjunk
  go_wp2_with fail
  refine (dec_is ⟨#[]⟩ 23 w8 (Nat.zero_le _) kn_de).mono ?_
  rintro e w9 ⟨v9, rfl, hjunk, hb9⟩
  have HB9 : Hid (Below w.heap.size w w9) := Lib.hid (HB8.out.next' hb9)
  clear hb9 hjunk
  go_wp2_with fail
  refine (dec_is ⟨#[77, 73, 76, 69, 50, 1, 0]⟩ 23 w9 DB.out kn_d2).mono ?_
  rintro e wa ⟨va, rfl, hjunk, hba⟩
  have HBa : Hid (Below w.heap.size w wa) := Lib.hid (HB9.out.next' hba)
  clear hba hjunk
  go_wp2_with fail
  refine (works_any wa).mono ?_
  rintro e wb ⟨rfl, hbb⟩
  have HBb : Hid (Below w.heap.size w wb) := Lib.hid (HBa.out.next' hbb)
  clear hbb
  have z16 : (E16.size : Int) = 219 := by have := Z16.out; omega
  go_wp2_with fail
  refine (head_in 16 wb (by decide) (by decide)).mono ?_
  rintro e wc ⟨rfl, rfl⟩
  go_wp2_with fail
  refine (head_out (-1) wb (Or.inl (by decide))).mono ?_
  rintro e wc ⟨rfl, rfl⟩
  go_wp2_with fail
  refine (head_in 0 wb (by decide) (by decide)).mono ?_
  rintro e wc ⟨rfl, rfl⟩
  go_wp2_with fail
  go_ret
  exact ⟨rfl, HBb.out⟩
end Go.Proofs.Ytaikcehdomaebaa
