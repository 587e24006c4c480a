/- frame: the chapter's examples (works). -/
import Derived.Test.YtaikcehdomaebaaFrDecode
import Derived.Test.YtaikcehdomaebaaFrEnc
namespace Go.Proofs.Ytaikcehdomaebaa
open Go.RowKit
theorem SlS.nil (w : World) : SlS w (.slice none 0 0) [] := ⟨none, 0, rfl, Nat.le_refl _, Nat.zero_le _, fun i hi => by cases hi⟩
theorem SlS.one (w : World) (k : Int) (b : ByteArray) (t : TypeId) : SlS (w.alloc (.cells #[.int .i64 k, .string b] t)) (.slice (some ⟨w.heap.size, 0, none⟩) 1 1) [(k, b)] := by
  have hb := Blk.new w #[.int .i64 k, .string b] t (0, 0)
  refine ⟨_, 1, rfl, Nat.le_refl _, by unfold maxLen; decide, fun i hi => ⟨w.heap.size, 0, rfl, ?_⟩⟩
  obtain rfl : i = 0 := by simpa using hi
  exact ⟨hb.cell 0, hb.cell 1⟩
theorem enc_is (v : Value) (L : List (Int × ByteArray)) (w : World) (S : ByteArray) (c : Int) (hs : SlS w v L) (hsz : ∀ x ∈ L, x.2.size ≤ 1000000) (hL : L.length ≤ 1000) (h : encV L = .tuple #[.string S, .int .i64 c]) :
    Calls Try.prog 9 #[v] w fun e w' => e = .returned (.tuple #[.string S, .int .i64 c]) ∧ Below w.heap.size w w' := by
  rw [← h]; exact enc_any v L w hs hsz hL
theorem dec_is (s : ByteArray) (c : Int) (w : World) (hs : s.size ≤ 1000000) (h : (decV s).1 = c) : Calls Try.prog 15 #[.string s] w fun e w' => ∃ v, e = .returned (.tuple #[v, .int .i64 c]) ∧ SlS w' v (decV s).2 ∧ Below w.heap.size w w' := by
  rw [← h]; exact dec_any s w hs
theorem head_in (n : Int) (w : World) (h0 : 0 ≤ n) (h1 : n ≤ 16) : Calls Try.prog 11 #[.int .i64 n] w fun e w' => e = .returned (.int .i64 (11 + 13 * n)) ∧ w = w' := by
  have e1 : IntKind.i64.wrap (n * 13) = n * 13 := wrap_small _ (by omega) (by omega)
  have e2 : IntKind.i64.wrap (11 + n * 13) = 11 + 13 * n := by rw [wrap_small _ (by omega) (by omega)]; omega
  have d1 : decide (n < 0) = false := decide_eq_false (by omega)
  have d2 : decide (16 < n) = false := decide_eq_false (by omega)
  go_enter Try.func11, Try.ntmps11
  go_wp2
  go_ret
  exact ⟨rfl, rfl⟩
theorem head_out (n : Int) (w : World) (h : n < 0 ∨ 16 < n) : Calls Try.prog 11 #[.int .i64 n] w fun e w' => e = .returned (.int .i64 0) ∧ w = w' := by
  rcases h with h | h
  · have d1 : decide (n < 0) = true := decide_eq_true (by omega)
    go_enter Try.func11, Try.ntmps11
    go_wp2
    go_ret
    exact ⟨rfl, rfl⟩
  · have d1 : decide (n < 0) = false := decide_eq_false (by omega)
    have d2 : decide (16 < n) = true := decide_eq_true (by omega)
    go_enter Try.func11, Try.ntmps11
    go_wp2
    go_ret
    exact ⟨rfl, rfl⟩
theorem hasS_yes (s t : ByteArray) (w : World) (h : t.size ≤ s.size) (he : s.extract 0 t.size = t) : Calls Try.prog 39 #[.string s, .string t] w fun e w' => e = .returned (.bool true) ∧ w = w' := by
  have h1 : (t.size : Int) ≤ (s.size : Int) := by omega
  go_enter Try.func39, Try.ntmps39
  go_wp2
  go_ret
  exact ⟨rfl, rfl⟩
theorem has_yes (s t : ByteArray) (w : World) (h : t.size ≤ s.size) (he : s.extract 0 t.size = t) : Calls Try.prog 27 #[.string s, .string t] w fun e w' => e = .returned (.bool true) ∧ w = w' := by
  have C := Lib.hid (hasS_yes s t w h he)
  clear h he
  go_enter Try.func27, Try.ntmps27
  go_wp2_with fail
  refine C.out.mono ?_
  rintro e w' ⟨rfl, rfl⟩
  go_wp2_with fail
  go_ret
  exact ⟨rfl, rfl⟩
def s0 : ByteArray := ⟨(encB []).toArray⟩
def s1 : ByteArray := ⟨(encB [(2, ⟨#[97, 98, 99]⟩)]).toArray⟩
theorem works_k0 : encV [] = .tuple #[.string s0, .int .i64 0] := by unfold encV; rw [if_pos (by decide)]; rfl
theorem works_k1 : encV [(2, ⟨#[97, 98, 99]⟩)] = .tuple #[.string s1, .int .i64 0] := by unfold encV; rw [if_pos (by decide)]; rfl
theorem works_k2 : encV [(256, ⟨#[]⟩)] = .tuple #[.string ⟨#[]⟩, .int .i64 2] := by unfold encV; rw [if_neg (by decide)]
theorem works_z0 : s0.size = 11 := by kernel_rfl
theorem works_z1 : s1.size = 27 := by kernel_rfl
theorem works_p : s0.extract 0 7 = ⟨#[77, 73, 76, 69, 49, 1, 0]⟩ := by kernel_rfl
theorem works_d1 : (decV (s1.extract 0 26)).1 = 23 := by decide +kernel
theorem works_d2 : (decV (s1 ++ ⟨#[120]⟩)).1 = 23 := by decide +kernel
theorem works_d3 : (decV (s1.extract 0 26 ++ ⟨#[100]⟩)).1 = 24 := by decide +kernel
theorem app_size (a b : ByteArray) (n m : Nat) (ha : a.size = n) (hb : b.size = m) (h : n + m ≤ 1000000) : (a ++ b).size ≤ 1000000 := by rw [ByteArray.size_append, ha, hb]; exact h
theorem works_q2 : (decV (s1 ++ ⟨#[120]⟩)).1 = 23 ∧ (s1 ++ ⟨#[120]⟩).size ≤ 1000000 := ⟨works_d2, app_size _ _ 27 1 works_z1 rfl (by omega)⟩
theorem works_q3 : (decV (s1.extract 0 26 ++ ⟨#[100]⟩)).1 = 24 ∧ (s1.extract 0 26 ++ ⟨#[100]⟩).size ≤ 1000000 := ⟨works_d3, app_size _ _ 26 1 (by rw [ByteArray.size_extract, works_z1]; rfl) rfl (by omega)⟩
set_option maxHeartbeats 400000 in
theorem works_any (w : World) : Calls Try.prog 12 #[] w fun e w' => e = .returned (.bool true) ∧ Below w.heap.size w w' := by
  have Z0 := works_z0; have Z1 := works_z1
  have Hp := Lib.hid works_p; have D1 := Lib.hid works_d1; have D2 := Lib.hid works_q2; have D3 := Lib.hid works_q3
  have K0 := Lib.hid works_k0; have K1 := Lib.hid works_k1
  generalize s0 = S0 at *
  generalize s1 = S1 at *
  have z0 : (S0.size : Int) = 11 := by omega
  have z1 : (S1.size : Int) = 27 := by omega
  have HZ0 := Lib.hid Z0; have HZ1 := Lib.hid Z1
  have hz2 : ¬ 9223372036854775807 < (S1.size : Int) + 1 := by omega
  have hx : (S1.extract 0 26).size = 26 := by rw [ByteArray.size_extract]; omega
  have HX := Lib.hid hx
  clear Z0 Z1
  go_enter Try.func12, Try.ntmps12
  go_wp2_with fail
  refine (enc_is _ [] _ S0 0 (SlS.nil w) (by simp) (by simp) K0.out).mono ?_
  rintro e w1 ⟨rfl, hb1⟩
  go_wp2_with fail
  refine (enc_is _ [(2, ⟨#[97, 98, 99]⟩)] _ S1 0 (SlS.one _ _ _ _) (by simp; decide) (by simp) K1.out).mono ?_
  rintro e w2 ⟨rfl, hb2⟩
  have HB2 : Hid (Below w.heap.size w w2) := Lib.hid (hb1.next' (((Below.refl w1.heap.size w1).alloc (Nat.le_refl _) _).trans (hb2.mono (by simp))))
  clear hb1 hb2
  go_wp2_with fail
  refine (has_yes S0 ⟨#[77, 73, 76, 69, 49, 1, 0]⟩ w2 (by rw [HZ0.out]; decide) Hp.out).mono ?_
  rintro e w3 ⟨rfl, rfl⟩
  go_wp2_with fail
  refine (head_in 1 w2 (by decide) (by decide)).mono ?_
  rintro e w3 ⟨rfl, rfl⟩
  go_wp2_with fail
  refine (head_out 17 w2 (Or.inr (by decide))).mono ?_
  rintro e w3 ⟨rfl, rfl⟩
  have zr : (26 : Int) ≤ (S1.size : Int) := by omega
  go_wp2_with fail
  refine (dec_is (S1.extract 0 26) 23 w2 (by have := HX.out; omega) D1.out).mono ?_
  rintro e w4 ⟨v4, rfl, hjunk, hb4⟩
  clear hjunk
  have HB4 : Hid (Below w.heap.size w w4) := Lib.hid (HB2.out.next' hb4)
  clear hb4
  go_wp2_with fail
  refine (dec_is _ 23 w4 D2.out.2 D2.out.1).mono ?_
  rintro e w5 ⟨v5, rfl, hjunk, hb5⟩
  clear hjunk
  have HB5 : Hid (Below w.heap.size w w5) := Lib.hid (HB4.out.next' hb5)
  clear hb5
  have hz3 : ¬ 9223372036854775807 < ((S1.extract 0 26).size : Int) + 1 := by rw [HX.out]; decide
  go_wp2_with fail
  refine (dec_is _ 24 w5 D3.out.2 D3.out.1).mono ?_
  rintro e w6 ⟨v6, rfl, hjunk, hb6⟩
  clear hjunk
  have HB6 : Hid (Below w.heap.size w w6) := Lib.hid (HB5.out.next' hb6)
  clear hb6
  go_wp2_with fail
  refine (enc_is _ [(256, ⟨#[]⟩)] _ ⟨#[]⟩ 2 (SlS.one _ _ _ _) (by intro x hx'; obtain rfl := List.mem_singleton.1 hx'; exact Nat.zero_le _) (by simp) works_k2).mono ?_
  rintro e w7 ⟨rfl, hb7⟩
  have HB7 : Hid (Below w.heap.size w w7) := Lib.hid (HB6.out.next' (((Below.refl w6.heap.size w6).alloc (Nat.le_refl _) _).trans (hb7.mono (by simp))))
  clear hb7
  go_wp2_with fail
  go_ret
  exact ⟨rfl, HB7.out⟩
end Go.Proofs.Ytaikcehdomaebaa
