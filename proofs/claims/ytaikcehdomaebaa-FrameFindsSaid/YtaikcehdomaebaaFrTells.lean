/- FrameTells: the walk. -/
import Derived.Test.YtaikcehdomaebaaFrFew
import Derived.Test.YtaikcehdomaebaaRefEnc
namespace Go.Proofs.Ytaikcehdomaebaa
open Go.RowKit Go.Deep
/-- a reading of a slice of sections -/
theorem Rd.secs {w : World} {v : Value} (h : Rd Try.prog w 22 [v]) : ∃ L : List (Int × ByteArray), SlS w v L ∧ (∀ x ∈ L, (Lit.int .i64 x.1).wf = true) ∧ ∀ x ∈ L, x.2.size ≤ maxLen := by
  have c2 : Try.prog.cellsOf 44 = 2 := by kernel_rfl
  have c1 : Try.prog.cellsOf 3 = 1 := by kernel_rfl
  have cs1 : Try.prog.cellsOf 9 = 1 := by kernel_rfl
  obtain ⟨a, len, cap, h1, hl, hm, hel⟩ := Rd.slice Try.underlying22 (by rw [c2]; decide) h
  have hex : ∀ i, i < len → ∃ x : Int × ByteArray, ((Lit.int .i64 x.1).wf = true ∧ x.2.size ≤ maxLen) ∧ ∃ b off, a = some ⟨b, off, none⟩ ∧ w.cell? ⟨b, off + i * 2, none⟩ = some (.int .i64 x.1) ∧ w.cell? ⟨b, off + i * 2 + 1, none⟩ = some (.string x.2) := fun i hi => by
    obtain ⟨b, off, ha, es, hes, hcell, hrd⟩ := hel i hi
    rw [c2] at hes hcell
    match es, hes with
    | [e0, e1], _ =>
      have r0 : Rd Try.prog w 3 [e0] := Rd.field Try.underlying44 hrd 0 rfl c1 rfl
      have r1 : Rd Try.prog w 9 [e1] := Rd.field Try.underlying44 hrd 1 rfl cs1 rfl
      obtain ⟨n, q0, hn⟩ := Rd.int Try.underlying3 r0
      obtain ⟨s, q1, hs⟩ := Rd.string Try.underlying9 r1
      obtain rfl : e0 = .int .i64 n := by simpa using q0
      obtain rfl : e1 = .string s := by simpa using q1
      have k0 := hcell 0 (by decide)
      have k1 := hcell 1 (by decide)
      exact ⟨(n, s), ⟨hn, hs⟩, b, off, ha, by simpa using k0, by simpa [Nat.add_assoc] using k1⟩
  obtain ⟨f, hf⟩ := choose_lt hex
  have hv : v = .slice a len cap := by simpa using h1
  refine ⟨(List.range len).map f, ⟨a, cap, by rw [hv]; simp, by simpa using hl, hm, fun i hi => ?_⟩, fun x hx => ?_, fun x hx => ?_⟩
  · have hi' : i < len := by simpa using hi
    obtain ⟨_, b, off, ha, hc1, hc2⟩ := hf i hi'
    exact ⟨b, off, ha, by simpa using hc1, by simpa using hc2⟩
  · obtain ⟨i, hi, rfl⟩ := List.mem_map.1 hx
    exact (hf i (List.mem_range.1 hi)).1.1
  · obtain ⟨i, hi, rfl⟩ := List.mem_map.1 hx
    exact (hf i (List.mem_range.1 hi)).1.2
theorem encV_form (L : List (Int × ByteArray)) : ∃ (S : ByteArray) (c : Int), encV L = .tuple #[.string S, .int .i64 c] := by
  unfold encV
  split
  · exact ⟨_, _, rfl⟩
  · exact ⟨_, _, rfl⟩
theorem few_size (L : List (Int × ByteArray)) : ∀ x ∈ fewL L, x.2.size ≤ 60 := fun x hx => by
  obtain ⟨y, _, rfl⟩ := List.mem_map.1 hx
  rw [cut_size]; omega
theorem few_len (L : List (Int × ByteArray)) : (fewL L).length ≤ 18 := by unfold fewL; rw [List.length_map, List.length_take]; omega
theorem refEnc_is (v : Value) (L : List (Int × ByteArray)) (w : World) (S : ByteArray) (c : Int) (hs : SlS w v L) (hsz : ∀ x ∈ L, x.2.size ≤ 1000000) (hL : L.length ≤ 1000) (h : encV L = .tuple #[.string S, .int .i64 c]) :
    Calls Try.prog 10 #[v] w fun e w' => e = .returned (.tuple #[.string S, .int .i64 c]) ∧ Below w.heap.size w w' := by
  rw [← h]; exact refEnc_any v L w hs hsz hL
set_option maxHeartbeats 1000000 in
theorem frameTells_any (v : Value) (n : Int) (L : List (Int × ByteArray)) (w : World) (hs : SlS w v L) (hn : -9223372036854775808 ≤ n ∧ n ≤ 9223372036854775807) :
    Calls Try.prog 3 #[v, .int .i64 n] w fun e w' => e = .returned (.bool true) ∧ Below w.heap.size w w' := by
  obtain ⟨S, c, hE⟩ := encV_form (fewL L)
  have HE := Lib.hid hE; have HS := Lib.hid hs
  clear hE hs
  have hz := fun x hx => Nat.le_trans (few_size L x hx) (show 60 ≤ 1000000 by decide)
  have hl := Nat.le_trans (few_len L) (show 18 ≤ 1000 by decide)
  have HZ := Lib.hid hz
  clear hz
  have h17 : (n < 0 ∨ 16 < n) ∨ (0 ≤ n ∧ n ≤ 16) := by omega
  have e1 : 0 ≤ n → n ≤ 16 → 11 + 13 * n = 11 + 13 * n := fun _ _ => rfl
  clear e1
  rcases h17 with h17 | ⟨ha, hb⟩
  · have C := Lib.hid (fun u => head_out n u h17)
    rcases h17 with h17 | h17
    all_goals
      first
        | have d1 : decide (0 ≤ n) = false := decide_eq_false (by omega)
        | (have d1 : decide (0 ≤ n) = true := decide_eq_true (by omega)
           have d2 : decide (n ≤ 16) = false := decide_eq_false (by omega))
      go_enter Try.func3, Try.ntmps3
      go_wp2_with fail
      refine (few_any v L w HS.out).mono ?_
      rintro e w1 ⟨v1, rfl, ho, hb1⟩
      have HO := Lib.hid ho.sl; have HB1 := Lib.hid hb1
      clear ho hb1
      go_wp2_with fail
      refine (enc_is v1 (fewL L) w1 S c HO.out HZ.out hl HE.out).mono ?_
      rintro e w2 ⟨rfl, hb2⟩
      have HO2 := Lib.hid (HO.out.later hb2); have HB2 := Lib.hid (HB1.out.next' hb2)
      clear hb2
      go_wp2_with fail
      refine (refEnc_is v1 (fewL L) w2 S c HO2.out HZ.out hl HE.out).mono ?_
      rintro e w3 ⟨rfl, hb3⟩
      have HB3 := Lib.hid (HB2.out.next' hb3)
      clear hb3
      go_wp2_with fail
      refine (C.out w3).mono ?_
      rintro e w4 ⟨rfl, rfl⟩
      go_wp2_with fail
      refine (works_any w3).mono ?_
      rintro e w4 ⟨rfl, hb4⟩
      have HB4 := Lib.hid (HB3.out.next' hb4)
      clear hb4
      go_wp2_with fail
      go_ret
      exact ⟨rfl, HB4.out⟩
  · have C := Lib.hid (fun u => head_in n u ha hb)
    have d1 : decide (0 ≤ n) = true := decide_eq_true (by omega)
    have d2 : decide (n ≤ 16) = true := decide_eq_true (by omega)
    go_enter Try.func3, Try.ntmps3
    go_wp2_with fail
    refine (few_any v L w HS.out).mono ?_
    rintro e w1 ⟨v1, rfl, ho, hb1⟩
    have HO := Lib.hid ho.sl; have HB1 := Lib.hid hb1
    clear ho hb1
    go_wp2_with fail
    refine (enc_is v1 (fewL L) w1 S c HO.out HZ.out hl HE.out).mono ?_
    rintro e w2 ⟨rfl, hb2⟩
    have HO2 := Lib.hid (HO.out.later hb2); have HB2 := Lib.hid (HB1.out.next' hb2)
    clear hb2
    go_wp2_with fail
    refine (refEnc_is v1 (fewL L) w2 S c HO2.out HZ.out hl HE.out).mono ?_
    rintro e w3 ⟨rfl, hb3⟩
    have HB3 := Lib.hid (HB2.out.next' hb3)
    clear hb3
    go_wp2_with fail
    refine (C.out w3).mono ?_
    rintro e w4 ⟨rfl, rfl⟩
    go_wp2_with fail
    refine (works_any w3).mono ?_
    rintro e w4 ⟨rfl, hb4⟩
    have HB4 := Lib.hid (HB3.out.next' hb4)
    clear hb4
    go_wp2_with fail
    go_ret
    exact ⟨rfl, HB4.out⟩
theorem lawFrameTells_any (v : Value) (n : Int) (w : World) (h : Rd Try.prog w 22 [v]) (hn : -9223372036854775808 ≤ n ∧ n ≤ 9223372036854775807) :
    Calls Try.prog 3 #[v, .int .i64 n] w fun e w' => e = .returned (.bool true) ∧ Below w.heap.size w w' := by
  obtain ⟨L, hs, _, _⟩ := Rd.secs h
  exact frameTells_any v n L w hs hn
end Go.Proofs.Ytaikcehdomaebaa
