/- net: what it tells. -/
import Derived.Test.YtnkcmlngoeofgaaDoorNetNew
import Derived.Test.YtnkcmlngoeofgaaDoorGrEqual
import Derived.BigQuiet
import Derived.Deep.QuietTactic
import Derived.WalkSmall
namespace Go.Proofs.YtnkcmlngoeofgaaDoor
open Go.RowKit
theorem cloneI (v : Value) (L : List Int) (w : World) (h : SlX w v L) (hl : L.length ≤ 1000000000000) : Calls Tryd.prog 57 #[v] w fun e w' => ∃ v', e = .returned v' ∧ w'.ownsRow w.heap.size 3 1 v' L.length (L.flatMap inC) ∧ Below w.heap.size w w' := by
  obtain ⟨i0, hi, hz0, hz1, hz2⟩ := info_parts infoInt
  have hs := h.row
  obtain ⟨a, cap, rfl, hc1, hc2, h3⟩ := h
  cases a with
  | none =>
    have h0 : L = [] := by
      cases L with
      | nil => rfl
      | cons x L => obtain ⟨_, _, _, _, _, e, _⟩ := h3 0 (by simp); cases e
    subst h0
    have hn := fun w => Lib.run_eql_slice_nil (P := Tryd.prog) w 62 3 none 0 cap 0 0 Tryd.underlying62
    simp only [List.length_nil]
    clear hs h3
    go_enter Tryd.func57, Tryd.ntmps57
    go_wp2
    go_ret
    exact ⟨_, rfl, World.ownsRow_nil _ _ _ _, Below.refl _ _⟩
  | some ad =>
    have hn := fun w => Lib.run_eql_slice_nil (P := Tryd.prog) w 62 3 (some ad) L.length cap 0 0 Tryd.underlying62
    have hb := (Below.refl w.heap.size w).alloc (Nat.le_refl _) (.cells #[] 3)
    have hs1 : SlF 1 (w.alloc (.cells #[] 3)) (.slice (some ad) L.length cap) L.length (L.flatMap inC) := by
      obtain ⟨q1, q2, a, c, e, q3, q4, q5⟩ := hs
      refine ⟨q1, q2, a, c, e, q3, q4, fun j u hu => ?_⟩
      obtain ⟨b, off, ea, hc⟩ := q5 j u hu
      exact ⟨b, off, ea, cell_later hb hc⟩
    obtain ⟨v', w', hr, hown, hg, _⟩ := run_append_row (P := Tryd.prog) w.heap.size 62 62 3 i0 _ 1 8 Tryd.underlying62 hi hz0 hz1 hz2 rfl (by omega) _ 0 [] (ownsRow_zero w w.heap.size 3 1 (Nat.le_refl _)) _ L.length _ hs1 (by unfold maxLen; omega) (by omega) (by simp)
    have hb' : Below w.heap.size w w' := ⟨hg.os, hg.tape, hg.output, by have := hg.size; simp at this; omega, fun k hk => (hg.block k (by simp; omega) (by simp [Value.ownBlock]; omega)).trans (Below.heap_alloc w _ k hk)⟩
    have HB := Lib.hid hb'; have HO := Lib.hid hown; have HR := Lib.hid hr
    clear hs h3 hb hs1 hown hg hb' hr
    go_enter Tryd.func57, Tryd.ntmps57
    go_wp2_with (at_builtin; refine wpList_append_run rfl _ _ _ _ rfl HR.out ?_)
    go_ret
    exact ⟨_, rfl, by simpa using HO.out, HB.out⟩


set_option maxHeartbeats 1000000 in
theorem ints_any (va vb : Value) (A B : List Int) (w : World) (ha : SlX w va A) (hb : SlX w vb B) : Calls Tryd.prog 37 #[va, vb] w fun e w' => e = .returned (.bool (decide (A = B))) ∧ Below w.heap.size w w' := by
  have haw := ha; have hbw := hb
  obtain ⟨aa, ca, rfl, hca, hma, _⟩ := ha
  obtain ⟨ab, cb, rfl, hcb, hmb, _⟩ := hb
  unfold maxLen at hma hmb
  by_cases hlen : A.length = B.length
  · have hl2 : (B.length : Int) = A.length := by omega
    rw [show B.length = A.length from hlen.symm] at hbw
    rw [← hlen] at hcb
    have HAW := Lib.hid haw; have HBW := Lib.hid hbw
    have HLen := Lib.hid hlen
    have hBl : ∀ k, k < A.length → k < B.length := fun k h => by omega
    have HBl := Lib.hid hBl
    rw [show B.length = A.length from hlen.symm]
    clear haw hbw hlen hl2 hBl
    go_enter Tryd.func37, Tryd.ntmps37
    go_wp2_with fail
    go_loopw [5] (fun i wr => ∃ (k : Nat), k ≤ A.length ∧ i = .int .i64 k ∧ Hid (A.take k = B.take k) ∧ Hid (Below w.heap.size w wr)) (fun i _ => A.length - (intOf i).toNat)
    case atStart => exact ⟨0, Nat.zero_le _, rfl, Lib.hid rfl, Lib.hid (Below.refl _ _)⟩
    case round =>
      obtain ⟨k, hk, rfl, hpre, hbel⟩ := hrel
      by_cases hlt : k < A.length
      · have hkw := KpC.of_below hbel.out
        obtain ⟨ba, oa, rfl, da⟩ := (HAW.out.keep hkw).at k hlt
        obtain ⟨bb, ob, rfl, db⟩ := (HBW.out.keep hkw).at k (HBl.out k hlt)
        have hBd := Lib.hid (hbel.out.drew)
        have i1 : (0 : Int) ≤ (k : Int) := by omega
        have i2 : (k : Int) < (A.length : Int) := by omega
        have hA1 : Hid (A.take (k + 1) = A.take k ++ [A[k]]) := Lib.hid (List.take_succ_eq_append_getElem hlt)
        have hB1 : Hid (B.take (k + 1) = B.take k ++ [B[k]'(HBl.out k hlt)]) := Lib.hid (List.take_succ_eq_append_getElem (HBl.out k hlt))
        obtain ⟨x, hx⟩ : ∃ x, x = A[k] := ⟨_, rfl⟩
        obtain ⟨y, hy⟩ : ∃ y, y = B[k]'(HBl.out k hlt) := ⟨_, rfl⟩
        rw [← hx] at da; rw [← hy] at db
        have HX := Lib.hid hx.symm; have HY := Lib.hid hy.symm
        clear hx hy
        clear hkw
        go_wp2_with fail
        go_quiet (fail)
        generalize hwd : wr.drewN _ = wd at *
        by_cases hxy : x = y
        · subst hxy
          have hbq : (x == x) = true := by simp
          go_wp2_with fail
          go_roundw
          case rel =>
            refine ⟨k + 1, by omega, by go_num, Lib.hid ?_, Lib.hid ?_⟩
            · rw [hA1.out, hB1.out, hpre.out, HX.out, HY.out]
            · rw [← hwd]; exact below_drewN hbel.out _
          case measure => simp [intOf]; omega
        · have hne : Hid (A ≠ B) := Lib.hid (fun e => hxy (by rw [← HX.out, ← HY.out]; simp [e]))
          have hbq : (x == y) = false := by simpa using hxy
          go_wp2_with fail
          go_ret
          refine ⟨?_, by rw [← hwd]; exact below_drewN hbel.out _⟩
          rw [decide_eq_false hne.out]; rfl
      · obtain rfl : k = A.length := by omega
        go_wp2_with fail
        go_ret
        refine ⟨?_, hbel.out⟩
        have h := hpre.out
        rw [List.take_length, HLen.out, List.take_length] at h
        rw [decide_eq_true h]; rfl
  · have hne : A ≠ B := fun h => hlen (by rw [h])
    have hn : ¬ (A.length : Int) = (B.length : Int) := by omega
    have hn2 : ((A.length : Int) == (B.length : Int)) = false := by simpa using hn
    rw [decide_eq_false hne]
    clear haw hbw hne hn
    go_enter Tryd.func37, Tryd.ntmps37
    go_wp2_with fail
    go_ret
    exact ⟨rfl, Below.refl _ _⟩

/- one of some -/
theorem oneX_any (v : Value) (L : List Int) (i : Int) (w : World) (h : SlX w v L) : Calls Tryd.prog 62 #[v, .int .i64 i] w fun e w' => e = .returned (.tuple #[.int .i64 (if 0 ≤ i ∧ i < L.length then L[i.toNat]?.getD 0 else 0), .bool (decide (0 ≤ i ∧ i < L.length))]) ∧ w' = w := by
  have h0 := h
  obtain ⟨a, cap, rfl, _, _, _⟩ := h
  by_cases h1 : i < 0
  · rw [if_neg (by omega), decide_eq_false (by omega)]
    clear h0
    go_enter Tryd.func62, Tryd.ntmps62
    go_wp2_with fail
    go_ret2
    exact ⟨rfl, rfl⟩
  · by_cases h2 : (L.length : Int) ≤ i
    · rw [if_neg (by omega), decide_eq_false (by omega)]
      clear h0
      go_enter Tryd.func62, Tryd.ntmps62
      go_wp2_with fail
      go_ret2
      exact ⟨rfl, rfl⟩
    · obtain ⟨n, rfl⟩ := Int.eq_ofNat_of_zero_le (show 0 ≤ i by omega)
      obtain ⟨b, o, rfl, hc⟩ := h0.at n (by omega)
      have i1 : (0 : Int) ≤ (n : Int) := by omega
      have i2 : (n : Int) < (L.length : Int) := by omega
      rw [if_pos ⟨i1, i2⟩, decide_eq_true ⟨i1, i2⟩, Int.toNat_natCast, List.getElem?_eq_getElem (by omega)]
      obtain ⟨x, hx⟩ : ∃ x, x = L[n]'(by omega) := ⟨_, rfl⟩
      rw [← hx] at hc ⊢
      clear h0 hx
      go_enter Tryd.func62, Tryd.ntmps62
      go_wp2_with fail
      go_ret2
      exact ⟨rfl, rfl⟩
theorem oneR_any (v : Value) (L : List (List Int)) (i : Int) (w : World) (h : SlR w v L) : Calls Tryd.prog 56 #[v, .int .i64 i] w fun e w' => ∃ rv, e = .returned (.tuple #[rv, .bool (decide (0 ≤ i ∧ i < L.length))]) ∧ SlX w rv (if 0 ≤ i ∧ i < L.length then L[i.toNat]?.getD [] else []) ∧ w' = w := by
  have h0 := h
  obtain ⟨a, cap, rfl, _, _, _⟩ := h
  by_cases h1 : i < 0
  · rw [if_neg (by omega), decide_eq_false (by omega)]
    clear h0
    go_enter Tryd.func56, Tryd.ntmps56
    go_wp2_with fail
    go_ret2
    exact ⟨_, rfl, ⟨none, 0, rfl, Nat.le_refl _, Nat.zero_le _, fun i hi => by cases hi⟩, rfl⟩
  · by_cases h2 : (L.length : Int) ≤ i
    · rw [if_neg (by omega), decide_eq_false (by omega)]
      clear h0
      go_enter Tryd.func56, Tryd.ntmps56
      go_wp2_with fail
      go_ret2
      exact ⟨_, rfl, ⟨none, 0, rfl, Nat.le_refl _, Nat.zero_le _, fun i hi => by cases hi⟩, rfl⟩
    · obtain ⟨n, rfl⟩ := Int.eq_ofNat_of_zero_le (show 0 ≤ i by omega)
      obtain ⟨a', cap', e, _, _, h3⟩ := id h0
      obtain ⟨b, off, cs, t, fr, rv, ea, hb, hc, hr⟩ := h3 n (by omega)
      obtain rfl : a = some ⟨b, off, none⟩ := (Value.slice.inj e).1.trans ea
      have q : w.cell? ⟨b, off + n, none⟩ = some rv := by rw [hb.cell]; exact hc
      have i1 : (0 : Int) ≤ (n : Int) := by omega
      have i2 : (n : Int) < (L.length : Int) := by omega
      rw [if_pos ⟨i1, i2⟩, decide_eq_true ⟨i1, i2⟩, Int.toNat_natCast, List.getElem?_eq_getElem (by omega), Option.getD_some]
      have HR := Lib.hid hr
      have hf := hr.form
      obtain ⟨_, _, _, rfl⟩ := hf
      clear h0 e h3 hb hc hr ea
      go_enter Tryd.func56, Tryd.ntmps56
      go_wp2_with fail
      go_ret2
      exact ⟨_, rfl, HR.out, rfl⟩
def arV (a : Ar) : Value := .agg #[.int .i64 a.1, .int .i64 a.2.1, .int .i64 a.2.2]
theorem oneA_any (v : Value) (L : List Ar) (i : Int) (w : World) (h : SlA w v L) : Calls Tryd.prog 58 #[v, .int .i64 i] w fun e w' => e = .returned (.tuple #[arV (if 0 ≤ i ∧ i < L.length then L[i.toNat]?.getD (0, 0, 0) else (0, 0, 0)), .bool (decide (0 ≤ i ∧ i < L.length))]) ∧ Below w.heap.size w w' := by
  have h0 := h
  obtain ⟨a, cap, rfl, _, _, _⟩ := h
  by_cases h1 : i < 0
  · rw [if_neg (by omega), decide_eq_false (by omega)]
    clear h0
    go_enter Tryd.func58, Tryd.ntmps58
    go_wp2_with fail
    exact bodyPost_ret (v := .tuple #[.agg #[.int .i64 0, .int .i64 0, .int .i64 0], .bool false]) (by simp [results, Tryd.results58, go_sem]) rfl ⟨rfl, (Below.refl _ _).alloc (Nat.le_refl _) _⟩
  · by_cases h2 : (L.length : Int) ≤ i
    · rw [if_neg (by omega), decide_eq_false (by omega)]
      clear h0
      go_enter Tryd.func58, Tryd.ntmps58
      go_wp2_with fail
      exact bodyPost_ret (v := .tuple #[.agg #[.int .i64 0, .int .i64 0, .int .i64 0], .bool false]) (by simp [results, Tryd.results58, go_sem]) rfl ⟨rfl, (Below.refl _ _).alloc (Nat.le_refl _) _⟩
    · obtain ⟨n, rfl⟩ := Int.eq_ofNat_of_zero_le (show 0 ≤ i by omega)
      obtain ⟨b, o, rfl, d0, d1, d2⟩ := h0.at n (by omega)
      have i1 : (0 : Int) ≤ (n : Int) := by omega
      have i2 : (n : Int) < (L.length : Int) := by omega
      rw [if_pos ⟨i1, i2⟩, decide_eq_true ⟨i1, i2⟩, Int.toNat_natCast, List.getElem?_eq_getElem (by omega)]
      obtain ⟨x, hx⟩ : ∃ x, x = L[n]'(by omega) := ⟨_, rfl⟩
      rw [← hx] at d0 d1 d2 ⊢
      clear h0 hx
      obtain ⟨x0, x1, x2⟩ := x
      simp only at d0 d1 d2
      have hal := (Below.refl w.heap.size w).alloc (Nat.le_refl _) (.cells #[.int .i64 0, .int .i64 0, .int .i64 0] 54)
      have e0 := cell_later hal d0; have e1 := cell_later hal d1; have e2 := cell_later hal d2
      clear hal
      go_enter Tryd.func58, Tryd.ntmps58
      go_wp2_with fail
      exact bodyPost_ret (v := .tuple #[.agg #[.int .i64 x0, .int .i64 x1, .int .i64 x2], .bool true]) (by simp [results, Tryd.results58, go_sem]) rfl ⟨rfl, (Below.refl _ _).alloc (Nat.le_refl _) _⟩
end Go.Proofs.YtnkcmlngoeofgaaDoor
