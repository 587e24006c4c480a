/- frame's laws: right, Same. -/
import Derived.Test.YtaikcehdomaebaaFrTells
import Derived.Deep.QuietTactic
import Derived.BigQuiet
namespace Go.Proofs.Ytaikcehdomaebaa
open Go.RowKit
theorem run_min2 {P : Program} (x y : Int) (u : World) (ts : Array TypeId) (t : TypeId) (m : Int) (hm : m = min x y) : (Builtin.min_ ts t #[.int .i64 x, .int .i64 y]).run P u = .ok (.int .i64 m) u := by
  rw [run_min_int2, hm]; congr 2; simp only [Int.min_def]; repeat' split
  all_goals omega
theorem OwS.take {B : Nat} {w : World} {a : Option Addr} {n cap : Nat} {L : List (Int × ByteArray)} (h : OwS B w (.slice a n cap) L) (m : Nat) (hm : m ≤ n) : OwS B w (.slice a m cap) (L.take m) := by
  unfold OwS at h ⊢
  have hl : n = L.length := by
    rcases h.2 with ⟨e, h0⟩ | ⟨g, c, cur, e, _⟩
    · rw [h0]; exact (Value.slice.inj e).2.1
    · exact (Value.slice.inj e).2.1
  have hlen : (L.take m).length = m := by rw [List.length_take]; omega
  have hf : ∀ l : List (Int × ByteArray), (l.flatMap secC).length = l.length * 2 := by
    intro l
    induction l with
    | nil => rfl
    | cons x l ih => rw [List.flatMap_cons, List.length_append, ih, List.length_cons]; show 2 + _ = _; omega
  rw [hlen]
  refine ⟨by rw [hf, hlen], ?_⟩
  rcases h.2 with ⟨e, h0⟩ | ⟨g, c, cur, e, h1, h2, h3, h4, h5, h6⟩
  · have hm0 : m = 0 := by omega
    subst hm0
    obtain ⟨e1, e2, e3⟩ := Value.slice.inj e
    rw [e1, e3]
    exact .inl ⟨rfl, rfl⟩
  · obtain ⟨e1, e2, e3⟩ := Value.slice.inj e
    rw [e1, e3]
    refine .inr ⟨g, c, cur, rfl, h1, h2, by omega, h4, h5, ?_⟩
    have h7 := congrArg (List.take (m * 2)) h6
    rw [List.take_take] at h7
    rw [show min (m * 2) (L.length * 2) = m * 2 by omega] at h7
    rw [h7]
    have h8 : L.flatMap secC = (L.take m).flatMap secC ++ (L.drop m).flatMap secC := by rw [← List.flatMap_append, List.take_append_drop]
    rw [h8, List.take_left' (by rw [hf, hlen])]
theorem flat_sec_len : ∀ l : List (Int × ByteArray), (l.flatMap secC).length = l.length * 2
  | [] => rfl
  | x :: l => by rw [List.flatMap_cons, List.length_append, flat_sec_len l, List.length_cons]; show 2 + _ = _; omega
theorem flat_sec_set : ∀ (l : List (Int × ByteArray)) (i : Nat) (hi : i < l.length) (y : Int), (l.flatMap secC).set (i * 2) (.int .i64 y) = (l.set i (y, l[i].2)).flatMap secC
  | x :: l, 0, _, y => rfl
  | x :: l, i + 1, hi, y => by
    rw [List.flatMap_cons, List.set_append_right _ _ (by show 2 ≤ (i + 1) * 2; omega), List.set_cons_succ, List.flatMap_cons]
    rw [show (i + 1) * 2 - (secC x).length = i * 2 by show (i + 1) * 2 - 2 = i * 2; omega, flat_sec_set l i (by simpa using hi) y]
    rfl
theorem OwS.set {B : Nat} {w : World} {g n cap : Nat} {L : List (Int × ByteArray)} (h : OwS B w (.slice (some ⟨g, 0, none⟩) n cap) L) (i : Nat) (hi : i < L.length) (y : Int) :
    OwS B (w.setCell ⟨g, i * 2, none⟩ (.int .i64 y)) (.slice (some ⟨g, 0, none⟩) n cap) (L.set i (y, L[i].2)) := by
  unfold OwS at h ⊢
  rw [List.length_set]
  refine ⟨by rw [flat_sec_len, List.length_set], ?_⟩
  rcases h.2 with ⟨e, h0⟩ | ⟨g', c, cur, e, h1, h2, h3, h4, h5, h6⟩
  · cases e
  · have e1 : g = g' := by simpa using (Value.slice.inj e).1
    subst e1
    have hb : Blk w g cur 44 (0, 0) := h2
    refine .inr ⟨g, c, _, e, h1, hb.set (i * 2) (.int .i64 y), h3, h4, by rw [Array.size_setIfInBounds]; exact h5, ?_⟩
    rw [Array.toList_setIfInBounds, List.take_set, h6, flat_sec_set L i hi y]
theorem OwS.cells {B : Nat} {w : World} {a : Option Addr} {n cap : Nat} {L : List (Int × ByteArray)} (h : OwS B w (.slice a n cap) L) (i : Nat) (hi : i < L.length) :
    ∃ g, a = some ⟨g, 0, none⟩ ∧ B ≤ g ∧ n = L.length ∧ w.cell? ⟨g, i * 2, none⟩ = some (.int .i64 L[i].1) ∧ w.frozen? ⟨g, i * 2, none⟩ = false := by
  unfold OwS at h
  rcases id h.2 with ⟨e, h0⟩ | ⟨g, c, cur, e, h1, h2, h3, h4, h5, h6⟩
  · omega
  · obtain ⟨e1, e2, e3⟩ := Value.slice.inj e
    subst e1 e2 e3
    have hb : Blk w g cur 44 (0, 0) := h2
    have hc := h.cellAt (i * 2) (by omega)
    have hf := flat_get 2 secC (fun _ => rfl) L i 0 (by decide)
    rw [Nat.add_zero] at hf
    rw [hf, List.getElem?_eq_getElem hi] at hc
    exact ⟨g, rfl, h1, rfl, hc, hb.free _ (Or.inr (Nat.zero_le _))⟩
/-- a section, its kind one that may be -/
def fitS (x : Int × ByteArray) : Int × ByteArray := (((n64 x.1 % 256 : Nat) : Int), x.2)
def rightL (L : List (Int × ByteArray)) : List (Int × ByteArray) := ((fewL L).take 16).map fitS
theorem right_len (L : List (Int × ByteArray)) : (rightL L).length ≤ 16 := by unfold rightL; rw [List.length_map, List.length_take]; omega
theorem right_size (L : List (Int × ByteArray)) : ∀ x ∈ rightL L, x.2.size ≤ 60 := fun x hx => by
  obtain ⟨y, hy, rfl⟩ := List.mem_map.1 hx
  exact few_size L y (List.mem_of_mem_take hy)
theorem right_ok (L : List (Int × ByteArray)) : okL (rightL L) = true := by
  unfold okL
  rw [Bool.and_eq_true, List.all_eq_true]
  refine ⟨decide_eq_true (right_len L), fun x hx => ?_⟩
  obtain ⟨y, hy, rfl⟩ := List.mem_map.1 hx
  unfold goodK fitS
  rw [Bool.and_eq_true]
  exact ⟨decide_eq_true (by simp only; omega), decide_eq_true (by simp only; omega)⟩
def mixL (M : List (Int × ByteArray)) (k : Nat) : List (Int × ByteArray) := (M.take k).map fitS ++ M.drop k
theorem mix_len (M : List (Int × ByteArray)) (k : Nat) : (mixL M k).length = M.length := by
  unfold mixL; rw [List.length_append, List.length_map, List.length_take, List.length_drop]; omega
theorem mix_get (M : List (Int × ByteArray)) (k : Nat) (hk : k < M.length) : (mixL M k)[k]'(by rw [mix_len]; exact hk) = M[k] := by
  unfold mixL
  rw [List.getElem_append_right (by rw [List.length_map, List.length_take]; omega)]
  simp only [List.length_map, List.length_take, List.getElem_drop]
  congr 1
  omega
theorem mix_set (M : List (Int × ByteArray)) (k : Nat) (hk : k < M.length) : (mixL M k).set k (fitS M[k]) = mixL M (k + 1) := by
  unfold mixL
  rw [List.set_append_right _ _ (by rw [List.length_map, List.length_take]; omega), List.length_map, List.length_take, show k - min k M.length = 0 by omega, List.drop_eq_getElem_cons hk, List.set_cons_zero, List.take_succ_eq_append_getElem hk, List.map_append]
  simp
set_option maxHeartbeats 1000000 in
set_option maxRecDepth 100000 in
theorem right_any (v : Value) (L : List (Int × ByteArray)) (w : World) (hs : SlS w v L) :
    Calls Try.prog 13 #[v] w fun e w' => ∃ v', e = .returned v' ∧ OwS w.heap.size w' v' (rightL L) ∧ Below w.heap.size w w' := by
  have HS := Lib.hid hs
  clear hs
  go_enter Try.func13, Try.ntmps13
  go_wp2_with fail
  refine (few_any v L w HS.out).mono ?_
  rintro e w1 ⟨v1, rfl, ho, hb1⟩
  obtain ⟨a1, n1, c1, rfl, hn1, hnc⟩ : ∃ a1 n1 c1, v1 = .slice a1 n1 c1 ∧ n1 = (fewL L).length ∧ n1 ≤ c1 := by
    obtain ⟨a, cap, e, h1, _⟩ := ho.sl
    exact ⟨a, _, cap, e, rfl, h1⟩
  have hn18 := few_len L
  obtain ⟨m, hm⟩ : ∃ m, m = min n1 16 := ⟨_, rfl⟩
  have hmin := fun u => run_min2 (P := Try.prog) n1 16 u #[3, 3] 3 (m : Int) (by omega)
  have hsl : ∀ u, (Instr.slice 22 (.slice a1 n1 c1) none (some (.int .i64 m)) none).run Try.prog u = .ok (.slice a1 m c1) u := fun u =>
    run_slice_to 22 44 a1 n1 c1 m Try.underlying22 (by obtain ⟨i0, hi, _⟩ := info_parts infoSe; rw [hi]; rfl) (by omega) u
  have ht := ho.take m (by omega)
  have hL16 : (fewL L).take m = (fewL L).take 16 := by
    by_cases h : n1 ≤ 16
    · rw [List.take_of_length_le (by omega), List.take_of_length_le (by omega)]
    · rw [show m = 16 by omega]
  rw [hL16] at ht
  have hml : ((fewL L).take 16).length = m := by rw [List.length_take]; omega
  have hR : rightL L = ((fewL L).take 16).map fitS := rfl
  generalize (fewL L).take 16 = M at *
  have HT := Lib.hid ht; have HB1 := Lib.hid hb1; have HR := Lib.hid hR; have Hml := Lib.hid hml; have Hm := Lib.hid hm; have Hn1 := Lib.hid hn1
  have hm16 : m ≤ 16 := by omega
  clear ht hb1 hml hm hn1 ho hL16 hR hn18
  go_wp2_with fail
  go_loopw [4] (fun i wr => ∃ k : Nat, k ≤ m ∧ i = .int .i64 k ∧ Hid (OwS w.heap.size wr (.slice a1 m c1) (mixL M k) ∧ Below w.heap.size w wr)) (fun i _ => m - (intOf i).toNat)
  case atStart => exact ⟨0, Nat.zero_le _, rfl, Lib.hid ⟨by unfold mixL; simpa using HT.out, HB1.out⟩⟩
  case round =>
    obtain ⟨k, hk, rfl, hrel⟩ := hrel
    by_cases hlt : k < m
    · have hkM : k < M.length := by rw [Hml.out]; exact hlt
      have hms := mix_set M k hkM
      have hml2 := mix_len M k
      obtain ⟨g, hg, hgB, _, hc, hf⟩ := hrel.out.1.cells k (by rw [hml2]; exact hkM)
      rw [mix_get M k hkM] at hc
      subst hg
      have hset := fun y => hrel.out.1.set k (by rw [hml2]; exact hkM) y
      rw [mix_get M k hkM] at hset
      have hfit : fitS M[k] = (((n64 M[k].1 % 256 : Nat) : Int), M[k].2) := rfl
      rw [hfit] at hms
      generalize M[k] = x at *
      obtain ⟨kd, s⟩ := x
      simp only at hc hms hset
      have hset' := hset ((n64 kd % 256 : Nat) : Int)
      rw [hms] at hset'
      have hB' := hrel.out.2.setCell (p := ⟨g, k * 2, none⟩) hgB (.int .i64 ((n64 kd % 256 : Nat) : Int))
      have e1 : IntKind.u64.wrap kd = (n64 kd : Int) := n64_wrap kd
      obtain ⟨y, hy⟩ : ∃ y, y = n64 kd % 256 := ⟨_, rfl⟩
      have hy256 : y < 256 := by omega
      have e2 : ((n64 kd : Nat) : Int) % 256 = (y : Int) := by omega
      rw [← hy] at hset' hB'
      have HSet := Lib.hid hset'; have HB := Lib.hid hB'; have Hy := Lib.hid hy
      clear hset' hB' hset hms hml2 hfit hy
      go_wp2_with fail
      go_roundw
      case rel => exact ⟨k + 1, by omega, by go_num, Lib.hid ⟨HSet.out, HB.out⟩⟩
      case measure => simp [intOf]; omega
    · obtain rfl : k = m := by omega
      have hmm : mixL M k = M.map fitS := by unfold mixL; rw [List.take_of_length_le (by rw [Hml.out]; exact Nat.le_refl _), List.drop_of_length_le (by rw [Hml.out]; exact Nat.le_refl _), List.append_nil]
      rw [hmm] at hrel
      clear hmm
      go_wp2_with fail
      go_ret
      exact ⟨_, rfl, by rw [HR.out]; exact hrel.out.1, hrel.out.2⟩
theorem below_drewN {B : Nat} {w A : World} (h : Below B w A) (n : Nat) : Below B w (A.drewN n) := ⟨h.os, h.tape, h.output, h.size, h.block⟩
set_option maxHeartbeats 1000000 in
theorem same_yes (v u : Value) (L : List (Int × ByteArray)) (w : World) (hv : SlS w v L) (hu : SlS w u L) :
    Calls Try.prog 17 #[v, u] w fun e w' => e = .returned (.bool true) ∧ Below w.heap.size w w' := by
  obtain ⟨a, cap, rfl, h1, h2, h3⟩ := id hv
  obtain ⟨a', cap', rfl, h1', h2', h3'⟩ := id hu
  unfold maxLen at h2 h2'
  have HV := Lib.hid hv; have HU := Lib.hid hu
  clear hv hu h3 h3'
  go_enter Try.func17, Try.ntmps17
  go_wp2_with fail
  go_loopw [5] (fun i wr => ∃ k : Nat, k ≤ L.length ∧ i = .int .i64 k ∧ Hid (Below w.heap.size w wr)) (fun i _ => L.length - (intOf i).toNat)
  case atStart => exact ⟨0, Nat.zero_le _, rfl, Lib.hid (Below.refl _ _)⟩
  case round =>
    obtain ⟨k, hk, rfl, hrel⟩ := hrel
    by_cases hlt : k < L.length
    · obtain ⟨ba, oa, ha0, hc1, hc2⟩ : ∃ ba oa, a = some ⟨ba, oa, none⟩ ∧ wr.cell? ⟨ba, oa + k * 2, none⟩ = some (.int .i64 L[k].1) ∧ wr.cell? ⟨ba, oa + k * 2 + 1, none⟩ = some (.string L[k].2) := by
        obtain ⟨a', c', e, _, _, hh⟩ := HV.out.later hrel.out
        obtain ⟨bl, ol, e2, q1, q2⟩ := hh k hlt
        have e3 : a = a' := (Value.slice.inj e).1
        exact ⟨bl, ol, by rw [e3, e2], q1, q2⟩
      obtain ⟨bb, ob, hb0, hd1, hd2⟩ : ∃ ba oa, a' = some ⟨ba, oa, none⟩ ∧ wr.cell? ⟨ba, oa + k * 2, none⟩ = some (.int .i64 L[k].1) ∧ wr.cell? ⟨ba, oa + k * 2 + 1, none⟩ = some (.string L[k].2) := by
        obtain ⟨a', c', e, _, _, hh⟩ := HU.out.later hrel.out
        obtain ⟨bl, ol, e2, q1, q2⟩ := hh k hlt
        have e3 := (Value.slice.inj e).1
        exact ⟨bl, ol, by rw [e3, e2], q1, q2⟩
      subst ha0 hb0
      have i1 : (0 : Int) ≤ (k : Int) := by omega
      have i2 : (k : Int) < (L.length : Int) := by omega
      generalize L[k] = x at *
      obtain ⟨kd, s⟩ := x
      simp only at hc1 hc2 hd1 hd2
      go_wp2_with fail
      go_quiet (fail)
      go_wp2_with fail
      go_roundw
      case rel => exact ⟨k + 1, by omega, by go_num, Lib.hid (below_drewN hrel.out _)⟩
      case measure => simp [intOf]; omega
    · obtain rfl : k = L.length := by omega
      go_wp2_with fail
      go_ret
      exact ⟨rfl, hrel.out⟩
end Go.Proofs.Ytaikcehdomaebaa
