/- frame, in plain words: bits turned within 32 in a row. -/
import Derived.Test.YtaikcehdomaebaaFrBack
namespace Go.Proofs.Ytaikcehdomaebaa
open Go.RowKit
theorem low_xor (p a b c : Nat) (ha : a < 2 ^ p) (hb : b < 2 ^ p) : (a + 2 ^ p * c) ^^^ (b + 2 ^ p * c) = a ^^^ b := by
  have e : ∀ x, x < 2 ^ p → x + 2 ^ p * c = 2 ^ p * c ^^^ x := fun x hx => by
    have h := Crc.split_xor p (x + 2 ^ p * c)
    rw [Nat.add_mul_div_left _ _ (Nat.two_pow_pos p), Nat.div_eq_of_lt hx, Nat.zero_add, Nat.add_mul_mod_self_left, Nat.mod_eq_of_lt hx] at h
    exact h
  rw [e a ha, e b hb, Crc.xor_swap, Nat.xor_self, Nat.zero_xor]
theorem high_xor (p a b c : Nat) (ha : a < 2 ^ p) : (a + 2 ^ p * b) ^^^ (a + 2 ^ p * c) = 2 ^ p * (b ^^^ c) := by
  have e : ∀ x, a + 2 ^ p * x = 2 ^ p * x ^^^ a := fun x => by
    have h := Crc.split_xor p (a + 2 ^ p * x)
    rw [Nat.add_mul_div_left _ _ (Nat.two_pow_pos p), Nat.div_eq_of_lt ha, Nat.zero_add, Nat.add_mul_mod_self_left, Nat.mod_eq_of_lt ha] at h
    exact h
  rw [e b, e c, Crc.xor_swap, Nat.xor_self, Nat.xor_zero, Crc.mul_xor]
theorem xor_move {a b c : Nat} (h : b = a ^^^ c) : a ^^^ b = c := Crc.xor_cancel a b c h
theorem xor_back {a b c : Nat} (h : a ^^^ b = c) : b = a ^^^ c := by rw [← h, ← Nat.xor_assoc, Nat.xor_self, Nat.zero_xor]
/-- the part in the midst: its numbers differ within 32 bits -/
theorem mid_ne {A B B' C : List UInt8} {at_ W : Nat} (hl : B.length = B'.length) (h : Crc.num (A ++ B' ++ C) = Crc.num (A ++ B ++ C) ^^^ 2 ^ at_ * W) (hW : W ≠ 0) (hW2 : W < 4294967296) : Crc.sum B ≠ Crc.sum B' := by
  have hx := xor_move h
  rw [List.append_assoc, List.append_assoc, Crc.num_append, Crc.num_append A, high_xor _ _ _ _ (Crc.num_lt A), Crc.num_append, Crc.num_append B', ← hl, low_xor _ _ _ _ (Crc.num_lt B) (by rw [hl]; exact Crc.num_lt B')] at hx
  have hlt : Crc.num B ^^^ Crc.num B' < 2 ^ (8 * B.length) := Nat.xor_lt_two_pow (Crc.num_lt B) (by rw [hl]; exact Crc.num_lt B')
  generalize hE : Crc.num B ^^^ Crc.num B' = E at *
  generalize 8 * A.length = p at *
  by_cases hp : p ≤ at_
  · have e : 2 ^ at_ = 2 ^ p * 2 ^ (at_ - p) := by rw [← Nat.pow_add]; congr 1; omega
    rw [e, Nat.mul_assoc] at hx
    have hE2 := Nat.eq_of_mul_eq_mul_left (Nat.two_pow_pos p) hx
    exact Crc.sum_ne B B' hl (at_ - p) W (by rw [← hE2]; exact xor_back hE) hW hW2 (by rw [← hE2]; exact hlt)
  · have e : 2 ^ p = 2 ^ at_ * 2 ^ (p - at_) := by rw [← Nat.pow_add]; congr 1; omega
    rw [e, Nat.mul_assoc] at hx
    have hE2 := Nat.eq_of_mul_eq_mul_left (Nat.two_pow_pos at_) hx
    have hEW : E ≤ W := by rw [← hE2]; exact Nat.le_mul_of_pos_left _ (Nat.two_pow_pos _)
    have hE0 : E ≠ 0 := fun h0 => by rw [h0, Nat.mul_zero] at hE2; exact hW hE2.symm
    exact Crc.sum_ne B B' hl 0 E (by rw [Nat.pow_zero, Nat.one_mul]; exact xor_back hE) hE0 (by omega) (by rw [Nat.pow_zero, Nat.one_mul]; exact hlt)
/-- alike but from f to la -/
def Out (S T : List UInt8) (f la : Int) : Prop := ∀ i : Nat, ((i : Int) < f ∨ la < i) → T[i]? = S[i]?
theorem Out.take {S T : List UInt8} {f la : Int} (h : Out S T f la) (n : Nat) (hn : (n : Int) ≤ f) : T.take n = S.take n := by
  apply List.ext_getElem?
  intro i
  by_cases hi : i < n
  · rw [List.getElem?_take_of_lt hi, List.getElem?_take_of_lt hi]; exact h i (.inl (by omega))
  · rw [List.getElem?_take_eq_none (by omega), List.getElem?_take_eq_none (by omega)]
theorem Out.drop {S T : List UInt8} {f la : Int} (h : Out S T f la) (n : Nat) (hn : la < n) : T.drop n = S.drop n := by
  apply List.ext_getElem?
  intro i
  rw [List.getElem?_drop, List.getElem?_drop]
  exact h (n + i) (.inr (by omega))
theorem RS.take_len {R : RS} {n : Nat} (hf : R.f = none) (h : R.at_ + n ≤ R.s.size) : (R.take (n : Int)).2 = ⟨R.s, R.at_ + n, none⟩ := by
  rw [RS.take_ok hf (by omega) (by omega), Int.toNat_natCast]
  obtain ⟨s, p, f⟩ := R
  simp only at hf
  subst hf
  rfl
theorem RS.num_len {R : RS} {n : Nat} (hf : R.f = none) (h : R.at_ + n ≤ R.s.size) : (R.num n).2 = ⟨R.s, R.at_ + n, none⟩ := RS.take_len hf h
theorem RS.ents_len {R : RS} (hf : R.f = none) : ∀ k, R.at_ + 13 * k ≤ R.s.size → (R.ents k).2 = ⟨R.s, R.at_ + 13 * k, none⟩ := by
  intro k
  induction k with
  | zero =>
    intro _
    obtain ⟨s, p, f⟩ := R
    simp only at hf
    subst hf
    rfl
  | succ k ih =>
    intro h
    have h0 := ih (by omega)
    show ((((R.ents k).2.num 1).2.num 8).2.num 4).2 = _
    rw [h0, RS.num_len (R := ⟨R.s, R.at_ + 13 * k, none⟩) rfl (by show R.at_ + 13 * k + 1 ≤ R.s.size; omega)]
    rw [RS.num_len (R := ⟨R.s, R.at_ + 13 * k + 1, none⟩) rfl (by show R.at_ + 13 * k + 1 + 8 ≤ R.s.size; omega)]
    rw [RS.num_len (R := ⟨R.s, R.at_ + 13 * k + 1 + 8, none⟩) rfl (by show R.at_ + 13 * k + 1 + 8 + 4 ≤ R.s.size; omega)]
    simp only [RS.mk.injEq, and_true, true_and]
    omega
/-- the bytes of sections, part by part -/
theorem encB_parts (M : List (Int × ByteArray)) : encB M = [77, 73, 76, 69, 49, 1] ++ (leb M.length 1 ++ ((M.map enOf).flatMap enB ++ (leb (Crc.sum (headB M)) 4 ++ bodyB M))) := by
  unfold encB
  rw [show headB M = [77, 73, 76, 69, 49, 1] ++ leb M.length 1 ++ M.flatMap entS from rfl, flat_enB]
  simp only [List.append_assoc]
theorem headB_len (M : List (Int × ByteArray)) : (headB M).length = 7 + 13 * M.length := by
  unfold headB
  rw [List.length_append, List.length_append, leb_length, flat_len]
  simp
theorem take_more {T S : List UInt8} {n m : Nat} (h : T.take n = S.take n) (hm : m ≤ n) : T.take m = S.take m := by
  have := congrArg (List.take m) h
  rwa [List.take_take, List.take_take, show min m n = m by omega] at this
theorem take_app {T S : List UInt8} {n : Nat} (h : T.take n = S.take n) (hs : S.length = T.length) : ∃ C C', S = S.take n ++ C ∧ T = S.take n ++ C' ∧ C.length = C'.length := by
  refine ⟨S.drop n, T.drop n, (List.take_append_drop _ _).symm, ?_, by rw [List.length_drop, List.length_drop, hs]⟩
  rw [← h]; exact (List.take_append_drop _ _).symm
theorem head_none_of (T : List UInt8) (h6 : T.take 6 ≠ [77, 73, 76, 69, 49, 1]) : (decV ⟨T.toArray⟩).1 = 23 := by
  have hh : RS.head ⟨⟨T.toArray⟩, 0, none⟩ = none := by
    unfold RS.head
    rw [if_neg]
    intro e
    by_cases hl : T.length < 6
    · rw [RS.take_short rfl (by decide) (by show ((T.length : Nat) : Int) - 0 < 6; omega)] at e
      exact absurd (show (0 : Nat) = 6 from congrArg ByteArray.size e) (by decide)
    · rw [RS.take_ok rfl (by decide) (by show ¬ ((T.length : Nat) : Int) - 0 < 6; omega)] at e
      have e2 := congrArg (fun b : ByteArray => b.data.toList) e
      simp only at e2
      have e3 := ex_toList ⟨T.toArray⟩ 0 6
      rw [List.drop_zero] at e3
      apply h6
      have e4 : (ByteArray.extract ⟨T.toArray⟩ 0 (0 + 6)).data.toList = firstB.data.toList := e2
      rw [e3] at e4
      exact e4
  unfold decV
  rw [hh]
/-- turned in the head: what is decoded is none -/
theorem burst_head (M : List (Int × ByteArray)) (T : List UInt8) (f la : Int) (at_ W : Nat) (h16 : M.length ≤ 16) (hTl : T.length = (encB M).length) (hN : Crc.num T = Crc.num (encB M) ^^^ 2 ^ at_ * W) (hW : W ≠ 0) (hW2 : W < 4294967296)
    (ho : Out (encB M) T f la) (hla : la < 7 + 13 * (M.length : Int)) (h6 : la < 6 ∨ 6 < f) : (decV ⟨T.toArray⟩).1 = 23 := by
  have hel := encB_len M
  have hTS : T ≠ encB M := fun e => by
    rw [e] at hN
    have := xor_move hN
    rw [Nat.xor_self] at this
    have h2 := Nat.two_pow_pos at_
    rcases Nat.mul_eq_zero.1 this.symm with h | h
    · omega
    · exact hW h
  have hp := encB_parts M
  rcases h6 with h6 | h6
  · refine head_none_of T (fun e => hTS ?_)
    have hd := ho.drop 6 (by omega)
    rw [← List.take_append_drop 6 T, ← List.take_append_drop 6 (encB M), hd, e, hp]
    rfl
  · have ht7 := ho.take 7 (by omega)
    have he := ho.drop (7 + 13 * M.length) (by omega)
    have hS7 : (encB M).take 7 = [77, 73, 76, 69, 49, 1] ++ leb M.length 1 := by
      rw [hp, ← List.append_assoc, List.take_left' (by rw [List.length_append, leb_length]; rfl)]
    have hSe : (encB M).drop (7 + 13 * M.length) = leb (Crc.sum (headB M)) 4 ++ bodyB M := by
      unfold encB
      rw [List.append_assoc, List.drop_left' (headB_len M)]
    have hH : (encB M).take (7 + 13 * M.length) = headB M := by
      unfold encB
      rw [List.append_assoc, List.take_left' (headB_len M)]
    rw [hS7] at ht7
    rw [hSe] at he
    have hT0 : T = [77, 73, 76, 69, 49, 1] ++ (leb M.length 1 ++ T.drop 7) := by
      rw [← List.append_assoc, ← ht7, List.take_append_drop]
    have hsum : Crc.sum (headB M) ≠ Crc.sum (T.take (7 + 13 * M.length)) := by
      refine mid_ne (A := []) (C := (encB M).drop (7 + 13 * M.length)) (at_ := at_) (W := W) (by rw [headB_len, List.length_take, hTl, hel]; omega) ?_ hW hW2
      rw [List.nil_append, List.nil_append, ← hH, List.take_append_drop, hSe, ← he, List.take_append_drop]
      exact hN
    generalize hs : (⟨T.toArray⟩ : ByteArray) = s
    have hsl : s.data.toList = T := by rw [← hs]
    have hss : s.size = T.length := by rw [← hs]; rfl
    have t6 := RS.take_fwd (R := ⟨s, 0, none⟩) (a := [77, 73, 76, 69, 49, 1]) (b := leb M.length 1 ++ T.drop 7) rfl (by show s.data.toList.drop 0 = _; rw [List.drop_zero, hsl]; exact hT0) (Nat.zero_le _)
    have t6' : RS.take ⟨s, 0, none⟩ 6 = (firstB, ⟨s, 6, none⟩) := t6
    have d6 : s.data.toList.drop 6 = leb M.length 1 ++ T.drop 7 := by rw [hsl, hT0]; rfl
    have n1 := RS.num_fwd (R := ⟨s, 6, none⟩) rfl d6 (by show 6 ≤ s.size; omega) (show M.length < 256 ^ 1 by omega)
    have el := RS.ents_len (R := ⟨s, 7, none⟩) rfl M.length (by show 7 + 13 * M.length ≤ s.size; omega)
    have de : s.data.toList.drop (7 + 13 * M.length) = leb (Crc.sum (headB M)) 4 ++ bodyB M := by rw [hsl]; exact he
    have n4 := RS.num_fwd (R := ⟨s, 7 + 13 * M.length, none⟩) rfl de (by show 7 + 13 * M.length ≤ s.size; omega) (show Crc.sum (headB M) < 256 ^ 4 from Crc.sum_lt _)
    have hex : (s.extract 0 (7 + 13 * M.length)).data.toList = T.take (7 + 13 * M.length) := by
      have := ex_toList s 0 (7 + 13 * M.length)
      rw [Nat.zero_add, List.drop_zero, hsl] at this
      exact this
    have hhead : RS.head ⟨s, 0, none⟩ = some ((RS.ents ⟨s, 7, none⟩ M.length).1, ⟨s, 7 + 13 * M.length, none⟩) := by
      unfold RS.head
      rw [t6']; simp only
      rw [if_pos trivial, n1]; simp only
      rw [if_pos h16]
      rw [← el]
    unfold decV
    rw [hhead]; simp only
    rw [n4]; simp only
    rw [if_neg (by simp), hex, if_pos hsum]
def offB (M : List (Int × ByteArray)) (k : Nat) : Nat := 11 + 13 * M.length + (bodyB (M.take k)).length
theorem body_split (M : List (Int × ByteArray)) (k : Nat) (hk : k < M.length) : bodyB M = bodyB (M.take k) ++ (M[k].2.data.toList ++ bodyB (M.drop (k + 1))) := by
  have h : M = M.take k ++ (M[k] :: M.drop (k + 1)) := by rw [← List.drop_eq_getElem_cons hk, List.take_append_drop]
  have h2 : ∀ a b : List (Int × ByteArray), bodyB (a ++ b) = bodyB a ++ bodyB b := fun a b => by unfold bodyB; rw [List.flatMap_append]
  conv => lhs; rw [h]
  rw [h2]
  rfl
theorem bodyB_len_of (M N : List (Int × ByteArray)) (h : N.map enOf = M.map enOf) (k : Nat) : (bodyB (N.take k)).length = (bodyB (M.take k)).length := by
  rw [← sumL_body, ← sumL_body, List.map_take, List.map_take, h]
/-- turned in one body: the sum is wrong -/
theorem burst_body (M : List (Int × ByteArray)) (hok : okL M = true) (hsz : ∀ x ∈ M, x.2.size ≤ 1000000) (T : List UInt8) (f la : Int) (at_ W : Nat) (hTl : T.length = (encB M).length) (hN : Crc.num T = Crc.num (encB M) ^^^ 2 ^ at_ * W) (hW : W ≠ 0) (hW2 : W < 4294967296)
    (ho : Out (encB M) T f la) (k : Nat) (hk : k < M.length) (hf : (offB M k : Int) ≤ f) (hla : la < (offB M k : Int) + M[k].2.size) : (decV ⟨T.toArray⟩).1 = 24 := by
  have hel := encB_len M
  have h16 : M.length ≤ 16 := by
    unfold okL at hok
    rw [Bool.and_eq_true] at hok
    exact of_decide_eq_true hok.1
  have hen : ∀ x ∈ M.map enOf, enOk x := fun y hy => by
    obtain ⟨x, hx, rfl⟩ := List.mem_map.1 hy
    unfold okL at hok
    rw [Bool.and_eq_true, List.all_eq_true] at hok
    have h1 := hok.2 x hx
    unfold goodK at h1
    rw [Bool.and_eq_true] at h1
    have h10 := of_decide_eq_true h1.1
    have h11 := of_decide_eq_true h1.2
    have h2 := hsz x hx
    refine ⟨?_, by show x.2.size < _; omega, Crc.sum_lt x.2.data.toList⟩
    show n64 x.1 < 256
    obtain ⟨N, hN⟩ := Int.eq_ofNat_of_zero_le h10
    rw [hN, n64_nat N (by omega)]; omega
  have hp := encB_parts M
  have hbs := body_split M k hk
  have hbl := congrArg List.length hbs
  rw [List.length_append, List.length_append, ba_size] at hbl
  have ht := ho.take (offB M k) hf
  have hd := ho.drop (offB M k + M[k].2.size) (by omega)
  have hta := take_more ht (m := 11 + 13 * M.length) (by unfold offB; omega)
  -- the head, as it was
  have hS11 : (encB M).take (11 + 13 * M.length) = [77, 73, 76, 69, 49, 1] ++ (leb M.length 1 ++ ((M.map enOf).flatMap enB ++ leb (Crc.sum (headB M)) 4)) := by
    have hbl2 := flat_len M
    rw [flat_enB] at hbl2
    rw [hp]
    rw [show [77, 73, 76, 69, 49, 1] ++ (leb M.length 1 ++ ((M.map enOf).flatMap enB ++ (leb (Crc.sum (headB M)) 4 ++ bodyB M))) = ([77, 73, 76, 69, 49, 1] ++ (leb M.length 1 ++ ((M.map enOf).flatMap enB ++ leb (Crc.sum (headB M)) 4))) ++ bodyB M by simp only [List.append_assoc]]
    rw [List.take_left']
    simp only [List.length_append, leb_length, List.length_cons, List.length_nil, hbl2]
    omega
  rw [hS11] at hta
  generalize hs : (⟨T.toArray⟩ : ByteArray) = s
  have hsl : s.data.toList = T := by rw [← hs]
  have hss : s.size = T.length := by rw [← hs]; rfl
  have hT0 : T = [77, 73, 76, 69, 49, 1] ++ (leb M.length 1 ++ ((M.map enOf).flatMap enB ++ (leb (Crc.sum (headB M)) 4 ++ T.drop (11 + 13 * M.length)))) := by
    conv => lhs; rw [← List.take_append_drop (11 + 13 * M.length) T, hta]
    simp only [List.append_assoc]
  generalize hTd : T.drop (11 + 13 * M.length) = D at *
  have hbl2 := flat_len M
  rw [flat_enB] at hbl2
  have t6 := RS.take_fwd (R := ⟨s, 0, none⟩) (a := [77, 73, 76, 69, 49, 1]) rfl (by show s.data.toList.drop 0 = _; rw [List.drop_zero, hsl]; exact hT0) (Nat.zero_le _)
  have t6' : RS.take ⟨s, 0, none⟩ 6 = (firstB, ⟨s, 6, none⟩) := t6
  have d6 : s.data.toList.drop 6 = leb M.length 1 ++ ((M.map enOf).flatMap enB ++ (leb (Crc.sum (headB M)) 4 ++ D)) := by rw [hsl, hT0]; rfl
  have n1 := RS.num_fwd (R := ⟨s, 6, none⟩) rfl d6 (by show 6 ≤ s.size; omega) (show M.length < 256 ^ 1 by omega)
  have d7 : s.data.toList.drop 7 = (M.map enOf).flatMap enB ++ (leb (Crc.sum (headB M)) 4 ++ D) := by
    rw [show 7 = 6 + 1 from rfl, ← List.drop_drop, d6, List.drop_left' (leb_length _ _)]
  obtain ⟨e1, e2, e3⟩ := RS.ents_fwd (R := ⟨s, 7, none⟩) hen rfl d7 (by show 7 ≤ s.size; omega) M.length (by rw [List.length_map]; exact Nat.le_refl _)
  have hhead : RS.head ⟨s, 0, none⟩ = some (M.map enOf, ⟨s, 7 + 13 * M.length, none⟩) := by
    unfold RS.head
    rw [t6']; simp only
    rw [if_pos trivial, n1]; simp only
    rw [if_pos h16, e1, List.take_of_length_le (by rw [List.length_map]; exact Nat.le_refl _)]
  have e2' : s.data.toList.drop (7 + 13 * M.length) = leb (Crc.sum (headB M)) 4 ++ D := by
    simp only at e2
    rw [e2, List.drop_of_length_le (by rw [List.length_map]; exact Nat.le_refl _)]; rfl
  have n4 := RS.num_fwd (R := ⟨s, 7 + 13 * M.length, none⟩) rfl e2' e3 (show Crc.sum (headB M) < 256 ^ 4 from Crc.sum_lt _)
  have hex : (s.extract 0 (7 + 13 * M.length)).data.toList = headB M := by
    have h0 := ex_toList s 0 (7 + 13 * M.length)
    rw [Nat.zero_add, List.drop_zero, hsl] at h0
    have h1 := take_more ht (m := 7 + 13 * M.length) (by unfold offB; omega)
    rw [h0, h1]
    unfold encB
    rw [List.append_assoc, List.take_left' (headB_len M)]
  have hds : dsum (M.map enOf) (s.size - (7 + 13 * M.length + 4)) = some 0 := by
    rw [dsum_iff, sumL_body]; omega
  unfold decV
  rw [hhead]; simp only
  rw [n4]; simp only
  rw [hex, if_neg (by simp), if_neg (by simp), if_neg (by rw [Decidable.not_not]; exact hds)]
  split
  · rfl
  · exfalso
    rename_i L' hb
    obtain ⟨i1, i2, _⟩ := RS.bods_bwd (M.map enOf) ⟨s, 7 + 13 * M.length + 4, none⟩ L' hen rfl (by rw [sumL_body]; show 7 + 13 * M.length + 4 + (bodyB M).length = s.size; omega) hb
    have i2' : D = bodyB L' := by
      rw [← i2, hsl, ← hTd]
      show T.drop (11 + 13 * M.length) = T.drop (7 + 13 * M.length + 4)
      congr 1; omega
    have hlL : L'.length = M.length := by have := congrArg List.length i1; simpa using this
    have hk' : k < L'.length := by omega
    have hsp := body_split L' k hk'
    have hpl := bodyB_len_of M L' i1 k
    have hek : enOf (L'[k]'hk') = enOf M[k] := by
      have h0 := congrArg (fun l : List En => l[k]?) i1
      simp only [List.getElem?_map, List.getElem?_eq_getElem hk', List.getElem?_eq_getElem hk, Option.map_some, Option.some.injEq] at h0
      exact h0
    have hsz2 : (L'[k]'hk').2.size = M[k].2.size := congrArg (fun x : En => x.2.1) hek
    have hsm2 : Crc.sum (L'[k]'hk').2.data.toList = Crc.sum M[k].2.data.toList := congrArg (fun x : En => x.2.2) hek
    -- the midst
    have hSm : encB M = (encB M).take (offB M k) ++ M[k].2.data.toList ++ (encB M).drop (offB M k + M[k].2.size) := by
      have h1 : ((encB M).drop (offB M k)).take M[k].2.size = M[k].2.data.toList := by
        have h2 : (encB M).drop (11 + 13 * M.length) = bodyB M := by
          unfold encB
          rw [List.drop_left' (by rw [List.length_append, headB_len, leb_length]; omega)]
        unfold offB
        rw [← List.drop_drop, h2, hbs, List.drop_left' rfl, List.take_left' (ba_size _)]
      rw [← h1, ← List.drop_drop, List.append_assoc, List.take_append_drop, List.take_append_drop]
    have hTm : T = (encB M).take (offB M k) ++ (L'[k]'hk').2.data.toList ++ (encB M).drop (offB M k + M[k].2.size) := by
      have h1 : (T.drop (offB M k)).take M[k].2.size = (L'[k]'hk').2.data.toList := by
        unfold offB
        rw [← List.drop_drop, hTd, i2', hsp, List.drop_left' hpl, List.take_left' (by rw [ba_size]; exact hsz2)]
      rw [← h1, ← ht, ← hd, ← List.drop_drop, List.append_assoc, List.take_append_drop, List.take_append_drop]
    have hN' : Crc.num ((encB M).take (offB M k) ++ (L'[k]'hk').2.data.toList ++ (encB M).drop (offB M k + M[k].2.size)) = Crc.num ((encB M).take (offB M k) ++ M[k].2.data.toList ++ (encB M).drop (offB M k + M[k].2.size)) ^^^ 2 ^ at_ * W := by
      rw [← hSm, ← hTm]; exact hN
    exact mid_ne (by rw [ba_size, ba_size]; exact hsz2.symm) hN' hW hW2 hsm2.symm
end Go.Proofs.Ytaikcehdomaebaa
