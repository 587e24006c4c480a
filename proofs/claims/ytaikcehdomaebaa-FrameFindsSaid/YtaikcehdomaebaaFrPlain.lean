/- frame, in plain words: what decV finds in what encB puts; and that what decV finds is put to the same bytes again. -/
import Derived.Test.YtaikcehdomaebaaFrDecA
namespace Go.Proofs.Ytaikcehdomaebaa
open Go.RowKit
theorem leb_deb : ∀ l : List UInt8, leb (deb l) l.length = l
  | [] => rfl
  | b :: l => by
    have hb := b.toNat_lt
    show UInt8.ofNat ((b.toNat + 256 * deb l) % 256) :: leb ((b.toNat + 256 * deb l) / 256) l.length = b :: l
    rw [show (b.toNat + 256 * deb l) % 256 = b.toNat by omega, show (b.toNat + 256 * deb l) / 256 = deb l by omega, leb_deb l, UInt8.ofNat_toNat]
theorem ba_toList (l : List UInt8) : (⟨l.toArray⟩ : ByteArray).data.toList = l := rfl
theorem ba_size (s : ByteArray) : s.data.toList.length = s.size := rfl
theorem ba_mk (s : ByteArray) : (⟨s.data.toList.toArray⟩ : ByteArray) = s := rfl
theorem ex_toList (s : ByteArray) (i n : Nat) : (s.extract i (i + n)).data.toList = (s.data.toList.drop i).take n := by
  rw [ByteArray.data_extract, Array.toList_extract]
  simp
theorem ba_ext {s t : ByteArray} (h : s.data.toList = t.data.toList) : s = t := by
  cases s; cases t
  simp only at h
  congr 1
  exact Array.ext' h
/-- what is read where it lies -/
theorem RS.take_fwd {R : RS} {a b : List UInt8} (hf : R.f = none) (hr : R.s.data.toList.drop R.at_ = a ++ b) (hle : R.at_ ≤ R.s.size) : R.take (a.length : Int) = (⟨a.toArray⟩, ⟨R.s, R.at_ + a.length, none⟩) := by
  have hl := congrArg List.length hr
  rw [List.length_drop, ba_size, List.length_append] at hl
  rw [RS.take_ok hf (by omega) (by omega)]
  rw [Int.toNat_natCast]
  have e1 : R.s.extract R.at_ (R.at_ + a.length) = ⟨a.toArray⟩ := by
    apply ba_ext
    rw [ex_toList, hr, ba_toList]
    simp
  rw [e1]
  obtain ⟨s, p, f⟩ := R
  simp only at hf
  subst hf
  rfl
theorem RS.take_bwd {R : RS} {n : Int} (h : (R.take n).2.f = none) : R.f = none ∧ 0 ≤ n ∧ (R.take n).1.size = n.toNat ∧ (R.take n).2 = ⟨R.s, R.at_ + n.toNat, none⟩ ∧ R.s.data.toList.drop R.at_ = (R.take n).1.data.toList ++ R.s.data.toList.drop (R.at_ + n.toNat) ∧ R.at_ + n.toNat ≤ R.s.size := by
  by_cases h0 : R.f.isSome = true
  · rw [RS.take_f h0] at h
    simp only at h
    rw [h] at h0; cases h0
  have hf : R.f = none := by simpa using h0
  by_cases h1 : n < 0
  · rw [RS.take_neg hf h1] at h; cases h
  by_cases h2 : (R.s.size : Int) - R.at_ < n
  · rw [RS.take_short hf h1 h2] at h; cases h
  rw [RS.take_ok hf h1 h2]
  refine ⟨hf, by omega, ?_, ?_, ?_, by omega⟩
  · rw [ByteArray.size_extract]; omega
  · obtain ⟨s, p, f⟩ := R
    simp only at hf
    subst hf
    rfl
  · rw [ex_toList, ← List.drop_drop, List.take_append_drop]
theorem RS.num_fwd {R : RS} {k n : Nat} {b : List UInt8} (hf : R.f = none) (hr : R.s.data.toList.drop R.at_ = leb n k ++ b) (hle : R.at_ ≤ R.s.size) (hn : n < 256 ^ k) : R.num k = (n, ⟨R.s, R.at_ + k, none⟩) := by
  have h := RS.take_fwd hf hr hle
  rw [leb_length] at h
  unfold RS.num
  rw [h]
  show (deb (⟨(leb n k).toArray⟩ : ByteArray).data.toList, _) = _
  rw [ba_toList, deb_leb k n hn]
theorem RS.num_bwd {R : RS} {k : Nat} (h : (R.num k).2.f = none) : R.f = none ∧ (R.num k).2 = ⟨R.s, R.at_ + k, none⟩ ∧ R.s.data.toList.drop R.at_ = leb (R.num k).1 k ++ R.s.data.toList.drop (R.at_ + k) ∧ R.at_ + k ≤ R.s.size ∧ (R.num k).1 < 256 ^ k := by
  obtain ⟨h1, _, h3, h4, h5, h6⟩ := RS.take_bwd (R := R) (n := (k : Int)) h
  rw [Int.toNat_natCast] at h3 h4 h5 h6
  refine ⟨h1, h4, ?_, h6, R.num_lt k⟩
  have e : leb (R.num k).1 k = (R.take (k : Int)).1.data.toList := by
    have := leb_deb (R.take (k : Int)).1.data.toList
    rw [ba_size, h3] at this
    exact this
  rw [e]; exact h5
/-- an entry's bytes -/
def enB (x : En) : List UInt8 := leb x.1 1 ++ leb x.2.1 8 ++ leb x.2.2 4
theorem enB_len (x : En) : (enB x).length = 13 := by unfold enB; simp [leb_length]
def enOk (x : En) : Prop := x.1 < 256 ∧ x.2.1 < 18446744073709551616 ∧ x.2.2 < 4294967296
theorem RS.ent_fwd {R : RS} {x : En} {b : List UInt8} (hx : enOk x) (hf : R.f = none) (hr : R.s.data.toList.drop R.at_ = enB x ++ b) (hle : R.at_ ≤ R.s.size) : R.ent = (x, ⟨R.s, R.at_ + 13, none⟩) := by
  obtain ⟨k, l, c⟩ := x
  obtain ⟨h1, h2, h3⟩ := hx
  simp only at h1 h2 h3
  have hl := congrArg List.length hr
  rw [List.length_drop, ba_size, List.length_append, enB_len] at hl
  unfold enB at hr
  simp only [List.append_assoc] at hr
  have e1 := RS.num_fwd hf hr hle h1
  have r1 : R.s.data.toList.drop (R.at_ + 1) = leb l 8 ++ (leb c 4 ++ b) := by
    rw [← List.drop_drop, hr, List.drop_left' (leb_length _ _)]
  have e2 := RS.num_fwd (R := ⟨R.s, R.at_ + 1, none⟩) rfl r1 (by show R.at_ + 1 ≤ R.s.size; omega) h2
  have r2 : R.s.data.toList.drop (R.at_ + 1 + 8) = leb c 4 ++ b := by
    rw [← List.drop_drop, r1, List.drop_left' (leb_length _ _)]
  have e3 := RS.num_fwd (R := ⟨R.s, R.at_ + 1 + 8, none⟩) rfl r2 (by show R.at_ + 1 + 8 ≤ R.s.size; omega) h3
  unfold RS.ent
  rw [e1]; simp only
  rw [e2]; simp only
  rw [e3]
theorem RS.ent_bwd {R : RS} (h : R.ent.2.f = none) : R.f = none ∧ R.ent.2 = ⟨R.s, R.at_ + 13, none⟩ ∧ R.s.data.toList.drop R.at_ = enB R.ent.1 ++ R.s.data.toList.drop (R.at_ + 13) ∧ R.at_ + 13 ≤ R.s.size ∧ enOk R.ent.1 := by
  unfold RS.ent at h ⊢
  simp only at h ⊢
  obtain ⟨a1, a2, a3, a4, a5⟩ := RS.num_bwd h
  obtain ⟨b1, b2, b3, b4, b5⟩ := RS.num_bwd a1
  obtain ⟨c1, c2, c3, c4, c5⟩ := RS.num_bwd b1
  rw [b2] at a2 a3 a4
  rw [c2] at a2 a3 a4 b3 b4
  simp only at a2 a3 a4 b3 b4
  refine ⟨c1, by rw [b2, c2] at *; exact a2, ?_, a4, c5, b5, a5⟩
  unfold enB
  simp only [List.append_assoc]
  rw [c3, b3, a3, b2, c2]
theorem RS.ents_fwd {R : RS} {es : List En} {b : List UInt8} (hx : ∀ x ∈ es, enOk x) (hf : R.f = none) (hr : R.s.data.toList.drop R.at_ = es.flatMap enB ++ b) (hle : R.at_ ≤ R.s.size) : ∀ k, k ≤ es.length → R.ents k = (es.take k, ⟨R.s, R.at_ + 13 * k, none⟩) ∧ R.s.data.toList.drop (R.at_ + 13 * k) = (es.drop k).flatMap enB ++ b ∧ R.at_ + 13 * k ≤ R.s.size := by
  intro k
  induction k with
  | zero =>
    intro _
    refine ⟨?_, by simpa using hr, by simpa using hle⟩
    obtain ⟨s, p, f⟩ := R
    simp only at hf
    subst hf
    rfl
  | succ k ih =>
    intro hk
    obtain ⟨e, r, hl⟩ := ih (by omega)
    rw [List.drop_eq_getElem_cons (l := es) (i := k) (by omega), List.flatMap_cons, List.append_assoc] at r
    have hlen := congrArg List.length r
    rw [List.length_drop, ba_size, List.length_append, enB_len] at hlen
    have hz := ba_size R.s
    have hl2 : R.at_ + 13 * k ≤ R.s.size := hl
    have he := RS.ent_fwd (R := ⟨R.s, R.at_ + 13 * k, none⟩) (hx _ (List.getElem_mem (by omega))) rfl r hl
    refine ⟨?_, ?_, by omega⟩
    · show ((R.ents k).1 ++ [(R.ents k).2.ent.1], (R.ents k).2.ent.2) = _
      rw [e]; simp only
      rw [he, List.take_succ_eq_append_getElem (by omega)]
      rfl
    · rw [show R.at_ + 13 * (k + 1) = R.at_ + 13 * k + 13 by omega, ← List.drop_drop, r, List.drop_left' (enB_len _)]
theorem RS.ents_bwd {R : RS} : ∀ k, (R.ents k).2.f = none → R.f = none ∧ (R.ents k).2 = ⟨R.s, R.at_ + 13 * k, none⟩ ∧ R.s.data.toList.drop R.at_ = (R.ents k).1.flatMap enB ++ R.s.data.toList.drop (R.at_ + 13 * k) ∧ (k = 0 ∨ R.at_ + 13 * k ≤ R.s.size) ∧ ∀ x ∈ (R.ents k).1, enOk x := by
  intro k
  induction k with
  | zero =>
    intro h
    refine ⟨h, ?_, by show _ = [] ++ _; rw [List.nil_append]; rfl, .inl rfl, fun x hx => by cases hx⟩
    obtain ⟨s, p, f⟩ := R
    have hf : f = none := h
    subst hf
    rfl
  | succ k ih =>
    intro h
    have h' : (R.ents k).2.ent.2.f = none := h
    obtain ⟨a1, a2, a3, a4, a5⟩ := RS.ent_bwd h'
    obtain ⟨b1, b2, b3, b4, b5⟩ := ih a1
    have g1 : (R.ents (k + 1)).1 = (R.ents k).1 ++ [(R.ents k).2.ent.1] := rfl
    have g2 : (R.ents (k + 1)).2 = (R.ents k).2.ent.2 := rfl
    have hs : (R.ents k).2.s = R.s := by rw [b2]
    have ha : (R.ents k).2.at_ = R.at_ + 13 * k := by rw [b2]
    rw [hs, ha] at a2 a3 a4
    refine ⟨b1, ?_, ?_, .inr (by omega), ?_⟩
    · rw [g2, a2, show R.at_ + 13 * (k + 1) = R.at_ + 13 * k + 13 by omega]
    · rw [g1, List.flatMap_append, b3, a3, show R.at_ + 13 * (k + 1) = R.at_ + 13 * k + 13 by omega]
      simp
    · rw [g1]
      intro x hx
      rcases List.mem_append.1 hx with hx | hx
      · exact b5 x hx
      · rw [List.mem_singleton.1 hx]; exact a5
def sumL (es : List En) : Nat := (es.map fun x => x.2.1).sum
theorem dsum_iff : ∀ (es : List En) (n : Nat), dsum es n = some 0 ↔ sumL es = n
  | [], n => by show (some n = some 0) ↔ (0 = n); constructor
                · intro h; have := Option.some.inj h; omega
                · intro h; rw [h]
  | x :: es, n => by
    unfold dsum
    have hs : sumL (x :: es) = x.2.1 + sumL es := rfl
    rw [hs]
    split
    · rw [dsum_iff es]; omega
    · constructor
      · intro h; cases h
      · intro h; omega
/-- what a section is in the head -/
def enOf (x : Int × ByteArray) : En := (n64 x.1, x.2.size, Crc.sum x.2.data.toList)
theorem entS_enB (x : Int × ByteArray) : entS x = enB (enOf x) := rfl
theorem flat_enB (L : List (Int × ByteArray)) : L.flatMap entS = (L.map enOf).flatMap enB := by rw [List.flatMap_map]; rfl
theorem sumL_body (L : List (Int × ByteArray)) : sumL (L.map enOf) = (bodyB L).length := by
  induction L with
  | nil => rfl
  | cons x L ih =>
    show x.2.size + sumL (L.map enOf) = (x.2.data.toList ++ bodyB L).length
    rw [ih, List.length_append, ba_size]
theorem RS.bods_fwd : ∀ (L : List (Int × ByteArray)) (R : RS), (∀ x ∈ L, 0 ≤ x.1 ∧ x.1 < 18446744073709551616) → R.f = none → R.s.data.toList.drop R.at_ = bodyB L → R.at_ ≤ R.s.size → R.bods (L.map enOf) = some L
  | [], R, _, _, _, _ => rfl
  | x :: L, R, hx, hf, hr, hle => by
    have hr' : R.s.data.toList.drop R.at_ = x.2.data.toList ++ bodyB L := hr
    have hl := congrArg List.length hr'
    rw [List.length_drop, ba_size, List.length_append, ba_size] at hl
    have h1 := RS.take_fwd hf hr' hle
    rw [ba_size, ba_mk] at h1
    rw [List.map_cons, RS.bods_cons]
    have e0 : ((enOf x).2.1 : Int) = (x.2.size : Int) := rfl
    rw [e0, h1]
    simp only
    rw [if_pos (show Crc.sum x.2.data.toList = (enOf x).2.2 from rfl)]
    have r2 : R.s.data.toList.drop (R.at_ + x.2.size) = bodyB L := by
      rw [← List.drop_drop, hr', List.drop_left' (ba_size _)]
    rw [RS.bods_fwd L ⟨R.s, R.at_ + x.2.size, none⟩ (fun y hy => hx y (List.mem_cons_of_mem _ hy)) rfl r2 (by show R.at_ + x.2.size ≤ R.s.size; omega)]
    have hk := hx x List.mem_cons_self
    have e1 : (((enOf x).1 : Nat) : Int) = x.1 := by
      show ((n64 x.1 : Nat) : Int) = x.1
      obtain ⟨N, hN⟩ := Int.eq_ofNat_of_zero_le hk.1
      rw [hN, n64_nat N (by omega)]
    rw [e1]
    rfl
theorem RS.bods_bwd : ∀ (es : List En) (R : RS) (L : List (Int × ByteArray)), (∀ x ∈ es, enOk x) → R.f = none → R.at_ + sumL es = R.s.size → R.bods es = some L → L.map enOf = es ∧ R.s.data.toList.drop R.at_ = bodyB L ∧ ∀ x ∈ L, 0 ≤ x.1 ∧ x.1 < 256
  | [], R, L, _, _, hs, h => by
    obtain rfl : [] = L := Option.some.inj h
    refine ⟨rfl, ?_, fun x hx => by cases hx⟩
    have : R.at_ = R.s.size := by have := hs; simp [sumL] at this; exact this
    rw [this]
    exact List.drop_of_length_le (Nat.le_of_eq (ba_size _))
  | x :: es, R, L, hx, hf, hs, h => by
    have hs' : R.at_ + (x.2.1 + sumL es) = R.s.size := hs
    rw [RS.bods_cons] at h
    split at h
    · rename_i hc
      have hok := RS.take_ok (n := (x.2.1 : Int)) hf (by omega) (by omega)
      have hf2 : (R.take (x.2.1 : Int)).2.f = none := by rw [hok]; exact hf
      obtain ⟨_, _, t3, t4, t5, t6⟩ := RS.take_bwd hf2
      rw [Int.toNat_natCast] at t3 t4 t5 t6
      cases hb : (R.take (x.2.1 : Int)).2.bods es with
      | none => rw [hb] at h; cases h
      | some L' =>
        rw [hb] at h
        obtain rfl := (Option.some.inj h)
        have hs2 : (R.take (x.2.1 : Int)).2.at_ + sumL es = (R.take (x.2.1 : Int)).2.s.size := by rw [t4]; show R.at_ + x.2.1 + sumL es = R.s.size; omega
        obtain ⟨i1, i2, i3⟩ := RS.bods_bwd es _ L' (fun y hy => hx y (List.mem_cons_of_mem _ hy)) hf2 hs2 hb
        have hxo := hx x List.mem_cons_self
        refine ⟨?_, ?_, ?_⟩
        · rw [List.map_cons, i1]
          congr 1
          show (n64 ((x.1 : Nat) : Int), (R.take (x.2.1 : Int)).1.size, Crc.sum (R.take (x.2.1 : Int)).1.data.toList) = x
          rw [n64_nat _ (by have := hxo.1; omega), t3, hc]
        · show _ = (R.take (x.2.1 : Int)).1.data.toList ++ bodyB L'
          rw [t5, ← i2, t4]
        · intro y hy
          rcases List.mem_cons.1 hy with rfl | hy
          · have := hxo.1
            exact ⟨by simp, by show ((x.1 : Nat) : Int) < 256; omega⟩
          · exact i3 y hy
    · cases h
/-- the theorem: sections come back from their bytes -/
theorem decV_enc (L : List (Int × ByteArray)) (hok : okL L = true) (hsz : ∀ x ∈ L, x.2.size ≤ 1000000) : decV ⟨(encB L).toArray⟩ = (0, L) := by
  unfold okL at hok
  rw [Bool.and_eq_true, List.all_eq_true] at hok
  obtain ⟨h16, hgk⟩ := hok
  have h16 : L.length ≤ 16 := of_decide_eq_true h16
  have hk : ∀ x ∈ L, 0 ≤ x.1 ∧ x.1 ≤ 255 := fun x hx => by
    have := hgk x hx
    unfold goodK at this
    rw [Bool.and_eq_true] at this
    exact ⟨of_decide_eq_true this.1, of_decide_eq_true this.2⟩
  have hen : ∀ x ∈ L.map enOf, enOk x := fun y hy => by
    obtain ⟨x, hx, rfl⟩ := List.mem_map.1 hy
    have h1 := hk x hx
    have h2 := hsz x hx
    have h3 := Crc.sum_lt x.2.data.toList
    refine ⟨?_, by show x.2.size < _; omega, h3⟩
    show n64 x.1 < 256
    obtain ⟨N, hN⟩ := Int.eq_ofNat_of_zero_le h1.1
    rw [hN, n64_nat N (by omega)]; omega
  have hcs := Crc.sum_lt (headB L)
  generalize hS : (⟨(encB L).toArray⟩ : ByteArray) = S
  have hSl : S.data.toList = encB L := by rw [← hS]
  have hl0 : S.data.toList = [77, 73, 76, 69, 49, 1] ++ (leb L.length 1 ++ ((L.map enOf).flatMap enB ++ (leb (Crc.sum (headB L)) 4 ++ bodyB L))) := by
    rw [hSl]; unfold encB
    rw [show headB L = [77, 73, 76, 69, 49, 1] ++ leb L.length 1 ++ L.flatMap entS from rfl, flat_enB]
    simp only [List.append_assoc]
  have hbl := flat_len L
  rw [flat_enB] at hbl
  have hlen := congrArg List.length hl0
  simp only [List.length_append, leb_length, List.length_cons, List.length_nil, hbl] at hlen
  have hSs : S.size = S.data.toList.length := rfl
  have t6 := RS.take_fwd (R := ⟨S, 0, none⟩) rfl (by show S.data.toList.drop 0 = _; rw [List.drop_zero]; exact hl0) (Nat.zero_le _)
  have t6' : RS.take ⟨S, 0, none⟩ 6 = (firstB, ⟨S, 6, none⟩) := t6
  have d6 : S.data.toList.drop 6 = leb L.length 1 ++ ((L.map enOf).flatMap enB ++ (leb (Crc.sum (headB L)) 4 ++ bodyB L)) := by rw [hl0]; rfl
  have n1 := RS.num_fwd (R := ⟨S, 6, none⟩) rfl d6 (by show 6 ≤ S.size; omega) (show L.length < 256 ^ 1 by omega)
  have d7 : S.data.toList.drop 7 = (L.map enOf).flatMap enB ++ (leb (Crc.sum (headB L)) 4 ++ bodyB L) := by
    rw [show 7 = 6 + 1 from rfl, ← List.drop_drop, d6, List.drop_left' (leb_length _ _)]
  obtain ⟨e1, e2, e3⟩ := RS.ents_fwd (R := ⟨S, 7, none⟩) hen rfl d7 (by show 7 ≤ S.size; omega) L.length (by rw [List.length_map]; exact Nat.le_refl _)
  have hhead : RS.head ⟨S, 0, none⟩ = some (L.map enOf, ⟨S, 7 + 13 * L.length, none⟩) := by
    unfold RS.head
    rw [t6']; simp only
    rw [if_pos trivial, n1]; simp only
    rw [if_pos h16, e1, List.take_of_length_le (by rw [List.length_map]; exact Nat.le_refl _)]
  simp only at e2 e3
  have e2' : S.data.toList.drop (7 + 13 * L.length) = leb (Crc.sum (headB L)) 4 ++ bodyB L := by
    rw [e2, List.drop_of_length_le (by rw [List.length_map]; exact Nat.le_refl _)]; rfl
  have n4 := RS.num_fwd (R := ⟨S, 7 + 13 * L.length, none⟩) rfl e2' e3 (show Crc.sum (headB L) < 256 ^ 4 from hcs)
  have hhl : (headB L).length = 7 + 13 * L.length := by
    unfold headB
    rw [List.length_append, List.length_append, leb_length, flat_len]
    simp
  have hex : (S.extract 0 (7 + 13 * L.length)).data.toList = headB L := by
    have := ex_toList S 0 (7 + 13 * L.length)
    rw [Nat.zero_add, List.drop_zero, hSl] at this
    rw [this]; unfold encB
    rw [List.append_assoc, List.take_left' hhl]
  have hSz : S.size = 11 + 13 * L.length + (bodyB L).length := by rw [hSs, hlen]; omega
  have d11 : S.data.toList.drop (7 + 13 * L.length + 4) = bodyB L := by
    rw [← List.drop_drop, e2', List.drop_left' (leb_length _ _)]
  unfold decV
  rw [hhead]; simp only
  rw [n4]; simp only
  rw [hex, if_neg (by simp), if_neg (by simp)]
  have hlb := congrArg List.length d11
  rw [List.length_drop, ← hSs] at hlb
  rw [if_neg (by rw [Decidable.not_not, dsum_iff, sumL_body]; omega)]
  rw [RS.bods_fwd L ⟨S, 7 + 13 * L.length + 4, none⟩ (fun x hx => by have := hk x hx; omega) rfl d11 (show 7 + 13 * L.length + 4 ≤ S.size by omega)]
/-- what is found in any bytes is put to the same bytes again -/
theorem enc_decV (s : ByteArray) (L : List (Int × ByteArray)) (h : decV s = (0, L)) : okL L = true ∧ encB L = s.data.toList := by
  unfold decV at h
  split at h
  · exact absurd (congrArg Prod.fst h) (by simp)
  rename_i es R hh
  split at h
  · exact absurd (congrArg Prod.fst h) (by simp)
  rename_i hf4
  split at h
  · exact absurd (congrArg Prod.fst h) (by simp)
  rename_i hsum
  split at h
  · exact absurd (congrArg Prod.fst h) (by simp)
  rename_i hds
  split at h
  · exact absurd (congrArg Prod.fst h) (by simp)
  rename_i L' hbo
  obtain rfl : L' = L := congrArg Prod.snd h
  have hf4' : (R.num 4).2.f = none := by simpa using hf4
  have hsum' : (R.num 4).1 = Crc.sum (s.extract 0 R.at_).data.toList := Decidable.not_not.1 hsum
  have hds' := (dsum_iff _ _).1 (Decidable.not_not.1 hds)
  obtain ⟨a1, a2, a3, a4, a5⟩ := RS.num_bwd hf4'
  unfold RS.head at hh
  split at hh
  rotate_left
  · cases hh
  rename_i hfirst
  split at hh
  rotate_left
  · cases hh
  rename_i h16
  have hh' := Option.some.inj hh
  have q1 : es = (((RS.take ⟨s, 0, none⟩ 6).2.num 1).2.ents ((RS.take ⟨s, 0, none⟩ 6).2.num 1).1).1 := (congrArg Prod.fst hh').symm
  have q2 : R = (((RS.take ⟨s, 0, none⟩ 6).2.num 1).2.ents ((RS.take ⟨s, 0, none⟩ 6).2.num 1).1).2 := (congrArg Prod.snd hh').symm
  rw [q2] at a1
  obtain ⟨b1, b2, b3, b4, b5⟩ := RS.ents_bwd _ a1
  rw [← q1] at b3 b5
  rw [← q2] at b2
  obtain ⟨c1, c2, c3, c4, c5⟩ := RS.num_bwd b1
  obtain ⟨_, _, t3, t4, t5, t6⟩ := RS.take_bwd c1
  have hel : es.length = ((RS.take ⟨s, 0, none⟩ 6).2.num 1).1 := by rw [q1, RS.ents_length]
  generalize ((RS.take ⟨s, 0, none⟩ 6).2.num 1).1 = many at *
  rw [c2] at b2 b3
  rw [t4] at b2 b3 c3 c4
  simp only at b2 b3 c3 c4 t4 t5
  change s.data.toList.drop 0 = _ ++ s.data.toList.drop (0 + 6) at t5
  change s.data.toList.drop (0 + 6) = _ ++ s.data.toList.drop (0 + 6 + 1) at c3
  change s.data.toList.drop (0 + 6 + 1) = _ ++ s.data.toList.drop (0 + 6 + 1 + 13 * many) at b3
  change R = ⟨s, 0 + 6 + 1 + 13 * many, none⟩ at b2
  subst b2
  simp only at a2 a3 a4 hsum'
  rw [a2] at hbo hds'
  simp only at hds'
  obtain ⟨i1, i2, i3⟩ := RS.bods_bwd es _ L' b5 rfl (by show 0 + 6 + 1 + 13 * many + 4 + sumL es = s.size; omega) hbo
  change s.data.toList.drop (0 + 6 + 1 + 13 * many + 4) = _ at i2
  have hLl : L'.length = many := by rw [← hel, ← i1, List.length_map]
  have hall : s.data.toList = headB L' ++ (leb (RS.num ⟨s, 0 + 6 + 1 + 13 * many, none⟩ 4).1 4 ++ bodyB L') := by
    rw [List.drop_zero, hfirst] at t5
    rw [t5, c3, b3, a3, i2]
    unfold headB
    rw [flat_enB, i1, hLl]
    simp only [List.append_assoc]
    rfl
  have hhl : (headB L').length = 0 + 6 + 1 + 13 * many := by
    unfold headB
    rw [List.length_append, List.length_append, leb_length, flat_len, hLl]
    simp
  have hex : (s.extract 0 (0 + 6 + 1 + 13 * many)).data.toList = headB L' := by
    have := ex_toList s 0 (0 + 6 + 1 + 13 * many)
    rw [Nat.zero_add, List.drop_zero] at this
    rw [this, hall, List.take_left' hhl]
  refine ⟨?_, ?_⟩
  · unfold okL
    rw [Bool.and_eq_true, List.all_eq_true]
    refine ⟨decide_eq_true (by omega), fun x hx => ?_⟩
    unfold goodK
    have := i3 x hx
    rw [Bool.and_eq_true]
    exact ⟨decide_eq_true this.1, decide_eq_true (by omega)⟩
  · unfold encB
    rw [hall, hsum', hex, List.append_assoc]
theorem decV_bad (s : ByteArray) (h : (decV s).1 ≠ 0) : (decV s).2 = [] := by
  unfold decV at h ⊢
  split
  · rfl
  · rename_i hh
    rw [hh] at h
    simp only at h
    split
    · rfl
    · split
      · rfl
      · split
        · rfl
        · split
          · rfl
          · exfalso
            rename_i h1 h2 h3 _ _ h4
            rw [if_neg h1, if_neg h2, if_neg h3, h4] at h
            exact h rfl
end Go.Proofs.Ytaikcehdomaebaa
