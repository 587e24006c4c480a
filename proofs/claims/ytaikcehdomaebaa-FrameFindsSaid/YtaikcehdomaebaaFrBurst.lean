/- FrameBursts: the walk. -/
import Derived.Test.YtaikcehdomaebaaFrBurstA
import Derived.RegionTactic
import Derived.ChangeAlike
namespace Go.Proofs.Ytaikcehdomaebaa
open Go.RowKit
/-- while bits are turned -/
structure BI (S : List UInt8) (at_ x k : Nat) (F A : Int) (l : List UInt8) : Prop where
  len : l.length = S.length
  num : Crc.num l = Crc.num S ^^^ 2 ^ at_ * (x % 2 ^ min k (8 * S.length - at_))
  out : Out S l F A
  fl : F = -1 ∧ A = -1 ∧ x % 2 ^ min k (8 * S.length - at_) = 0 ∨ 0 ≤ F ∧ F ≤ A ∧ 8 * A < at_ + k ∧ A < S.length ∧ x % 2 ^ min k (8 * S.length - at_) ≠ 0
theorem BI.start (S : List UInt8) (at_ x : Nat) : BI S at_ x 0 (-1) (-1) S := by
  have e : x % 2 ^ min 0 (8 * S.length - at_) = 0 := by rw [Nat.zero_min, Nat.pow_zero, Nat.mod_one]
  exact ⟨rfl, by rw [e, Nat.mul_zero, Nat.xor_zero], fun _ _ => rfl, .inl ⟨rfl, rfl, e⟩⟩
theorem BI.keep {S : List UInt8} {at_ x k : Nat} {F A : Int} {l : List UInt8} (h : BI S at_ x k F A l) (hb : x / 2 ^ k % 2 ≠ 1 ∨ 8 * S.length ≤ at_ + k) : BI S at_ x (k + 1) F A l := by
  have e : x % 2 ^ min (k + 1) (8 * S.length - at_) = x % 2 ^ min k (8 * S.length - at_) := by
    by_cases hc : 8 * S.length ≤ at_ + k
    · rw [show min (k + 1) (8 * S.length - at_) = min k (8 * S.length - at_) by omega]
    · have hb' : x / 2 ^ k % 2 ≠ 1 := hb.resolve_right hc
      rw [show min (k + 1) (8 * S.length - at_) = k + 1 by omega, show min k (8 * S.length - at_) = k by omega]
      have := Crc.keep_bit 0 k x hb'
      simpa using this
  refine ⟨h.len, by rw [e]; exact h.num, h.out, ?_⟩
  rw [e]
  rcases h.fl with h1 | ⟨h1, h2, h3, h4, h5⟩
  · exact .inl h1
  · exact .inr ⟨h1, h2, by omega, h4, h5⟩
theorem BI.flip {S : List UInt8} {at_ x k : Nat} {F A : Int} {l : List UInt8} (h : BI S at_ x k F A l) (hb : x / 2 ^ k % 2 = 1) (hc : at_ + k < 8 * S.length) (q : Nat) (hq : q = (at_ + k) / 8) (y : UInt8) (hql : q < l.length)
    (hy : Crc.num (l.set q y) = Crc.num l ^^^ 2 ^ (at_ + k)) (F' : Int) (hF : F < 0 ∧ F' = q ∨ 0 ≤ F ∧ F' = F) : BI S at_ x (k + 1) F' q (l.set q y) := by
  have e1 : min (k + 1) (8 * S.length - at_) = k + 1 := by omega
  have e2 : min k (8 * S.length - at_) = k := by omega
  have hn := h.num
  have hf := h.fl
  rw [e2] at hn hf
  have hnz : x % 2 ^ (k + 1) ≠ 0 := by
    intro h0
    have h1 : x / 2 ^ k % 2 = (x % 2 ^ (k + 1)) / 2 ^ k := by
      rw [Nat.pow_succ, Nat.mod_mul_right_div_self]
    rw [h0, Nat.zero_div] at h1
    omega
  have hl := h.len
  refine ⟨by rw [List.length_set]; exact hl, ?_, ?_, ?_⟩
  · rw [e1, hy, hn, Crc.grow_bit at_ k x hb, Nat.xor_assoc]
  · intro i hi
    have hqi : q ≠ i := by
      rcases hF with ⟨_, hF⟩ | ⟨h0, hF⟩
      · rw [hF] at hi; omega
      · rw [hF] at hi
        rcases hf with hf | hf <;> omega
    rw [List.getElem?_set_ne hqi]
    refine h.out i ?_
    rcases hF with ⟨h0, hF⟩ | ⟨h0, hF⟩
    · rcases hf with hf | hf <;> omega
    · rw [hF] at hi
      rcases hf with hf | hf <;> omega
  · rw [e1]
    refine .inr ⟨?_, ?_, by omega, by omega, hnz⟩
    · rcases hF with ⟨h0, hF⟩ | ⟨h0, hF⟩ <;> omega
    · rcases hF with ⟨h0, hF⟩ | ⟨h0, hF⟩
      · omega
      · rcases hf with hf | hf <;> omega
theorem flip_byte (b r : Nat) (hb : b < 2 ^ 8) (hr : r < 8) : bits BinOp.xor IntKind.u8 (b : Int) (2 ^ r % 256) = ((UInt8.ofNat (b ^^^ 2 ^ r)).toNat : Int) := by
  have hp : 2 ^ r < 2 ^ 8 := Nat.pow_lt_pow_right (by omega) hr
  have e : ((2 : Int) ^ r % 256) = ((2 ^ r : Nat) : Int) := by
    have : ((2 : Int) ^ r) = ((2 ^ r : Nat) : Int) := by simp
    rw [this]; generalize 2 ^ r = y at hp; omega
  have hlt : b ^^^ 2 ^ r < 2 ^ 8 := Nat.xor_lt_two_pow hb hp
  rw [e, u8_xor_nat _ _ hb hp, UInt8.toNat_ofNat_of_lt' hlt]
theorem mask1 (n : Nat) : n &&& 1 = n % 2 := Nat.and_one_is_mod n
theorem head_is (n : Nat) (hd : Nat) (w : World) (h : n ≤ 16) (hh : hd = 11 + 13 * n) : Calls Try.prog 11 #[.int .i64 n] w fun e w' => e = .returned (.int .i64 hd) ∧ w = w' := by
  subst hh
  have := head_in n w (by omega) (by omega)
  rw [show (11 : Int) + 13 * (n : Int) = ((11 + 13 * n : Nat) : Int) by omega] at this
  exact this
theorem off_zero (M : List (Int × ByteArray)) : offB M 0 = 11 + 13 * M.length := by unfold offB; simp [bodyB]
theorem off_succ (M : List (Int × ByteArray)) (k : Nat) (hk : k < M.length) : offB M (k + 1) = offB M k + M[k].2.size := by
  unfold offB
  rw [List.take_succ_eq_append_getElem hk]
  unfold bodyB
  rw [List.flatMap_append, List.length_append]
  simp only [List.flatMap_cons, List.flatMap_nil, List.append_nil, ba_size]
  omega
theorem off_le (M : List (Int × ByteArray)) (k : Nat) : offB M k ≤ (encB M).length := by
  rw [encB_len]
  unfold offB
  have h : bodyB M = bodyB (M.take k) ++ bodyB (M.drop k) := by unfold bodyB; rw [← List.flatMap_append, List.take_append_drop]
  rw [h, List.length_append]
  omega
set_option maxHeartbeats 4000000 in
set_option maxRecDepth 100000 in
theorem frameBursts_any (v : Value) (a x : Nat) (L : List (Int × ByteArray)) (w : World) (hs : SlS w v L) (ha : a < 65536) (hx : x < 4294967296) :
    Calls Try.prog 6 #[v, .int .u16 a, .int .u32 x] w fun e w' => e = .returned (.bool true) ∧ Below w.heap.size w w' := by
  have hok := right_ok L
  have hz60 := right_size L
  have hz := fun x hx => Nat.le_trans (hz60 x hx) (show 60 ≤ 1000000 by decide)
  have hl16 := right_len L
  have hel := encB_len (rightL L)
  have hbl := body60 (rightL L) hz60
  have hE : encV (rightL L) = .tuple #[.string ⟨(encB (rightL L)).toArray⟩, .int .i64 0] := by unfold encV; rw [if_pos hok]
  have CR := Lib.hid (fun u (hu : SlS u v L) => right_any v L u hu)
  generalize rightL L = M at *
  obtain ⟨S, hS⟩ : ∃ S : ByteArray, S = ⟨(encB M).toArray⟩ := ⟨_, rfl⟩
  rw [← hS] at hE
  have hSl : S.data.toList = encB M := by rw [hS]
  have hSz : S.size = 11 + 13 * M.length + (bodyB M).length := by rw [hS]; exact hel
  have s2 : S.size ≤ 2000 := by omega
  have s3 : 11 ≤ S.size := by omega
  have HE := Lib.hid hE; have HS := Lib.hid hs; have HZ := Lib.hid hz; have HSl := Lib.hid hSl; have HZ60 := Lib.hid hz60; have HOk := Lib.hid hok
  clear hE hs hz hz60 hbl hel hSz hS hok hSl
  by_cases hx0 : x = 0
  · subst hx0
    go_enter Try.func6, Try.ntmps6
    go_wp2_with fail
    refine (works_any _).mono ?_
    rintro e w1 ⟨rfl, hb1⟩
    have HB1 : Hid (Below w.heap.size w w1) := Lib.hid hb1
    clear hb1
    go_wp2_with fail
    refine (CR.out w1 (HS.out.later HB1.out)).mono ?_
    rintro e w2 ⟨v2, rfl, ho, hb2⟩
    have HO := Lib.hid ho.sl; have HB2 := Lib.hid (HB1.out.next' hb2)
    clear hb2 ho
    go_wp2_with fail
    refine (enc_is _ M w2 S 0 HO.out HZ.out (by omega) HE.out).mono ?_
    rintro e w3 ⟨rfl, hb3⟩
    have HB3 := Lib.hid (HB2.out.next' hb3)
    clear hb3
    go_wp2_with fail
    go_ret
    exact ⟨rfl, HB3.out⟩
  have hxz : ((x : Int) == 0) = false := by rw [beq_eq_false_iff_ne]; omega
  have Hx0 := Lib.hid hx0
  clear hx0
  go_enter Try.func6, Try.ntmps6
  go_wp2_with fail
  refine (works_any _).mono ?_
  rintro e w1 ⟨rfl, hb1⟩
  have HB1 : Hid (Below w.heap.size w w1) := Lib.hid hb1
  clear hb1
  go_wp2_with fail
  refine (CR.out w1 (HS.out.later HB1.out)).mono ?_
  rintro e w2 ⟨v2, rfl, ho, hb2⟩
  have HO0 := ho.sl
  obtain ⟨a2, c2, rfl, _⟩ := id HO0
  have HO := Lib.hid HO0; have HB2 := Lib.hid (HB1.out.next' hb2)
  clear hb2 ho HO0
  go_wp2_with fail
  refine (enc_is _ M w2 S 0 HO.out HZ.out (by omega) HE.out).mono ?_
  rintro e w3 ⟨rfl, hb3⟩
  have HO3 := Lib.hid (HO.out.later hb3); have HB3 := Lib.hid (HB2.out.next' hb3)
  clear hb3 HO
  obtain ⟨hd, hhd⟩ : ∃ hd, hd = 11 + 13 * M.length := ⟨_, rfl⟩
  have hd1 : hd ≤ 219 := by omega
  have hd2 : 11 ≤ hd := by omega
  have Hhd := Lib.hid hhd
  clear hhd
  go_wp2_with fail
  refine (head_is M.length hd w3 (by omega) Hhd.out).mono ?_
  rintro e w' ⟨rfl, rfl⟩
  obtain ⟨at_, hat⟩ : ∃ at_, at_ = a % (8 * S.size) := ⟨_, rfl⟩
  have hatl : at_ < 8 * S.size := by rw [hat]; exact Nat.mod_lt _ (by omega)
  have f1 : (a : Int).tmod (8 * (S.size : Int)) = (at_ : Int) := by rw [Int.tmod_eq_emod_of_nonneg (by omega), hat]; simp
  have f2 : (a : Int) % (8 * (S.size : Int)) = (at_ : Int) := by rw [hat]; simp
  have f3 : ((8 * (S.size : Int)) == 0) = false := by rw [beq_eq_false_iff_ne]; omega
  have hcv := run_bytes_of_string w3 9 32 5 S Try.underlying9 Try.underlying32 Try.underlying5
  generalize hcap : grownCap w3 S.size 0 5 = cap at *
  have hge : S.size ≤ cap := by rw [← hcap]; exact grownCap_ge w3 S.size 0 5
  clear hcap
  rw [bytesRow_size S cap hge, bytesRow_eq] at hcv
  have Hat := Lib.hid hat
  clear hat
  go_wp2_with fail
  have hB0 : Blk (w3.alloc (.cells (u8cells S.data.toList ++ Array.replicate (cap - S.size) (.int .u8 0)) 5 (cap, cap + 1))).drew w3.heap.size (u8cells S.data.toList ++ Array.replicate (cap - S.size) (.int .u8 0)) 5 (cap, cap + 1) := (Blk.new _ _ _ _).drew
  have hb0 : Below w3.heap.size w3 (w3.alloc (.cells (u8cells S.data.toList ++ Array.replicate (cap - S.size) (.int .u8 0)) 5 (cap, cap + 1))).drew := ((Below.refl _ _).alloc (Nat.le_refl _) _).drew
  generalize hex : Array.replicate (cap - S.size) (Value.int .u8 0) = ex at *
  clear hex hcv
  generalize (w3.alloc (.cells (u8cells S.data.toList ++ ex) 5 (cap, cap + 1))).drew = w6 at *
  obtain ⟨g, hg⟩ : ∃ g, g = w3.heap.size := ⟨_, rfl⟩
  have hgs : w.heap.size ≤ g := by rw [hg]; exact HB3.out.size
  have HB6 := Lib.hid (HB3.out.next' hb0)
  have hgb : Below g w3 w6 := by rw [hg]; exact hb0
  rw [← hg] at hB0
  rw [← hg]
  have HG := Lib.hid hgb; have HB0 := Lib.hid hB0; have Hg := Lib.hid hg
  have hSlen : S.data.toList.length = S.size := rfl
  have HSlen := Lib.hid hSlen
  clear hB0 hb0 hgb hg f1 f2 f3 hxz hSlen
  go_loopw [12, 13, 14] (fun f la i wr => ∃ (k : Nat) (F A : Int) (l : List UInt8), k ≤ 32 ∧ (-1 ≤ F ∧ F ≤ 2000) ∧ (-1 ≤ A ∧ A ≤ 2000) ∧ i = .int .i64 k ∧ f = .int .i64 F ∧ la = .int .i64 A ∧ Hid (BI S.data.toList at_ x k F A l ∧ Blk wr g (u8cells l ++ ex) 5 (cap, cap + 1) ∧ Below g w3 wr)) (fun _ _ i _ => 32 - (intOf i).toNat)
  case atStart => exact ⟨0, -1, -1, S.data.toList, by omega, by omega, by omega, rfl, rfl, rfl, Lib.hid ⟨BI.start _ _ _, HB0.out, HG.out⟩⟩
  case round =>
    clear HG HB0
    obtain ⟨k, F, A, l, hk, hFb, hAb, rfl, rfl, rfl, hrel⟩ := hrel
    have hll : l.length = S.size := hrel.out.1.len
    have HLL := Lib.hid hll
    clear hll
    by_cases h1 : k < 32
    · have hbit : bits BinOp.and IntKind.u32 ((x : Int) / 2 ^ k) 1 = ((x / 2 ^ k % 2 : Nat) : Int) := by
        have e : ((x : Int) / 2 ^ k) = ((x / 2 ^ k : Nat) : Int) := by simp
        rw [e, show (1 : Int) = ((1 : Nat) : Int) from rfl, u32_and_nat _ _ (Nat.lt_of_le_of_lt (Nat.div_le_self _ _) hx) (by decide), mask1]
      by_cases h3 : x / 2 ^ k % 2 = 1
      · by_cases h2 : at_ + k < 8 * S.size
        · have hq : (at_ + k) / 8 < l.length := by rw [HLL.out]; omega
          have hcell := hrel.out.2.1.cell ((at_ + k) / 8)
          rw [u8cells_get l ex _ hq] at hcell
          have hfz := hrel.out.2.1.free ((at_ + k) / 8) (.inl (by show _ < cap; omega))
          have hqs : (at_ + k) / 8 < S.size := by omega
          have H3 := Lib.hid h3
          rw [h3] at hbit
          clear h3
          have hby := (l[(at_ + k) / 8]).toNat_lt
          have hfl := Crc.num_flip l (at_ + k) hq
          have HFl := Lib.hid hfl
          clear hfl
          obtain ⟨F', hF'⟩ : ∃ F' : Int, F < 0 ∧ F' = ((at_ + k) / 8 : Nat) ∨ 0 ≤ F ∧ F' = F := by
            by_cases h : F < 0
            · exact ⟨_, .inl ⟨h, rfl⟩⟩
            · exact ⟨_, .inr ⟨by omega, rfl⟩⟩
          have hbi := fun y hy => hrel.out.1.flip H3.out h2 ((at_ + k) / 8) rfl y hq hy F' hF'
          have HBi := Lib.hid (hbi _ HFl.out)
          clear hbi
          by_cases hF0 : F < 0
          · have hF2 : F' = ((at_ + k) / 8 : Nat) := by omega
            subst hF2
            clear hF'
            go_wp2_with fail
            go_region
            all_goals
              rw [flip_byte _ ((at_ + k) % 8) hby (by omega)]
              have HB1 := Lib.hid ((hrel.out.2.1.set ((at_ + k) / 8) (.int .u8 ((UInt8.ofNat ((l[(at_ + k) / 8]).toNat ^^^ 2 ^ ((at_ + k) % 8))).toNat : Int))).drew)
              rw [u8cells_set l ex _ hq] at HB1
              have Hb1 := Lib.hid ((hrel.out.2.2.setCell (p := ⟨g, (at_ + k) / 8, none⟩) (Nat.le_refl _) (.int .u8 ((UInt8.ofNat ((l[(at_ + k) / 8]).toNat ^^^ 2 ^ ((at_ + k) % 8))).toNat : Int))).drew)
              clear HFl
              generalize (UInt8.ofNat ((l[(at_ + k) / 8]).toNat ^^^ 2 ^ ((at_ + k) % 8))) = nb at *
              clear hcell hfz hby
              generalize (wr.setCell ⟨g, (at_ + k) / 8, none⟩ (.int .u8 (nb.toNat : Int))).drew = w1 at *
              go_wp2_with fail
              go_roundw
              case rel => exact ⟨k + 1, _, _, _, by omega, by omega, by omega, by go_num, by go_num, by go_num, Lib.hid ⟨HBi.out, HB1.out, Hb1.out⟩⟩
              case measure => simp [intOf]; omega
          · have hF2 : F' = F := by omega
            subst hF2
            clear hF'
            go_wp2_with fail
            go_region
            all_goals
              rw [flip_byte _ ((at_ + k) % 8) hby (by omega)]
              have HB1 := Lib.hid ((hrel.out.2.1.set ((at_ + k) / 8) (.int .u8 ((UInt8.ofNat ((l[(at_ + k) / 8]).toNat ^^^ 2 ^ ((at_ + k) % 8))).toNat : Int))).drew)
              rw [u8cells_set l ex _ hq] at HB1
              have Hb1 := Lib.hid ((hrel.out.2.2.setCell (p := ⟨g, (at_ + k) / 8, none⟩) (Nat.le_refl _) (.int .u8 ((UInt8.ofNat ((l[(at_ + k) / 8]).toNat ^^^ 2 ^ ((at_ + k) % 8))).toNat : Int))).drew)
              clear HFl
              generalize (UInt8.ofNat ((l[(at_ + k) / 8]).toNat ^^^ 2 ^ ((at_ + k) % 8))) = nb at *
              clear hcell hfz hby
              generalize (wr.setCell ⟨g, (at_ + k) / 8, none⟩ (.int .u8 (nb.toNat : Int))).drew = w1 at *
              go_wp2_with fail
              go_roundw
              case rel => exact ⟨k + 1, _, _, _, by omega, by omega, by omega, by go_num, by go_num, by go_num, Lib.hid ⟨HBi.out, HB1.out, Hb1.out⟩⟩
              case measure => simp [intOf]; omega
        · have HBi := Lib.hid (hrel.out.1.keep (.inr (by rw [HSlen.out]; omega)))
          rw [h3] at hbit
          clear h3
          go_wp2_with fail
          go_roundw
          case rel => exact ⟨k + 1, F, A, l, by omega, by omega, by omega, by go_num, rfl, rfl, Lib.hid ⟨HBi.out, hrel.out.2.1, hrel.out.2.2⟩⟩
          case measure => simp [intOf]; omega
      · have HBi := Lib.hid (hrel.out.1.keep (.inl h3))
        have h30 : x / 2 ^ k % 2 = 0 := by omega
        rw [h30] at hbit
        clear h3 h30
        go_wp2_with fail
        go_roundw
        case rel => exact ⟨k + 1, F, A, l, by omega, by omega, by omega, by go_num, rfl, rfl, Lib.hid ⟨HBi.out, hrel.out.2.1, hrel.out.2.2⟩⟩
        case measure => simp [intOf]; omega
    · obtain rfl : k = 32 := by omega
      have hbw : Below w3.heap.size w3 wr := by have h0 := hrel.out.2.2; rw [Hg.out] at h0; exact h0
      have HBr := Lib.hid (HB3.out.next' hbw)
      have HOr := Lib.hid (HO3.out.later hbw)
      clear hbw
      by_cases hF0 : F < 0
      · go_wp2_with fail
        go_ret
        exact ⟨rfl, HBr.out⟩
      · obtain ⟨T, hT⟩ : ∃ T : ByteArray, T = ⟨l.toArray⟩ := ⟨_, rfl⟩
        have hTs : T.size ≤ 1000000 := by rw [hT]; show l.length ≤ _; rw [HLL.out]; omega
        have hcv2 := conv_block wr g l ex 5 (cap, cap + 1) cap hrel.out.2.1 (P := Try.prog) Try.underlying32 Try.underlying5 Try.underlying9
        rw [HLL.out, ← hT] at hcv2
        obtain ⟨c, N, hd9⟩ : ∃ c N, decV T = (c, N) := ⟨_, _, rfl⟩
        have hbi := hrel.out.1
        have hnW : x % 2 ^ min 32 (8 * S.data.toList.length - at_) ≠ 0 := by
          rcases hbi.fl with h | h
          · omega
          · exact h.2.2.2.2
        have hnW2 : x % 2 ^ min 32 (8 * S.data.toList.length - at_) < 4294967296 := Nat.lt_of_le_of_lt (Nat.mod_le _ _) hx
        have hnum := hbi.num
        have hout := hbi.out
        rw [HSl.out] at hnum hout hnW hnW2
        have hTl : l.length = (encB M).length := by rw [HLL.out, ← HSl.out]; rfl
        have hA23 : A < 7 + 13 * (M.length : Int) → (A < 6 ∨ 6 < F) → c = 23 := fun q1 q2 => by
          have := burst_head M l F A at_ _ hl16 hTl hnum hnW hnW2 hout q1 q2
          rw [← hT, hd9] at this
          exact this
        have hA24 : ∀ (i : Nat) (hi : i < M.length), (offB M i : Int) ≤ F → A < (offB M i : Int) + M[i].2.size → c = 24 := fun i hi q1 q2 => by
          have := burst_body M HOk.out HZ.out l F A at_ _ hTl hnum hnW hnW2 hout i hi q1 q2
          rw [← hT, hd9] at this
          exact this
        have H23 := Lib.hid hA23; have H24 := Lib.hid hA24; have HT := Lib.hid hT; have Hd9 := Lib.hid hd9
        have hOff : ∀ i, offB M i ≤ 2000 := fun i => by have := off_le M i; rw [← hTl, HLL.out] at this; omega
        have HOff := Lib.hid hOff
        clear hA23 hA24 hT hd9 hnW hnW2 hnum hout hTl hbi hrel hOff
        go_wp2_with fail
        refine (dec_is2 T c N wr hTs Hd9.out).mono ?_
        rintro e w9 ⟨a9, c9, rfl, hs9, hb9⟩
        have HB9 := Lib.hid (HBr.out.next' hb9)
        have HO9 := Lib.hid (HOr.out.later hb9)
        clear hs9 hb9 hcv2
        by_cases hcA : A < (hd : Int) - 4 ∧ (A < 6 ∨ 6 < F)
        · obtain ⟨q1, q2⟩ := hcA
          have hc : c = 23 := H23.out (by have := Hhd.out; omega) q2
          subst hc
          by_cases q3 : A < 6
          · go_wp2_with fail
            go_ret
            exact ⟨rfl, HB9.out⟩
          · have q4 : 6 < F := by omega
            clear q2
            go_wp2_with fail
            go_ret
            exact ⟨rfl, HB9.out⟩
        · have hoz := off_zero M
          rw [← Hhd.out] at hoz
          have Hoz := Lib.hid hoz
          clear hoz
          by_cases q1 : A < (hd : Int) - 4
          all_goals
            first
              | (have q3 : ¬ A < 6 := by omega
                 have q4 : ¬ 6 < F := by omega
                 clear hcA)
              | clear hcA
            go_wp2_with fail
            go_loop [18, 19] (fun f i => ∃ k : Nat, k ≤ M.length ∧ i = .int .i64 k ∧ f = .int .i64 (offB M k)) (fun _ i => M.length - (intOf i).toNat)
            case atStart => exact ⟨0, Nat.zero_le _, rfl, by rw [Hoz.out]⟩
            case round =>
              obtain ⟨k, hk, rfl, rfl⟩ := hrel
              have hoK := HOff.out k
              by_cases hlt : k < M.length
              · obtain ⟨ba, oa, ha0, hc1, hc2⟩ : ∃ ba oa, a2 = some ⟨ba, oa, none⟩ ∧ w9.cell? ⟨ba, oa + k * 2, none⟩ = some (.int .i64 M[k].1) ∧ w9.cell? ⟨ba, oa + k * 2 + 1, none⟩ = some (.string M[k].2) := by
                  obtain ⟨a', c', e, _, _, hh⟩ := HO9.out
                  obtain ⟨bl, ol, e2, q1, q2⟩ := hh k hlt
                  have e3 := (Value.slice.inj e).1
                  exact ⟨bl, ol, by rw [e3, e2], q1, q2⟩
                subst ha0
                have hbz := HZ60.out _ (List.getElem_mem hlt)
                have hos := off_succ M k hlt
                have hc24 := H24.out k hlt
                generalize M[k] = y at *
                obtain ⟨kd, s⟩ := y
                simp only at hc1 hc2 hbz hos hc24
                generalize offB M k = o at *
                generalize hO : offB M (k + 1) = o2 at *
                have HO2 := Lib.hid hO
                have Hos := Lib.hid hos
                have H24' := Lib.hid hc24
                clear hO hos hc24
                by_cases r1 : (o : Int) ≤ F
                · by_cases r2 : A < (o : Int) + s.size
                  · have hc : c = 24 := H24'.out r1 r2
                    subst hc
                    go_wp2_with fail
                    go_ret
                    exact ⟨rfl, HB9.out⟩
                  · go_wp2_with fail
                    go_round
                    case rel => exact ⟨k + 1, by omega, by go_num, by rw [HO2.out, Hos.out]; go_num⟩
                    case measure => simp [intOf]; omega
                · go_wp2_with fail
                  go_round
                  case rel => exact ⟨k + 1, by omega, by go_num, by rw [HO2.out, Hos.out]; go_num⟩
                  case measure => simp [intOf]; omega
              · obtain rfl : k = M.length := by omega
                go_wp2_with fail
                go_ret
                exact ⟨rfl, HB9.out⟩
theorem lawFrameBursts_any (v : Value) (a x : Nat) (w : World) (h : Rd Try.prog w 22 [v]) (ha : a < 65536) (hx : x < 4294967296) :
    Calls Try.prog 6 #[v, .int .u16 a, .int .u32 x] w fun e w' => e = .returned (.bool true) ∧ Below w.heap.size w w' := by
  obtain ⟨L, hs, _, _⟩ := Rd.secs h
  exact frameBursts_any v a x L w hs ha hx
end Go.Proofs.Ytaikcehdomaebaa
