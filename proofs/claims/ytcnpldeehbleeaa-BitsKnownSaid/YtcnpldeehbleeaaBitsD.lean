/- THE WALKS over bits, IV: drawn, Or. -/
import Derived.Test.YtcnpldeehbleeaaBitsC
import Derived.Deep.RegionHeld3
namespace Go.Proofs.Ytcnpldeehbleeaa
open Go.RowKit
/-- bit i of what was drawn of the bytes S -/
def dB (S : List Int) (i : Nat) : Bool := if S.length = 0 then false else (((S[i / 8 % S.length]?.getD 0) / 2 ^ (i % 8)) % 2 == 1)
/-- l is what was drawn of S -/
def Drawn (n wd : Nat) (S : List Int) (l : List UInt8) : Prop := ∀ R, R < n → ∀ I, I < 8 * ((wd + 7) / 8) → bitAt ((wd + 7) / 8) l R I = (decide (I < wd) && dB S (R * wd + I))
theorem bitAt_zero (lg m R I : Nat) : bitAt lg (List.replicate m 0) R I = false := by
  unfold bitAt
  rw [List.getElem?_replicate]
  split <;> simp
theorem and_one (x : Int) (h : 0 ≤ x ∧ x < 256) : bits .and .u8 x 1 = x % 2 := by
  obtain ⟨y, rfl⟩ := Int.eq_ofNat_of_zero_le h.1
  have := u8_and_nat y 1 (by omega) (by omega)
  rw [nat_mask1] at this
  exact this
set_option maxHeartbeats 2000000 in
theorem drawn_any (n wd : Nat) (v : Value) (S : List Int) (w : World) (hw : wd ≤ 1000) (hn : n ≤ 1000) (hs : SlI w v .u8 S) (hx : ∀ x ∈ S, 0 ≤ x ∧ x < 256) :
    Calls Try.prog 20 #[.int .i64 n, .int .i64 wd, v] w fun e w' => ∃ p g l, e = .returned (.pointer (some ⟨p, 0, none⟩)) ∧ Bt w' p g n wd l ∧ w.heap.size ≤ p ∧ w.heap.size ≤ g ∧ Below w.heap.size w w' ∧ Drawn n wd S l := by
  obtain ⟨a, cap, rfl, h1, h2, h3⟩ := id hs
  have hnw : n * wd ≤ 1000000 := Nat.mul_le_mul hn hw
  have hnl : n * ((wd + 7) / 8) ≤ 268435456 := Nat.le_trans (Nat.mul_le_mul hn (show (wd + 7) / 8 ≤ 200 by omega)) (by omega)
  obtain ⟨lg, hlg⟩ : ∃ lg, lg = (wd + 7) / 8 := ⟨_, rfl⟩
  obtain ⟨m, hm⟩ : ∃ m, m = n * wd := ⟨_, rfl⟩
  have e1 : IntKind.i64.wrap ((n : Int) * (wd : Int)) = m := by rw [hm, ← Int.natCast_mul]; exact wrap_small _ (by omega) (by omega)
  have hm6 : m ≤ 1000000 := by omega
  have hM := Lib.hid hm; have HS := Lib.hid hs; have HX := Lib.hid hx
  unfold maxLen at h2
  clear hs hx h3 hm hnw
  unfold Drawn
  rw [← hlg]
  go_enter Try.func20, Try.ntmps20
  go_wp2_with fail
  refine (new_any n wd w (by omega) (by omega) hnl).mono ?_
  rintro e w1 ⟨p, g, rfl, hbt, hp, hg, hb⟩
  have Hbt := Lib.hid hbt; have Hb := Lib.hid hb; have Hlg := Lib.hid hlg
  clear hbt hb hlg hnl
  go_wp2_with fail
  go_loopw [8] (fun i wr => ∃ (k : Nat) (l : List UInt8), k ≤ m ∧ i = .int .i64 k ∧ Bt wr p g n wd l ∧ Below w.heap.size w wr ∧ (S.length = 0 → k = 0) ∧ ∀ R, R < n → ∀ I, I < 8 * lg → bitAt lg l R I = (decide (I < wd ∧ R * wd + I < k) && dB S (R * wd + I))) (fun i _ => m - (intOf i).toNat)
  case atStart => exact ⟨0, _, Nat.zero_le _, rfl, Hbt.out, Hb.out, fun _ => rfl, fun R _ I _ => by rw [bitAt_zero, decide_eq_false (by omega), Bool.false_and]⟩
  case round =>
    obtain ⟨k, l, hk, rfl, hbt, hb, hk0, hbits⟩ := hrel
    clear Hbt Hb
    have Hbt := Lib.hid hbt; have Hb := Lib.hid hb; have Hk0 := Lib.hid hk0; have Hbits := Lib.hid hbits
    clear hbt hb hk0 hbits
    by_cases hlt : k < m
    · by_cases hS : S.length = 0
      · have hS1 : decide (0 < S.length) = false := by simp [hS]
        have hS2 : decide ((0 : Int) < (S.length : Int)) = false := by simp [hS]
        have HS0 := Lib.hid hS
        clear hS
        go_wp2
        go_ret
        refine ⟨_, _, _, rfl, Hbt.out, hp, hg, Hb.out, fun R hR I hI => ?_⟩
        rw [Hbits.out R hR I hI]
        unfold dB
        rw [if_pos HS0.out, Bool.and_false, Bool.and_false]
      · have hS1 : decide (0 < S.length) = true := by simp; omega
        have hS2 : decide ((0 : Int) < (S.length : Int)) = true := by simp; omega
        have hS3 : ((S.length : Int) == 0) = false := by rw [beq_eq_false_iff_ne]; omega
        have hwd0 : 0 < wd := by
          rcases Nat.eq_zero_or_pos wd with h | h
          · have := hM.out; rw [h, Nat.mul_zero] at this; omega
          · exact h
        have hw3 : ((wd : Int) == 0) = false := by rw [beq_eq_false_iff_ne]; omega
        have hw4 : ¬ (wd : Int) = 0 := by omega
        have hw5 : ¬ wd = 0 := by omega
        have hS4 : ¬ (S.length : Int) = 0 := by omega
        have hS5 : ¬ S = [] := fun e => hS (by rw [e]; rfl)
        obtain ⟨R, hR⟩ : ∃ R, R = k / wd := ⟨_, rfl⟩
        obtain ⟨I, hI⟩ : ∃ I, I = k % wd := ⟨_, rfl⟩
        obtain ⟨d, hd⟩ : ∃ d, d = k / 8 := ⟨_, rfl⟩
        obtain ⟨q, hq⟩ : ∃ q, q = k % 8 := ⟨_, rfl⟩
        obtain ⟨j, hj⟩ : ∃ j, j = d % S.length := ⟨_, rfl⟩
        have hRn : R < n := by rw [hR]; exact Nat.div_lt_of_lt_mul (by rw [Nat.mul_comm, ← hM.out]; exact hlt)
        have hIw : I < wd := by rw [hI]; exact Nat.mod_lt _ hwd0
        have hkRI : k = R * wd + I := by rw [hR, hI, Nat.mul_comm]; exact (Nat.div_add_mod k wd).symm
        have hjl : j < S.length := by rw [hj]; exact Nat.mod_lt _ (by omega)
        have f1 : (k : Int).tdiv (wd : Int) = R := by rw [Int.tdiv_eq_ediv_of_nonneg (by omega), hR]; rfl
        have f2 : (k : Int).tmod (wd : Int) = I := by rw [Int.tmod_eq_emod_of_nonneg (by omega), hI]; rfl
        have f3 : (k : Int).tdiv 8 = d := by rw [Int.tdiv_eq_ediv_of_nonneg (by omega), hd]; rfl
        have f4 : (k : Int).tmod 8 = q := by rw [Int.tmod_eq_emod_of_nonneg (by omega), hq]; rfl
        have f5 : (d : Int).tmod (S.length : Int) = j := by rw [Int.tmod_eq_emod_of_nonneg (by omega), hj]; rfl
        have g1 : (k : Int) / (wd : Int) = R := by rw [hR]; rfl
        have g2 : (k : Int) % (wd : Int) = I := by rw [hI]; rfl
        have g3 : (k : Int) / 8 = d := by rw [hd]; rfl
        have g4 : (k : Int) % 8 = q := by rw [hq]; rfl
        have g5 : (d : Int) % (S.length : Int) = j := by rw [hj]; rfl
        have hRm : R ≤ 1000 := by omega
        have hIm : I ≤ 1000 := by omega
        have hdm : d ≤ 1000000 := by omega
        have hq8 : q < 8 := by omega
        have w1' : IntKind.i64.wrap (R : Int) = R := wrap_small _ (by omega) (by omega)
        have w2' : IntKind.i64.wrap (d : Int) = d := wrap_small _ (by omega) (by omega)
        have hxj := HX.out _ (List.getElem_mem hjl)
        have hdb : dB S k = ((S[j] / 2 ^ q) % 2 == 1) := by
          unfold dB
          rw [if_neg hS, ← hd, ← hj, ← hq, List.getElem?_eq_getElem hjl, Option.getD_some]
        obtain ⟨bl, ol, ha0, hcl⟩ : ∃ bl ol, a = some ⟨bl, ol, none⟩ ∧ w.cell? ⟨bl, ol + j, none⟩ = some (.int .u8 S[j]) := by
          obtain ⟨a', c', e, _, _, hh⟩ := HS.out
          obtain ⟨bl, ol, e2, hc⟩ := hh j hjl
          have e3 : a = a' := (Value.slice.inj e).1
          exact ⟨bl, ol, by rw [e3, e2], hc⟩
        subst ha0
        have hcl' : wr.cell? ⟨bl, ol + j, none⟩ = some (.int .u8 S[j]) := (World.cell?_of_block (Hb.out.block bl (block_lt_of_cell hcl))).trans hcl
        generalize S[j] = x at *
        obtain ⟨z, hz⟩ : ∃ z, z = x / 2 ^ q := ⟨_, rfl⟩
        rw [← hz] at hdb
        have hz0 : 0 ≤ z ∧ z < 256 := by
          rw [hz]
          have hp2 : (1 : Int) ≤ 2 ^ q := by have := Nat.pow_pos (n := q) (show 0 < 2 by omega); exact_mod_cast this
          exact ⟨Int.ediv_nonneg hxj.1 (by omega), Int.lt_of_le_of_lt (Int.ediv_le_self _ hxj.1) hxj.2⟩
        have t1 : x / (2 : Int) ^ q = z := hz.symm
        have t2 : x / (2 : Int) ^ min q 8 = z := by rw [show min q 8 = q by omega]; exact t1
        have t3 := and_one z hz0
        have t4 : (z % 2 == 1) = dB S k := hdb.symm
        generalize hon : dB S k = on at *
        have C := Lib.hid (fun W h => set_any p g n wd l R I on W h)
        have Hon := Lib.hid hon; have HRI := Lib.hid hkRI
        have Hj := Lib.hid hj; have Hd := Lib.hid hd; have Hq := Lib.hid hq; have HR := Lib.hid hR; have HI := Lib.hid hI; have Hz := Lib.hid hz
        have HS0 := Lib.hid hS; have Hblw := Lib.hid (block_lt_of_cell hcl)
        clear hon hkRI hj hd hq hR hI hz hdb hS hcl
        have hbd := Hbt.out.later ((Below.refl _ _).drew)
        have hblg : bl < w.heap.size := Hblw.out
        have hne : bl ≠ g := by omega
        have hblr : bl < wr.heap.size := Nat.lt_of_lt_of_le hblg Hb.out.size
        go_wp2_with fail
        go_region_held3 (fun w' => w'.cell? ⟨bl, ol + j, none⟩ = some (.int .u8 x)) (first | exact hcl' | exact (World.cell?_of_block (hk'.block bl hblr hne)).trans hcl')
          (first
            | (go_at_call 24; (with_reducible refine (C.out _ ?_).mono ?_); exact hbd; rintro e w' ⟨l', rfl, hbt', hk', hse, _⟩))
        have hse' := hse ⟨by omega, by omega, by omega, by omega⟩
        rw [Int.toNat_natCast, Int.toNat_natCast, ← Hlg.out] at hse'
        have HSe := Lib.hid hse'; have HBt := Lib.hid hbt'
        have HB' := Lib.hid (Hb.out.drew.trans (hk'.below (B := w.heap.size) (by have := Hb.out.size; exact this) (fun z hz => by omega)))
        clear hse hse' hbt' hk' hbd C
        go_wp2_with fail
        go_roundw
        case rel =>
          refine ⟨k + 1, l', by omega, by go_num, HBt.out, HB'.out, fun h => absurd h HS0.out, fun r hr i hi => ?_⟩
          rw [HSe.out.2 r hr i hi]
          by_cases he : r = R ∧ i = I
          · obtain ⟨rfl, rfl⟩ := he
            rw [if_pos ⟨rfl, rfl⟩, ← HRI.out, Hon.out, decide_eq_true (by omega), Bool.true_and]
          · rw [if_neg he, Hbits.out r hr i hi]
            congr 1
            refine decide_eq_decide.2 ⟨fun h => ⟨h.1, by omega⟩, fun h => ⟨h.1, ?_⟩⟩
            have hne2 : r * wd + i ≠ k := fun e => he (at_inj h.1 hIw (e.trans HRI.out))
            omega
        case measure => simp [intOf]; omega
    · obtain rfl : k = m := by omega
      go_wp2
      go_ret
      refine ⟨_, _, _, rfl, Hbt.out, hp, hg, Hb.out, fun R hR I hI => ?_⟩
      rw [Hbits.out R hR I hI]
      congr 1
      refine decide_eq_decide.2 ⟨fun h => h.1, fun h => ⟨h, ?_⟩⟩
      rw [hM.out]
      exact at_lt hR h
end Go.Proofs.Ytcnpldeehbleeaa
