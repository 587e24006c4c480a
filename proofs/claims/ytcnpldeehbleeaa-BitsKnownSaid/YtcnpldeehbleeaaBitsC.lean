/- THE WALKS over bits, III: From. -/
import Derived.Test.YtcnpldeehbleeaaBitsB
import Derived.Lib.BufferWrite
namespace Go.Proofs.Ytcnpldeehbleeaa
open Go.RowKit
/-- the bits of a row behind its width are off -/
def Pad (n wd : Nat) (l : List UInt8) : Prop := ∀ r, r < n → ∀ i, wd ≤ i → i < 8 * ((wd + 7) / 8) → bitAt ((wd + 7) / 8) l r i = false
theorem byteCells_eq (l : List UInt8) : (Lib.byteCells l).toArray = u8cells l := rfl
theorem pad_zero (n wd : Nat) (l : List UInt8) (h : wd % 8 = 0) : Pad n wd l := fun r _ i h1 h2 => by omega
theorem pad_byte {wd r : Nat} {l : List UInt8} (hq : wd % 8 ≠ 0) (hj : r * ((wd + 7) / 8) + ((wd + 7) / 8 - 1) < l.length) :
    (∀ i, wd ≤ i → i < 8 * ((wd + 7) / 8) → bitAt ((wd + 7) / 8) l r i = false) ↔ l[r * ((wd + 7) / 8) + ((wd + 7) / 8 - 1)].toNat / 2 ^ (wd % 8) = 0 := by
  have hx := (l[r * ((wd + 7) / 8) + ((wd + 7) / 8 - 1)]).toNat_lt
  have hb : ∀ i, wd ≤ i → i < 8 * ((wd + 7) / 8) → bitAt ((wd + 7) / 8) l r i = (l[r * ((wd + 7) / 8) + ((wd + 7) / 8 - 1)]).toNat.testBit (i % 8) := fun i h1 h2 => by
    unfold bitAt
    have e : i / 8 = (wd + 7) / 8 - 1 := by omega
    rw [e, List.getElem?_eq_getElem hj, Option.getD_some]
  constructor
  · intro h
    refine Nat.div_eq_of_lt (Nat.lt_pow_two_of_testBit _ fun i hi => ?_)
    by_cases h8 : i < 8
    · have := hb (8 * ((wd + 7) / 8 - 1) + i) (by omega) (by omega)
      rw [h _ (by omega) (by omega)] at this
      rw [show (8 * ((wd + 7) / 8 - 1) + i) % 8 = i by omega] at this
      exact this.symm
    · exact Nat.testBit_lt_two_pow (Nat.lt_of_lt_of_le hx (Nat.pow_le_pow_right (by omega) (show 8 ≤ i by omega)))
  · intro h i h1 h2
    rw [hb i h1 h2]
    have hlt : (l[r * ((wd + 7) / 8) + ((wd + 7) / 8 - 1)]).toNat < 2 ^ (wd % 8) := by
      rcases Nat.div_eq_zero_iff.1 h with h3 | h3
      · have : 0 < 2 ^ (wd % 8) := Nat.pow_pos (by omega)
        omega
      · exact h3
    exact Nat.testBit_lt_two_pow (Nat.lt_of_lt_of_le hlt (Nat.pow_le_pow_right (by omega) (by omega)))
theorem Bt.later {w w' : World} {p g n wd : Nat} {l : List UInt8} (h : Bt w p g n wd l) (hb : Below w.heap.size w w') : Bt w' p g n wd l :=
  ⟨h.head.below hb h.head.lt, h.body.below hb h.body.lt, h.ne, h.long, h.wide, h.rows, h.most⟩
theorem Bt.kept {S : Nat → Prop} {w w' : World} {p g n wd : Nat} {l : List UInt8} (h : Bt w p g n wd l) (hk : Kept S w w') (h1 : ¬ S p) (h2 : ¬ S g) : Bt w' p g n wd l :=
  ⟨hk.blk h.head h1, hk.blk h.body h2, h.ne, h.long, h.wide, h.rows, h.most⟩
set_option maxHeartbeats 1000000 in
theorem from_any (n wd : Nat) (s : ByteArray) (w : World) (hw : wd ≤ 67108864) (hn : n ≤ 9223372036854775807) (hm : n * ((wd + 7) / 8) ≤ 268435456) :
    Calls Try.prog 21 #[.int .i64 n, .int .i64 wd, .string s] w fun e w' => Below w.heap.size w w' ∧
      ((s.size = n * ((wd + 7) / 8) ∧ Pad n wd s.data.toList ∧ ∃ p g, e = .returned (.pointer (some ⟨p, 0, none⟩)) ∧ Bt w' p g n wd s.data.toList ∧ w.heap.size ≤ p ∧ w.heap.size ≤ g) ∨
       (¬ (s.size = n * ((wd + 7) / 8) ∧ Pad n wd s.data.toList) ∧ e = .returned (.pointer none))) := by
  go_enter Try.func21, Try.ntmps21
  go_wp2_with fail
  refine (new_any n wd w hw hn hm).mono ?_
  rintro e w1 ⟨p, g, rfl, hbt, hp, hg, hb⟩
  have c1 := hbt.head.cell 3
  change w1.cell? ⟨p, 3, none⟩ = some (.slice (some ⟨g, 0, none⟩) (List.replicate (n * ((wd + 7) / 8)) (0 : UInt8)).length (List.replicate (n * ((wd + 7) / 8)) (0 : UInt8)).length) at c1
  rw [List.length_replicate] at c1
  obtain ⟨m, hmm⟩ : ∃ m, m = n * ((wd + 7) / 8) := ⟨_, rfl⟩
  have hmm' := hmm
  rw [← hmm] at c1 hm
  by_cases hs : s.size = m
  · have hcp := Lib.run_copy_row_string (P := Try.prog) w1 41 9 3 5 g 0 m m s _ 5 Try.underlying41 (by kernel_rfl) hbt.body (by omega) (by rw [u8cells_size, List.length_replicate]; omega)
    rw [List.take_zero, List.nil_append, List.drop_of_length_le (by rw [Array.length_toList, u8cells_size, List.length_replicate]; omega), List.append_nil, byteCells_eq] at hcp
    have h2 : Bt (w1.setRow g (u8cells s.data.toList)) p g n wd s.data.toList := by
      have hl : s.data.toList.length = m := by rw [Array.length_toList]; exact hs
      have h1 := hbt.head
      rw [List.length_replicate, ← hmm, ← hl] at h1
      exact ⟨(setRow_other w1 g p _ hbt.ne).trans h1, setRow_heap w1 g _ _ _ _ hbt.body, hbt.ne, by rw [hl, hmm'], hw, hn, by omega⟩
    have hb2 : Below w.heap.size w (w1.setRow g (u8cells s.data.toList)) := below_setRow hb hg _
    have hsz : ((s.size : Int) != (m : Int)) = false := by rw [bne_eq_false_iff_eq]; omega
    have hlen : s.data.toList.length = m := by rw [Array.length_toList]; exact hs
    have Hs := Lib.hid hs
    have Hb := Lib.hid hb2; have Hbt := Lib.hid h2
    have HM := Lib.hid hmm'
    have hs2 : decide (s.size = m) = true := decide_eq_true hs
    clear hb hbt hmm hmm' hb2 h2 hs
    generalize hl : s.data.toList = l at *
    have Hlen := Lib.hid hlen; have Hl := Lib.hid hl; clear hlen hl
    obtain ⟨q, hq⟩ : ∃ q, q = wd % 8 := ⟨_, rfl⟩
    have q1 : (wd : Int) % 8 = (q : Int) := by omega
    have q2 : (wd : Int).tmod 8 = (q : Int) := by rw [Int.tmod_eq_emod_of_nonneg (by omega)]; exact q1
    have q3 : IntKind.i64.wrap (q : Int) = q := wrap_small _ (by omega) (by omega)
    have q4 : (0 : Int) ≤ (q : Int) := by omega
    have q5 : (q : Int) < 8 := by omega
    by_cases hq0 : q = 0
    · have z1 : ((q : Int) == 0) = true := by simp [hq0]
      have z2 : decide (q = 0) = true := by simp [hq0]
      have Hq := Lib.hid hq; have Hq0 := Lib.hid hq0
      clear hq hq0
      go_wp2
      go_ret
      refine ⟨Hb.out, Or.inl ⟨Hs.out.trans HM.out, by rw [Hl.out]; exact pad_zero _ _ _ (Hq.out.symm.trans Hq0.out), _, _, rfl, by rw [Hl.out]; exact Hbt.out, hp, hg⟩⟩
    · have z1 : ((q : Int) == 0) = false := by rw [beq_eq_false_iff_ne]; omega
      have z2 : decide (q = 0) = false := by simp [hq0]
      obtain ⟨lg, hlg⟩ : ∃ lg, lg = (wd + 7) / 8 := ⟨_, rfl⟩
      have hlg1 : 1 ≤ lg := by omega
      have hlg2 : lg ≤ 268435456 := by omega
      have hpb := fun r (hr : r < n) hj => pad_byte (wd := wd) (r := r) (l := l) (by rw [← hq]; exact hq0) hj
      rw [← hlg, ← hq] at hpb
      have Hq := Lib.hid hq; have Hq0 := Lib.hid hq0; have Hlg := Lib.hid hlg; have Hpb := Lib.hid hpb
      clear hq hq0 hlg hpb
      go_wp2_with fail
      go_loopw [37] (fun i wr => ∃ (k : Nat), k ≤ n ∧ i = .int .i64 k ∧ Bt wr p g n wd l ∧ Below w.heap.size w wr ∧ ∀ r, r < k → ∀ i, wd ≤ i → i < 8 * lg → bitAt lg l r i = false) (fun i _ => n - (intOf i).toNat)
      case atStart => exact ⟨0, Nat.zero_le _, rfl, Hbt.out, Hb.out, fun r hr => absurd hr (Nat.not_lt_zero _)⟩
      case round =>
        obtain ⟨k, hk, rfl, hh, hb3, hpd⟩ := hrel
        have Hh := Lib.hid hh; have Hb3 := Lib.hid hb3; have Hpd := Lib.hid hpd
        clear hh hb3 hpd
        by_cases hlt : k < n
        · obtain ⟨m2, hm2⟩ : ∃ m2, m2 = (k + 1) * lg := ⟨_, rfl⟩
          obtain ⟨j, hj⟩ : ∃ j, j = k * lg + (lg - 1) := ⟨_, rfl⟩
          have hjm : m2 = j + 1 := by rw [hm2, hj, Nat.succ_mul]; omega
          have hjl : j < l.length := by
            rw [hj, Hlen.out, HM.out, ← Hlg.out]; exact at_lt hlt (by omega)
          have hjle : j < 268435456 := by have := Hlen.out; omega
          have f1 : IntKind.i64.wrap ((k : Int) + 1) = (k : Int) + 1 := wrap_small _ (by omega) (by omega)
          have f2 : IntKind.i64.wrap (((k : Int) + 1) * (lg : Int)) = (m2 : Int) := by
            rw [show ((k : Int) + 1) * (lg : Int) = (((k + 1) * lg : Nat) : Int) by rw [Int.natCast_mul, Int.natCast_add]; rfl, ← hm2]; exact wrap_small _ (by omega) (by omega)
          have f3 : (m2 : Int) - 1 = (j : Int) := by omega
          have f4 : IntKind.i64.wrap (j : Int) = j := wrap_small _ (by omega) (by omega)
          have hj2 : (j : Int) < (l.length : Int) := by omega
          have hj1 : (0 : Int) ≤ (j : Int) := by omega
          have hpk := Hpb.out k hlt (by rw [← hj]; exact hjl)
          have e2 := Hh.out.head.cell 2
          have e3 := Hh.out.head.cell 3
          change wr.cell? ⟨p, 2, none⟩ = some (.int .i64 ((wd + 7) / 8 : Nat)) at e2
          change wr.cell? ⟨p, 3, none⟩ = some (.slice (some ⟨g, 0, none⟩) l.length l.length) at e3
          rw [← Hlg.out] at e2
          have c3 := Hh.out.body.cell j
          rw [show u8cells l = u8cells l ++ #[] by simp, u8cells_get _ _ _ hjl] at c3
          simp only [← hj] at hpk
          generalize l[j] = x at *
          obtain ⟨z, hz⟩ : ∃ z, z = x.toNat / 2 ^ q := ⟨_, rfl⟩
          rw [← hz] at hpk
          have t1 : (x.toNat : Int) / (2 : Int) ^ q = z := by rw [hz]; norm_cast
          have t2 : (x.toNat : Int) / (2 : Int) ^ min q 8 = z := by rw [show min q 8 = q by omega]; exact t1
          have Hpk := Lib.hid hpk
          have Hj := Lib.hid hj; have Hm2 := Lib.hid hm2; have Hjm := Lib.hid hjm; have Hz := Lib.hid hz
          clear hj hm2 hjm hpk hz
          by_cases hz0 : z = 0
          · have y1 : ((z : Int) != 0) = false := by rw [bne_eq_false_iff_eq]; omega
            have y2 : decide (z = 0) = true := by simp [hz0]
            have Hz0 := Lib.hid hz0
            clear hz0
            go_wp2_with fail
            go_region_held3 (fun w' => w'.cell? ⟨p, 2, none⟩ = some (.int .i64 lg) ∧ w'.cell? ⟨p, 3, none⟩ = some (.slice (some ⟨g, 0, none⟩) l.length l.length) ∧ w'.cell? ⟨g, j, none⟩ = some (.int .u8 (x.toNat : Int))) (exact ⟨e2, e3, c3⟩) (fail)
            go_wp2_with fail
            go_roundw
            case rel =>
              refine ⟨k + 1, by omega, by go_num, Hh.out.later ((Below.refl _ _).drew), Hb3.out.drew, fun r hr => ?_⟩
              by_cases hrk : r < k
              · exact Hpd.out r hrk
              · obtain rfl : r = k := by omega
                exact Hpk.out.2 Hz0.out
            case measure => simp [intOf]; omega
          · have y1 : ((z : Int) != 0) = true := by rw [bne_iff_ne]; omega
            have y2 : decide (z = 0) = false := by simp [hz0]
            have Hz0 := Lib.hid hz0
            clear hz0
            go_wp2_with fail
            go_region_held3 (fun w' => w'.cell? ⟨p, 2, none⟩ = some (.int .i64 lg) ∧ w'.cell? ⟨p, 3, none⟩ = some (.slice (some ⟨g, 0, none⟩) l.length l.length) ∧ w'.cell? ⟨g, j, none⟩ = some (.int .u8 (x.toNat : Int))) (exact ⟨e2, e3, c3⟩) (fail)
            go_wp2_with fail
            go_ret
            refine ⟨Hb3.out.drew, Or.inr ⟨fun h => Hz0.out (Hpk.out.1 (by have := h.2 k hlt; rw [Hl.out, ← Hlg.out] at this; exact this)), rfl⟩⟩
        · obtain rfl : k = n := by omega
          go_wp2
          go_ret
          refine ⟨Hb3.out, Or.inl ⟨Hs.out.trans HM.out, ?_, _, _, rfl, by rw [Hl.out]; exact Hh.out, hp, hg⟩⟩
          rw [Hl.out]
          intro r hr
          have := Hpd.out r hr
          rw [Hlg.out] at this
          exact this
  · have hsz : ((s.size : Int) != (m : Int)) = true := by rw [bne_iff_ne]; omega
    have Hs := Lib.hid hs; have HM := Lib.hid hmm'
    have Hb := Lib.hid hb; have Hbt := Lib.hid hbt
    clear hs hb hbt hmm hmm'
    go_wp2
    go_ret
    exact ⟨Hb.out, Or.inr ⟨fun h => Hs.out (h.1.trans HM.out.symm), rfl⟩⟩
end Go.Proofs.Ytcnpldeehbleeaa
