/- Or, walked. -/
import Derived.Test.YtcnpldeehbleeaaBitsAlone
import Derived.StillTailTactics
namespace Go.Proofs.Ytcnpldeehbleeaa
open Go.RowKit Go.Shelf
/-- the first k bytes of row R have what row F of m has besides -/
def orUpto (lg R F : Nat) (l m : List UInt8) : Nat → List UInt8
  | 0 => l
  | k + 1 => (orUpto lg R F l m k).set (R * lg + k) ((l[R * lg + k]?.getD 0) ||| (m[F * lg + k]?.getD 0))
theorem orUpto_length (lg R F : Nat) (l m : List UInt8) (k : Nat) : (orUpto lg R F l m k).length = l.length := by
  induction k with
  | zero => rfl
  | succ k ih => show (List.set _ _ _).length = _; rw [List.length_set, ih]
theorem orUpto_get (lg R F : Nat) (l m : List UInt8) (k j : Nat) (hj : j < l.length) : (orUpto lg R F l m k)[j]? = some (if R * lg ≤ j ∧ j < R * lg + k then (l[j]?.getD 0) ||| (m[F * lg + (j - R * lg)]?.getD 0) else l[j]) := by
  induction k with
  | zero => rw [if_neg (by omega)]; exact List.getElem?_eq_getElem hj
  | succ k ih =>
    show (List.set _ _ _)[j]? = _
    by_cases e : R * lg + k = j
    · subst e
      rw [List.getElem?_set_self (by rw [orUpto_length]; exact hj), if_pos (by omega), Nat.add_sub_cancel_left]
    · rw [List.getElem?_set_ne e, ih]
      congr 1
      by_cases h1 : R * lg ≤ j ∧ j < R * lg + k
      · rw [if_pos h1, if_pos (by omega)]
      · rw [if_neg h1, if_neg (by omega)]
theorem bitAt_or {lg R F n n2 : Nat} {l m : List UInt8} (hl : l.length = n * lg) (hm : m.length = n2 * lg) (hF : F < n2) {r i : Nat} (hr : r < n) (hi : i < 8 * lg) :
    bitAt lg (orUpto lg R F l m lg) r i = (bitAt lg l r i || (decide (r = R) && bitAt lg m F i)) := by
  have hj : r * lg + i / 8 < l.length := by rw [hl]; exact at_lt hr (by omega)
  have hj2 : F * lg + i / 8 < m.length := by rw [hm]; exact at_lt hF (by omega)
  unfold bitAt
  rw [orUpto_get _ _ _ _ _ _ _ hj, Option.getD_some]
  by_cases e : r = R
  · subst e
    rw [if_pos (by omega), show r * lg + i / 8 - r * lg = i / 8 by omega, UInt8.toNat_or, Nat.testBit_or]
    simp
  · rw [if_neg (fun h => e ?_), decide_eq_false e, Bool.false_and, Bool.or_false, List.getElem?_eq_getElem hj, Option.getD_some]
    have := at_inj (lg := lg) (R := r) (r := R) (d := i / 8) (e := r * lg + i / 8 - R * lg) (by omega) (by omega) (by omega)
    exact this.1
theorem or_word (x y : UInt8) : bits .or .u8 (x.toNat : Int) (y.toNat : Int) = (((x ||| y).toNat : Nat) : Int) := by
  rw [u8_or_nat _ _ x.toNat_lt y.toNat_lt, UInt8.toNat_or]
set_option maxHeartbeats 4000000 in
set_option maxRecDepth 100000 in
theorem or_yes (p g n wd : Nat) (l : List UInt8) (p2 g2 n2 : Nat) (m : List UInt8) (R F : Nat) (w : World) (h : Bt w p g n wd l) (h2 : Bt w p2 g2 n2 wd m) (hpg : p2 ≠ g) (hsrc : g2 ≠ g ∨ (g2 = g ∧ m = l)) (hR : R < n) (hF : F < n2) :
    Calls Try.prog 25 #[.pointer (some ⟨p, 0, none⟩), .int .i64 R, .pointer (some ⟨p2, 0, none⟩), .int .i64 F] w fun e w' => e = .returned (.bool true) ∧ Bt w' p g n wd (orUpto ((wd + 7) / 8) R F l m ((wd + 7) / 8)) ∧ Kept (· = g) w w' := by
  obtain ⟨lg, hlg⟩ : ∃ lg, lg = (wd + 7) / 8 := ⟨_, rfl⟩
  have c0 := h.head.cell 0
  have c1 := h.head.cell 1
  have c2 := h.head.cell 2
  have c3 := h.head.cell 3
  have d0 := h2.head.cell 0
  have d1 := h2.head.cell 1
  have d3 := h2.head.cell 3
  change w.cell? ⟨p, 0, none⟩ = some (.int .i64 n) at c0
  change w.cell? ⟨p, 1, none⟩ = some (.int .i64 wd) at c1
  change w.cell? ⟨p, 2, none⟩ = some (.int .i64 ((wd + 7) / 8 : Nat)) at c2
  change w.cell? ⟨p, 3, none⟩ = some (.slice (some ⟨g, 0, none⟩) l.length l.length) at c3
  change w.cell? ⟨p2, 0, none⟩ = some (.int .i64 n2) at d0
  change w.cell? ⟨p2, 1, none⟩ = some (.int .i64 wd) at d1
  change w.cell? ⟨p2, 3, none⟩ = some (.slice (some ⟨g2, 0, none⟩) m.length m.length) at d3
  have hw := h.wide
  have hlgb : lg ≤ 67108864 := by omega
  have hll := h.long
  have hml := h2.long
  have hlm := h.most
  have hmm := h2.most
  rw [← hlg] at c2 hll hml
  rw [← hlg]
  have hne := h.ne
  have HW0 := Lib.hid h; have HW2 := Lib.hid h2; have Hlg := Lib.hid hlg; have Hll := Lib.hid hll; have Hml := Lib.hid hml
  have k1 : ((wd : Int) != (wd : Int)) = false := by simp
  have k2 : decide ((R : Int) < 0) = false := decide_eq_false (by omega)
  have k3 : decide ((n : Int) ≤ (R : Int)) = false := decide_eq_false (by omega)
  have k4 : decide ((F : Int) < 0) = false := decide_eq_false (by omega)
  have k5 : decide ((n2 : Int) ≤ (F : Int)) = false := decide_eq_false (by omega)
  have k6 : decide (n ≤ R) = false := decide_eq_false (by omega)
  have k7 : decide (n2 ≤ F) = false := decide_eq_false (by omega)
  clear hlg hll hml h h2
  go_enter Try.func25, Try.ntmps25
  go_wp2_with fail
  go_quiet (fail)
  go_wp2_with fail
  clear c0 c1 d0 d1 k1 k2 k3 k4 k5 k6 k7
  go_loopw [9, 55] (fun _ i wr => ∃ k : Nat, k ≤ lg ∧ i = .int .i64 k ∧ Blk wr g (u8cells (orUpto lg R F l m k)) 5 (0, 0) ∧ Kept (· = g) w wr) (fun _ i _ => lg - (intOf i).toNat)
  case atStart => exact ⟨0, Nat.zero_le _, rfl, HW0.out.body, ⟨rfl, rfl, rfl, Nat.le_refl _, fun _ _ _ => rfl⟩⟩
  case round =>
    obtain ⟨k, hk, rfl, hb, hkp⟩ := hrel
    have Hb := Lib.hid hb; have Hkp := Lib.hid hkp
    clear hb hkp
    by_cases hlt : k < lg
    · obtain ⟨mR, hmR⟩ : ∃ mR, mR = R * lg := ⟨_, rfl⟩
      obtain ⟨mF, hmF⟩ : ∃ mF, mF = F * lg := ⟨_, rfl⟩
      obtain ⟨j, hj⟩ : ∃ j, j = mR + k := ⟨_, rfl⟩
      obtain ⟨j2, hj2⟩ : ∃ j2, j2 = mF + k := ⟨_, rfl⟩
      have hjl : j < l.length := by rw [Hll.out, hj, hmR]; exact at_lt hR hlt
      have hjm : j2 < m.length := by rw [Hml.out, hj2, hmF]; exact at_lt hF hlt
      have e1 : IntKind.i64.wrap ((R : Int) * (lg : Int)) = mR := by rw [hmR, ← Int.natCast_mul]; exact wrap_small _ (by omega) (by omega)
      have e2 : IntKind.i64.wrap ((F : Int) * (lg : Int)) = mF := by rw [hmF, ← Int.natCast_mul]; exact wrap_small _ (by omega) (by omega)
      have e3 : IntKind.i64.wrap ((mR : Int) + (k : Int)) = j := by rw [hj, ← Int.natCast_add]; exact wrap_small _ (by omega) (by omega)
      have e4 : IntKind.i64.wrap ((mF : Int) + (k : Int)) = j2 := by rw [hj2, ← Int.natCast_add]; exact wrap_small _ (by omega) (by omega)
      have b1 : (0 : Int) ≤ (j : Int) := by omega
      have b2 : (j : Int) < (l.length : Int) := by omega
      have b3 : (0 : Int) ≤ (j2 : Int) := by omega
      have b4 : (j2 : Int) < (m.length : Int) := by omega
      have hjo : j < (orUpto lg R F l m k).length := by rw [orUpto_length]; exact hjl
      have g1 : wr.cell? ⟨p, 2, none⟩ = some (.int .i64 lg) := (World.cell?_of_block (Hkp.out.block p HW0.out.head.lt hne)).trans c2
      have g2' : wr.cell? ⟨p, 3, none⟩ = some (.slice (some ⟨g, 0, none⟩) l.length l.length) := (World.cell?_of_block (Hkp.out.block p HW0.out.head.lt hne)).trans c3
      have g3 : wr.cell? ⟨p2, 3, none⟩ = some (.slice (some ⟨g2, 0, none⟩) m.length m.length) := (World.cell?_of_block (Hkp.out.block p2 HW2.out.head.lt hpg)).trans d3
      have hget := orUpto_get lg R F l m k j hjl
      rw [← hmR, if_neg (by omega), List.getElem?_eq_getElem hjo] at hget
      have hgj : (orUpto lg R F l m k)[j] = l[j] := by simpa using hget
      have g4 : wr.cell? ⟨g, j, none⟩ = some (.int .u8 (l[j].toNat : Int)) := by
        have := Hb.out.cell j
        rw [show u8cells (orUpto lg R F l m k) = u8cells (orUpto lg R F l m k) ++ #[] by simp, u8cells_get _ _ _ hjo, hgj] at this
        exact this
      have g5 : wr.cell? ⟨g2, j2, none⟩ = some (.int .u8 (m[j2].toNat : Int)) := by
        rcases hsrc with h | ⟨h, h'⟩
        · have := (Hkp.out.blk HW2.out.body h).cell j2
          rw [show u8cells m = u8cells m ++ #[] by simp, u8cells_get _ _ _ hjm] at this
          exact this
        · subst h h'
          have hjo2 : j2 < (orUpto lg R F m m k).length := by rw [orUpto_length]; exact hjm
          have hget2 := orUpto_get lg R F m m k j2 hjm
          rw [← hmR] at hget2
          have hnot : ¬ (mR ≤ j2 ∧ j2 < mR + k) := by
            rintro ⟨h1, h2⟩
            have h3 : R * lg + (j2 - mR) = F * lg + k := by omega
            have := at_inj (lg := lg) (R := R) (r := F) (d := j2 - mR) (e := k) (by omega) hlt h3
            omega
          rw [if_neg hnot, List.getElem?_eq_getElem hjo2] at hget2
          have hgj2 : (orUpto lg R F m m k)[j2] = m[j2] := by simpa using hget2
          have := Hb.out.cell j2
          rw [show u8cells (orUpto lg R F m m k) = u8cells (orUpto lg R F m m k) ++ #[] by simp, u8cells_get _ _ _ hjo2, hgj2] at this
          exact this
      have hstep : orUpto lg R F l m (k + 1) = (orUpto lg R F l m k).set j (l[j] ||| m[j2]) := by
        show List.set _ (R * lg + k) ((l[R * lg + k]?.getD 0) ||| (m[F * lg + k]?.getD 0)) = _
        rw [← hmR, ← hmF, ← hj, ← hj2, List.getElem?_eq_getElem hjl, List.getElem?_eq_getElem hjm]; rfl
      have ho := or_word l[j] m[j2]
      have hset := fun z => u8cells_set (orUpto lg R F l m k) #[] j hjo z
      simp only [Array.append_empty] at hset
      have hbs := Hb.out.set j (.int .u8 ((l[j] ||| m[j2]).toNat : Int))
      rw [hset, ← hstep] at hbs
      have hfz := Hb.out.free j (Or.inr (Nat.zero_le _))
      generalize l[j] = x at *
      generalize m[j2] = y at *
      have Hbs := Lib.hid hbs; have Hstep := Lib.hid hstep
      clear hbs hstep hset hget hgj hjo
      have Hj := Lib.hid hj; have Hj2 := Lib.hid hj2; have HmR := Lib.hid hmR; have HmF := Lib.hid hmF; have Hsrc := Lib.hid hsrc
      generalize (x ||| y) = z at *
      clear hj hj2 hmR hmF hsrc
      go_wp2_with fail
      go_still_tail 30, (by kernel_rfl)
      change wpList _ _ _ _ _ wr.drew
      have hfz' : wr.drew.frozen? ⟨g, j, none⟩ = false := hfz
      have hcl' : wr.drew.cell? ⟨g, j, none⟩ = some (.int .u8 (x.toNat : Int)) := g4
      have hx := Hkp.out.setCell (p := ⟨g, j, none⟩) rfl (.int .u8 (z.toNat : Int))
      have Hx := Lib.hid hx
      clear hx
      go_wp2_with fail
      go_roundw
      case rel => exact ⟨k + 1, by omega, by go_num, Hbs.out, ⟨Hx.out.os, Hx.out.tape, Hx.out.output, Hx.out.size, Hx.out.block⟩⟩
      case measure => simp [intOf]; omega
    · obtain rfl : k = lg := by omega
      go_wp2_with fail
      go_ret
      refine ⟨rfl, ?_, Hkp.out⟩
      exact ⟨by rw [orUpto_length]; exact Hkp.out.blk HW0.out.head (show ¬ p = g from hne), Hb.out, hne, by rw [orUpto_length]; exact HW0.out.long, HW0.out.wide, HW0.out.rows, by rw [orUpto_length]; exact hlm⟩
set_option maxHeartbeats 2000000 in
theorem or_no (p g n wd : Nat) (l : List UInt8) (p2 g2 n2 wd2 : Nat) (m : List UInt8) (r f : Int) (w : World) (h : Bt w p g n wd l) (h2 : Bt w p2 g2 n2 wd2 m) (hno : ¬ (wd = wd2 ∧ 0 ≤ r ∧ r < n ∧ 0 ≤ f ∧ f < n2)) :
    Calls Try.prog 25 #[.pointer (some ⟨p, 0, none⟩), .int .i64 r, .pointer (some ⟨p2, 0, none⟩), .int .i64 f] w fun e w' => e = .returned (.bool false) ∧ Below w.heap.size w w' := by
  have c0 := h.head.cell 0
  have c1 := h.head.cell 1
  have d0 := h2.head.cell 0
  have d1 := h2.head.cell 1
  change w.cell? ⟨p, 0, none⟩ = some (.int .i64 n) at c0
  change w.cell? ⟨p, 1, none⟩ = some (.int .i64 wd) at c1
  change w.cell? ⟨p2, 0, none⟩ = some (.int .i64 n2) at d0
  change w.cell? ⟨p2, 1, none⟩ = some (.int .i64 wd2) at d1
  have hfin : ∀ nq, Below w.heap.size w (w.drewN nq) := fun nq => ⟨rfl, rfl, rfl, Nat.le_refl _, fun _ _ => rfl⟩
  clear h h2
  go_enter Try.func25, Try.ntmps25
  go_wp2_with fail
  by_cases h1 : wd = wd2
  · have k1 : ((wd : Int) != (wd2 : Int)) = false := by rw [bne_eq_false_iff_eq]; omega
    have k1' : decide (wd = wd2) = true := decide_eq_true h1
    by_cases h2 : r < 0
    · have k2 : decide (r < 0) = true := decide_eq_true h2
      clear hno h1 h2
      go_quiet (fail)
      go_wp2_with fail
      go_ret
      exact ⟨rfl, hfin _⟩
    · have k2 : decide (r < 0) = false := decide_eq_false h2
      by_cases h3 : (n : Int) ≤ r
      · have k3 : decide ((n : Int) ≤ r) = true := decide_eq_true h3
        clear hno h1 h2 h3
        go_quiet (fail)
        go_wp2_with fail
        go_ret
        exact ⟨rfl, hfin _⟩
      · have k3 : decide ((n : Int) ≤ r) = false := decide_eq_false h3
        by_cases h4 : f < 0
        · have k4 : decide (f < 0) = true := decide_eq_true h4
          clear hno h1 h2 h3 h4
          go_quiet (fail)
          go_wp2_with fail
          go_ret
          exact ⟨rfl, hfin _⟩
        · have k4 : decide (f < 0) = false := decide_eq_false h4
          have k5 : decide ((n2 : Int) ≤ f) = true := decide_eq_true (by omega)
          clear hno h1 h2 h3 h4
          go_quiet (fail)
          go_wp2_with fail
          go_ret
          exact ⟨rfl, hfin _⟩
  · have k1 : ((wd : Int) != (wd2 : Int)) = true := by rw [bne_iff_ne]; omega
    have k1' : decide (wd = wd2) = false := decide_eq_false h1
    clear hno h1
    go_quiet (fail)
    go_wp2_with fail
    go_ret
    exact ⟨rfl, hfin _⟩
/-- Or, between rows as wide, where the other is another -/
theorem or_all (p g n wd : Nat) (l : List UInt8) (p2 g2 n2 : Nat) (m : List UInt8) (r f : Int) (w : World) (h : Bt w p g n wd l) (h2 : Bt w p2 g2 n2 wd m) (hpg : p2 ≠ g) (hsrc : g2 ≠ g ∨ (g2 = g ∧ m = l)) :
    Calls Try.prog 25 #[.pointer (some ⟨p, 0, none⟩), .int .i64 r, .pointer (some ⟨p2, 0, none⟩), .int .i64 f] w fun e w' => ∃ l', e = .returned (.bool (decide (0 ≤ r ∧ r < n ∧ 0 ≤ f ∧ f < n2))) ∧ Bt w' p g n wd l' ∧ Kept (· = g) w w' ∧
      ∀ k i : Nat, k < n → i < wd → getB n wd l' k i = (getB n wd l k i || (decide (0 ≤ r ∧ r < n ∧ 0 ≤ f ∧ f < n2) && (decide ((k : Int) = r) && getB n2 wd m f i))) := by
  by_cases hy : 0 ≤ r ∧ r < n ∧ 0 ≤ f ∧ f < n2
  · rw [decide_eq_true hy]
    obtain ⟨R, rfl⟩ := Int.eq_ofNat_of_zero_le hy.1
    obtain ⟨F, rfl⟩ := Int.eq_ofNat_of_zero_le hy.2.2.1
    have hF : F < n2 := by omega
    refine (or_yes p g n wd l p2 g2 n2 m R F w h h2 hpg hsrc (by omega) hF).mono ?_
    rintro e w' ⟨rfl, hb, hk⟩
    refine ⟨_, rfl, hb, hk, fun k i hkn hi => ?_⟩
    rw [Drawn.get hkn hi, Drawn.get hkn hi, Drawn.get hF hi, bitAt_or h.long h2.long hF hkn (by omega), Bool.true_and]
    congr 2
    exact decide_eq_decide.2 (by omega)
  · rw [decide_eq_false hy]
    refine (or_no p g n wd l p2 g2 n2 wd m r f w h h2 (fun hh => hy hh.2)).mono ?_
    rintro e w' ⟨rfl, hb⟩
    refine ⟨l, rfl, h.later hb, Kept.of_below hb, fun k i hkn hi => by simp⟩
end Go.Proofs.Ytcnpldeehbleeaa
