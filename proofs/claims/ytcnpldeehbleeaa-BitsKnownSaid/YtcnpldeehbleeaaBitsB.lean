/- THE WALKS over bits, II: New, Set, Bytes. -/
import Derived.Test.YtcnpldeehbleeaaBits
namespace Go.Proofs.Ytcnpldeehbleeaa
open Go.RowKit
theorem infoU8 : (Try.prog.info? 5).map (fun i => (i.zero, i.size, i.bytes)) = some (some (.int .u8 0), 1, 1) := by kernel_rfl
theorem tdiv8 (wd : Nat) (h : wd ≤ 67108864) : (IntKind.i64.wrap (IntKind.i64.wrap ((wd : Int) + 8) - 1)).tdiv 8 = ((wd + 7) / 8 : Nat) := by
  have h1 : IntKind.i64.wrap ((wd : Int) + 8) = (wd : Int) + 8 := wrap_small _ (by omega) (by omega)
  rw [h1, wrap_small _ (by omega) (by omega), Int.tdiv_eq_ediv_of_nonneg (by omega)]; omega
set_option maxHeartbeats 1000000 in
theorem new_any (n wd : Nat) (w : World) (hw : wd ≤ 67108864) (hn : n ≤ 9223372036854775807) (hm : n * ((wd + 7) / 8) ≤ 268435456) :
    Calls Try.prog 26 #[.int .i64 n, .int .i64 wd] w fun e w' => ∃ p g, e = .returned (.pointer (some ⟨p, 0, none⟩)) ∧ Bt w' p g n wd (List.replicate (n * ((wd + 7) / 8)) 0) ∧ w.heap.size ≤ p ∧ w.heap.size ≤ g ∧ Below w.heap.size w w' := by
  obtain ⟨lg, hlg⟩ : ∃ lg, lg = (wd + 7) / 8 := ⟨_, rfl⟩
  obtain ⟨m, hmm⟩ : ∃ m, m = n * lg := ⟨_, rfl⟩
  have e1 := tdiv8 wd hw
  have e4 : ((wd : Int) + 8 - 1) / 8 = lg := by omega
  have e5 : ((wd : Int) + 7) / 8 = lg := by omega
  rw [← hlg] at e1 hm ⊢
  rw [← hmm] at hm ⊢
  have e2 : IntKind.i64.wrap ((n : Int) * (lg : Int)) = m := by rw [hmm, ← Int.natCast_mul]; exact wrap_small _ (by omega) (by omega)
  have e3 : IntKind.i64.wrap (lg : Int) = lg := wrap_small _ (by omega) (by omega)
  have hmk := run_make_bytes (P := Try.prog) 41 5 Try.underlying41 infoU8 m (by omega)
  have hbt : ∀ w' : World, w' = (w.alloc (.cells (u8cells (List.replicate m 0)) 5)).alloc (.cells #[.int .i64 n, .int .i64 wd, .int .i64 lg, .slice (some ⟨w.heap.size, 0, none⟩) m m] 63) → Bt w' (w.heap.size + 1) w.heap.size n wd (List.replicate m 0) := by
    rintro w' rfl
    have h1 := Blk.new (w.alloc (.cells (u8cells (List.replicate m 0)) 5)) #[.int .i64 n, .int .i64 wd, .int .i64 lg, .slice (some ⟨w.heap.size, 0, none⟩) m m] 63 (0, 0)
    rw [World.size_alloc] at h1
    refine ⟨by rw [List.length_replicate, ← hlg]; exact h1, (Blk.new w _ _ _).alloc _, by omega, by rw [List.length_replicate, hmm, hlg], hw, hn, by rw [List.length_replicate]; omega⟩
  have hq : ∀ lgp : 0 < lg, ((268435456 : Int).tdiv (lg : Int)) = ((268435456 / lg : Nat) : Int) := fun _ => by
    rw [Int.tdiv_eq_ediv_of_nonneg (by omega)]; rfl
  have HB := Lib.hid hbt; have Hm := Lib.hid hmm
  clear hbt
  by_cases hl0 : lg = 0
  · have hl1 : decide ((0 : Int) < (lg : Int)) = false := by simp [hl0]
    have hl2 : decide (0 < lg) = false := by simp [hl0]
    have Hl0 := Lib.hid hl0
    clear hl0 hq hlg hmm
    go_enter Try.func26, Try.ntmps26
    go_wp2
    go_ret
    exact ⟨_, _, rfl, HB.out _ rfl, by omega, by omega, ((Below.refl _ _).alloc (Nat.le_refl _) _).alloc (by simp) _⟩
  · have hl1 : decide ((0 : Int) < (lg : Int)) = true := by simp; omega
    have hl2 : decide (0 < lg) = true := by simp; omega
    have hq1 := hq (by omega)
    have hq2 : (268435456 : Int) / (lg : Int) = ((268435456 / lg : Nat) : Int) := rfl
    have hle : n ≤ 268435456 / lg := (Nat.le_div_iff_mul_le (by omega)).2 (by omega)
    have hqq : 268435456 / lg ≤ 268435456 := Nat.div_le_self _ _
    generalize 268435456 / lg = q at *
    have hle1 : ¬ (q : Int) < (n : Int) := by omega
    have hlz : ((lg : Int) == 0) = false := by rw [beq_eq_false_iff_ne]; omega
    have hqw : IntKind.i64.wrap (q : Int) = q := wrap_small _ (by omega) (by omega)
    have hqv : wrap64 (q : Int) = q := IntWalk.wrap64_in _ ⟨by omega, by omega⟩
    clear hq hlg hmm
    go_enter Try.func26, Try.ntmps26
    go_wp2
    go_ret
    exact ⟨_, rfl, _, HB.out _ rfl, by omega, by omega, ((Below.refl _ _).alloc (Nat.le_refl _) _).alloc (by simp) _⟩
theorem bytes_any (p g n wd : Nat) (l : List UInt8) (w : World) (h : Bt w p g n wd l) :
    Calls Try.prog 22 #[.pointer (some ⟨p, 0, none⟩)] w fun e w' => e = .returned (.string ⟨l.toArray⟩) ∧ w = w' := by
  have c1 := h.head.cell 3
  change w.cell? ⟨p, 3, none⟩ = some (.slice (some ⟨g, 0, none⟩) l.length l.length) at c1
  have hcv := conv_block w g l #[] 5 (0, 0) l.length (by rw [Array.append_empty]; exact h.body) (P := Try.prog) Try.underlying41 Try.underlying5 Try.underlying9
  clear h
  go_enter Try.func22, Try.ntmps22
  go_wp2
  go_ret
  exact ⟨rfl, rfl⟩
theorem new_none (n wd : Int) (w : World) (h : n < 0 ∨ wd < 0 ∨ 67108864 < wd) :
    Calls Try.prog 26 #[.int .i64 n, .int .i64 wd] w fun e w' => e = .returned (.pointer none) ∧ w = w' := by
  go_enter Try.func26, Try.ntmps26
  by_cases h1 : n < 0
  · go_wp2
    go_ret
    exact ⟨rfl, rfl⟩
  · by_cases h2 : wd < 0
    · go_wp2
      go_ret
      exact ⟨rfl, rfl⟩
    · have h3 : 67108864 < wd := by omega
      go_wp2
      go_ret
      exact ⟨rfl, rfl⟩
/-- bit i of row R, of the bytes -/
def bitAt (lg : Nat) (l : List UInt8) (R i : Nat) : Bool := (l[R * lg + i / 8]?.getD 0).toNat.testBit (i % 8)
/-- l' is l with bit i of row R made so -/
def Sets (n lg : Nat) (l : List UInt8) (R I : Nat) (on : Bool) (l' : List UInt8) : Prop :=
  l'.length = l.length ∧ ∀ r, r < n → ∀ i, i < 8 * lg → bitAt lg l' r i = if r = R ∧ i = I then on else bitAt lg l r i
theorem at_inj {lg R r d e : Nat} (hd : d < lg) (he : e < lg) (h : R * lg + d = r * lg + e) : R = r ∧ d = e := by
  have h1 : (R * lg + d) / lg = R := by rw [Nat.mul_comm, Nat.mul_add_div (by omega), Nat.div_eq_of_lt hd, Nat.add_zero]
  have h2 : (r * lg + e) / lg = r := by rw [Nat.mul_comm, Nat.mul_add_div (by omega), Nat.div_eq_of_lt he, Nat.add_zero]
  have h3 : R = r := by rw [← h1, ← h2, h]
  subst h3
  exact ⟨rfl, by omega⟩
theorem sets_of {n lg : Nat} {l : List UInt8} {R I : Nat} {on : Bool} {y : UInt8} (hI : I < 8 * lg) (hj : R * lg + I / 8 < l.length) (hy : ∀ q, q < 8 → y.toNat.testBit q = if q = I % 8 then on else l[R * lg + I / 8].toNat.testBit q) : Sets n lg l R I on (l.set (R * lg + I / 8) y) := by
  refine ⟨List.length_set, fun r hr i hi => ?_⟩
  unfold bitAt
  by_cases e : R * lg + I / 8 = r * lg + i / 8
  · obtain ⟨rfl, e2⟩ := at_inj (by omega) (by omega) e
    rw [← e2, List.getElem?_set_self hj, List.getElem?_eq_getElem hj]
    simp only [Option.getD_some]
    rw [hy _ (Nat.mod_lt _ (by omega))]
    by_cases e3 : i = I
    · simp [e3]
    · have e4 : ¬ i % 8 = I % 8 := by omega
      simp [e3, e4]
  · rw [List.getElem?_set_ne e, if_neg (fun h => e (by rw [h.1, h.2]))]
theorem set_any (p g n wd : Nat) (l : List UInt8) (r i : Int) (on : Bool) (w : World) (h : Bt w p g n wd l) :
    Calls Try.prog 24 #[.pointer (some ⟨p, 0, none⟩), .int .i64 r, .int .i64 i, .bool on] w fun e w' => ∃ l', e = .returned (.bool (decide (0 ≤ r ∧ r < n ∧ 0 ≤ i ∧ i < wd))) ∧ Bt w' p g n wd l' ∧ Kept (· = g) w w' ∧
      ((0 ≤ r ∧ r < n ∧ 0 ≤ i ∧ i < wd) → Sets n ((wd + 7) / 8) l r.toNat i.toNat on l') ∧ (¬ (0 ≤ r ∧ r < n ∧ 0 ≤ i ∧ i < wd) → l' = l) := by
  have hbx := Blk.new w #[.bool on] 4 (0, 0)
  have hal : Bt (w.alloc (.cells #[.bool on] 4)) p g n wd l := ⟨h.head.alloc _, h.body.alloc _, h.ne, h.long, h.wide, h.rows, h.most⟩
  have hgl := h.body.lt
  have hpl := h.head.lt
  have hka : Kept (· = g) w (w.alloc (.cells #[.bool on] 4)) := (Kept.refl _ w).alloc _
  by_cases hri : 0 ≤ r ∧ r < n ∧ 0 ≤ i ∧ i < wd
  · rw [decide_eq_true hri]
    obtain ⟨R, rfl⟩ := Int.eq_ofNat_of_zero_le hri.1
    obtain ⟨I, rfl⟩ := Int.eq_ofNat_of_zero_le hri.2.2.1
    have hR : R < n := by omega
    have hI : I < wd := by omega
    have C := Lib.hid (place_set p g n wd R I l _ hal hR hI w.heap.size on hbx (by omega))
    have Hal := Lib.hid hal; have Hri := Lib.hid hri; have Hka := Lib.hid hka
    clear hbx hal hri hka
    go_enter Try.func24, Try.ntmps24
    go_wp2_with fail
    refine C.out.mono ?_; rintro e w' ⟨y, hj, rfl, hy, hbl, hk⟩
    go_wp2
    go_ret
    refine ⟨_, rfl, ?_, ?_, fun _ => sets_of (by omega) hj hy, fun hn => absurd Hri.out hn⟩
    · exact ⟨by rw [List.length_set]; exact hk.blk Hal.out.head (show ¬ p = g from h.ne), hbl, h.ne, by rw [List.length_set]; exact h.long, h.wide, h.rows, by rw [List.length_set]; exact h.most⟩
    · exact Hka.out.trans hk
  · rw [decide_eq_false hri]
    have C := Lib.hid (place_none p g n wd l r i (.func (.func 34) #[] #[.pointer (some ⟨w.heap.size, 0, none⟩)]) _ hal hri)
    have Hal := Lib.hid hal; have Hri := Lib.hid hri; have Hka := Lib.hid hka
    clear hbx hal hri hka
    go_enter Try.func24, Try.ntmps24
    go_wp2_with fail
    refine C.out.mono ?_; rintro e w' ⟨rfl, rfl⟩
    go_wp2
    go_ret
    exact ⟨l, rfl, Hal.out, Hka.out, fun hy => absurd hy Hri.out, fun _ => rfl⟩
end Go.Proofs.Ytcnpldeehbleeaa
