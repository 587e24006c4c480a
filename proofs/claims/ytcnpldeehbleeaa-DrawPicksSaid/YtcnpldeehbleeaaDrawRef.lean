/- THE WALKS over the reference of chapter 5. -/
import Derived.Test.YtcnpldeehbleeaaDrawWorks
namespace Go.Proofs.Ytcnpldeehbleeaa
open Go.RowKit
def RDr (w : World) (p q : Nat) (left : List Int) : Prop := ∃ v l, ∃ n : Nat, Blk w p #[v, .int .i64 n] 26 (0, 0) ∧ SlI w v .u32 l ∧ v.ownBlock = some q ∧ p ≠ q ∧ q < w.heap.size ∧ n ≤ l.length ∧ left = l.drop n ∧ ∀ x ∈ l, 0 ≤ x ∧ x < 4294967296
theorem RDr.kept {S : Nat → Prop} {w w' : World} {p q : Nat} {l : List Int} (h : RDr w p q l) (hk : Kept S w w') (h1 : ¬ S p) (h2 : ¬ S q) : RDr w' p q l := by
  obtain ⟨v, l0, n, hb, hs, hq, hpq, hlt, hn, hl, hx⟩ := h
  refine ⟨v, l0, n, hk.blk hb h1, hs.agree (fun b hv => ?_), hq, hpq, Nat.lt_of_lt_of_le hlt hk.size, hn, hl, hx⟩
  rw [hq] at hv
  obtain rfl : q = b := by simpa using hv
  exact hk.block q hlt h2
theorem RDr.later {w w' : World} {p q : Nat} {l : List Int} (h : RDr w p q l) (hb : Below w.heap.size w w') : RDr w' p q l :=
  h.kept (S := fun _ => False) ⟨hb.os, hb.tape, hb.output, hb.size, fun k hk _ => hb.block k hk⟩ id id
theorem RDr.lt {w : World} {p q : Nat} {l : List Int} (h : RDr w p q l) : p < w.heap.size ∧ q < w.heap.size := by
  obtain ⟨_, _, _, hb, _, _, _, hq, _⟩ := h
  exact ⟨hb.lt, hq⟩
set_option maxHeartbeats 400000 in
theorem refLeft_any (p q : Nat) (left : List Int) (w : World) (h : RDr w p q left) :
    Calls Try.prog 18 #[.pointer (some ⟨p, 0, none⟩)] w fun e w' => e = .returned (.int .i64 left.length) ∧ Below w.heap.size w w' := by
  obtain ⟨v, l, n, hb, ⟨a, cap, rfl, h1, h2, h3⟩, _, _, _, hn, rfl, _⟩ := h
  have hc := hb.cell 0
  have hc1 := hb.cell 1
  clear h3
  unfold maxLen at h2
  change w.cell? ⟨p, 0, none⟩ = some (.slice a l.length cap) at hc
  change w.cell? ⟨p, 1, none⟩ = some (.int .i64 n) at hc1
  go_enter Try.func18, Try.ntmps18
  go_wp2_with fail
  go_quiet (fail)
  go_wp2
  go_ret
  refine ⟨?_, ⟨rfl, rfl, rfl, Nat.le_refl _, fun _ _ => rfl⟩⟩
  show Ending.returned (.int .i64 ((l.length : Int) - n)) = _
  rw [List.length_drop]; congr 2; omega
set_option maxHeartbeats 1000000 in
theorem refNext_any (p q : Nat) (left : List Int) (n : Int) (hn : -9223372036854775808 ≤ n ∧ n ≤ 9223372036854775807) (w : World) (h : RDr w p q left) :
    Calls Try.prog 14 #[.pointer (some ⟨p, 0, none⟩), .int .i64 n] w fun e w' => e = .returned (.int .i64 (nextV left n)) ∧ RDr w' p q (nextL left n) ∧ Kept (· = p) w w' := by
  have Hd := Lib.hid h
  obtain ⟨v, l, m, hb, hs, hq, hpq, hql, hm, rfl, hx⟩ := h
  have Hs := Lib.hid hs; have Hq := Lib.hid hq; have Hpq := Lib.hid hpq; have Hql := Lib.hid hql
  obtain ⟨a, cap, rfl, h1, h2, h3⟩ := hs
  have hc := hb.cell 0
  have hc1 := hb.cell 1
  have hfz := hb.free 1 (.inr (Nat.zero_le _))
  have Hb := Lib.hid hb; have Hx := Lib.hid hx
  unfold maxLen at h2
  change w.cell? ⟨p, 0, none⟩ = some (.slice a l.length cap) at hc
  change w.cell? ⟨p, 1, none⟩ = some (.int .i64 m) at hc1
  clear hb hx hq hpq hql
  by_cases h1n : n < 1
  · unfold nextV nextL
    rw [if_pos h1n, if_pos h1n]
    clear h3
    go_enter Try.func14, Try.ntmps14
    go_wp2_with fail
    go_quiet (fail)
    go_wp2
    go_ret
    exact ⟨rfl, Hd.out.kept (S := fun _ => False) ⟨rfl, rfl, rfl, Nat.le_refl _, fun _ _ _ => rfl⟩ id id, ⟨rfl, rfl, rfl, Nat.le_refl _, fun _ _ _ => rfl⟩⟩
  · unfold nextV nextL
    rw [if_neg h1n, if_neg h1n]
    have hle : 1 ≤ n := by omega
    by_cases hml : m < l.length
    · obtain ⟨b, off, rfl, hcell⟩ := h3 m hml
      have hbp : b ≠ p := by
        have := Hq.out
        simp only [Value.ownBlock, Option.some.injEq] at this
        rw [this]; exact fun e => Hpq.out e.symm
      have hxm := Hx.out _ (List.getElem_mem hml)
      have hdr : l.drop m = l[m] :: l.drop (m + 1) := List.drop_eq_getElem_cons hml
      rw [hdr]
      have Hdr := Lib.hid hdr
      have Hc := Lib.hid hcell
      clear h3 hdr hcell
      generalize hy : l[m] = y at *
      clear hy
      go_enter Try.func14, Try.ntmps14
      go_wp2_with fail
      go_quiet (fail)
      have hB1 := Blk.set (show Blk (w.drewN nq) p _ _ _ from Hb.out) 1 (.int .i64 ((m : Int) + 1))
      have f0 := hB1.cell 0
      have f1 := hB1.cell 1
      have f2 : ((w.drewN nq).setCell ⟨p, 1, none⟩ (.int .i64 ((m : Int) + 1))).cell? ⟨b, off + m, none⟩ = some (.int .u32 y) := (World.cell?_of_block (heap_setCell_other _ _ _ _ hbp)).trans Hc.out
      have HB1 := Lib.hid hB1; clear hB1
      change ((w.drewN nq).setCell ⟨p, 1, none⟩ (.int .i64 ((m : Int) + 1))).cell? ⟨p, 0, none⟩ = some (.slice (some ⟨b, off, none⟩) l.length cap) at f0
      change ((w.drewN nq).setCell ⟨p, 1, none⟩ (.int .i64 ((m : Int) + 1))).cell? ⟨p, 1, none⟩ = some (.int .i64 ((m : Int) + 1)) at f1
      go_wp2_with fail
      have HK : Hid (Kept (· = p) w ((w.drewN nq).setCell ⟨p, 1, none⟩ (.int .i64 ((m : Int) + 1)))) := (⟨rfl, rfl, rfl, Nat.le_refl _, fun _ _ _ => rfl⟩ : Kept (· = p) w (w.drewN nq)).setCell (p := ⟨p, 1, none⟩) rfl _
      clear hc hc1 hfz
      generalize (w.drewN nq).setCell ⟨p, 1, none⟩ (.int .i64 ((m : Int) + 1)) = w1 at *
      go_quiet (fail)
      go_wp2
      go_ret
      refine ⟨?_, ⟨_, l, m + 1, HB1.out, Hs.out.agree (fun b' hb' => ?_), Hq.out, Hpq.out, Nat.lt_of_lt_of_le Hql.out HK.out.size, by omega, rfl, Hx.out⟩, ⟨HK.out.os, HK.out.tape, HK.out.output, HK.out.size, HK.out.block⟩⟩
      · show Ending.returned (.int .i64 _) = _
        congr 2
        try exact Int.tmod_eq_emod_of_nonneg hxm.1
      · rw [Hq.out] at hb'
        obtain rfl : q = b' := by simpa using hb'
        exact HK.out.block q Hql.out (Ne.symm Hpq.out)
    · have hdr : l.drop m = [] := List.drop_eq_nil_of_le (by omega)
      have hge : l.length ≤ m := by omega
      rw [hdr]
      have Hdr := Lib.hid hdr
      clear h3 hdr
      go_enter Try.func14, Try.ntmps14
      go_wp2_with fail
      go_quiet (fail)
      go_wp2
      go_ret
      have := Hd.out
      rw [Hdr.out] at this
      exact ⟨rfl, this.kept (S := fun _ => False) ⟨rfl, rfl, rfl, Nat.le_refl _, fun _ _ _ => rfl⟩ id id, ⟨rfl, rfl, rfl, Nat.le_refl _, fun _ _ _ => rfl⟩⟩
set_option maxHeartbeats 400000 in
theorem refPick_any (p q : Nat) (l row : List Int) (v : Value) (w : World) (h : RDr w p q l) (hx : ∀ x ∈ l, 0 ≤ x ∧ x < 4294967296) (hv : SlI w v .i64 row) (hvp : row ≠ [] → v.ownBlock ≠ some p) :
    Calls Try.prog 16 #[.pointer (some ⟨p, 0, none⟩), v] w fun e w' => ∃ x ok, e = .returned (.tuple #[.int .i64 x, .bool ok]) ∧ Picked row l x ok ∧ RDr w' p q (pickL l row) ∧ Kept (· = p) w w' := by
  obtain ⟨a, cap, rfl, h1, h2, h3⟩ := hv
  unfold maxLen at h2
  by_cases hr : row = []
  · subst hr
    clear h3
    have hpl : Hid (pickL l [] = l) := by show _ = _; unfold pickL; simp
    have Hd := Lib.hid h; clear h
    simp only [List.length_nil] at *
    go_enter Try.func16, Try.ntmps16
    go_wp2_with fail
    go_ret2
    exact ⟨_, _, rfl, .inl ⟨rfl, rfl, rfl⟩, by rw [hpl.out]; exact Hd.out, Kept.refl _ _⟩
  · have hvp := hvp hr
    have hlen : 0 < row.length := List.length_pos_iff.2 hr
    have C := Lib.hid (refNext_any p q l row.length ⟨by omega, by omega⟩ w h)
    have hbd : 0 ≤ nextV l row.length ∧ nextV l row.length < row.length := nextV_bd l _ hx (by omega)
    have hpl : Hid (pickL l row = nextL l row.length) := if_neg hr
    have hpk : Hid (∀ (h : (nextV l row.length).toNat < row.length), Picked row l row[(nextV l row.length).toNat] true) := fun h => .inr ⟨rfl, h, rfl⟩
    generalize hy : nextV l row.length = y at *
    clear hy
    obtain ⟨b, off, rfl, hc⟩ := h3 y.toNat (by omega)
    have Hc := Lib.hid hc; clear hc h3 h
    have hbp : b ≠ p := fun e => hvp (by rw [e]; rfl)
    have h0 : ((row.length : Int) == 0) = false := by rw [beq_eq_false_iff_ne]; omega
    obtain ⟨m, rfl⟩ := Int.eq_ofNat_of_zero_le hbd.1
    rw [Int.toNat_natCast] at *
    clear hr hvp hx
    go_enter Try.func16, Try.ntmps16
    go_wp2_with fail
    refine C.out.mono ?_
    rintro e w' ⟨rfl, hd, hk⟩
    have hml : m < row.length := by omega
    have hcell : w'.cell? ⟨b, off + m, none⟩ = some (.int .i64 row[m]) :=
      (World.cell?_of_block (hk.block b (block_lt_of_cell Hc.out) hbp)).trans Hc.out
    have Hd := Lib.hid hd; have Hk := Lib.hid hk; clear hd hk
    go_wp2
    go_ret2
    refine ⟨_, _, rfl, ?_, by rw [hpl.out]; exact Hd.out, Hk.out⟩
    exact hpk.out hml
end Go.Proofs.Ytcnpldeehbleeaa
