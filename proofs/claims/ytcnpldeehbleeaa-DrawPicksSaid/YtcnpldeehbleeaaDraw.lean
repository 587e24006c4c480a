/- THE WALKS over draw: New, Left, first, Next, Pick. -/
import Derived.Test.YtcnpldeehbleeaaRows
import Derived.Test.YtcnpldeehbleeaaRead
import Derived.Test.YtcnpldeehbleeaaLater
import Derived.WalkKit
import Derived.WalkSpells
import Derived.WalkLawsBesides
import Derived.Lib.Hide
import Derived.Laws.CopyOwn
import Derived.RegionTactic
import Derived.ChangeAlike
namespace Go.Proofs.Ytcnpldeehbleeaa
open Go.RowKit

/-- w' is as w was but for the blocks of S (and new ones) -/
structure Kept (S : Nat → Prop) (w w' : World) : Prop where
  os : w'.os = w.os
  tape : w'.tape = w.tape
  output : w'.output = w.output
  size : w.heap.size ≤ w'.heap.size
  block : ∀ k, k < w.heap.size → ¬ S k → w'.heap[k]? = w.heap[k]?

/-- draws at p: what is left of them -/
def Dr (w : World) (p q : Nat) (l : List Int) : Prop := ∃ v, Blk w p #[v] 58 (0, 0) ∧ SlI w v .u32 l ∧ v.ownBlock = some q ∧ p ≠ q ∧ q < w.heap.size ∧ ∀ x ∈ l, 0 ≤ x ∧ x < 4294967296
def nextV (l : List Int) (n : Int) : Int := if n < 1 then 0 else match l with | [] => 0 | x :: _ => x % n
def nextL (l : List Int) (n : Int) : List Int := if n < 1 then l else l.tail

set_option maxHeartbeats 400000 in
theorem left_any (p q : Nat) (l : List Int) (w : World) (h : Dr w p q l) :
    Calls Try.prog 17 #[.pointer (some ⟨p, 0, none⟩)] w fun e w' => e = .returned (.int .i64 l.length) ∧ w = w' := by
  obtain ⟨v, hb, ⟨a, cap, rfl, h1, h2, h3⟩, _, _, _, _⟩ := h
  have hc := hb.cell 0
  clear h3
  change w.cell? ⟨p, 0, none⟩ = some (.slice a l.length cap) at hc
  go_enter Try.func17, Try.ntmps17
  go_wp2
  go_ret
  exact ⟨rfl, rfl⟩

set_option maxHeartbeats 400000 in
theorem first_any (x : Int) (r : List Int) (v : Value) (w : World) (h : SlI w v .u32 (x :: r)) :
    Calls Try.prog 30 #[v] w fun e w' => ∃ v', e = .returned (.tuple #[.int .u32 x, v']) ∧ SlI w v' .u32 r ∧ v'.ownBlock = v.ownBlock ∧ w' = w.drew := by
  obtain ⟨a, cap, rfl, h1, h2, h3⟩ := h
  obtain ⟨b, off, rfl, hc⟩ := h3 0 (by simp)
  simp only [List.length_cons, Nat.add_zero, List.getElem_cons_zero] at *
  have H3 := Lib.hid h3; clear h3
  go_enter Try.func30, Try.ntmps30
  go_wp2
  go_region
  have H4 : Hid (SlI w.drew (.slice (if r = [] then some ⟨b, off, none⟩ else some ⟨b, off + 1, none⟩) r.length r.length) .u32 r) := by
    refine ⟨_, _, rfl, Nat.le_refl _, by omega, fun i hi => ?_⟩
    have hne : r ≠ [] := by intro e; subst e; simp at hi
    obtain ⟨b', off', e, hc'⟩ := H3.out (i + 1) (by omega)
    simp only [Option.some.injEq, Addr.mk.injEq, and_true] at e
    obtain ⟨rfl, rfl⟩ := e
    refine ⟨b, off + 1, if_neg hne, ?_⟩
    rw [Nat.add_assoc, Nat.add_comm 1 i]
    simpa using hc'
  have H5 : Hid ((Value.slice (if r = [] then some ⟨b, off, none⟩ else some ⟨b, off + 1, none⟩) r.length r.length).ownBlock = some b) := by
    show _ = _
    split <;> rfl
  generalize (if r = [] then some (⟨b, off, none⟩ : Addr) else some ⟨b, off + 1, none⟩) = a' at *
  go_wp2
  go_ret2
  exact ⟨_, rfl, H4.out, H5.out, rfl⟩

theorem Kept.refl (S : Nat → Prop) (w : World) : Kept S w w := ⟨rfl, rfl, rfl, Nat.le_refl _, fun _ _ _ => rfl⟩
theorem Kept.trans {S : Nat → Prop} {a b c : World} (h : Kept S a b) (k : Kept S b c) : Kept S a c :=
  ⟨k.os.trans h.os, k.tape.trans h.tape, k.output.trans h.output, Nat.le_trans h.size k.size, fun i hi hs => (k.block i (Nat.lt_of_lt_of_le hi h.size) hs).trans (h.block i hi hs)⟩
theorem Kept.drew {S : Nat → Prop} {a w : World} (h : Kept S a w) : Kept S a w.drew := ⟨h.os, h.tape, h.output, h.size, h.block⟩
theorem Kept.setCell {S : Nat → Prop} {a w : World} (h : Kept S a w) {p : Addr} (hp : S p.block) (u : Value) : Kept S a (w.setCell p u) :=
  ⟨h.os, h.tape, h.output, by simpa [World.setCell] using h.size, fun k hk hs => (heap_setCell_other _ _ _ _ (fun e => hs (by rw [e]; exact hp))).trans (h.block k hk hs)⟩
theorem Kept.below {S : Nat → Prop} {B : Nat} {a w : World} (h : Kept S a w) (hB : B ≤ a.heap.size) (hS : ∀ k, S k → B ≤ k) : Below B a w :=
  ⟨h.os, h.tape, h.output, h.size, fun k hk => h.block k (by omega) (fun hs => by have := hS k hs; omega)⟩
theorem Kept.of_below {S : Nat → Prop} {a w : World} (h : Below a.heap.size a w) : Kept S a w := ⟨h.os, h.tape, h.output, h.size, fun k hk _ => h.block k hk⟩
theorem Kept.blk {S : Nat → Prop} {a w : World} (h : Kept S a w) {b : Nat} {cs : Array Value} {t : TypeId} {fr : Nat × Nat} (hb : Blk a b cs t fr) (hs : ¬ S b) : Blk w b cs t fr := (h.block b hb.lt hs).trans hb

theorem Dr.kept {S : Nat → Prop} {w w' : World} {p q : Nat} {l : List Int} (h : Dr w p q l) (hk : Kept S w w') (h1 : ¬ S p) (h2 : ¬ S q) : Dr w' p q l := by
  obtain ⟨v, hb, hs, hq, hpq, hlt, hx⟩ := h
  refine ⟨v, hk.blk hb h1, hs.agree (fun b hv => ?_), hq, hpq, Nat.lt_of_lt_of_le hlt hk.size, hx⟩
  rw [hq] at hv
  obtain rfl : q = b := by simpa using hv
  exact hk.block q hlt h2
set_option maxHeartbeats 400000 in
theorem next_any (p q : Nat) (l : List Int) (n : Int) (hn : -9223372036854775808 ≤ n ∧ n ≤ 9223372036854775807) (w : World) (h : Dr w p q l) :
    Calls Try.prog 13 #[.pointer (some ⟨p, 0, none⟩), .int .i64 n] w fun e w' => e = .returned (.int .i64 (nextV l n)) ∧ Dr w' p q (nextL l n) ∧ Kept (· = p) w w' := by
  by_cases h1 : n < 1
  · unfold nextV nextL
    rw [if_pos h1, if_pos h1]
    have Hd := Lib.hid h; clear h
    go_enter Try.func13, Try.ntmps13
    go_wp2_with fail
    go_ret
    exact ⟨rfl, Hd.out, Kept.refl _ _⟩
  · unfold nextV nextL
    rw [if_neg h1, if_neg h1]
    have hle : 1 ≤ n := by omega
    cases l with
    | nil =>
      have C := Lib.hid (left_any p q [] w h)
      have Hd := Lib.hid h; clear h
      go_enter Try.func13, Try.ntmps13
      go_wp2_with fail
      refine C.out.mono ?_
      rintro e w' ⟨rfl, rfl⟩
      go_wp2_with fail
      go_ret
      exact ⟨rfl, Hd.out, Kept.refl _ _⟩
    | cons x r =>
      have C := Lib.hid (left_any p q (x :: r) w h)
      obtain ⟨v, hb, hs, hq, hpq, hlt, hx⟩ := h
      have C2 := Lib.hid (first_any x r v w hs)
      have hc := hb.cell 0
      change w.cell? ⟨p, 0, none⟩ = some v at hc
      have hfz := hb.free 0 (.inr (Nat.zero_le _))
      have Hb := Lib.hid hb; have Hs := Lib.hid hs; have Hx := Lib.hid hx; have Hq := Lib.hid hq; have Hpq := Lib.hid hpq; have Hlt := Lib.hid hlt
      have hx0 : 0 ≤ x ∧ x < 4294967296 := hx x (by simp)
      clear hb hs hx hq hpq hlt
      have hlen : (((x :: r).length : Int) == 0) = false := by rw [beq_eq_false_iff_ne]; simp; omega
      go_enter Try.func13, Try.ntmps13
      go_wp2_with fail
      refine C.out.mono ?_
      rintro e w' ⟨rfl, rfl⟩
      go_wp2_with fail
      refine C2.out.mono ?_
      rintro e w' ⟨v', rfl, ⟨a, cap, rfl, g1, g2, g3⟩, g4, rfl⟩
      have G : Hid (SlI w (.slice a r.length cap) .u32 r) := ⟨a, cap, rfl, g1, g2, g3⟩
      have G4 := Lib.hid g4; clear g4 g3
      go_wp2
      go_ret
      refine ⟨?_, ?_, ?_⟩
      · show Ending.returned _ = _
        congr 2
        try exact Int.tmod_eq_emod_of_nonneg hx0.1
      · refine ⟨.slice a r.length cap, (Hb.out.set 0 _).drew, G.out.agree (fun b hb => ?_), G4.out.trans Hq.out, Hpq.out, ?_, fun y hy => Hx.out y (List.mem_of_mem_tail hy)⟩
        · rw [G4.out, Hq.out] at hb
          obtain rfl : q = b := by simpa using hb
          exact heap_setCell_other _ _ _ _ (Ne.symm Hpq.out)
        · show q < (w.setCell _ _).heap.size
          simpa [World.setCell] using Hlt.out
      · exact ((Kept.refl (· = p) w).setCell (p := ⟨p, 0, none⟩) rfl _).drew

theorem infoU32 : (Try.prog.info? 30).map (fun i => (i.zero, i.size, i.bytes)) = some (some (.int .u32 0), 1, 4) := by kernel_rfl
set_option maxHeartbeats 400000 in
theorem new_any (v : Value) (l : List Int) (hl : l.length ≤ 1000) (hx : ∀ x ∈ l, 0 ≤ x ∧ x < 4294967296) (w : World) (hs : SlI w v .u32 l) :
    Calls Try.prog 11 #[v] w fun e w' => e = .returned (.pointer (some ⟨w.heap.size + 1, 0, none⟩)) ∧ Dr w' (w.heap.size + 1) w.heap.size l ∧ Below w.heap.size w w' := by
  have hmk := run_make_ints (P := Try.prog) 22 30 .u32 4 Try.underlying22 infoU32 l.length (by omega) (by omega)
  obtain ⟨a, cap, rfl, h1, h2, h3⟩ := hs
  have hcp := run_copy_whole (P := Try.prog) w 22 22 3 30 .u32 Try.underlying22 (by kernel_rfl) a cap l ⟨a, cap, rfl, h1, h2, h3⟩
  have H3 := Lib.hid h3; have Hx := Lib.hid hx; clear h3 hx
  go_enter Try.func11, Try.ntmps11
  have H4 : Hid (SlI (w.alloc (.cells (icells .u32 l) 30)) (.slice (some ⟨w.heap.size, 0, none⟩) l.length l.length) .u32 l) :=
    ⟨_, _, rfl, Nat.le_refl _, by omega, fun i hi => ⟨_, _, rfl, by rw [Nat.zero_add, (Blk.new w _ _ _).cell, icells_get _ _ _ hi]⟩⟩
  go_wp2
  go_ret
  refine ⟨rfl, ⟨_, ?_, H4.out.alloc _, rfl, by omega, by simp; omega, Hx.out⟩, ((Below.refl _ _).alloc (Nat.le_refl _) _).alloc (by simp) _⟩
  have := Blk.new (w.alloc (.cells (icells .u32 l) 30)) #[.slice (some ⟨w.heap.size, 0, none⟩) l.length l.length] 58 (0, 0)
  rwa [show (w.alloc (.cells (icells .u32 l) 30)).heap.size = w.heap.size + 1 by simp] at this

def pickL (l : List Int) (row : List Int) : List Int := if row = [] then l else nextL l row.length
/-- what is picked -/
def Picked (row l : List Int) (x : Int) (ok : Bool) : Prop := (row = [] ∧ x = 0 ∧ ok = false) ∨ (ok = true ∧ ∃ h : (nextV l row.length).toNat < row.length, x = row[(nextV l row.length).toNat])
theorem nextV_bd (l : List Int) (n : Int) (hx : ∀ x ∈ l, 0 ≤ x ∧ x < 4294967296) (hn : 1 ≤ n) : 0 ≤ nextV l n ∧ nextV l n < n := by
  unfold nextV
  rw [if_neg (by omega)]
  cases l with
  | nil => simp; omega
  | cons x r => exact ⟨Int.emod_nonneg _ (by omega), Int.emod_lt_of_pos _ (by omega)⟩
set_option maxHeartbeats 400000 in
theorem pick_any (p q : Nat) (l row : List Int) (v : Value) (w : World) (h : Dr w p q l) (hv : SlI w v .i64 row) (hvp : row ≠ [] → v.ownBlock ≠ some p) :
    Calls Try.prog 15 #[.pointer (some ⟨p, 0, none⟩), v] w fun e w' => ∃ x ok, e = .returned (.tuple #[.int .i64 x, .bool ok]) ∧ Picked row l x ok ∧ Dr w' p q (pickL l row) ∧ Kept (· = p) w w' := by
  obtain ⟨a, cap, rfl, h1, h2, h3⟩ := hv
  unfold maxLen at h2
  by_cases hr : row = []
  · subst hr
    clear h3
    have hpl : Hid (pickL l [] = l) := by show _ = _; unfold pickL; simp
    have Hd := Lib.hid h; clear h
    simp only [List.length_nil] at *
    go_enter Try.func15, Try.ntmps15
    go_wp2_with fail
    go_ret2
    exact ⟨_, _, rfl, .inl ⟨rfl, rfl, rfl⟩, by rw [hpl.out]; exact Hd.out, Kept.refl _ _⟩
  · have hvp := hvp hr
    have hlen : 0 < row.length := List.length_pos_iff.2 hr
    have C := Lib.hid (next_any p q l row.length ⟨by omega, by omega⟩ w h)
    have hbd : 0 ≤ nextV l row.length ∧ nextV l row.length < row.length := by
      obtain ⟨_, _, _, _, _, _, hx⟩ := h
      exact nextV_bd l _ hx (by omega)
    have hpl : Hid (pickL l row = nextL l row.length) := if_neg hr
    have hpk : Hid (∀ (h : (nextV l row.length).toNat < row.length), Picked row l row[(nextV l row.length).toNat] true) := fun h => .inr ⟨rfl, h, rfl⟩
    generalize hy : nextV l row.length = y at *
    clear hy
    obtain ⟨b, off, rfl, hc⟩ := h3 y.toNat (by omega)
    have Hc := Lib.hid hc; clear hc h3 h
    have hbp : b ≠ p := fun e => hvp (by rw [e]; rfl)
    have h0 : ((row.length : Int) == 0) = false := by rw [beq_eq_false_iff_ne]; omega
    obtain ⟨m, rfl⟩ := Int.eq_ofNat_of_zero_le hbd.1
    rw [Int.toNat_natCast] at *
    clear hr hvp
    go_enter Try.func15, Try.ntmps15
    go_wp2_with fail
    refine C.out.mono ?_
    rintro e w' ⟨rfl, hd, hk⟩
    have hml : m < row.length := by omega
    have hcell : w'.cell? ⟨b, off + m, none⟩ = some (.int .i64 row[m]) :=
      (World.cell?_of_block (hk.block b (block_lt_of_cell Hc.out) hbp)).trans Hc.out
    have Hd := Lib.hid hd; have Hk := Lib.hid hk; clear hd hk
    go_wp2
    go_ret2
    refine ⟨_, _, rfl, ?_, by rw [hpl.out]; exact Hd.out, Hk.out⟩
    exact hpk.out hml
end Go.Proofs.Ytcnpldeehbleeaa
