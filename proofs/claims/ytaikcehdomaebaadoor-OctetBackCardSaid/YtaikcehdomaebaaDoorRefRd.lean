/- THE WALKS over the reference of chapter 1: its reader: Take, Number. -/
import Derived.Test.YtaikcehdomaebaaDoorOctR
namespace Go.Proofs.YtaikcehdomaebaaDoor
open Go.RowKit
/-- the reference's reader at q is in a state -/
structure Rf (w : World) (q : Nat) (R : RS) : Prop where
  ex : ∃ (c : Int) (i : Nat), Blk w q #[.string R.s, .int .i64 R.at_, .int .i64 c, .int .i64 0, .int .i64 (i : Nat), .int .i64 0] 59 (0, 0) ∧ (R.f = none ∧ c = 0 ∧ i = 0 ∨ R.f = some (c, i) ∧ c ≠ 0)
  le : R.at_ ≤ R.s.size
  sz : R.s.size ≤ 140737488355328
def RfOn (w : World) (q : Nat) (R : RS) (w' : World) : Prop := Rf w' q R ∧ Kept (· = q) w w'
theorem Rf.lt {w : World} {q : Nat} {R : RS} (h : Rf w q R) : q < w.heap.size := by obtain ⟨⟨c, i, hb, _⟩, _, _⟩ := h; exact hb.lt
theorem Rf.agree {w w' : World} {q : Nat} {R : RS} (h : Rf w q R) (hb : w'.heap[q]? = w.heap[q]?) : Rf w' q R := by
  obtain ⟨⟨c, i, h1, h2⟩, hl, hs⟩ := h
  exact ⟨⟨c, i, hb.trans h1, h2⟩, hl, hs⟩
theorem Rf.later {w w' : World} {q : Nat} {R : RS} (h : Rf w q R) (hb : Below w.heap.size w w') : Rf w' q R := h.agree (hb.block q h.lt)
theorem RfOn.drew {w w' : World} {q : Nat} {R : RS} (h : RfOn w q R w') : RfOn w q R w'.drew := ⟨h.1.later ((Below.refl _ _).drew), h.2.drew⟩
set_option maxHeartbeats 1000000 in
theorem refTake_any (q : Nat) (R : RS) (n : Int) (w : World) (h : Rf w q R) (hn : n ≤ 9223372036854775807) :
    Calls Tryd.prog 43 #[.pointer (some ⟨q, 0, none⟩), .int .i64 n] w fun e w' => e = .returned (.string (R.take n).1) ∧ RfOn w q (R.take n).2 w' := by
  obtain ⟨⟨c, i, hb, hci⟩, hle, hsz⟩ := id h
  have c0 := hb.cell 0
  have c1 := hb.cell 1
  have c2 := hb.cell 2
  change w.cell? ⟨q, 0, none⟩ = some (.string R.s) at c0
  change w.cell? ⟨q, 1, none⟩ = some (.int .i64 R.at_) at c1
  change w.cell? ⟨q, 2, none⟩ = some (.int .i64 c) at c2
  have hfr := fun i => hb.free i (Or.inr (Nat.zero_le _))
  have H := Lib.hid h; have HB := Lib.hid hb
  rcases hci with ⟨hf, rfl, rfl⟩ | ⟨hf, hc⟩
  · have Hf := Lib.hid hf
    have c3 := hb.cell 3
    have c4 := hb.cell 4
    have c5 := hb.cell 5
    change w.cell? ⟨q, 3, none⟩ = some (.int .i64 0) at c3
    change w.cell? ⟨q, 4, none⟩ = some (.int .i64 0) at c4
    change w.cell? ⟨q, 5, none⟩ = some (.int .i64 0) at c5
    have f1 := hfr 1
    have f2 := hfr 2
    have f3 := hfr 3
    have f4 := hfr 4
    have f5 := hfr 5
    clear h hb hf hfr
    have hflt : ∀ k : Int, k ≠ 0 → RfOn w q { R with f := some (k, R.at_) } ((((w.setCell ⟨q, 2, none⟩ (.int .i64 k)).setCell ⟨q, 3, none⟩ (.int .i64 0)).setCell ⟨q, 4, none⟩ (.int .i64 R.at_)).setCell ⟨q, 5, none⟩ (.int .i64 0)) := fun k hk => by
      refine ⟨⟨⟨k, R.at_, ?_, .inr ⟨rfl, hk⟩⟩, hle, hsz⟩, ((((Kept.refl (· = q) w).setCell (p := ⟨q, 2, none⟩) rfl _).setCell (p := ⟨q, 3, none⟩) rfl _).setCell (p := ⟨q, 4, none⟩) rfl _).setCell (p := ⟨q, 5, none⟩) rfl _⟩
      have := (((HB.out.set 2 (.int .i64 k)).set 3 (.int .i64 0)).set 4 (.int .i64 R.at_)).set 5 (.int .i64 0)
      exact this
    have HFlt := Lib.hid hflt
    clear hflt
    by_cases h1 : n < 0
    · rw [RS.take_neg Hf.out h1]
      go_enter Tryd.func43, Tryd.ntmps43
      go_wp2
      go_ret
      exact ⟨rfl, HFlt.out 2 (by decide)⟩
    · obtain ⟨N, rfl⟩ := Int.eq_ofNat_of_zero_le (by omega : 0 ≤ n)
      have e1 : IntKind.i64.wrap ((R.s.size : Int) - (R.at_ : Int)) = (R.s.size : Int) - R.at_ := wrap_small _ (by omega) (by omega)
      by_cases h2 : (R.s.size : Int) - R.at_ < N
      · rw [RS.take_short Hf.out h1 h2]
        have k1 : decide ((R.s.size : Int) - R.at_ < N) = true := decide_eq_true h2
        go_enter Tryd.func43, Tryd.ntmps43
        go_wp2_with fail
        go_region_held3 (fun w' => w'.cell? ⟨q, 0, none⟩ = some (.string R.s) ∧ w'.cell? ⟨q, 1, none⟩ = some (.int .i64 R.at_)) (exact ⟨c0, c1⟩) (fail)
        go_wp2_with fail
        go_ret
        exact ⟨rfl, (HFlt.out 3 (by decide)).drew⟩
      · rw [RS.take_ok Hf.out h1 h2]
        have k1 : decide ((R.s.size : Int) - R.at_ < N) = false := decide_eq_false h2
        obtain ⟨a2, ha2⟩ : ∃ a2, a2 = R.at_ + N := ⟨_, rfl⟩
        have e2 : IntKind.i64.wrap ((R.at_ : Int) + (N : Int)) = (a2 : Int) := by rw [ha2, ← Int.natCast_add]; exact wrap_small _ (by omega) (by omega)
        have e3 : IntKind.i64.wrap ((a2 : Int) - (N : Int)) = (R.at_ : Int) := by rw [ha2]; rw [wrap_small _ (by omega) (by omega)]; omega
        have b1 : (a2 : Int) ≤ (R.s.size : Int) := by omega
        have b2 : (R.at_ : Int) ≤ (a2 : Int) := by omega
        have Ha2 := Lib.hid ha2
        clear ha2
        have hbz := HB.out.set 1 (.int .i64 a2)
        have d0 := hbz.cell 0
        have d1 := hbz.cell 1
        change (w.setCell ⟨q, 1, none⟩ (.int .i64 a2)).cell? ⟨q, 0, none⟩ = some (.string R.s) at d0
        change (w.setCell ⟨q, 1, none⟩ (.int .i64 a2)).cell? ⟨q, 1, none⟩ = some (.int .i64 a2) at d1
        have HBz := Lib.hid hbz
        clear hbz
        go_enter Tryd.func43, Tryd.ntmps43
        go_wp2_with fail
        go_region_held3 (fun w' => w'.cell? ⟨q, 0, none⟩ = some (.string R.s) ∧ w'.cell? ⟨q, 1, none⟩ = some (.int .i64 R.at_)) (exact ⟨c0, c1⟩) (fail)
        go_wp2_with fail
        go_region_held3 (fun w' => w'.cell? ⟨q, 0, none⟩ = some (.string R.s) ∧ w'.cell? ⟨q, 1, none⟩ = some (.int .i64 a2)) (exact ⟨d0, d1⟩) (fail)
        go_wp2_with fail
        go_ret
        refine ⟨by rw [Int.toNat_natCast, ← Ha2.out]; rfl, ?_⟩
        rw [Int.toNat_natCast, ← Ha2.out]
        have hfin : RfOn w q { R with at_ := a2 } (w.setCell ⟨q, 1, none⟩ (.int .i64 a2)) := ⟨⟨⟨0, 0, HBz.out, .inl ⟨Hf.out, rfl, rfl⟩⟩, by show a2 ≤ R.s.size; omega, hsz⟩, (Kept.refl (· = q) w).setCell (p := ⟨q, 1, none⟩) rfl _⟩
        exact hfin.drew.drew
  · rw [RS.take_f (by rw [hf]; rfl)]
    have hcz : (c != 0) = true := by rw [bne_iff_ne]; exact hc
    clear h hb hf hfr hc
    go_enter Tryd.func43, Tryd.ntmps43
    go_wp2
    go_ret
    exact ⟨rfl, H.out, Kept.refl _ _⟩
theorem deb_drop (l : List UInt8) (j : Nat) (hj : j < l.length) : deb (l.drop j) = 256 * deb (l.drop (j + 1)) + l[j].toNat := by
  rw [List.drop_eq_getElem_cons hj]
  show l[j].toNat + 256 * deb (l.drop (j + 1)) = _
  omega
set_option maxHeartbeats 1000000 in
theorem refNum_any (q : Nat) (R : RS) (many : Nat) (hmany : many ≤ 8) (w : World) (h : Rf w q R) :
    Calls Tryd.prog 42 #[.pointer (some ⟨q, 0, none⟩), .int .i64 many] w fun e w' => e = .returned (.int .u64 ((R.num many).1 : Nat)) ∧ RfOn w q (R.num many).2 w' := by
  have hb := R.take_size many
  have C := Lib.hid (refTake_any q R many w h (by omega))
  obtain ⟨s, hs⟩ : ∃ s, s = (R.take many).1 := ⟨_, rfl⟩
  obtain ⟨R1, hR1⟩ : ∃ R1, R1 = (R.take many).2 := ⟨_, rfl⟩
  have hn1 : (R.num many).1 = deb s.data.toList := by rw [hs]; rfl
  have hn2 : (R.num many).2 = R1 := by rw [hR1]; rfl
  rw [hn1, hn2]
  rw [← hs, ← hR1] at C
  rw [← hs] at hb
  clear hn1 hn2 hs hR1
  clear h
  have hdl : ∀ j, deb (s.data.toList.drop j) < 256 ^ (s.size - j) := fun j => by
    have h := deb_lt (s.data.toList.drop j)
    rw [List.length_drop] at h
    exact h
  have HDl := Lib.hid hdl
  clear hdl
  go_enter Tryd.func42, Tryd.ntmps42
  go_wp2_with fail
  refine C.out.mono ?_
  rintro e w1 ⟨rfl, hon⟩
  have Hon := Lib.hid hon
  clear hon
  go_wp2_with fail
  go_loop [6, 7] (fun n i => ∃ j : Nat, j ≤ s.size ∧ i = .int .i64 ((j : Int) - 1) ∧ n = .int .u64 (deb (s.data.toList.drop j) : Nat)) (fun _ i => (intOf i + 1).toNat)
  case atStart => exact ⟨s.size, Nat.le_refl _, rfl, by rw [List.drop_of_length_le (show s.data.toList.length ≤ s.size from Nat.le_refl _)]; rfl⟩
  case round =>
    obtain ⟨j, hj, rfl, rfl⟩ := hrel
    by_cases hz : j = 0
    · subst hz
      go_wp2_with fail
      go_ret
      exact ⟨rfl, Hon.out⟩
    · obtain ⟨k, rfl⟩ : ∃ k, j = k + 1 := ⟨j - 1, by omega⟩
      have hk : k < s.data.toList.length := by show k < s.size; omega
      have hks : k < s.size := hk
      have hdd := deb_drop s.data.toList k hk
      have hA := HDl.out (k + 1)
      have hB := HDl.out k
      have hle : 256 ^ (s.size - k) ≤ 256 ^ 8 := Nat.pow_le_pow_right (by decide) (by omega)
      generalize hDk : deb (s.data.toList.drop k) = D at *
      generalize deb (s.data.toList.drop (k + 1)) = D1 at *
      have hge : s.data.toList[k] = s[k] := rfl
      rw [hge] at hdd
      have hbt := s[k].toNat_lt
      have m1 : 256 * (D1 : Int) + ((s[k]).toNat : Int) = (D : Int) := by omega
      have m2 : D < 18446744073709551616 := Nat.lt_of_lt_of_le hB hle
      have m3 : 256 * D1 < 18446744073709551616 := by omega
      have HDk := Lib.hid hDk
      have hk1 : ((k + 1 : Nat) : Int) - 1 = (k : Int) := by omega
      rw [hk1]
      have Hdd := Lib.hid hdd
      have Hm1 := Lib.hid m1
      clear hdd hA hB hle hz hDk m1 hge hk1
      go_wp2_with fail
      go_round
      case rel => exact ⟨k, by omega, rfl, by rw [HDk.out, ← Hm1.out]⟩
      case measure => simp [intOf]
end Go.Proofs.YtaikcehdomaebaaDoor
