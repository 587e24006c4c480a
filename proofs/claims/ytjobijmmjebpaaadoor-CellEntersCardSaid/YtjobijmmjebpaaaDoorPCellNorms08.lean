/- Texts of the law CellNorms, merged: CellFns, CellNew, CellIt, CellIn, NetGetRow, NetRise, HeldAny. -/
import Derived.Test.YtjobijmmjebpaaaDoorPCellNorms07
import Derived.RangeFuncBox
import Derived.RangeFuncLeaves
import Derived.Shelf.Abstract
import Derived.OwnWalkIn
import Derived.TacticsInMore
import Derived.LoopNIn
import Derived.LoopIn
import Derived.Maps.AppendAt
import Derived.Test.YtjobijmmjebpaaaDoorPCellNorms03
import Derived.Deep.QuietTactic
import Derived.BigQuiet
import Derived.Test.YtjobijmmjebpaaaDoorPCellNorms06
import Derived.Test.YtjobijmmjebpaaaDoorPCellNorms04
import Derived.OrdersHeld
import Derived.Deep.RegionHeld
/- cells: small functions. -/
namespace Go.Proofs.YtjobijmmjebpaaaDoor
open Go.RowKit
set_option maxHeartbeats 1000000 in
theorem equalI_any (va vb : Value) (A B : List Int) (w : World) (ha : SlX w va A) (hb : SlX w vb B) : Calls Tryd.prog 26 #[va, vb] w fun e w' => e = .returned (.bool (decide (A = B))) ∧ Below w.heap.size w w' := by
  have haw := ha; have hbw := hb
  obtain ⟨aa, ca, rfl, hca, hma, _⟩ := ha
  obtain ⟨ab, cb, rfl, hcb, hmb, _⟩ := hb
  unfold maxLen at hma hmb
  by_cases hlen : A.length = B.length
  · have hl2 : (B.length : Int) = A.length := by omega
    rw [show B.length = A.length from hlen.symm] at hbw
    rw [← hlen] at hcb
    have HAW := Lib.hid haw; have HBW := Lib.hid hbw
    have HLen := Lib.hid hlen
    have hBl : ∀ k, k < A.length → k < B.length := fun k h => by omega
    have HBl := Lib.hid hBl
    rw [show B.length = A.length from hlen.symm]
    clear haw hbw hlen hl2 hBl
    go_enter Tryd.func26, Tryd.ntmps26
    go_wp2_with fail
    go_loopw [13] (fun i wr => ∃ (k : Nat), k ≤ A.length ∧ i = .int .i64 k ∧ Hid (A.take k = B.take k) ∧ Hid (Below w.heap.size w wr)) (fun i _ => A.length - (intOf i).toNat)
    case atStart => exact ⟨0, Nat.zero_le _, rfl, Lib.hid rfl, Lib.hid (Below.refl _ _)⟩
    case round =>
      obtain ⟨k, hk, rfl, hpre, hbel⟩ := hrel
      by_cases hlt : k < A.length
      · have hkw := KpC.of_below hbel.out
        obtain ⟨ba, oa, rfl, da⟩ := (HAW.out.keep hkw).at k hlt
        obtain ⟨bb, ob, rfl, db⟩ := (HBW.out.keep hkw).at k (HBl.out k hlt)
        have hBd := Lib.hid (hbel.out.drew)
        have i1 : (0 : Int) ≤ (k : Int) := by omega
        have i2 : (k : Int) < (A.length : Int) := by omega
        have hA1 : Hid (A.take (k + 1) = A.take k ++ [A[k]]) := Lib.hid (List.take_succ_eq_append_getElem hlt)
        have hB1 : Hid (B.take (k + 1) = B.take k ++ [B[k]'(HBl.out k hlt)]) := Lib.hid (List.take_succ_eq_append_getElem (HBl.out k hlt))
        obtain ⟨x, hx⟩ : ∃ x, x = A[k] := ⟨_, rfl⟩
        obtain ⟨y, hy⟩ : ∃ y, y = B[k]'(HBl.out k hlt) := ⟨_, rfl⟩
        rw [← hx] at da; rw [← hy] at db
        have HX := Lib.hid hx.symm; have HY := Lib.hid hy.symm
        clear hx hy
        clear hkw
        go_wp2_with fail
        go_quiet (fail)
        generalize hwd : wr.drewN _ = wd at *
        by_cases hxy : x = y
        · subst hxy
          have hbq : (x == x) = true := by simp
          go_wp2_with fail
          go_roundw
          case rel =>
            refine ⟨k + 1, by omega, by go_num, Lib.hid ?_, Lib.hid ?_⟩
            · rw [hA1.out, hB1.out, hpre.out, HX.out, HY.out]
            · rw [← hwd]; exact below_drewN hbel.out _
          case measure => simp [intOf]; omega
        · have hne : Hid (A ≠ B) := Lib.hid (fun e => hxy (by rw [← HX.out, ← HY.out]; simp [e]))
          have hbq : (x == y) = false := by simpa using hxy
          go_wp2_with fail
          go_ret
          refine ⟨?_, by rw [← hwd]; exact below_drewN hbel.out _⟩
          rw [decide_eq_false hne.out]; rfl
      · obtain rfl : k = A.length := by omega
        go_wp2_with fail
        go_ret
        refine ⟨?_, hbel.out⟩
        have h := hpre.out
        rw [List.take_length, HLen.out, List.take_length] at h
        rw [decide_eq_true h]; rfl
  · have hne : A ≠ B := fun h => hlen (by rw [h])
    have hn : ¬ (A.length : Int) = (B.length : Int) := by omega
    have hn2 : ((A.length : Int) == (B.length : Int)) = false := by simpa using hn
    rw [decide_eq_false hne]
    clear haw hbw hne hn
    go_enter Tryd.func26, Tryd.ntmps26
    go_wp2_with fail
    go_ret
    exact ⟨rfl, Below.refl _ _⟩

/- one of some -/
set_option maxHeartbeats 1000000 in
theorem rows_any (va vb : Value) (A B : List Int) (w : World) (ha : SlX w va A) (hb : SlX w vb B) : Calls Tryd.prog 18 #[va, vb] w fun e w' => e = .returned (.bool (decide (A = B))) ∧ Below w.heap.size w w' := by
  have haw := ha; have hbw := hb
  obtain ⟨aa, ca, rfl, hca, hma, _⟩ := ha
  obtain ⟨ab, cb, rfl, hcb, hmb, _⟩ := hb
  unfold maxLen at hma hmb
  by_cases hlen : A.length = B.length
  · have hl2 : (B.length : Int) = A.length := by omega
    rw [show B.length = A.length from hlen.symm] at hbw
    rw [← hlen] at hcb
    have HAW := Lib.hid haw; have HBW := Lib.hid hbw
    have HLen := Lib.hid hlen
    have hBl : ∀ k, k < A.length → k < B.length := fun k h => by omega
    have HBl := Lib.hid hBl
    rw [show B.length = A.length from hlen.symm]
    clear haw hbw hlen hl2 hBl
    go_enter Tryd.func18, Tryd.ntmps18
    go_wp2_with fail
    go_loopw [5] (fun i wr => ∃ (k : Nat), k ≤ A.length ∧ i = .int .i64 k ∧ Hid (A.take k = B.take k) ∧ Hid (Below w.heap.size w wr)) (fun i _ => A.length - (intOf i).toNat)
    case atStart => exact ⟨0, Nat.zero_le _, rfl, Lib.hid rfl, Lib.hid (Below.refl _ _)⟩
    case round =>
      obtain ⟨k, hk, rfl, hpre, hbel⟩ := hrel
      by_cases hlt : k < A.length
      · have hkw := KpC.of_below hbel.out
        obtain ⟨ba, oa, rfl, da⟩ := (HAW.out.keep hkw).at k hlt
        obtain ⟨bb, ob, rfl, db⟩ := (HBW.out.keep hkw).at k (HBl.out k hlt)
        have hBd := Lib.hid (hbel.out.drew)
        have i1 : (0 : Int) ≤ (k : Int) := by omega
        have i2 : (k : Int) < (A.length : Int) := by omega
        have hA1 : Hid (A.take (k + 1) = A.take k ++ [A[k]]) := Lib.hid (List.take_succ_eq_append_getElem hlt)
        have hB1 : Hid (B.take (k + 1) = B.take k ++ [B[k]'(HBl.out k hlt)]) := Lib.hid (List.take_succ_eq_append_getElem (HBl.out k hlt))
        obtain ⟨x, hx⟩ : ∃ x, x = A[k] := ⟨_, rfl⟩
        obtain ⟨y, hy⟩ : ∃ y, y = B[k]'(HBl.out k hlt) := ⟨_, rfl⟩
        rw [← hx] at da; rw [← hy] at db
        have HX := Lib.hid hx.symm; have HY := Lib.hid hy.symm
        clear hx hy
        clear hkw
        go_wp2_with fail
        go_quiet (fail)
        generalize hwd : wr.drewN _ = wd at *
        by_cases hxy : x = y
        · subst hxy
          have hbq : (x == x) = true := by simp
          go_wp2_with fail
          go_roundw
          case rel =>
            refine ⟨k + 1, by omega, by go_num, Lib.hid ?_, Lib.hid ?_⟩
            · rw [hA1.out, hB1.out, hpre.out, HX.out, HY.out]
            · rw [← hwd]; exact below_drewN hbel.out _
          case measure => simp [intOf]; omega
        · have hne : Hid (A ≠ B) := Lib.hid (fun e => hxy (by rw [← HX.out, ← HY.out]; simp [e]))
          have hbq : (x == y) = false := by simpa using hxy
          go_wp2_with fail
          go_ret
          refine ⟨?_, by rw [← hwd]; exact below_drewN hbel.out _⟩
          rw [decide_eq_false hne.out]; rfl
      · obtain rfl : k = A.length := by omega
        go_wp2_with fail
        go_ret
        refine ⟨?_, hbel.out⟩
        have h := hpre.out
        rw [List.take_length, HLen.out, List.take_length] at h
        rw [decide_eq_true h]; rfl
  · have hne : A ≠ B := fun h => hlen (by rw [h])
    have hn : ¬ (A.length : Int) = (B.length : Int) := by omega
    have hn2 : ((A.length : Int) == (B.length : Int)) = false := by simpa using hn
    rw [decide_eq_false hne]
    clear haw hbw hne hn
    go_enter Tryd.func18, Tryd.ntmps18
    go_wp2_with fail
    go_ret
    exact ⟨rfl, Below.refl _ _⟩

/- one of some -/
def maxF (L : List Int) : Int := L.tail.foldl max (L.headD 0)
theorem maxF_take {L : List Int} {k : Nat} (hk : 0 < k) (h : k < L.length) : maxF (L.take (k + 1)) = max (maxF (L.take k)) L[k] := by
  cases L with
  | nil => simp at h
  | cons a L =>
    obtain ⟨j, rfl⟩ : ∃ j, k = j + 1 := ⟨k - 1, by omega⟩
    have hj : j < L.length := by simpa using h
    unfold maxF
    rw [List.take_succ_cons, List.take_succ_cons, List.tail_cons, List.tail_cons, List.take_succ_eq_append_getElem hj, List.foldl_append]
    rfl
theorem max_if (a b : Int) : (if a < b then b else a) = max a b := by split <;> omega
set_option maxHeartbeats 4000000 in
theorem maxI_any (va : Value) (A : List Int) (w : World) (ha : SlX w va A) (h0 : 0 < A.length) : Calls Tryd.prog 28 #[va] w fun e w' => e = .returned (.int .i64 (maxF A)) ∧ w' = w := by
  have HA := Lib.hid ha
  obtain ⟨a, ca, rfl, hca, hma, _⟩ := ha
  unfold maxLen at hma
  obtain ⟨ba, oa, rfl, d0⟩ := HA.out.at 0 h0
  obtain ⟨x0, hx0⟩ : ∃ x, x = A[0] := ⟨_, rfl⟩
  rw [← hx0, Nat.add_zero] at d0
  have hm0 : maxF (A.take 1) = x0 := by
    cases A with
    | nil => simp at h0
    | cons a L => rw [hx0]; rfl
  have HM := Lib.hid hm0
  have hl1 : (1 : Int) ≤ (A.length : Int) := by omega
  clear hm0 hx0
  go_enter Tryd.func28, Tryd.ntmps28
  go_wp2_with fail
  clear d0
  go_loopw [3, 4] (fun m i wr => ∃ (k : Nat) (x : Int), m = .int .i64 x ∧ i = .int .i64 k ∧ Hid (0 < k ∧ k ≤ A.length ∧ x = maxF (A.take k) ∧ wr = w)) (fun _ i _ => A.length - (intOf i).toNat)
  case atStart => exact ⟨1, x0, rfl, rfl, Lib.hid ⟨by omega, by omega, HM.out.symm, rfl⟩⟩
  case round =>
    obtain ⟨k, x, rfl, rfl, HI⟩ := hrel
    obtain ⟨hk0, hk, hx, hw⟩ := HI.out
    subst hw
    by_cases hlt : k < A.length
    · obtain ⟨b', o', e', d⟩ := HA.out.at k hlt
      obtain ⟨rfl, rfl⟩ : ba = b' ∧ oa = o' := by simpa using e'
      obtain ⟨y, hy⟩ : ∃ y, y = A[k] := ⟨_, rfl⟩
      rw [← hy] at d
      have hk2 : (k : Int) < (A.length : Int) := by omega
      have hk3 : (0 : Int) ≤ (k : Int) := by omega
      have HNx := Lib.hid (show max x y = maxF (A.take (k + 1)) by rw [maxF_take hk0 hlt, hx, hy])
      clear hx hy
      go_wp2_with fail
      go_roundw
      case rel => exact ⟨k + 1, _, rfl, by go_num, Lib.hid ⟨by omega, by omega, by first | exact (max_if x y).trans HNx.out | exact HNx.out, by first | rfl | trivial⟩⟩
      case measure => simp [intOf]; omega
    · obtain rfl : k = A.length := by omega
      have HX := Lib.hid (show x = maxF A by rw [hx, List.take_length])
      clear hx
      go_wp2_with fail
      go_ret
      exact ⟨by rw [HX.out]; rfl, rfl⟩
/-- cells of the map L, many of them, lie at p -/
def CellsAt (w : World) (p : Nat) (L : List Int) (many : Int) : Prop := ∃ v, Blk w p #[v, .int .i64 many] 60 (0, 0) ∧ SlX w v L
theorem CellsAt.keep {w w' : World} {p : Nat} {L : List Int} {many : Int} (h : CellsAt w p L many) (hk : KpC w w') : CellsAt w' p L many := by
  obtain ⟨v, h1, h2⟩ := h
  exact ⟨v, hk.blk h1, h2.keep hk⟩
theorem CellsAt.cells {w : World} {p : Nat} {L : List Int} {many : Int} (h : CellsAt w p L many) : ∃ a c, w.cell? ⟨p, 0, none⟩ = some (.slice a L.length c) ∧ w.cell? ⟨p, 1, none⟩ = some (.int .i64 many) ∧ SlX w (.slice a L.length c) L := by
  obtain ⟨v, h1, h2⟩ := h
  obtain ⟨a, c, rfl, _⟩ := id h2
  exact ⟨a, c, h1.cell 0, h1.cell 1, h2⟩
theorem many_any (p : Nat) (L : List Int) (many : Int) (w : World) (h : CellsAt w p L many) : Calls Tryd.prog 12 #[.pointer (some ⟨p, 0, none⟩)] w fun e w' => e = .returned (.int .i64 many) ∧ w' = w := by
  obtain ⟨a, c, c0, c1, _⟩ := h.cells
  clear c0 h
  go_enter Tryd.func12, Tryd.ntmps12
  go_wp2_with fail
  go_ret
  exact ⟨rfl, rfl⟩
theorem many_nil (w : World) : Calls Tryd.prog 12 #[.pointer none] w fun e w' => e = .returned (.int .i64 0) ∧ w' = w := by
  go_enter Tryd.func12, Tryd.ntmps12
  go_wp2_with fail
  go_ret
  exact ⟨rfl, rfl⟩
theorem cmap_any (p : Nat) (L : List Int) (many : Int) (w : World) (h : CellsAt w p L many) (hl : L.length ≤ 1000000) : Calls Tryd.prog 19 #[.pointer (some ⟨p, 0, none⟩)] w fun e w' => ∃ v, e = .returned v ∧ w'.ownsRow w.heap.size 3 1 v L.length (L.flatMap inC) ∧ Below w.heap.size w w' := by
  obtain ⟨a, c, c0, c1, hs⟩ := h.cells
  have HC := Lib.hid (cloneI _ L w hs (by omega))
  clear c1 h hs
  go_enter Tryd.func19, Tryd.ntmps19
  go_wp2_with fail
  refine HC.out.mono ?_
  rintro e w' ⟨v, rfl, ho, hb⟩
  have H := Lib.hid (And.intro ho hb)
  clear ho hb
  go_wp2_with fail
  go_ret
  exact ⟨v, rfl, H.out.1, H.out.2⟩
theorem cmap_nil (w : World) : Calls Tryd.prog 19 #[.pointer none] w fun e w' => e = .returned (.slice none 0 0) ∧ w' = w := by
  go_enter Tryd.func19, Tryd.ntmps19
  go_wp2_with fail
  go_ret
  exact ⟨rfl, rfl⟩
/-- a node's cell -/
def ofV (L : List Int) (v : Int) : Int := if 0 ≤ v ∧ v < L.length then L[v.toNat]?.getD 0 else -1
theorem of_cell (p : Nat) (L : List Int) (many v : Int) (w : World) (h : CellsAt w p L many) : Calls Tryd.prog 20 #[.pointer (some ⟨p, 0, none⟩), .int .i64 v] w fun e w' => e = .returned (.int .i64 (ofV L v)) ∧ w' = w := by
  obtain ⟨a, c, c0, c1, hs⟩ := h.cells
  clear c1 h
  by_cases h1 : v < 0
  · have e : ofV L v = -1 := by unfold ofV; rw [if_neg (by omega)]
    rw [e]
    clear hs e
    go_enter Tryd.func20, Tryd.ntmps20
    go_wp2_with fail
    go_ret
    exact ⟨rfl, rfl⟩
  · by_cases h2 : (L.length : Int) ≤ v
    · have e : ofV L v = -1 := by unfold ofV; rw [if_neg (by omega)]
      rw [e]
      clear hs e
      go_enter Tryd.func20, Tryd.ntmps20
      go_wp2_with fail
      go_ret
      exact ⟨rfl, rfl⟩
    · obtain ⟨n, rfl⟩ := Int.eq_ofNat_of_zero_le (show 0 ≤ v by omega)
      obtain ⟨b, o, rfl, d⟩ := hs.at n (by omega)
      have i1 : (0 : Int) ≤ (n : Int) := by omega
      have i2 : (n : Int) < (L.length : Int) := by omega
      have e : ofV L (n : Nat) = L[n]'(by omega) := by unfold ofV; rw [if_pos ⟨i1, i2⟩, Int.toNat_natCast, List.getElem?_eq_getElem (by omega)]; rfl
      rw [e]
      obtain ⟨x, hx⟩ : ∃ x, x = L[n]'(by omega) := ⟨_, rfl⟩
      rw [← hx] at d ⊢
      clear hs e hx h1 h2
      go_enter Tryd.func20, Tryd.ntmps20
      go_wp2_with fail
      go_ret
      exact ⟨rfl, rfl⟩
theorem of_nil (v : Int) (w : World) : Calls Tryd.prog 20 #[.pointer none, .int .i64 v] w fun e w' => e = .returned (.int .i64 (-1)) ∧ w' = w := by
  go_enter Tryd.func20, Tryd.ntmps20
  go_wp2_with fail
  go_ret
  exact ⟨rfl, rfl⟩
end Go.Proofs.YtjobijmmjebpaaaDoor
/- cell.New. -/
namespace Go.Proofs.YtjobijmmjebpaaaDoor
open Go.RowKit
theorem norm_range {L : List Int} {x : Int} (h : x ∈ normV L) : 0 ≤ x ∧ x < L.length := by
  unfold normV at h
  rw [normS_map] at h
  obtain ⟨y, hy, rfl⟩ := List.mem_map.1 h
  have h1 := List.idxOf_lt_length_of_mem (seenS_mem L [] y (.inr hy))
  have h2 := seenS_len L []
  simp at h2
  omega
theorem foldl_max_mem : ∀ (L : List Int) (a : Int), L.foldl max a = a ∨ L.foldl max a ∈ L
  | [], a => .inl rfl
  | x :: L, a => by
    rw [List.foldl_cons]
    rcases foldl_max_mem L (max a x) with h | h
    · rcases Int.le_total a x with h2 | h2
      · right; rw [h, Int.max_eq_right h2]; exact List.mem_cons_self
      · left; rw [h, Int.max_eq_left h2]
    · exact .inr (List.mem_cons_of_mem _ h)
theorem maxF_mem {L : List Int} (h : L ≠ []) : maxF L ∈ L := by
  cases L with
  | nil => exact absurd rfl h
  | cons a L =>
    unfold maxF
    rcases foldl_max_mem L a with e | e
    · rw [List.tail_cons, List.headD_cons, e]; exact List.mem_cons_self
    · rw [List.tail_cons, List.headD_cons]; exact List.mem_cons_of_mem _ e
/-- there are cells of a map -/
def CellOk (L : List Int) : Prop := L ≠ [] ∧ normV L = L ∧ maxF L < 256
theorem maxF_range {L : List Int} (h : L ≠ []) (hn : normV L = L) : 0 ≤ maxF L ∧ maxF L < L.length := norm_range (L := L) (by rw [hn]; exact maxF_mem h)
set_option maxHeartbeats 4000000 in
theorem cellNew_any (va : Value) (L : List Int) (hL : L.length ≤ 100000) (hwf : ∀ x ∈ L, (Lit.int .i64 x).wf = true) (w : World) (ha : SlX w va L) :
    Calls Tryd.prog 11 #[va] w fun e w' => ((¬ CellOk L ∧ e = .returned (.pointer none)) ∨ (CellOk L ∧ ∃ p, e = .returned (.pointer (some ⟨p, 0, none⟩)) ∧ w.heap.size ≤ p ∧ CellsAt w' p L (maxF L + 1))) ∧ Below w.heap.size w w' := by
  have HA := Lib.hid ha; have HWf := Lib.hid hwf
  obtain ⟨a, ca, rfl, _⟩ := ha
  clear hwf
  by_cases h0 : L.length = 0
  · have hn : L = [] := List.eq_nil_of_length_eq_zero h0
    have hb0 : ((L.length : Int) == 0) = true := by rw [h0]; rfl
    clear h0
    go_enter Tryd.func11, Tryd.ntmps11
    go_wp2_with fail
    go_ret
    exact ⟨.inl ⟨fun h => h.1 hn, rfl⟩, Below.refl _ _⟩
  · have hnil : L ≠ [] := fun e => h0 (by rw [e]; rfl)
    have hb0 : ((L.length : Int) == 0) = false := by rw [beq_eq_false_iff_ne]; omega
    have HC := Lib.hid (cellNorm_any _ L hL HWf.out w HA.out)
    have HNil := Lib.hid hnil
    clear h0 hnil
    have hnl : ¬ L = [] := HNil.out
    go_enter Tryd.func11, Tryd.ntmps11
    go_wp2_with fail
    refine HC.out.mono ?_
    rintro e w1 ⟨v, rfl, ho, hb⟩
    have HB1 := Lib.hid hb
    have HE := Lib.hid (equalI_any v (.slice a L.length ca) (normV L) L w1 (slX_own rfl ho) (HA.out.keep (KpC.of_below hb)))
    obtain ⟨va1, vn1, vc1, rfl⟩ := ho.one'
    clear hb ho HC
    go_wp2_with fail
    refine HE.out.mono ?_
    rintro e w2 ⟨rfl, hb⟩
    have HB2 := Lib.hid (HB1.out.next' hb)
    clear hb HE
    by_cases hno : normV L = L
    · have hd : decide (normV L = L) = true := decide_eq_true hno
      have HNo := Lib.hid hno
      rw [hd]
      clear hd hno
      have HCl := Lib.hid (cloneI _ L w2 (HA.out.keep (KpC.of_below HB2.out)) (by omega))
      go_wp2_with fail
      refine HCl.out.mono ?_
      rintro e w3 ⟨vc, rfl, ho, hb⟩
      have HB3 := Lib.hid (HB2.out.next' hb)
      have HS3 := Lib.hid (show SlX w3 vc L from slX_own rfl ho)
      have HM := Lib.hid (maxI_any _ L w3 (HA.out.keep (KpC.of_below HB3.out)) (by have := HNil.out; exact List.length_pos_iff.2 this))
      have hr := maxF_range HNil.out HNo.out
      obtain ⟨mx, hmx⟩ : ∃ m, m = maxF L := ⟨_, rfl⟩
      rw [← hmx] at HM hr
      have HMx := Lib.hid hmx
      have hrb : 0 ≤ mx ∧ mx < 100000 := by omega
      obtain ⟨va3, vn3, vc3, rfl⟩ := ho.one'
      clear hb ho HCl hr hmx
      go_wp2_with fail
      refine HM.out.mono ?_
      rintro e w4 ⟨rfl, rfl⟩
      obtain ⟨p, hp⟩ : ∃ p, p = w4.heap.size := ⟨_, rfl⟩
      obtain ⟨w5, hw5⟩ : ∃ u, u = w4.alloc (.cells #[.slice va3 vn3 vc3, .int .i64 (mx + 1)] 60) := ⟨_, rfl⟩
      have hb5 : Below w4.heap.size w4 w5 := by rw [hw5]; exact (Below.refl _ _).alloc (Nat.le_refl _) _
      have k5 : Blk w5 p #[.slice va3 vn3 vc3, .int .i64 (mx + 1)] 60 (0, 0) := by rw [hw5, hp]; exact Blk.new _ _ _ _
      have HCells := Lib.hid (show CellsAt w5 p L (mx + 1) from ⟨_, k5, HS3.out.keep (KpC.of_below hb5)⟩)
      have c1 := k5.cell 1
      simp only [List.getElem?_toArray, List.getElem?_cons_succ, List.getElem?_cons_zero] at c1
      rw [hw5] at c1
      have HW5 := Lib.hid hw5; have HP := Lib.hid hp; have HB5 := Lib.hid (HB3.out.next' hb5)
      have HPl := Lib.hid (show w.heap.size ≤ p by rw [hp]; exact HB3.out.size)
      clear hw5 hb5 k5 hp HM
      rw [HP.out] at c1
      by_cases hmm : mx < 256
      · have hm2 : ¬ (256 : Int) < mx + 1 := by omega
        go_wp2_with fail
        go_ret
        rw [← HW5.out, ← HP.out]
        exact ⟨.inr ⟨⟨HNil.out, HNo.out, by rw [← HMx.out]; exact hmm⟩, p, rfl, HPl.out, by rw [← HMx.out]; exact HCells.out⟩, HB5.out⟩
      · have hm2 : (256 : Int) < mx + 1 := by omega
        go_wp2_with fail
        go_ret
        rw [← HW5.out]
        exact ⟨.inl ⟨fun h => absurd h.2.2 (by rw [← HMx.out]; omega), rfl⟩, HB5.out⟩
    · have hd : decide (normV L = L) = false := decide_eq_false hno
      rw [hd]
      clear hd
      go_wp2_with fail
      go_ret
      exact ⟨.inl ⟨fun h => hno h.2.1, rfl⟩, HB2.out⟩
end Go.Proofs.YtjobijmmjebpaaaDoor
/- cell: the nodes of which something holds, as an iterator; what collects them. -/
namespace Go.Proofs.YtjobijmmjebpaaaDoor
open Go.RowKit Go.Shelf
attribute [local go_sem] Oper.semAt_some
/-- the numbers below k of which something holds -/
def upH (h : Nat → Bool) (k : Nat) : List Int := ((List.range k).filter h).map fun (i : Nat) => (i : Int)
theorem upH_succ (h : Nat → Bool) (k : Nat) : upH h (k + 1) = upH h k ++ (if h k then [(k : Int)] else []) := by
  unfold upH
  rw [List.range_succ, List.filter_append, List.map_append]
  congr 1
  by_cases hk : h k <;> simp [hk]
theorem upH_len (h : Nat → Bool) (k : Nat) : (upH h k).length ≤ k := by
  unfold upH
  rw [List.length_map]
  exact Nat.le_trans (List.length_filter_le _ _) (by simp)
theorem upH_pre (h : Nat → Bool) {k N : Nat} (hk : k ≤ N) : upH h k <+: upH h N := by
  induction N with
  | zero => obtain rfl : k = 0 := by omega
            exact List.prefix_rfl
  | succ N ih =>
    by_cases e : k = N + 1
    · rw [e]; exact List.prefix_rfl
    · rw [upH_succ]
      exact (ih (by omega)).trans (List.prefix_append _ _)
theorem upH_mem {h : Nat → Bool} {k : Nat} {x : Int} : x ∈ upH h k ↔ ∃ n : Nat, x = (n : Int) ∧ n < k ∧ h n = true := by
  unfold upH
  simp only [List.mem_map, List.mem_filter, List.mem_range]
  constructor
  · rintro ⟨n, ⟨h1, h2⟩, rfl⟩; exact ⟨n, rfl, h1, h2⟩
  · rintro ⟨n, rfl, h1, h2⟩; exact ⟨n, ⟨h1, h2⟩, rfl⟩
/-- below lo nothing has turned, nor have the iterator's boxes -/
def KpN (lo Bc Bh : Nat) (W W' : World) : Prop := Below lo W W' ∧ W'.heap[Bc]? = W.heap[Bc]? ∧ W'.heap[Bh]? = W.heap[Bh]?
theorem KpN.trans {lo Bc Bh : Nat} {A B C : World} (h : KpN lo Bc Bh A B) (k : KpN lo Bc Bh B C) : KpN lo Bc Bh A C := ⟨h.1.trans k.1, k.2.1.trans h.2.1, k.2.2.trans h.2.2⟩
theorem KpN.put {lo Bc Bh : Nat} {w : World} (hlo : lo ≤ w.heap.size) (hb : Bc < w.heap.size ∧ Bh < w.heap.size) (W : World) (l : Nat) (o o' : Obj) (hl : w.heap.size ≤ l) (h : W.heap[l]? = some o) (h1 : o.isCells = false) (h2 : o.isWalk = false) : KpN lo Bc Bh W (W.putObj l o') :=
  ⟨belowK_b hlo W l o o' hl h h1 h2, World.putObj_heap_other (by omega), World.putObj_heap_other (by omega)⟩
def encN (x : Int) : Array Value := #[.int .i64 x]
theorem nodes_inC (k : Nat) (p : Option Addr) (fn : Fn) (cap : Array Value) (w : World) :
    CallsIn Fence.wide k Tryd.prog 33 #[.pointer p, .func fn #[] cap] w fun e w' => e = .returned (.func (.func 51) #[] #[.pointer (some ⟨w.heap.size, 0, none⟩), .pointer (some ⟨w.heap.size + 1, 0, none⟩)]) ∧
      w' = (w.alloc (.cells #[.pointer p] 33)).alloc (.cells #[.func fn #[] cap] 63) := by
  refine callsIn_of_wp Tryd.func33 rfl trivial ?_ rfl
  simp only [Tryd.ntmps33, List.size_toArray, List.length_cons, List.length_nil, Nat.reduceAdd, Nat.reduceSub, Array.replicate_succ, Array.replicate_zero, List.push_toArray, List.append_toArray, List.nil_append, List.cons_append]
  gi_wp2
  go_ret
  exact ⟨rfl, rfl⟩
set_option maxHeartbeats 2000000 in
theorem nodes1_nil (m : Nat) (l Bc Bh : Nat) (W : World) (hBc : Blk W Bc #[.pointer none] 33 (0, 0)) :
    CallsIn Fence.wide m Tryd.prog 51 #[.func (.yield l) #[] #[], .pointer (some ⟨Bc, 0, none⟩), .pointer (some ⟨Bh, 0, none⟩)] W fun e W' => (∃ v, e = .returned v) ∧ W' = W := by
  have c1 := hBc.cell 0
  change W.cell? ⟨Bc, 0, none⟩ = some (.pointer none) at c1
  clear hBc
  refine callsIn_of_wp Tryd.func51 rfl trivial ?_ rfl
  simp only [Tryd.ntmps51, List.size_toArray, List.length_cons, List.length_nil, Nat.reduceAdd, Nat.reduceSub, Array.replicate_succ, Array.replicate_zero, List.push_toArray, List.append_toArray, List.nil_append, List.cons_append]
  gi_wp2
  refine bodyPost_ret (results_none rfl _ _ _) rfl ?_
  exact ⟨⟨_, rfl⟩, rfl⟩
set_option maxRecDepth 100000 in
set_option maxHeartbeats 4000000 in
theorem nodes1_inI (m : Nat) (hm : 1 ≤ m) (Lb Bc Bh lo : Nat) (W0 : World) (p : Nat) (L : List Int) (many : Int) (hL : L.length ≤ 1000000) (hC : ∀ u, Below lo W0 u → CellsAt u p L many) (q0 q1 : Nat) (h : Nat → Bool)
    (hH : ∀ u, Below lo W0 u → ∀ k, k < L.length → Calls Tryd.prog 39 #[.int .i64 (k : Nat), .pointer (some ⟨q0, 0, none⟩), .pointer (some ⟨q1, 0, none⟩)] u fun e w' => e = .returned (.bool (h k)) ∧ Below u.heap.size u w') (J Jx : List Int → World → Prop)
    (hJ : ∀ x A B, J x A → Below A.heap.size A B → J x B)
    (hY : ∀ (pre : List Int) (x : Int) W, J pre W → pre.length < L.length → YieldAt Fence.wide (m - 1) Tryd.prog Lb (encN x) W fun e W' =>
      (e = .returned (.bool true) ∧ J (pre ++ [x]) W' ∧ KpN lo Bc Bh W W') ∨ (e = .returned (.bool false) ∧ Jx (pre ++ [x]) W'))
    (W : World) (hW : Below lo W0 W) (hlo : lo ≤ W.heap.size) (hBc : Blk W Bc #[.pointer (some ⟨p, 0, none⟩)] 33 (0, 0)) (hBh : Blk W Bh #[.func (.func 39) #[] #[.pointer (some ⟨q0, 0, none⟩), .pointer (some ⟨q1, 0, none⟩)]] 63 (0, 0)) (h0 : J [] W) :
    CallsIn Fence.wide m Tryd.prog 51 #[.func (.yield Lb) #[] #[], .pointer (some ⟨Bc, 0, none⟩), .pointer (some ⟨Bh, 0, none⟩)] W fun e W' => (∃ v, e = .returned v) ∧
      ((∃ ys, ys = upH h L.length ∧ J ys W') ∨ (∃ pre, pre <+: upH h L.length ∧ Jx pre W')) := by
  have c1 := hBc.cell 0
  change W.cell? ⟨Bc, 0, none⟩ = some (.pointer (some ⟨p, 0, none⟩)) at c1
  obtain ⟨a, c, p0, p1, hs⟩ := (hC W hW).cells
  have HC := Lib.hid hC; have HH := Lib.hid hH; have HW := Lib.hid (And.intro hW hlo); have HBc := Lib.hid hBc; have HBh := Lib.hid hBh; have H0 := Lib.hid h0
  clear hC hH hW hBc hBh h0 hs hlo p1
  refine callsIn_of_wp Tryd.func51 rfl trivial ?_ rfl
  simp only [Tryd.ntmps51, List.size_toArray, List.length_cons, List.length_nil, Nat.reduceAdd, Nat.reduceSub, Array.replicate_succ, Array.replicate_zero, List.push_toArray, List.append_toArray, List.nil_append, List.cons_append]
  gi_wp2_with fail
  clear c1 p0
  gi_loopw [12] (fun i wr => ∃ (k : Nat), k ≤ L.length ∧ i = .int .i64 k ∧ Hid (Below lo W0 wr ∧ lo ≤ wr.heap.size) ∧ Hid (Blk wr Bc #[.pointer (some ⟨p, 0, none⟩)] 33 (0, 0)) ∧ Hid (Blk wr Bh #[.func (.func 39) #[] #[.pointer (some ⟨q0, 0, none⟩), .pointer (some ⟨q1, 0, none⟩)]] 63 (0, 0)) ∧ Hid (J (upH h k) wr)) (fun i _ => L.length - (intOf i).toNat)
  case atStart => exact ⟨0, Nat.zero_le _, rfl, HW, HBc, HBh, H0⟩
  case round =>
    obtain ⟨k, hk, rfl, HWr, HBc, HBh, HJr⟩ := hrel
    by_cases hlt : k < L.length
    · have hltI : (k : Int) < (L.length : Int) := by omega
      have d1 := HBh.out.cell 0
      change wr.cell? ⟨Bh, 0, none⟩ = some (.func (.func 39) #[] #[.pointer (some ⟨q0, 0, none⟩), .pointer (some ⟨q1, 0, none⟩)]) at d1
      have CH := Lib.hid (HH.out wr HWr.out.1 k hlt)
      have hsc := upH_succ h k
      have hpf := upH_pre h (show k + 1 ≤ L.length from hlt)
      have hln := upH_len h k
      cases hq : h k with
      | false =>
        rw [hq] at hsc CH
        rw [if_neg (by decide), List.append_nil] at hsc
        have HSc := Lib.hid hsc
        clear hsc hpf hln hq
        gi_wp2_with fail
        refine ⟨trivial, ?_⟩
        refine (callsIn_wide.2 CH.out).mono ?_
        rintro e w2 ⟨rfl, hb2⟩
        have HWn := Lib.hid (And.intro (HWr.out.1.trans (hb2.mono HWr.out.2)) (Nat.le_trans HWr.out.2 hb2.size))
        have HB1 := Lib.hid (HBc.out.below hb2 HBc.out.lt); have HB2 := Lib.hid (HBh.out.below hb2 HBh.out.lt)
        have HJn := Lib.hid (show J (upH h (k + 1)) w2 by rw [HSc.out]; exact hJ _ _ _ HJr.out hb2)
        clear hb2 CH d1
        gi_wp2_with fail
        refine ⟨fun _ h => (by cases h), ?_⟩
        gi_wp2_with fail
        go_roundw
        case rel => exact ⟨k + 1, by omega, by go_num, HWn, HB1, HB2, HJn⟩
        case measure => simp [intOf]; omega
      | true =>
        rw [hq] at hsc CH
        rw [if_pos rfl] at hsc
        rw [hsc] at hpf
        have HSc := Lib.hid hsc; have HPf := Lib.hid hpf; have HLn := Lib.hid (show (upH h k).length < L.length by omega)
        clear hsc hpf hln hq
        gi_wp2_with fail
        refine ⟨trivial, ?_⟩
        refine (callsIn_wide.2 CH.out).mono ?_
        rintro e w2 ⟨rfl, hb2⟩
        have HWn := Lib.hid (And.intro (HWr.out.1.trans (hb2.mono HWr.out.2)) (Nat.le_trans HWr.out.2 hb2.size))
        have HB1 := Lib.hid (HBc.out.below hb2 HBc.out.lt); have HB2 := Lib.hid (HBh.out.below hb2 HBh.out.lt)
        have hJn := hJ _ _ _ HJr.out hb2
        obtain ⟨fn, tmps, assign, body, hy, hR⟩ := hY (upH h k) (k : Int) w2 hJn HLn.out
        dsimp only [encN] at hy
        clear hb2 CH d1 hJn
        gi_wp2_with fail
        refine hR.mono ?_
        rintro e W3 (⟨rfl, hJ3, hk3⟩ | ⟨rfl, hJx3⟩)
        · have H3 := Lib.hid (And.intro (HWn.out.1.trans hk3.1) (Nat.le_trans HWn.out.2 hk3.1.size))
          have HB3 := Lib.hid (show Blk W3 Bc #[.pointer (some ⟨p, 0, none⟩)] 33 (0, 0) from hk3.2.1.trans HB1.out)
          have HB4 := Lib.hid (show Blk W3 Bh #[.func (.func 39) #[] #[.pointer (some ⟨q0, 0, none⟩), .pointer (some ⟨q1, 0, none⟩)]] 63 (0, 0) from hk3.2.2.trans HB2.out)
          have HJ3 := Lib.hid (show J (upH h (k + 1)) W3 by rw [HSc.out]; exact hJ3)
          clear hk3 hJ3
          gi_wp2_with fail
          go_roundw
          case rel => exact ⟨k + 1, by omega, by go_num, H3, HB3, HB4, HJ3⟩
          case measure => simp [intOf]; omega
        · gi_wp2_with fail
          refine bodyPost_ret (results_none rfl _ _ _) rfl ?_
          exact ⟨⟨_, rfl⟩, .inr ⟨_, HPf.out, hJx3⟩⟩
    · obtain rfl : k = L.length := by omega
      gi_wp2
      go_end0
      exact ⟨⟨_, rfl⟩, .inl ⟨_, rfl, HJr.out⟩⟩
theorem nodesI_stops (m : Nat) (hm : 1 ≤ m) (Bc Bh lo : Nat) (W0 : World) (p : Nat) (L : List Int) (many : Int) (hL : L.length ≤ 1000000) (hC : ∀ u, Below lo W0 u → CellsAt u p L many) (q0 q1 : Nat) (h : Nat → Bool)
    (hH : ∀ u, Below lo W0 u → ∀ k, k < L.length → Calls Tryd.prog 39 #[.int .i64 (k : Nat), .pointer (some ⟨q0, 0, none⟩), .pointer (some ⟨q1, 0, none⟩)] u fun e w' => e = .returned (.bool (h k)) ∧ Below u.heap.size u w')
    (w : World) (hW : Below lo W0 w) (hlo : lo ≤ w.heap.size) (hBc : Blk w Bc #[.pointer (some ⟨p, 0, none⟩)] 33 (0, 0)) (hBh : Blk w Bh #[.func (.func 39) #[] #[.pointer (some ⟨q0, 0, none⟩), .pointer (some ⟨q1, 0, none⟩)]] 63 (0, 0)) :
    SeqStopsK Fence.wide m Tryd.prog 51 #[.pointer (some ⟨Bc, 0, none⟩), .pointer (some ⟨Bh, 0, none⟩)] encN (KpN lo Bc Bh) (fun ys => ys = upH h L.length) (fun pre => pre <+: upH h L.length) L.length w := fun Lb J Jx W hb hJ _ hY h0 =>
  nodes1_inI m hm Lb Bc Bh lo W0 p L many hL hC q0 q1 h hH J Jx (fun x A B hx hAB => hJ x A B none hx ⟨hAB.os, hAB.tape, hAB.output, hAB.size, fun k hk _ => hAB.block k hk⟩ (fun r e => by cases e)) hY W (hW.trans (hb.mono hlo)) (Nat.le_trans hlo hb.size) (hBc.below hb hBc.lt) (hBh.below hb hBh.lt) h0
set_option maxRecDepth 100000 in
set_option maxHeartbeats 4000000 in
theorem nodes1_inB (m : Nat) (hm : 1 ≤ m) (Lb Bc Bh lo : Nat) (W0 : World) (p : Nat) (L : List Int) (many : Int) (hL : L.length ≤ 1000000) (hC : ∀ u, Below lo W0 u → CellsAt u p L many) (q0 q1 q2 q3 : Nat) (h : Nat → Bool)
    (hH : ∀ u, Below lo W0 u → ∀ k, k < L.length → Calls Tryd.prog 34 #[.int .i64 (k : Nat), .pointer (some ⟨q0, 0, none⟩), .pointer (some ⟨q1, 0, none⟩), .pointer (some ⟨q2, 0, none⟩), .pointer (some ⟨q3, 0, none⟩)] u fun e w' => e = .returned (.bool (h k)) ∧ Below u.heap.size u w') (J Jx : List Int → World → Prop)
    (hJ : ∀ x A B, J x A → Below A.heap.size A B → J x B)
    (hY : ∀ (pre : List Int) (x : Int) W, J pre W → pre.length < L.length → YieldAt Fence.wide (m - 1) Tryd.prog Lb (encN x) W fun e W' =>
      (e = .returned (.bool true) ∧ J (pre ++ [x]) W' ∧ KpN lo Bc Bh W W') ∨ (e = .returned (.bool false) ∧ Jx (pre ++ [x]) W'))
    (W : World) (hW : Below lo W0 W) (hlo : lo ≤ W.heap.size) (hBc : Blk W Bc #[.pointer (some ⟨p, 0, none⟩)] 33 (0, 0)) (hBh : Blk W Bh #[.func (.func 34) #[] #[.pointer (some ⟨q0, 0, none⟩), .pointer (some ⟨q1, 0, none⟩), .pointer (some ⟨q2, 0, none⟩), .pointer (some ⟨q3, 0, none⟩)]] 63 (0, 0)) (h0 : J [] W) :
    CallsIn Fence.wide m Tryd.prog 51 #[.func (.yield Lb) #[] #[], .pointer (some ⟨Bc, 0, none⟩), .pointer (some ⟨Bh, 0, none⟩)] W fun e W' => (∃ v, e = .returned v) ∧
      ((∃ ys, ys = upH h L.length ∧ J ys W') ∨ (∃ pre, pre <+: upH h L.length ∧ Jx pre W')) := by
  have c1 := hBc.cell 0
  change W.cell? ⟨Bc, 0, none⟩ = some (.pointer (some ⟨p, 0, none⟩)) at c1
  obtain ⟨a, c, p0, p1, hs⟩ := (hC W hW).cells
  have HC := Lib.hid hC; have HH := Lib.hid hH; have HW := Lib.hid (And.intro hW hlo); have HBc := Lib.hid hBc; have HBh := Lib.hid hBh; have H0 := Lib.hid h0
  clear hC hH hW hBc hBh h0 hs hlo p1
  refine callsIn_of_wp Tryd.func51 rfl trivial ?_ rfl
  simp only [Tryd.ntmps51, List.size_toArray, List.length_cons, List.length_nil, Nat.reduceAdd, Nat.reduceSub, Array.replicate_succ, Array.replicate_zero, List.push_toArray, List.append_toArray, List.nil_append, List.cons_append]
  gi_wp2_with fail
  clear c1 p0
  gi_loopw [12] (fun i wr => ∃ (k : Nat), k ≤ L.length ∧ i = .int .i64 k ∧ Hid (Below lo W0 wr ∧ lo ≤ wr.heap.size) ∧ Hid (Blk wr Bc #[.pointer (some ⟨p, 0, none⟩)] 33 (0, 0)) ∧ Hid (Blk wr Bh #[.func (.func 34) #[] #[.pointer (some ⟨q0, 0, none⟩), .pointer (some ⟨q1, 0, none⟩), .pointer (some ⟨q2, 0, none⟩), .pointer (some ⟨q3, 0, none⟩)]] 63 (0, 0)) ∧ Hid (J (upH h k) wr)) (fun i _ => L.length - (intOf i).toNat)
  case atStart => exact ⟨0, Nat.zero_le _, rfl, HW, HBc, HBh, H0⟩
  case round =>
    obtain ⟨k, hk, rfl, HWr, HBc, HBh, HJr⟩ := hrel
    by_cases hlt : k < L.length
    · have hltI : (k : Int) < (L.length : Int) := by omega
      have d1 := HBh.out.cell 0
      change wr.cell? ⟨Bh, 0, none⟩ = some (.func (.func 34) #[] #[.pointer (some ⟨q0, 0, none⟩), .pointer (some ⟨q1, 0, none⟩), .pointer (some ⟨q2, 0, none⟩), .pointer (some ⟨q3, 0, none⟩)]) at d1
      have CH := Lib.hid (HH.out wr HWr.out.1 k hlt)
      have hsc := upH_succ h k
      have hpf := upH_pre h (show k + 1 ≤ L.length from hlt)
      have hln := upH_len h k
      cases hq : h k with
      | false =>
        rw [hq] at hsc CH
        rw [if_neg (by decide), List.append_nil] at hsc
        have HSc := Lib.hid hsc
        clear hsc hpf hln hq
        gi_wp2_with fail
        refine ⟨trivial, ?_⟩
        refine (callsIn_wide.2 CH.out).mono ?_
        rintro e w2 ⟨rfl, hb2⟩
        have HWn := Lib.hid (And.intro (HWr.out.1.trans (hb2.mono HWr.out.2)) (Nat.le_trans HWr.out.2 hb2.size))
        have HB1 := Lib.hid (HBc.out.below hb2 HBc.out.lt); have HB2 := Lib.hid (HBh.out.below hb2 HBh.out.lt)
        have HJn := Lib.hid (show J (upH h (k + 1)) w2 by rw [HSc.out]; exact hJ _ _ _ HJr.out hb2)
        clear hb2 CH d1
        gi_wp2_with fail
        refine ⟨fun _ h => (by cases h), ?_⟩
        gi_wp2_with fail
        go_roundw
        case rel => exact ⟨k + 1, by omega, by go_num, HWn, HB1, HB2, HJn⟩
        case measure => simp [intOf]; omega
      | true =>
        rw [hq] at hsc CH
        rw [if_pos rfl] at hsc
        rw [hsc] at hpf
        have HSc := Lib.hid hsc; have HPf := Lib.hid hpf; have HLn := Lib.hid (show (upH h k).length < L.length by omega)
        clear hsc hpf hln hq
        gi_wp2_with fail
        refine ⟨trivial, ?_⟩
        refine (callsIn_wide.2 CH.out).mono ?_
        rintro e w2 ⟨rfl, hb2⟩
        have HWn := Lib.hid (And.intro (HWr.out.1.trans (hb2.mono HWr.out.2)) (Nat.le_trans HWr.out.2 hb2.size))
        have HB1 := Lib.hid (HBc.out.below hb2 HBc.out.lt); have HB2 := Lib.hid (HBh.out.below hb2 HBh.out.lt)
        have hJn := hJ _ _ _ HJr.out hb2
        obtain ⟨fn, tmps, assign, body, hy, hR⟩ := hY (upH h k) (k : Int) w2 hJn HLn.out
        dsimp only [encN] at hy
        clear hb2 CH d1 hJn
        gi_wp2_with fail
        refine hR.mono ?_
        rintro e W3 (⟨rfl, hJ3, hk3⟩ | ⟨rfl, hJx3⟩)
        · have H3 := Lib.hid (And.intro (HWn.out.1.trans hk3.1) (Nat.le_trans HWn.out.2 hk3.1.size))
          have HB3 := Lib.hid (show Blk W3 Bc #[.pointer (some ⟨p, 0, none⟩)] 33 (0, 0) from hk3.2.1.trans HB1.out)
          have HB4 := Lib.hid (show Blk W3 Bh #[.func (.func 34) #[] #[.pointer (some ⟨q0, 0, none⟩), .pointer (some ⟨q1, 0, none⟩), .pointer (some ⟨q2, 0, none⟩), .pointer (some ⟨q3, 0, none⟩)]] 63 (0, 0) from hk3.2.2.trans HB2.out)
          have HJ3 := Lib.hid (show J (upH h (k + 1)) W3 by rw [HSc.out]; exact hJ3)
          clear hk3 hJ3
          gi_wp2_with fail
          go_roundw
          case rel => exact ⟨k + 1, by omega, by go_num, H3, HB3, HB4, HJ3⟩
          case measure => simp [intOf]; omega
        · gi_wp2_with fail
          refine bodyPost_ret (results_none rfl _ _ _) rfl ?_
          exact ⟨⟨_, rfl⟩, .inr ⟨_, HPf.out, hJx3⟩⟩
    · obtain rfl : k = L.length := by omega
      gi_wp2
      go_end0
      exact ⟨⟨_, rfl⟩, .inl ⟨_, rfl, HJr.out⟩⟩
theorem nodesB_stops (m : Nat) (hm : 1 ≤ m) (Bc Bh lo : Nat) (W0 : World) (p : Nat) (L : List Int) (many : Int) (hL : L.length ≤ 1000000) (hC : ∀ u, Below lo W0 u → CellsAt u p L many) (q0 q1 q2 q3 : Nat) (h : Nat → Bool)
    (hH : ∀ u, Below lo W0 u → ∀ k, k < L.length → Calls Tryd.prog 34 #[.int .i64 (k : Nat), .pointer (some ⟨q0, 0, none⟩), .pointer (some ⟨q1, 0, none⟩), .pointer (some ⟨q2, 0, none⟩), .pointer (some ⟨q3, 0, none⟩)] u fun e w' => e = .returned (.bool (h k)) ∧ Below u.heap.size u w')
    (w : World) (hW : Below lo W0 w) (hlo : lo ≤ w.heap.size) (hBc : Blk w Bc #[.pointer (some ⟨p, 0, none⟩)] 33 (0, 0)) (hBh : Blk w Bh #[.func (.func 34) #[] #[.pointer (some ⟨q0, 0, none⟩), .pointer (some ⟨q1, 0, none⟩), .pointer (some ⟨q2, 0, none⟩), .pointer (some ⟨q3, 0, none⟩)]] 63 (0, 0)) :
    SeqStopsK Fence.wide m Tryd.prog 51 #[.pointer (some ⟨Bc, 0, none⟩), .pointer (some ⟨Bh, 0, none⟩)] encN (KpN lo Bc Bh) (fun ys => ys = upH h L.length) (fun pre => pre <+: upH h L.length) L.length w := fun Lb J Jx W hb hJ _ hY h0 =>
  nodes1_inB m hm Lb Bc Bh lo W0 p L many hL hC q0 q1 q2 q3 h hH J Jx (fun x A B hx hAB => hJ x A B none hx ⟨hAB.os, hAB.tape, hAB.output, hAB.size, fun k hk _ => hAB.block k hk⟩ (fun r e => by cases e)) hY W (hW.trans (hb.mono hlo)) (Nat.le_trans hlo hb.size) (hBc.below hb hBc.lt) (hBh.below hb hBh.lt) h0
end Go.Proofs.YtjobijmmjebpaaaDoor
/- cell: (*Cells).In. -/
namespace Go.Proofs.YtjobijmmjebpaaaDoor
open Go.RowKit Go.Shelf
attribute [local go_sem] Oper.semAt_some
/-- is a node in a cell? -/
def inH (L : List Int) (c : Int) (k : Nat) : Bool := decide (L[k]? = some c)
/-- a cell's nodes -/
def inV (L : List Int) (c : Int) : List Int := upH (inH L c) L.length
set_option maxHeartbeats 4000000 in
theorem in1_any (q1 q2 p : Nat) (L : List Int) (many c : Int) (k : Nat) (u : World) (h1 : Blk u q1 #[.pointer (some ⟨p, 0, none⟩)] 33 (0, 0)) (h2 : Blk u q2 #[.int .i64 c] 3 (0, 0)) (hC : CellsAt u p L many) (hk : k < L.length) :
    Calls Tryd.prog 39 #[.int .i64 (k : Nat), .pointer (some ⟨q1, 0, none⟩), .pointer (some ⟨q2, 0, none⟩)] u fun e w' => e = .returned (.bool (inH L c k)) ∧ Below u.heap.size u w' := by
  have c1 := h1.cell 0; have c2 := h2.cell 0
  simp only [List.getElem?_toArray, List.getElem?_cons_zero] at c1 c2
  obtain ⟨a, cp, c3, _, hs⟩ := hC.cells
  obtain ⟨b, o, rfl, d⟩ := hs.at k hk
  obtain ⟨x, hx⟩ : ∃ x, x = L[k] := ⟨_, rfl⟩
  have e : inH L c k = (x == c) := by
    unfold inH
    rw [List.getElem?_eq_getElem hk, ← hx]
    by_cases h : x = c <;> simp [h]
  rw [e]
  rw [← hx] at d
  have i1 : (0 : Int) ≤ (k : Int) := by omega
  have i2 : (k : Int) < (L.length : Int) := by omega
  clear h1 h2 hC hs hx e
  go_enter Tryd.func39, Tryd.ntmps39
  go_wp2_with fail
  go_quiet (fail)
  go_wp2_with fail
  go_ret
  exact ⟨rfl, below_drewN (Below.refl _ _) _⟩
/-- what a loop that collects leaves -/
structure Col (w0 W : World) (lo B Bc Bh : Nat) (t1 t2 : Array Value) (v : Value) (R : List Int) : Prop where
  box : Boxed W B 30 v
  row : W.ownsRow lo 3 1 v R.length (R.flatMap inC)
  one : Blk W Bc t1 33 (0, 0)
  two : Blk W Bh t2 63 (0, 0)
  below : Below lo w0 W
theorem Col.put {w0 W : World} {lo B Bc Bh l : Nat} {t1 t2 : Array Value} {v : Value} {R : List Int} {o o' : Obj} (h : Col w0 W lo B Bc Bh t1 t2 v R) (hl : lo ≤ l) (ho : W.heap[l]? = some o) (hc : o.isCells = false) : Col w0 (W.putObj l o') lo B Bc Bh t1 t2 v R :=
  have hk := KpC.put (o' := o') ho hc
  ⟨hk.blk h.box, ownsRow_agree' h.row (fun k e => by obtain ⟨_, _, hq⟩ := ownsRow_blk' h.row e; exact (hk.blk hq).trans (show _ = _ from hq).symm), hk.blk h.one, hk.blk h.two, below_put h.below hl⟩
theorem col_own {w0 : World} {lo B Bc Bh n : Nat} {t1 t2 : Array Value} (hlw : lo ≤ w0.heap.size) (hlo : lo ≤ n) : OwnFrom n (fun (R : List Int) W => ∃ v, Col w0 W lo B Bc Bh t1 t2 v R) := fun s A C row hs hg hr => by
  obtain ⟨v, h⟩ := hs
  have hne : ∀ k cs t fr, Blk A k cs t fr → C.heap[k]? = A.heap[k]? := fun k cs t fr hb => hg.block k hb.lt (fun e => by
    obtain ⟨_, o, ho, hc⟩ := hr _ e.symm
    rw [show A.heap[k]? = _ from hb] at ho
    obtain rfl := Option.some.inj ho
    cases hc)
  exact ⟨v, (hne _ _ _ _ h.box).trans h.box, ownsRow_agree' h.row (fun k e => by obtain ⟨_, _, hq⟩ := ownsRow_blk' h.row e; exact hne _ _ _ _ hq), (hne _ _ _ _ h.one).trans h.one, (hne _ _ _ _ h.two).trans h.two, h.below.grown hg (Nat.le_trans hlw h.below.size) (fun k e => Nat.le_trans hlo (hr k e).1)⟩
set_option maxRecDepth 100000 in
set_option maxHeartbeats 8000000 in
theorem in_core (m : Nat) (hm : 3 ≤ m) (p : Option Addr) (c : Int) (ys0 : List Int) (N : Nat) (hN : N ≤ 1000000) (w : World)
    (hst : ∀ W5, Below w.heap.size w W5 → w.heap.size + 5 ≤ W5.heap.size → Blk W5 w.heap.size #[.pointer p] 33 (0, 0) → Blk W5 (w.heap.size + 1) #[.int .i64 c] 3 (0, 0) → Blk W5 (w.heap.size + 1 + 1 + 1) #[.pointer p] 33 (0, 0) → Blk W5 (w.heap.size + 1 + 1 + 1 + 1) #[.func (.func 39) #[] #[.pointer (some ⟨w.heap.size, 0, none⟩), .pointer (some ⟨w.heap.size + 1, 0, none⟩)]] 63 (0, 0) →
      SeqStopsK Fence.wide (m - 1) Tryd.prog 51 #[.pointer (some ⟨w.heap.size + 1 + 1 + 1, 0, none⟩), .pointer (some ⟨w.heap.size + 1 + 1 + 1 + 1, 0, none⟩)] encN (KpN (w.heap.size + 1 + 1) (w.heap.size + 1 + 1 + 1) (w.heap.size + 1 + 1 + 1 + 1)) (fun ys => ys = ys0) (fun _ => True) N W5) :
    CallsIn Fence.wide m Tryd.prog 21 #[.pointer p, .int .i64 c] w fun e W' => ∃ v, e = .returned v ∧ W'.ownsRow w.heap.size 3 1 v ys0.length (ys0.flatMap inC) ∧ Below w.heap.size w W' := by
  have h1 : 1 ≤ m := by omega
  obtain ⟨i0, hi, hz0, hz1, hz2⟩ := info_parts infoInt
  have HI := Lib.hid (And.intro hi (And.intro hz0 (And.intro hz1 hz2)))
  have HSt := Lib.hid hst
  clear hi hz0 hz1 hz2 hst
  refine callsIn_of_wp_marks Tryd.func21 rfl trivial ?_ rfl
  simp only [Tryd.ntmps21, List.size_toArray, List.length_cons, List.length_nil, Nat.reduceAdd, Nat.reduceSub, Array.replicate_succ, Array.replicate_zero, List.push_toArray, List.append_toArray, List.nil_append, List.cons_append]
  gi_wp2_with fail
  refine ⟨trivial, ?_⟩
  refine (nodes_inC (m - 1) p _ _ _).mono ?_
  rintro e W5 ⟨rfl, hW5⟩
  obtain ⟨z, hz⟩ : ∃ z, z = w.heap.size := ⟨_, rfl⟩
  simp only [World.size_alloc]
  rw [← hz]
  obtain ⟨w2, hw2⟩ : ∃ u, u = (w.alloc (.cells #[.pointer p] 33)).alloc (.cells #[.int .i64 c] 3) := ⟨_, rfl⟩
  rw [← hw2] at hW5
  have hs2 : w2.heap.size = z + 1 + 1 := by rw [hw2, hz]; simp
  have hb2 : Below w.heap.size w w2 := by rw [hw2]; exact ((Below.refl _ _).alloc (Nat.le_refl _) _).alloc (by simp) _
  have k0 : Blk w2 z #[.pointer p] 33 (0, 0) := by rw [hw2, hz]; exact (Blk.new _ _ _ _).alloc _
  have k1 : Blk w2 (z + 1) #[.int .i64 c] 3 (0, 0) := by
    rw [hw2, hz]
    have h := Blk.new (w.alloc (.cells #[.pointer p] 33)) #[.int .i64 c] 3 (0, 0)
    rwa [World.size_alloc] at h
  have hb5 : Below w2.heap.size w2 W5 := by rw [hW5]; exact (((Below.refl _ _).alloc (Nat.le_refl _) _).alloc (by simp) _).alloc (by simp; omega) _
  have k2 : Blk W5 (z + 1 + 1) #[.slice none 0 0] 30 (0, 0) := by
    rw [hW5, ← hs2]
    exact ((Blk.new w2 #[.slice none 0 0] 30 (0, 0)).alloc _).alloc _
  have k3 : Blk W5 (z + 1 + 1 + 1) #[.pointer p] 33 (0, 0) := by
    rw [hW5, ← hs2]
    have h := (Blk.new (w2.alloc (.cells #[.slice none 0 0] 30)) #[.pointer p] 33 (0, 0)).alloc (.cells #[.func (.func 39) #[] #[.pointer (some ⟨w.heap.size, 0, none⟩), .pointer (some ⟨w.heap.size + 1, 0, none⟩)]] 63)
    rwa [World.size_alloc] at h
  have k4 : Blk W5 (z + 1 + 1 + 1 + 1) #[.func (.func 39) #[] #[.pointer (some ⟨z, 0, none⟩), .pointer (some ⟨z + 1, 0, none⟩)]] 63 (0, 0) := by
    rw [hW5, ← hs2, hz]
    have h := Blk.new ((w2.alloc (.cells #[.slice none 0 0] 30)).alloc (.cells #[.pointer p] 33)) #[.func (.func 39) #[] #[.pointer (some ⟨w.heap.size, 0, none⟩), .pointer (some ⟨w.heap.size + 1, 0, none⟩)]] 63 (0, 0)
    rwa [World.size_alloc, World.size_alloc] at h
  have hs5 : W5.heap.size = z + 5 := by rw [hW5]; simp [hs2]
  have hbw5 := hb2.next' hb5
  have K0 := k0.below hb5 k0.lt; have K1 := k1.below hb5 k1.lt
  have hseq := HSt.out W5 hbw5 (by omega) (by rw [← hz]; exact K0) (by rw [← hz]; exact K1) (by rw [← hz]; exact k3) (by rw [← hz]; exact k4)
  rw [← hz] at hseq hbw5
  have hcol : Col W5 W5 (z + 1 + 1) (z + 1 + 1) (z + 1 + 1 + 1) (z + 1 + 1 + 1 + 1) #[.pointer p] #[.func (.func 39) #[] #[.pointer (some ⟨z, 0, none⟩), .pointer (some ⟨z + 1, 0, none⟩)]] (.slice none 0 0) [] := ⟨k2, World.ownsRow_nil _ _ _ _, k3, k4, Below.refl _ _⟩
  have HCol := Lib.hid hcol; have HBw := Lib.hid hbw5; have HZ := Lib.hid hz
  clear hW5 hw2 hs2 hb2 hb5 k0 k1 k2 k3 k4 K0 K1 hcol hbw5 HSt hz
  gi_wp2_with fail
  refine wpIn_rangeFunc_ownG (F := Fence.wide) rfl h1 (gf := 51) (lb := #[.pointer (some ⟨z + 1 + 1 + 1, 0, none⟩), .pointer (some ⟨z + 1 + 1 + 1 + 1, 0, none⟩)]) rfl trivial (enters_of Tryd.func51 (by kernel_rfl) rfl)
    hseq KpN.trans (KpN.put (w := W5) (by omega) ⟨by omega, by omega⟩) (Below.refl _ _) (fun _ => rfl)
    (fun pre W => ∃ v, Col W5 W (z + 1 + 1) (z + 1 + 1) (z + 1 + 1 + 1) (z + 1 + 1 + 1 + 1) #[.pointer p] #[.func (.func 39) #[] #[.pointer (some ⟨z, 0, none⟩), .pointer (some ⟨z + 1, 0, none⟩)]] v pre)
    (fun _ _ _ => False)
    (col_own (by omega) (by omega))
    (fun _ _ _ _ _ hs _ _ => hs)
    ⟨_, HCol.out⟩
    ?a1 ?assign ?body ?done ?stop
  case assign =>
    intro l x W K hK
    dsimp only [encN]
    gi_wp2
    exact hK
  case body =>
    rintro l pre x W ⟨v, hN⟩ hlt
    have hc := hN.box.cell
    have hrow := hN.row
    obtain ⟨va, vn, vc, rfl⟩ := hrow.one'
    have hsz := hN.below.size
    gi_wp2_with (gi_at_builtin; refine wpListIn_append_own_at (F := _) _ rfl _ _ 30 rfl (z + 1 + 1) 3 i0 (.int .i64 0) 1 8 Tryd.underlying30 HI.out.1 HI.out.2.1 HI.out.2.2.1 HI.out.2.2.2 rfl (by decide) _ _ _ rfl (hrow.alloc _) ⟨W.heap.size, 0, none⟩ 1 1 [.int .i64 x] rfl rfl (cell_one_new _ _ _) (by simp [Value.oneCell']) (by unfold maxLen; omega) (by omega) (by simp; omega) ?_; intro v' w1 hown' hgrow _ _; obtain ⟨g', cap', rfl⟩ := ownsRow_succ hown'; obtain ⟨hv1, hv2, hr2, hk2, hb2⟩ := hN.box.appended (by decide) hrow (by omega) (Nat.le_refl _) hown' hgrow; have hc1 := hv1.cell; have hf1 := hv1.frozen)
    have hk : ∀ k cs t fr, Blk W k cs t fr → k ≠ z + 1 + 1 → t ≠ 3 → (w1.setCell ⟨z + 1 + 1, 0, none⟩ (.slice (some ⟨g', 0, none⟩) (pre.length + 1) cap')).heap[k]? = W.heap[k]? := fun k cs t fr hb n1 n2 => (heap_setCell_other _ _ _ _ n1).trans ((hgrow.block k (by simp; have := hb.lt; omega) (fun e => by
      obtain ⟨_, _, hq⟩ := ownsRow_blk' hrow e.symm
      exact n2 (blk_type hb hq))).trans (Below.heap_alloc W _ k hb.lt))
    have h3 := hk _ _ _ _ hN.one (by omega) (by decide); have h4 := hk _ _ _ _ hN.two (by omega) (by decide)
    refine ⟨hk2.from _, ⟨hb2, h3, h4⟩, ⟨_, hv2, ?_, h3.trans hN.one, h4.trans hN.two, hN.below.trans hb2⟩⟩
    rw [List.length_append, List.flatMap_append]
    simpa [inC] using hr2
  case done =>
    rintro D ys W hD rfl ⟨v, hN⟩ hDf
    obtain ⟨va, vn, vc, rfl⟩ := hN.row.one'
    have hc := hN.box.cell
    have hf := hN.box.frozen
    have hD4 : D ≠ z + 1 + 1 := by omega
    have HN := Lib.hid hN
    clear hN
    gi_wp2_with fail
    have hb4 : Blk (W.setCell ⟨z + 1 + 1, 0, none⟩ (.slice va vn vc)) (z + 1 + 1) #[.slice va vn vc] 30 (0, 0) := Blk.set (show Blk W (z + 1 + 1) #[.slice va vn vc] 30 (0, 0) from HN.out.box) 0 _
    have hrE := ownsRow_set HN.out.row (p := ⟨z + 1 + 1, 0, none⟩) (show Blk W (z + 1 + 1) #[.slice va vn vc] 30 (0, 0) from HN.out.box) (show 30 ≠ 3 by decide) (.slice va vn vc)
    have hbE : Below z w (W.setCell ⟨z + 1 + 1, 0, none⟩ (.slice va vn vc)) := (HBw.out.trans (HN.out.below.mono (by omega))).setCell (p := ⟨z + 1 + 1, 0, none⟩) (by show z ≤ z + 1 + 1; omega) _
    have hDE : (W.setCell ⟨z + 1 + 1, 0, none⟩ (.slice va vn vc)).heap[D]? = some (.deferred (some [])) := (heap_setCell_other _ _ _ _ hD4).trans hDf
    rw [← HZ.out]
    refine leaves_marks (B := z) (by simp) _ _ ⟨⟨D, rfl, by omega, hDE, fun d' h => by cases h⟩, trivial⟩ hbE fun w' hk' hb' => ?_
    have m4 := hk'.blk hb4
    have c4 : w'.cell? ⟨z + 1 + 1, 0, none⟩ = some (.slice va vn vc) := m4.cell 0
    exact ⟨.slice va vn vc, by simp [results, Tryd.results21, c4, go_sem], _, rfl, ownsRow_agree' (ownsRow_le hrE (by omega)) (fun k e => by obtain ⟨_, _, hq⟩ := ownsRow_blk' hrE e; exact (hk'.blk hq).trans (show _ = _ from hq).symm), hb'⟩
  case stop =>
    rintro D c pre W _ _ h _
    exact h.elim
theorem in_any (p : Nat) (L : List Int) (many c : Int) (hL : L.length ≤ 1000000) (w : World) (hC : CellsAt w p L many) : Calls Tryd.prog 21 #[.pointer (some ⟨p, 0, none⟩), .int .i64 c] w fun e W' => ∃ v, e = .returned v ∧ W'.ownsRow w.heap.size 3 1 v (inV L c).length ((inV L c).flatMap inC) ∧ Below w.heap.size w W' :=
  callsIn_wide.1 (in_core 4 (by omega) (some ⟨p, 0, none⟩) c (inV L c) L.length hL w fun W5 hb hs k0 k1 k3 k4 => fun Lb J Jx W hbW hJ hJx hY h0 => by
    have hst := nodesI_stops 3 (by omega) (w.heap.size + 1 + 1 + 1) (w.heap.size + 1 + 1 + 1 + 1) (w.heap.size + 1 + 1) W5 p L many hL (fun u hu => hC.keep (KpC.of_below (hb.trans (hu.mono (by omega))))) w.heap.size (w.heap.size + 1) (inH L c)
      (fun u hu k hk => in1_any w.heap.size (w.heap.size + 1) p L many c k u ((hu.block _ (by omega)).trans k0) ((hu.block _ (by omega)).trans k1) (hC.keep (KpC.of_below (hb.trans (hu.mono (by omega))))) hk)
      W5 (Below.refl _ _) (by omega) k3 k4
    refine (hst Lb J Jx W hbW hJ hJx hY h0).mono ?_
    rintro e W' ⟨h1, h2 | ⟨pre, _, h2⟩⟩
    · exact ⟨h1, .inl h2⟩
    · exact ⟨h1, .inr ⟨pre, trivial, h2⟩⟩)
theorem in_nil (c : Int) (w : World) : Calls Tryd.prog 21 #[.pointer none, .int .i64 c] w fun e W' => ∃ v, e = .returned v ∧ W'.ownsRow w.heap.size 3 1 v 0 [] ∧ Below w.heap.size w W' :=
  callsIn_wide.1 (in_core 4 (by omega) none c [] 0 (by omega) w fun W5 hb hs k0 k1 k3 k4 => fun Lb J Jx W hbW hJ hJx hY h0 => by
    refine (nodes1_nil 3 Lb _ _ W (k3.below hbW k3.lt)).mono ?_
    rintro e W' ⟨h1, rfl⟩
    exact ⟨h1, .inl ⟨_, rfl, h0⟩⟩)
end Go.Proofs.YtjobijmmjebpaaaDoor
/- net: the rows of a node. -/
namespace Go.Proofs.YtjobijmmjebpaaaDoor
open Go.RowKit
/-- a node's row, or none -/
def rowV (end' : Ar → Int) (g : Raw) (i : Int) : List Int := if 0 ≤ i ∧ i < (rowsOf end' g.arcs g.nodes.toNat).length then (rowsOf end' g.arcs g.nodes.toNat)[i.toNat]?.getD [] else []
theorem rowV_few (end' : Ar → Int) (g : Raw) (i : Int) (h : ∀ r ∈ rowsOf end' g.arcs g.nodes.toNat, r.length ≤ 1000000000000) : (rowV end' g i).length ≤ 1000000000000 := by
  unfold rowV
  split
  · rename_i hi
    have hn : i.toNat < (rowsOf end' g.arcs g.nodes.toNat).length := by omega
    rw [List.getElem?_eq_getElem hn]
    exact h _ (List.getElem_mem _)
  · simp
theorem out_any (p : Nat) (g : Raw) (i : Int) (w : World) (h : NetAt w p g) (hl : ∀ r ∈ rowsOf endF g.arcs g.nodes.toNat, r.length ≤ 1000000000000) : Calls Tryd.prog 22 #[.pointer (some ⟨p, 0, none⟩), .int .i64 i] w fun e w' => ∃ v', e = .returned v' ∧ w'.ownsRow w.heap.size 3 1 v' (rowV endF g i).length ((rowV endF g i).flatMap inC) ∧ Below w.heap.size w w' := by
  obtain ⟨xa, xc, ya, yc, aa, ac, oa, oc, ia, ic, on, inn, c0, c1, c2, c3, c4, c5, hx, hy, ha, ho, hi⟩ := h.cells
  have C := Lib.hid (oneR_any _ _ i w ho)
  have HL := Lib.hid (rowV_few endF g i hl)
  clear h hx hy ha ho hi hl c0 c1 c2 c3 c5
  go_enter Tryd.func22, Tryd.ntmps22
  go_wp2_with fail
  refine C.out.mono ?_
  rintro e w1 ⟨rv, rfl, hr, rfl⟩
  have C2 := Lib.hid (cloneI rv (rowV endF g i) w1 hr HL.out)
  have fr := hr.form
  obtain ⟨_, _, _, rfl⟩ := fr
  clear hr
  go_wp2_with fail
  refine C2.out.mono ?_
  rintro e w2 ⟨v', rfl, hown, hb⟩
  have HO := Lib.hid hown; have HB := Lib.hid hb
  have fv := hown.one'
  obtain ⟨_, _, _, rfl⟩ := fv
  clear hown hb
  go_wp2_with fail
  go_ret
  exact ⟨_, rfl, HO.out, HB.out⟩
theorem inn_any (p : Nat) (g : Raw) (i : Int) (w : World) (h : NetAt w p g) (hl : ∀ r ∈ rowsOf endT g.arcs g.nodes.toNat, r.length ≤ 1000000000000) : Calls Tryd.prog 36 #[.pointer (some ⟨p, 0, none⟩), .int .i64 i] w fun e w' => ∃ v', e = .returned v' ∧ w'.ownsRow w.heap.size 3 1 v' (rowV endT g i).length ((rowV endT g i).flatMap inC) ∧ Below w.heap.size w w' := by
  obtain ⟨xa, xc, ya, yc, aa, ac, oa, oc, ia, ic, on, inn, c0, c1, c2, c3, c4, c5, hx, hy, ha, ho, hi⟩ := h.cells
  have C := Lib.hid (oneR_any _ _ i w hi)
  have HL := Lib.hid (rowV_few endT g i hl)
  clear h hx hy ha ho hi hl c0 c1 c2 c3 c4
  go_enter Tryd.func36, Tryd.ntmps36
  go_wp2_with fail
  refine C.out.mono ?_
  rintro e w1 ⟨rv, rfl, hr, rfl⟩
  have C2 := Lib.hid (cloneI rv (rowV endT g i) w1 hr HL.out)
  have fr := hr.form
  obtain ⟨_, _, _, rfl⟩ := fr
  clear hr
  go_wp2_with fail
  refine C2.out.mono ?_
  rintro e w2 ⟨v', rfl, hown, hb⟩
  have HO := Lib.hid hown; have HB := Lib.hid hb
  have fv := hown.one'
  obtain ⟨_, _, _, rfl⟩ := fv
  clear hown hb
  go_wp2_with fail
  go_ret
  exact ⟨_, rfl, HO.out, HB.out⟩
theorem out_nil (i : Int) (w : World) : Calls Tryd.prog 22 #[.pointer none, .int .i64 i] w fun e w' => e = .returned (.slice none 0 0) ∧ w' = w := by
  go_enter Tryd.func22, Tryd.ntmps22
  go_wp2_with fail
  go_ret
  exact ⟨rfl, rfl⟩
theorem inn_nil (i : Int) (w : World) : Calls Tryd.prog 36 #[.pointer none, .int .i64 i] w fun e w' => e = .returned (.slice none 0 0) ∧ w' = w := by
  go_enter Tryd.func36, Tryd.ntmps36
  go_wp2_with fail
  go_ret
  exact ⟨rfl, rfl⟩
end Go.Proofs.YtjobijmmjebpaaaDoor
/- net, in plain words: a row rises, and holds just the arcs of its end. -/
namespace Go.Proofs.YtjobijmmjebpaaaDoor
theorem mem_rowK (E : Ar → Int) (L : List Ar) (v : Nat) (x : Int) : ∀ k, x ∈ rowK E L v k ↔ ∃ a : Nat, a < k ∧ x = (a : Int) ∧ E (L[a]?.getD (0, 0, 0)) = (v : Int)
  | 0 => by
    show x ∈ [] ↔ _
    constructor
    · intro h; cases h
    · rintro ⟨a, h, _⟩; omega
  | k + 1 => by
    have ih := mem_rowK E L v x k
    by_cases h : E (L[k]?.getD (0, 0, 0)) = (v : Int)
    · rw [rowK_hit h, List.mem_append, ih, List.mem_singleton]
      constructor
      · rintro (⟨a, h1, h2, h3⟩ | h1)
        · exact ⟨a, by omega, h2, h3⟩
        · exact ⟨k, by omega, h1, h⟩
      · rintro ⟨a, h1, h2, h3⟩
        by_cases e : a = k
        · exact .inr (by rw [h2, e])
        · exact .inl ⟨a, by omega, h2, h3⟩
    · rw [rowK_miss h, ih]
      constructor
      · rintro ⟨a, h1, h2, h3⟩; exact ⟨a, by omega, h2, h3⟩
      · rintro ⟨a, h1, h2, h3⟩
        by_cases e : a = k
        · exact absurd (e ▸ h3) h
        · exact ⟨a, by omega, h2, h3⟩
theorem rowK_rises (E : Ar → Int) (L : List Ar) (v : Nat) : ∀ k, (rowK E L v k).Pairwise (· < ·)
  | 0 => List.Pairwise.nil
  | k + 1 => by
    have ih := rowK_rises E L v k
    by_cases h : E (L[k]?.getD (0, 0, 0)) = (v : Int)
    · rw [rowK_hit h, List.pairwise_append]
      refine ⟨ih, List.pairwise_singleton _ _, fun x hx y hy => ?_⟩
      obtain ⟨a, h1, h2, _⟩ := (mem_rowK E L v x k).1 hx
      rw [List.mem_singleton] at hy
      omega
    · rw [rowK_miss h]; exact ih
/-- the reference's row is the same one -/
theorem rowK_turned (L : List Ar) (v : Nat) (E F : Ar → Int) (f : Ar → Ar) (hf : ∀ a, E (f a) = F a) : ∀ k, k ≤ L.length → rowK E (L.map f) v k = rowK F L v k
  | 0, _ => rfl
  | k + 1, hk => by
    have ih := rowK_turned L v E F f hf k (by omega)
    have e : E ((L.map f)[k]?.getD (0, 0, 0)) = F (L[k]?.getD (0, 0, 0)) := by
      rw [List.getElem?_map, List.getElem?_eq_getElem (by omega)]
      exact hf _
    by_cases h : F (L[k]?.getD (0, 0, 0)) = (v : Int)
    · rw [rowK_hit (e.trans h), rowK_hit h, ih]
    · rw [rowK_miss (fun q => h (e.symm.trans q)), rowK_miss h, ih]
end Go.Proofs.YtjobijmmjebpaaaDoor
/-
  A region that draws its order, by hand: its reads taken first where a condition on the world holds (S), which may GROW on the way; calls one by one. Over the kit's OrdersHeld.
-/
namespace Go.Proofs.YtjobijmmjebpaaaDoor
section
variable {P : Program} {ops : Array Oper} {Q : Exit → Act → World → Prop} {S S1 : World → Prop}
theorem heldA_grow (h : ∀ w, S1 w → S w) : ∀ (fuel : Nat) (listed : Array Bool) (a : Act) (w : World), wpAnyH P .any ops Q S1 fuel listed a w → wpAnyH P .any ops Q S fuel listed a w
  | 0, _, _, _, hh => hh
  | fuel + 1, _, _, _, hh => ⟨hh.1, fun i hi => wpOp_mono (fun a' w' h' => ⟨h w' h'.1, heldA_grow h fuel _ a' w' h'.2⟩) (hh.2 i hi)⟩
theorem heldA_take {i d : Nat} {oi : Oper} {v : Value} {fuel : Nat} {listed : Array Bool} {tmps : Array Value} {ds : List Deferred} {w : World} (hi : ops[i]? = some oi) (hd : oi.dst = some d) (hs : Region.noSelect ops = true) (hf : Region.free .any ops listed i = true)
    (hr : (Region.ready .any ops listed).contains i = true) (hQ : ∀ c a w, Q (.panic c) (a.put oi.dst v) w → Q (.panic c) a w) (hw : Region.wanted oi (yielded ops tmps) = true) (hy : ∀ w, S w → (execOp (Act.eval { tmps := tmps, defers := ds }) oi).run P w = .ok (.value v) w) (hS : S w)
    (h : wpAnyH P .any ops Q S fuel (listed.setIfInBounds i true) { tmps := tmps.setIfInBounds d v, defers := ds } w) : wpAnyH P .any ops Q S (fuel + 1) listed { tmps := tmps, defers := ds } w :=
  wpAnyH_take hi hs hf hr hQ (Or.inl ⟨hw, hy⟩) hS (by rw [hd]; exact h)
theorem heldA_one {i : Nat} {fuel : Nat} {listed : Array Bool} {a : Act} {w : World} (hr : Region.ready .any ops listed = [i])
    (h : wpOp P ops Q i (fun a' w' => S w' ∧ wpAnyH P .any ops Q S fuel (listed.setIfInBounds i true) a' w') a w) : wpAnyH P .any ops Q S (fuel + 1) listed a w :=
  ⟨fun h0 => (by rw [hr] at h0; cases h0), fun j hj => by rw [hr] at hj; obtain rfl : j = i := by simpa using hj
                                                          exact h⟩
theorem heldA_two {i k : Nat} {fuel : Nat} {listed : Array Bool} {a : Act} {w : World} (hr : Region.ready .any ops listed = [i, k])
    (h1 : wpOp P ops Q i (fun a' w' => S w' ∧ wpAnyH P .any ops Q S fuel (listed.setIfInBounds i true) a' w') a w) (h2 : wpOp P ops Q k (fun a' w' => S w' ∧ wpAnyH P .any ops Q S fuel (listed.setIfInBounds k true) a' w') a w) : wpAnyH P .any ops Q S (fuel + 1) listed a w :=
  ⟨fun h0 => (by rw [hr] at h0; cases h0), fun j hj => by
    rw [hr] at hj
    rcases List.mem_cons.1 hj with rfl | hj
    · exact h1
    · obtain rfl : j = k := by simpa using hj
      exact h2⟩
/-- a call of a Go function that comes back -/
theorem wpOp_calls {i : Nat} {o : Oper} {d : Nat} {tmps : Array Value} {ds : List Deferred} {w w' : World} {f : FuncId} {args : Array Value} {K : Act → World → Prop} {R : Ending → World → Prop} (hi : ops[i]? = some o) (hd : o.dst = some d) (hw : Region.wanted o (yielded ops tmps) = true)
    (he : (execOp (Act.eval { tmps := tmps, defers := ds }) o).run P w = .ok (.enter f args) w') (hc : Calls P f args w' R) (hk : ∀ v w'', R (.returned v) w'' → K { tmps := tmps.setIfInBounds d v, defers := ds } w'') (hp : ∀ ch w'', R (.panicked ch) w'' → False) (ho : ∀ w'', R .outgrown w'' → False) :
    wpOp P ops Q i K { tmps := tmps, defers := ds } w := by
  unfold wpOp
  rw [hi]
  simp only [hw, if_true]
  refine .inl ?_
  unfold Oper.wp
  rw [he]
  simp only [Oper.upon]
  refine hc.mono fun e w'' hr => ?_
  cases e with
  | returned v => dsimp only; rw [hd]; exact hk v w'' hr
  | panicked ch => exact (hp ch w'' hr).elim
  | outgrown => exact (ho w'' hr).elim
end
end Go.Proofs.YtjobijmmjebpaaaDoor
