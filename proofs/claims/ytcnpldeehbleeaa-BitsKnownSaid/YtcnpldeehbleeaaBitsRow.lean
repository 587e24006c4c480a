/- THE WALKS over bits, V: on (a range over a function), Row. -/
import Derived.RangeFuncBox
import Derived.RangeFuncLeaves
import Derived.Shelf.Abstract
import Derived.OwnWalkIn
import Derived.TacticsInMore
import Derived.LoopNIn
import Derived.LoopIn
import Derived.Maps.AppendAt
import Derived.Test.YtcnpldeehbleeaaBitsC
namespace Go.Proofs.Ytcnpldeehbleeaa
open Go.RowKit Go.Shelf
attribute [local go_sem] Oper.semAt_some
/-- on hands back a closure over its two boxes -/
theorem on_in (F : Fence) (k : Nat) (hf : F.fn 35) (hro : F.round = none) (p : Option Addr) (r : Int) (w : World) :
    CallsIn F k Try.prog 35 #[.pointer p, .int .i64 r] w fun e w' => e = .returned (.func (.func 36) #[] #[.pointer (some ⟨w.heap.size, 0, none⟩), .pointer (some ⟨w.heap.size + 1, 0, none⟩)]) ∧ w' = (w.alloc (.cells #[.pointer p] 44)).alloc (.cells #[.int .i64 r] 3) := by
  refine callsIn_of_wp Try.func35 rfl hf ?_ hro
  simp only [Try.ntmps35, List.size_toArray, List.length_cons, List.length_nil, Nat.reduceAdd, Nat.reduceSub, Array.replicate_succ, Array.replicate_zero, List.push_toArray, List.append_toArray, List.nil_append, List.cons_append]
  gi_wp2
  go_ret
  exact ⟨rfl, rfl⟩
/-- the blocks below n₀ but X lie as they lay -/
def KpX (X n₀ : Nat) (W W' : World) : Prop := W.heap.size ≤ W'.heap.size ∧ ∀ k, k < n₀ → k ≠ X → W'.heap[k]? = W.heap[k]?
theorem KpX.trans {X n₀ : Nat} {A B C : World} (h : KpX X n₀ A B) (k : KpX X n₀ B C) : KpX X n₀ A C := ⟨Nat.le_trans h.1 k.1, fun i hi hx => (k.2 i hi hx).trans (h.2 i hi hx)⟩
theorem KpX.below {X n₀ : Nat} {A B : World} (h : Below n₀ A B) : KpX X n₀ A B := ⟨h.size, fun i hi _ => h.block i hi⟩
theorem KpX.put {X n₀ : Nat} {w : World} (hn : n₀ ≤ w.heap.size) (W : World) (l : Nat) (o o' : Obj) (hl : w.heap.size ≤ l) (h : W.heap[l]? = some o) (h1 : o.isCells = false) (h2 : o.isWalk = false) : KpX X n₀ W (W.putObj l o') := .below (belowK_b hn W l o o' hl h h1 h2)
/-- the bits of row r that are on, below k -/
def onTo (n wd : Nat) (l : List UInt8) (r : Int) (k : Nat) : List Nat := (List.range k).filter fun i => getB n wd l r i
theorem onTo_succ (n wd : Nat) (l : List UInt8) (r : Int) (k : Nat) : onTo n wd l r (k + 1) = onTo n wd l r k ++ (if getB n wd l r k then [k] else []) := by
  unfold onTo; rw [List.range_succ, List.filter_append]
  congr 1
  by_cases h : getB n wd l r k <;> simp [h]
theorem onTo_prefix (n wd : Nat) (l : List UInt8) (r : Int) (k d : Nat) : onTo n wd l r k <+: onTo n wd l r (k + d) := by
  induction d with
  | zero => exact List.prefix_refl _
  | succ d ih => exact ih.trans (by rw [← Nat.add_assoc, onTo_succ]; exact List.prefix_append _ _)
theorem grown_below {W W' : World} (h : Below W.heap.size W W') : W.grownBy W' none := ⟨h.os, h.tape, h.output, h.size, fun k hk _ => h.block k hk⟩
set_option maxRecDepth 100000 in
set_option maxHeartbeats 2000000 in
theorem on1_in (m : Nat) (hm : 1 ≤ m) (L Bb Br X n₀ p g n wd : Nat) (l : List UInt8) (r : Int) (J Jx : List Nat → World → Prop) (hJA : ∀ s W W', J s W → Below W.heap.size W W' → J s W')
    (hY : ∀ pre x W, J pre W → pre.length < (onTo n wd l r wd).length → YieldAt Fence.wide (m - 1) Try.prog L #[.int .i64 (x : Nat)] W fun e W' =>
      (e = .returned (.bool true) ∧ J (pre ++ [x]) W' ∧ KpX X n₀ W W') ∨ (e = .returned (.bool false) ∧ Jx (pre ++ [x]) W'))
    (W : World) (hb : Bt W p g n wd l) (hpn : p < n₀ ∧ p ≠ X) (hgn : g < n₀ ∧ g ≠ X) (hBb : Blk W Bb #[.pointer (some ⟨p, 0, none⟩)] 44 (0, 0)) (hBr : Blk W Br #[.int .i64 r] 3 (0, 0)) (hbn : Bb < n₀ ∧ Bb ≠ X) (hrn : Br < n₀ ∧ Br ≠ X) (h0 : J [] W) :
    CallsIn Fence.wide m Try.prog 36 #[.func (.yield L) #[] #[], .pointer (some ⟨Bb, 0, none⟩), .pointer (some ⟨Br, 0, none⟩)] W fun e W' => (∃ v, e = .returned v) ∧
      ((∃ ys, ys = onTo n wd l r wd ∧ J ys W') ∨ (∃ pre, pre <+: onTo n wd l r wd ∧ Jx pre W')) := by
  have c1 := hBb.cell 0
  change W.cell? ⟨Bb, 0, none⟩ = some (.pointer (some ⟨p, 0, none⟩)) at c1
  have hw0 : wd ≤ 67108864 := hb.wide
  refine callsIn_of_wp Try.func36 rfl trivial ?_ rfl
  simp only [Try.ntmps36, List.size_toArray, List.length_cons, List.length_nil, Nat.reduceAdd, Nat.reduceSub, Array.replicate_succ, Array.replicate_zero, List.push_toArray, List.append_toArray, List.nil_append, List.cons_append]
  gi_wp2_with (refine ⟨trivial, ?_⟩; gi_at_call 27; refine (callsIn_wide.2 (wide_any p g n wd l _ hb)).mono ?_; rintro e w' ⟨rfl, rfl⟩)
  gi_loopw [7] (fun i wr => ∃ (k : Nat), k ≤ wd ∧ i = .int .i64 k ∧ Bt wr p g n wd l ∧ Blk wr Bb #[.pointer (some ⟨p, 0, none⟩)] 44 (0, 0) ∧ Blk wr Br #[.int .i64 r] 3 (0, 0) ∧ J (onTo n wd l r k) wr) (fun i _ => wd - (intOf i).toNat)
  case atStart => exact ⟨0, Nat.zero_le _, rfl, hb, hBb, hBr, h0⟩
  case round =>
    obtain ⟨k, hk, rfl, hbt, h1, h2, hJ⟩ := hrel
    have d1 := h1.cell 0
    have d2 := h2.cell 0
    change wr.cell? ⟨Bb, 0, none⟩ = some (.pointer (some ⟨p, 0, none⟩)) at d1
    change wr.cell? ⟨Br, 0, none⟩ = some (.int .i64 r) at d2
    by_cases hlt : k < wd
    · have hsc := onTo_succ n wd l r k
      have C := Lib.hid (get_any p g n wd l r k wr hbt)
      cases hgb : getB n wd l r k with
      | false =>
        rw [hgb] at C hsc
        rw [if_neg (by decide), List.append_nil] at hsc
        clear hgb
        gi_wp2_with (refine ⟨trivial, ?_⟩; gi_at_call 23; refine (callsIn_wide.2 C.out).mono ?_; rintro e w1 ⟨rfl, hb1⟩)
        refine ⟨fun _ h => (by cases h), ?_⟩
        gi_wp2
        go_roundw
        case rel => exact ⟨k + 1, by omega, by go_num, hbt.later hb1, h1.below hb1 h1.lt, h2.below hb1 h2.lt, by rw [hsc]; exact hJA _ _ _ hJ hb1⟩
        case measure => simp [intOf]; omega
      | true =>
        rw [hgb] at C hsc
        rw [if_pos rfl] at hsc
        clear hgb
        have hpf : onTo n wd l r k ++ [k] <+: onTo n wd l r wd := by
          rw [← hsc]
          have := onTo_prefix n wd l r (k + 1) (wd - (k + 1))
          rwa [show k + 1 + (wd - (k + 1)) = wd by omega] at this
        have hpl : (onTo n wd l r k).length < (onTo n wd l r wd).length := by
          have := hpf.length_le
          rw [List.length_append] at this
          simp at this; omega
        gi_wp2_with (refine ⟨trivial, ?_⟩; gi_at_call 23; refine (callsIn_wide.2 C.out).mono ?_; rintro e w1 ⟨rfl, hb1⟩; obtain ⟨fn, tmps, assign, body, hy, hR⟩ := hY (onTo n wd l r k) k w1 (hJA _ _ _ hJ hb1) hpl)
        refine hR.mono ?_
        rintro e W3 (⟨rfl, hJ3, hk3⟩ | ⟨rfl, hJx3⟩)
        · have hb3 : Bt W3 p g n wd l := ⟨(hk3.2 p hpn.1 hpn.2).trans (hbt.later hb1).head, (hk3.2 g hgn.1 hgn.2).trans (hbt.later hb1).body, hbt.ne, hbt.long, hbt.wide, hbt.rows, hbt.most⟩
          have hb4 : Blk W3 Bb #[.pointer (some ⟨p, 0, none⟩)] 44 (0, 0) := (hk3.2 Bb hbn.1 hbn.2).trans (h1.below hb1 h1.lt)
          have hb5 : Blk W3 Br #[.int .i64 r] 3 (0, 0) := (hk3.2 Br hrn.1 hrn.2).trans (h2.below hb1 h2.lt)
          gi_wp2
          go_roundw
          case rel => exact ⟨k + 1, by omega, by go_num, hb3, hb4, hb5, by rw [hsc]; exact hJ3⟩
          case measure => simp [intOf]; omega
        · gi_wp2
          refine bodyPost_ret (results_none rfl _ _ _) rfl ?_
          exact ⟨⟨_, rfl⟩, .inr ⟨_, hpf, hJx3⟩⟩
    · obtain rfl : k = wd := by omega
      gi_wp2
      go_end0
      exact ⟨⟨_, rfl⟩, .inl ⟨_, rfl, hJ⟩⟩
theorem wide_nil (w : World) : Calls Try.prog 27 #[.pointer none] w fun e w' => e = .returned (.int .i64 0) ∧ w = w' := by
  go_enter Try.func27, Try.ntmps27
  go_wp2
  go_ret
  exact ⟨rfl, rfl⟩
set_option maxRecDepth 100000 in
set_option maxHeartbeats 2000000 in
/-- of none -/
theorem on1_nil (m : Nat) (hm : 1 ≤ m) (L Bb Br : Nat) (J : List Nat → World → Prop)
    (W : World) (hBb : Blk W Bb #[.pointer none] 44 (0, 0)) (h0 : J [] W) :
    CallsIn Fence.wide m Try.prog 36 #[.func (.yield L) #[] #[], .pointer (some ⟨Bb, 0, none⟩), .pointer (some ⟨Br, 0, none⟩)] W fun e W' => (∃ v, e = .returned v) ∧ J [] W' := by
  have c1 := hBb.cell 0
  change W.cell? ⟨Bb, 0, none⟩ = some (.pointer none) at c1
  refine callsIn_of_wp Try.func36 rfl trivial ?_ rfl
  simp only [Try.ntmps36, List.size_toArray, List.length_cons, List.length_nil, Nat.reduceAdd, Nat.reduceSub, Array.replicate_succ, Array.replicate_zero, List.push_toArray, List.append_toArray, List.nil_append, List.cons_append]
  gi_wp2_with (refine ⟨trivial, ?_⟩; gi_at_call 27; refine (callsIn_wide.2 (wide_nil _)).mono ?_; rintro e w' ⟨rfl, rfl⟩)
  gi_loopw [7] (fun i wr => i = .int .i64 0 ∧ J [] wr) (fun _ _ => 0)
  case atStart => exact ⟨rfl, h0⟩
  case round =>
    obtain ⟨rfl, hJ⟩ := hrel
    gi_wp2
    go_end0
    exact ⟨⟨_, rfl⟩, hJ⟩
end Go.Proofs.Ytcnpldeehbleeaa
