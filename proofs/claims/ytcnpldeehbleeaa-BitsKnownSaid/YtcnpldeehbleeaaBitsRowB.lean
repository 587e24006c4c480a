/- THE WALKS over bits, VI: Row: the bits of a row that are on. -/
import Derived.Maps.OwnIn
import Derived.Test.YtcnpldeehbleeaaBitsRow
namespace Go.Proofs.Ytcnpldeehbleeaa
open Go.RowKit Go.Shelf
attribute [local go_sem] Oper.semAt_some
theorem infoI : (Try.prog.info? 3).map (fun i => (i.zero, i.size, i.bytes)) = some (some (.int .i64 0), 1, 8) := by kernel_rfl
theorem on_stops (m : Nat) (hm : 1 ≤ m) (Bb Br X n₀ p g n wd : Nat) (l : List UInt8) (r : Int) (w : World) (hb : Bt w p g n wd l) (hpn : p < n₀ ∧ p ≠ X) (hgn : g < n₀ ∧ g ≠ X) (hBb : Blk w Bb #[.pointer (some ⟨p, 0, none⟩)] 44 (0, 0)) (hBr : Blk w Br #[.int .i64 r] 3 (0, 0)) (hbn : Bb < n₀ ∧ Bb ≠ X) (hrn : Br < n₀ ∧ Br ≠ X) :
    SeqStopsK Fence.wide m Try.prog 36 #[.pointer (some ⟨Bb, 0, none⟩), .pointer (some ⟨Br, 0, none⟩)] (fun x : Nat => #[Value.int .i64 (x : Nat)]) (KpX X n₀) (fun ys => ys = onTo n wd l r wd) (fun pre => pre <+: onTo n wd l r wd) (onTo n wd l r wd).length w := fun L J Jx W hW hJ _ hY h0 =>
  on1_in m hm L Bb Br X n₀ p g n wd l r J Jx (fun s A B hs hAB => hJ s A B none hs (grown_below hAB) (fun r e => by cases e)) hY W (hb.later hW) hpn hgn (hBb.below hW hBb.lt) (hBr.below hW hBr.lt) hbn hrn h0
set_option maxRecDepth 100000 in
set_option maxHeartbeats 2000000 in
theorem row_of (m : Nat) (hm : 3 ≤ m) (pv : Option Addr) (r : Int) (xs : List Nat) (hol : xs.length ≤ 67108864) (w : World)
    (hst : SeqStopsK Fence.wide (m - 1) Try.prog 36 #[.pointer (some ⟨w.heap.size + 1, 0, none⟩), .pointer (some ⟨w.heap.size + 1 + 1, 0, none⟩)] (fun x : Nat => #[Value.int .i64 (x : Nat)]) (KpX w.heap.size (w.heap.size + 3)) (fun ys => ys = xs) (fun pre => pre <+: xs) xs.length
      (((w.alloc (.cells #[.slice none 0 0] 31)).alloc (.cells #[.pointer pv] 44)).alloc (.cells #[.int .i64 r] 3))) :
    CallsIn Fence.wide m Try.prog 29 #[.pointer pv, .int .i64 r] w fun e W' => ∃ v, e = .returned v ∧ W'.ownsRow w.heap.size 3 1 v xs.length (xs.map fun i => Value.int .i64 (i : Nat)) ∧ (v = .slice none 0 0 ↔ xs = []) ∧ Below w.heap.size w W' := by
  have h1 : 1 ≤ m := by omega
  obtain ⟨i0, hi, hz0, hz1, hz2⟩ := info_parts infoI
  refine callsIn_of_wp_marks Try.func29 rfl trivial ?_ rfl
  simp only [Try.ntmps29, List.size_toArray, List.length_cons, List.length_nil, Nat.reduceAdd, Nat.reduceSub, Array.replicate_succ, Array.replicate_zero, List.push_toArray, List.append_toArray, List.nil_append, List.cons_append]
  gi_wp2_with (refine ⟨trivial, ?_⟩; gi_at_call 35; refine (on_in Fence.wide (m - 1) trivial rfl pv r _).mono ?_; rintro e w' ⟨rfl, rfl⟩)
  have bO := Boxed.new w 31 (.slice none 0 0)
  have hB0 : Below w.heap.size w (((w.alloc (.cells #[.slice none 0 0] 31)).alloc (.cells #[.pointer pv] 44)).alloc (.cells #[.int .i64 r] 3)) := (((Below.refl w.heap.size w).alloc (Nat.le_refl _) _).alloc (by simp) _).alloc (by simp; omega) _
  refine wpIn_rangeFunc_ownG (F := Fence.wide) rfl h1 (gf := 36) (lb := #[.pointer (some ⟨w.heap.size + 1, 0, none⟩), .pointer (some ⟨w.heap.size + 1 + 1, 0, none⟩)]) rfl trivial (enters_of Try.func36 (by kernel_rfl) rfl)
    hst KpX.trans (KpX.put (by simp)) (Below.refl _ _) (fun _ => rfl)
    (fun pre W => (∃ v, Boxed W w.heap.size 31 v ∧ W.ownsRow w.heap.size 3 1 v pre.length (pre.map fun i => Value.int .i64 (i : Nat)) ∧ ((v = .slice none 0 0 ↔ pre = []) ∧ ∀ gg, v.ownBlock = some gg → w.heap.size + 3 ≤ gg)) ∧ (Below w.heap.size w W ∧ w.heap.size + 3 ≤ W.heap.size))
    (fun _ _ _ => False)
    (OwnFrom.and (Own.from (holdsRow_own w.heap.size w.heap.size 31 3 1 (fun pre : List Nat => pre.length) (fun pre => pre.map fun i => Value.int .i64 (i : Nat)) (fun pre v => (v = .slice none 0 0 ↔ pre = []) ∧ ∀ gg, v.ownBlock = some gg → w.heap.size + 3 ≤ gg)) _) (OwnFrom.and (ownFrom_below (Nat.le_refl _) (by simp; omega)) (Own.from (fun s A B row hs hg hr => Nat.le_trans hs hg.size) _)))
    (fun _ _ _ _ _ hs _ _ => hs)
    ⟨⟨_, (bO.alloc _).alloc _, World.ownsRow_nil _ _ _ _, by simp, by simp [Value.ownBlock]⟩, hB0, by simp⟩
    (fun x => { tmps := #[.pointer pv, .int .i64 r, undef, undef, .pointer (some ⟨w.heap.size, 0, none⟩), .int .i64 (x : Nat), .pointer pv, .int .i64 r, .func (.func 36) #[] #[.pointer (some ⟨w.heap.size + 1, 0, none⟩), .pointer (some ⟨w.heap.size + 1 + 1, 0, none⟩)], .int .i64 (x : Nat), undef, undef, undef, undef, undef], defers := [] }) ?assign ?body ?done ?stop
  case assign =>
    intro l x W K hK
    gi_wp2
    exact hK
  case body =>
    rintro l' pre x W ⟨⟨v, hv, hrow, hnil, hown0⟩, hB, hsz3⟩ hlt
    obtain ⟨va, vn, vc, rfl⟩ : ∃ a n c, v = .slice a n c := by
      rcases hrow.2 with ⟨rfl, _⟩ | ⟨gg, cap, cur, rfl, _⟩
      · exact ⟨_, _, _, rfl⟩
      · exact ⟨_, _, _, rfl⟩
    have hc := hv.cell
    gi_wp2_with (gi_at_builtin; refine wpListIn_append_own_at (F := _) _ rfl _ _ 31 rfl w.heap.size 3 i0 (.int .i64 0) 1 8 Try.underlying31 hi hz0 hz1 hz2 rfl (by decide) _ _ _ rfl (hrow.alloc _) ⟨W.heap.size, 0, none⟩ 1 1 [.int .i64 (x : Nat)] rfl rfl (cell_one_new _ _ _) (by simp [Value.oneCell']) (by unfold maxLen; omega) (by omega) (by have := hB.size; simp; omega) ?_; intro v' w1 hown' hgrow _ hat; obtain ⟨g', cap', rfl⟩ := ownsRow_succ hown'; obtain ⟨hv1, hv2, hr2, hk2, hb2⟩ := hv.appended (by decide) hrow hB.size (Nat.le_refl _) hown' hgrow; have hc1 := hv1.cell; have hf1 := hv1.frozen)
    refine ⟨hk2.from _, ⟨hb2.size, fun k hk hx => ?_⟩, ⟨_, hv2, by simpa using hr2, by simp, fun gg hg => ?_⟩, hB.trans hb2, Nat.le_trans hsz3 hb2.size⟩
    · refine (heap_setCell_other _ _ _ _ (show k ≠ w.heap.size from hx)).trans ((hgrow.block k (by simp; omega) (fun e => ?_)).trans (Below.heap_alloc W _ k (by omega)))
      have := hown0 k e.symm; omega
    · rcases hat with e | e
      · exact hown0 gg (e ▸ hg)
      · rw [e] at hg
        have : (W.alloc (.cells #[.int .i64 (x : Nat)] 3)).heap.size = gg := by simpa using hg
        simp at this; omega
  case done =>
    rintro D ys W hD rfl ⟨⟨v, hv, hrow, hnil, _⟩, hB, _⟩ hK
    obtain ⟨va, vn, vc, rfl⟩ : ∃ a n c, v = .slice a n c := by
      rcases hrow.2 with ⟨rfl, _⟩ | ⟨gg, cap, cur, rfl, _⟩
      · exact ⟨_, _, _, rfl⟩
      · exact ⟨_, _, _, rfl⟩
    have hc := hv.cell
    have hf := hv.frozen
    gi_wp2
    have hv2 := hv.set (.slice va vn vc)
    have hK2 := (KeepsOthers.setCell W ⟨w.heap.size, 0, none⟩ (.slice va vn vc)).same D _ hK rfl
    refine ⟨by simp, .inl ⟨_, _, rfl, run_takeDeferred hK2, ?_⟩⟩
    have hv3 : Boxed ((W.setCell ⟨w.heap.size, 0, none⟩ (.slice va vn vc)).putObj D (.deferred none)) w.heap.size 31 (.slice va vn vc) := hv2.kept (grownBy_putObj' _ D (.deferred none)) (fun e => by cases e; rw [show _ = _ from hv2] at hK2; cases hK2)
    have hc3 := hv3.cell
    exact ⟨.slice va vn vc, by simp [results, hc3, go_sem], .slice va vn vc, rfl, ownsRow_putObj (hrow.kept (grownBy_setCell' W w.heap.size (.slice va vn vc)) (.inr (hv.not_row (by decide) hrow).symm)) _ hK2 rfl, hnil, (hB.setCell (p := ⟨w.heap.size, 0, none⟩) (Nat.le_refl _) _).trans (belowK_b (w := w) (Nat.le_refl _) _ D _ _ (by simp at hD; omega) hK2 rfl rfl)⟩
  case stop =>
    rintro D c pre W _ _ h _
    exact h.elim
theorem row_in (m : Nat) (hm : 3 ≤ m) (p g n wd : Nat) (l : List UInt8) (r : Int) (w : World) (h : Bt w p g n wd l) :
    CallsIn Fence.wide m Try.prog 29 #[.pointer (some ⟨p, 0, none⟩), .int .i64 r] w fun e W' => ∃ v, e = .returned v ∧ W'.ownsRow w.heap.size 3 1 v (onTo n wd l r wd).length ((onTo n wd l r wd).map fun i => Value.int .i64 (i : Nat)) ∧ (v = .slice none 0 0 ↔ onTo n wd l r wd = []) ∧ Below w.heap.size w W' := by
  have hbt := h.later ((((Below.refl w.heap.size w).alloc (Nat.le_refl _) (.cells #[.slice none 0 0] 31)).alloc (by simp) (.cells #[.pointer (some ⟨p, 0, none⟩)] 44)).alloc (by simp; omega) (.cells #[.int .i64 r] 3))
  have hb1 : Blk (((w.alloc (.cells #[.slice none 0 0] 31)).alloc (.cells #[.pointer (some ⟨p, 0, none⟩)] 44)).alloc (.cells #[.int .i64 r] 3)) (w.heap.size + 1) #[.pointer (some ⟨p, 0, none⟩)] 44 (0, 0) := by
    have := (Blk.new (w.alloc (.cells #[.slice none 0 0] 31)) #[.pointer (some ⟨p, 0, none⟩)] 44 (0, 0)).alloc (.cells #[.int .i64 r] 3)
    rwa [World.size_alloc] at this
  have hb2 : Blk (((w.alloc (.cells #[.slice none 0 0] 31)).alloc (.cells #[.pointer (some ⟨p, 0, none⟩)] 44)).alloc (.cells #[.int .i64 r] 3)) (w.heap.size + 1 + 1) #[.int .i64 r] 3 (0, 0) := by
    have := Blk.new ((w.alloc (.cells #[.slice none 0 0] 31)).alloc (.cells #[.pointer (some ⟨p, 0, none⟩)] 44)) #[.int .i64 r] 3 (0, 0)
    rwa [World.size_alloc, World.size_alloc] at this
  have hpl := h.head.lt
  have hgl := h.body.lt
  have hwd := h.wide
  have hol : (onTo n wd l r wd).length ≤ wd := by
    unfold onTo; exact Nat.le_trans (List.length_filter_le _ _) (by simp)
  exact row_of m hm (some ⟨p, 0, none⟩) r (onTo n wd l r wd) (by omega) w (on_stops (m - 1) (by omega) (w.heap.size + 1) (w.heap.size + 1 + 1) w.heap.size (w.heap.size + 3) p g n wd l r _ hbt ⟨by omega, by omega⟩ ⟨by omega, by omega⟩ hb1 hb2 ⟨by omega, by omega⟩ ⟨by omega, by omega⟩)
theorem row_nil (m : Nat) (hm : 3 ≤ m) (r : Int) (w : World) :
    CallsIn Fence.wide m Try.prog 29 #[.pointer none, .int .i64 r] w fun e W' => ∃ v, e = .returned v ∧ W'.ownsRow w.heap.size 3 1 v 0 [] ∧ (v = .slice none 0 0 ↔ ([] : List Nat) = []) ∧ Below w.heap.size w W' := by
  have hb1 : Blk (((w.alloc (.cells #[.slice none 0 0] 31)).alloc (.cells #[.pointer none] 44)).alloc (.cells #[.int .i64 r] 3)) (w.heap.size + 1) #[.pointer none] 44 (0, 0) := by
    have := (Blk.new (w.alloc (.cells #[.slice none 0 0] 31)) #[.pointer none] 44 (0, 0)).alloc (.cells #[.int .i64 r] 3)
    rwa [World.size_alloc] at this
  exact row_of m hm none r [] (by simp) w (fun L J Jx W hW hJ _ hY h0 => (on1_nil (m - 1) (by omega) L (w.heap.size + 1) (w.heap.size + 1 + 1) J W (hb1.below hW hb1.lt) h0).mono fun e W' ⟨h1, h2⟩ => ⟨h1, .inl ⟨[], rfl, h2⟩⟩)
end Go.Proofs.Ytcnpldeehbleeaa
