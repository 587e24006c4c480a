/- Texts of the law WalkTurned, merged: GrWorksP, NetDraft, NetWeight, NetDrI, OutMore. -/
import Derived.Test.YtlddcnkiigamjaaDoorPWalkTurned04
import Derived.Test.YtlddcnkiigamjaaDoorPWalkTurned02
import Derived.BigQuiet
import Derived.Deep.QuietTactic
import Derived.WalkSmall
import Derived.Test.YtlddcnkiigamjaaDoorPWalkTurned07
import Derived.Deep.Cut
import Derived.Deep.CutRange
import Derived.Deep.CutBlock
/- rows that were just made -/
namespace Go.Proofs.YtlddcnkiigamjaaDoor
open Go.RowKit
theorem slX_new {w : World} {g n : Nat} {cs : Array Value} {t : TypeId} {fr : Nat × Nat} {L : List Int} (hb : Blk w g cs t fr) (hcs : cs = (L.flatMap inC).toArray) (hn : L.length = n) (hl : L.length ≤ 1000) : SlX w (.slice (some ⟨g, 0, none⟩) n n) L := by
  subst hn
  refine ⟨_, _, rfl, Nat.le_refl _, by unfold maxLen; omega, fun i hi => ⟨g, 0, cs, t, fr, rfl, hb, ?_⟩⟩
  have e := flatN_get 1 inC inC_len L i 0 (by omega)
  rw [Nat.mul_one, Nat.add_zero, List.getElem?_eq_getElem hi] at e
  rw [hcs, Nat.zero_add, List.getElem?_toArray, e]; rfl
theorem slA_new {w : World} {g n : Nat} {cs : Array Value} {t : TypeId} {fr : Nat × Nat} {L : List Ar} (hb : Blk w g cs t fr) (hcs : cs = (L.flatMap arC).toArray) (hn : L.length = n) (hl : L.length ≤ 1000) : SlA w (.slice (some ⟨g, 0, none⟩) n n) L := by
  subst hn
  have hc : ∀ i (hi : i < L.length) d, d < 3 → cs[0 + i * 3 + d]? = (arC L[i])[d]? := fun i hi d hd => by
    rw [hcs, Nat.zero_add, List.getElem?_toArray, flatN_get 3 arC arC_len L i d hd, List.getElem?_eq_getElem hi]; rfl
  exact ⟨_, _, rfl, Nat.le_refl _, by unfold maxLen; omega, fun i hi => ⟨g, 0, cs, t, fr, rfl, hb, hc i hi 0 (by omega), hc i hi 1 (by omega), hc i hi 2 (by omega)⟩⟩
theorem slX_nil (w : World) : SlX w (.slice none 0 0) [] := ⟨none, 0, rfl, Nat.le_refl _, Nat.zero_le _, fun i hi => by cases hi⟩
theorem slA_nil (w : World) : SlA w (.slice none 0 0) [] := ⟨none, 0, rfl, Nat.le_refl _, Nat.zero_le _, fun i hi => by cases hi⟩
end Go.Proofs.YtlddcnkiigamjaaDoor
/- milestoneref07.Draft: what it draws. -/
namespace Go.Proofs.YtlddcnkiigamjaaDoor
open Go.RowKit
/-- what a draft is made of: bytes, that lie below lo -/
structure Dft where
  lo : Nat
  a : Option Addr
  cap : Nat
  l : List Int
/-- a draft lies at p: its bytes, and how many were drawn -/
def DrS (w : World) (p : Nat) (L : Dft) (at' : Nat) : Prop :=
  Blk w p #[.slice L.a L.l.length L.cap, .int .i64 at'] 80 (0, 0) ∧ L.l.length ≤ 60 ∧ at' ≤ 1000000 ∧ ∀ i (h : i < L.l.length), ∃ b off, L.a = some ⟨b, off, none⟩ ∧ b ≠ p ∧ b < L.lo ∧ w.cell? ⟨b, off + i, none⟩ = some (.int .u8 L.l[i])
theorem DrS.kept {S : Nat → Prop} {w w' : World} {p : Nat} {L : Dft} {k : Nat} (h : DrS w p L k) (hk : Kept S w w') (hp : ¬ S p) (hS : ∀ b, b < L.lo → b ≠ p → ¬ S b) : DrS w' p L k := by
  obtain ⟨h1, h2, h3, h4⟩ := h
  refine ⟨hk.blk h1 hp, h2, h3, fun i hi => ?_⟩
  obtain ⟨b, off, ha, hb, hl, hc⟩ := h4 i hi
  exact ⟨b, off, ha, hb, hl, (World.cell?_of_block (hk.block b (block_lt_of_cell hc) (hS b hl hb))).trans hc⟩
theorem DrS.below {w w' : World} {p : Nat} {L : Dft} {k : Nat} (h : DrS w p L k) (hb : Below w.heap.size w w') : DrS w' p L k :=
  h.kept (S := fun _ => False) ⟨hb.os, hb.tape, hb.output, hb.size, fun k hk _ => hb.block k hk⟩ id (fun _ _ _ => id)
set_option maxHeartbeats 4000000 in
theorem next7_any (p : Nat) (L : Dft) (k : Nat) (n : Int) (w : World) (h : DrS w p L k) (hk : k < 1000000) (hn : n ≤ 1000000) :
    Calls Tryd.prog 51 #[.pointer (some ⟨p, 0, none⟩), .int .i64 n] w fun e w' => ∃ x k', e = .returned (.int .i64 x) ∧ (0 ≤ x ∧ (x < n ∨ x = 0) ∧ x ≤ 1000000) ∧ k' ≤ k + 1 ∧ DrS w' p L k' ∧ Kept (· = p) w w' := by
  have hd := h
  obtain ⟨lo, a, cap, L⟩ := L
  obtain ⟨h1, h2, h3, h4⟩ := h
  dsimp only at h1 h2 h3 h4
  have c0 := h1.cell 0; have c1 := h1.cell 1
  simp only [List.getElem?_toArray, List.getElem?_cons_succ, List.getElem?_cons_zero] at c0 c1
  have HD := Lib.hid hd
  clear hd
  by_cases hL : L.length = 0
  · have hz : (L.length : Int) = 0 := by omega
    rw [hL] at c0
    clear h1 h4 hL h2 h3 hz
    go_enter Tryd.func51, Tryd.ntmps51
    go_wp2_with fail
    go_ret
    exact ⟨0, k, rfl, ⟨by omega, .inr rfl, by omega⟩, by omega, HD.out, ⟨rfl, rfl, rfl, Nat.le_refl _, fun _ _ _ => rfl⟩⟩
  · by_cases hn1 : n < 1
    · have hz : ¬ (L.length : Int) = 0 := by omega
      clear h1 h4 h2 h3
      go_enter Tryd.func51, Tryd.ntmps51
      go_wp2_with fail
      go_ret
      exact ⟨0, k, rfl, ⟨by omega, .inr rfl, by omega⟩, by omega, HD.out, ⟨rfl, rfl, rfl, Nat.le_refl _, fun _ _ _ => rfl⟩⟩
    · have hz : ¬ (L.length : Int) = 0 := by omega
      have hnz : ¬ n = 0 := by omega
      have f1 := h1.free 1 (Or.inr (Nat.zero_le _))
      have hB1 := h1.set 1 (.int .i64 ((k : Int) + 1))
      have d0 := hB1.cell 0; have d1 := hB1.cell 1
      change (w.setCell ⟨p, 1, none⟩ (.int .i64 ((k : Int) + 1))).cell? ⟨p, 0, none⟩ = some (.slice a L.length cap) at d0
      change (w.setCell ⟨p, 1, none⟩ (.int .i64 ((k : Int) + 1))).cell? ⟨p, 1, none⟩ = some (.int .i64 ((k : Int) + 1)) at d1
      obtain ⟨j, hj⟩ : ∃ j : Nat, (k : Int).tmod L.length = (j : Int) := ⟨k % L.length, by simp [Int.tmod]⟩
      have hjl : j < L.length := by
        have := Int.tmod_lt_of_pos (k : Int) (show (0 : Int) < L.length by omega)
        omega
      obtain ⟨b, off, rfl, hbp, hbl, hc⟩ := h4 j hjl
      have d2 : (w.setCell ⟨p, 1, none⟩ (.int .i64 ((k : Int) + 1))).cell? ⟨b, off + j, none⟩ = some (.int .u8 L[j]) := (World.cell?_of_block (heap_setCell_other _ _ _ _ hbp)).trans hc
      obtain ⟨x, hx⟩ : ∃ x, x = L[j] := ⟨_, rfl⟩
      rw [← hx] at d2
      have hji : (j : Int) < (L.length : Int) := by omega
      have hj0 : (0 : Int) ≤ (j : Int) := by omega
      have HK : Hid (Kept (· = p) w (w.setCell ⟨p, 1, none⟩ (.int .i64 ((k : Int) + 1)))) := Lib.hid ((⟨rfl, rfl, rfl, Nat.le_refl _, fun _ _ _ => rfl⟩ : Kept (· = p) w w).setCell (p := ⟨p, 1, none⟩) rfl _)
      have HD1 : Hid (DrS (w.setCell ⟨p, 1, none⟩ (.int .i64 ((k : Int) + 1))) p ⟨lo, some ⟨b, off, none⟩, cap, L⟩ (k + 1)) := Lib.hid (by
        refine ⟨hB1, h2, by omega, fun i hi => ?_⟩
        obtain ⟨b', off', e', hb', hl', hc'⟩ := h4 i hi
        exact ⟨b', off', e', hb', hl', (World.cell?_of_block (heap_setCell_other _ _ _ _ hb')).trans hc'⟩)
      clear h1 h4 hc hx hB1 hbl HD
      go_enter Tryd.func51, Tryd.ntmps51
      go_wp2_with fail
      generalize w.setCell ⟨p, 1, none⟩ (.int .i64 ((k : Int) + 1)) = w1 at *
      clear c0 c1 f1
      go_quiet (fail)
      go_wp2
      go_ret
      exact ⟨_, k + 1, rfl, ⟨Int.emod_nonneg _ hnz, .inl (Int.emod_lt_of_pos _ (by omega)), Int.le_trans (Int.le_of_lt (Int.emod_lt_of_pos _ (by omega))) hn⟩, Nat.le_refl _, HD1.out.below ⟨rfl, rfl, rfl, Nat.le_refl _, fun _ _ => rfl⟩, ⟨HK.out.os, HK.out.tape, HK.out.output, HK.out.size, HK.out.block⟩⟩
end Go.Proofs.YtlddcnkiigamjaaDoor
/- milestoneref07.Draft.Weight. -/
namespace Go.Proofs.YtlddcnkiigamjaaDoor
open Go.RowKit
set_option maxHeartbeats 4000000 in
theorem weight7_any (p : Nat) (L : Dft) (k : Nat) (w : World) (h : DrS w p L k) (hk : k + 1 < 1000000) :
    Calls Tryd.prog 52 #[.pointer (some ⟨p, 0, none⟩)] w fun e w' => ∃ x k', e = .returned (.int .i64 x) ∧ (0 ≤ x ∧ x < 2147483648) ∧ k' ≤ k + 2 ∧ DrS w' p L k' ∧ Kept (· = p) w w' := by
  have HD := Lib.hid h
  have HNx := Lib.hid (fun n (hn : n ≤ 1000000) (u : World) (k' : Nat) (hd : DrS u p L k') (hk' : k' < 1000000) => next7_any p L k' n u hd hk' hn)
  clear h
  go_enter Tryd.func52, Tryd.ntmps52
  go_wp2_with fail
  refine (HNx.out 12 (by decide) w k HD.out (by omega)).mono ?_
  rintro e w1 ⟨x, k1, rfl, ⟨hx0, hx1, _⟩, hk1, hd1, hkk1⟩
  have hx : x < 12 := by rcases hx1 with h | h <;> omega
  have HD1 := Lib.hid hd1; have HK1 := Lib.hid hkk1
  clear hd1 hkk1 hx1 HD
  by_cases c3 : x < 3
  · go_wp2_with fail
    go_ret
    exact ⟨0, k1, rfl, ⟨by omega, by omega⟩, by omega, HD1.out, HK1.out⟩
  · by_cases c10 : x < 10
    · go_wp2_with fail
      refine (HNx.out 9 (by decide) w1 k1 HD1.out (by omega)).mono ?_
      rintro e w2 ⟨y, k2, rfl, ⟨hy0, hy1, _⟩, hk2, hd2, hkk2⟩
      have hy : y < 9 := by rcases hy1 with h | h <;> omega
      have HD2 := Lib.hid hd2; have HK2 := Lib.hid (HK1.out.trans hkk2)
      clear hd2 hkk2 hy1
      go_wp2_with fail
      go_ret
      exact ⟨1 + y, k2, rfl, ⟨by omega, by omega⟩, by omega, HD2.out, HK2.out⟩
    · by_cases c11 : x < 11
      · go_wp2_with fail
        refine (HNx.out 20 (by decide) w1 k1 HD1.out (by omega)).mono ?_
        rintro e w2 ⟨y, k2, rfl, ⟨hy0, hy1, _⟩, hk2, hd2, hkk2⟩
        have hy : y < 20 := by rcases hy1 with h | h <;> omega
        have HD2 := Lib.hid hd2; have HK2 := Lib.hid (HK1.out.trans hkk2)
        clear hd2 hkk2 hy1
        go_wp2_with fail
        go_ret
        exact ⟨100 * y, k2, rfl, ⟨by omega, by omega⟩, by omega, HD2.out, HK2.out⟩
      · go_wp2_with fail
        refine (HNx.out 2 (by decide) w1 k1 HD1.out (by omega)).mono ?_
        rintro e w2 ⟨y, k2, rfl, ⟨hy0, hy1, _⟩, hk2, hd2, hkk2⟩
        have hy : y < 2 := by rcases hy1 with h | h <;> omega
        have HD2 := Lib.hid hd2; have HK2 := Lib.hid (HK1.out.trans hkk2)
        clear hd2 hkk2 hy1
        go_wp2_with fail
        go_ret
        exact ⟨2147483647 - y, k2, rfl, ⟨by omega, by omega⟩, by omega, HD2.out, HK2.out⟩
end Go.Proofs.YtlddcnkiigamjaaDoor
/- a draft at p, and a graph in a variable of ours beside it: what numbers drawn, and elements more, leave of both. -/
namespace Go.Proofs.YtlddcnkiigamjaaDoor
open Go.RowKit
/-- where things lie -/
structure DrC (w0 : World) (B2 Bo p N1 : Nat) (L : Dft) : Prop where
  p : p < w0.heap.size
  lo : L.lo ≤ w0.heap.size
  b2 : w0.heap.size ≤ B2
  bo : B2 < Bo
  n1 : Bo < N1
/-- the draft at p, the graph g in Bo, its lists ours -/
def DrI (w0 : World) (B2 Bo p N1 : Nat) (L : Dft) (vx vy va : Value) (g : Raw) (k : Nat) (W : World) : Prop :=
  ∃ u, (u.heap.size = N1 ∧ Kept (· = p) w0 u ∧ DrS u p L k ∧ Blk u B2 #[.int .i64 0, .slice none 0 0, .slice none 0 0, .slice none 0 0] 26 (0, 0)) ∧ OutI u Bo vx vy va g W
section
variable {w0 W W' : World} {B2 Bo p N1 k k' : Nat} {L : Dft} {vx vy va : Value} {g : Raw}
theorem DrI.dr (hC : DrC w0 B2 Bo p N1 L) (h : DrI w0 B2 Bo p N1 L vx vy va g k W) : DrS W p L k := by
  obtain ⟨u, ⟨_, _, hd, _⟩, ho⟩ := h
  have := hC.p; have := hC.lo; have := hC.b2; have := hC.bo
  exact hd.kept ho.kept (by omega) (fun b hb _ => by omega)
theorem DrI.kept (hC : DrC w0 B2 Bo p N1 L) (h : DrI w0 B2 Bo p N1 L vx vy va g k W) : Kept (· = p) w0 W := by
  obtain ⟨u, ⟨_, hk, _, _⟩, ho⟩ := h
  have := hC.p; have := hC.b2; have := hC.bo
  have h2 := ho.kept
  exact ⟨h2.os.trans hk.os, h2.tape.trans hk.tape, h2.output.trans hk.output, Nat.le_trans hk.size h2.size, fun b hb hs => (h2.block b (Nat.lt_of_lt_of_le hb hk.size) (by omega)).trans (hk.block b hb hs)⟩
theorem DrI.b2 (hC : DrC w0 B2 Bo p N1 L) (h : DrI w0 B2 Bo p N1 L vx vy va g k W) : Blk W B2 #[.int .i64 0, .slice none 0 0, .slice none 0 0, .slice none 0 0] 26 (0, 0) := by
  obtain ⟨u, ⟨_, _, _, hb⟩, ho⟩ := h
  have := hC.bo
  exact ho.kept.blk hb (by omega)
theorem DrI.blk (h : DrI w0 B2 Bo p N1 L vx vy va g k W) : Blk W Bo #[.int .i64 g.nodes, vx, vy, va] 26 (0, 0) := by
  obtain ⟨u, _, ho⟩ := h
  exact ho.blk
theorem DrI.raw (h : DrI w0 B2 Bo p N1 L vx vy va g k W) : RawO N1 W (.agg #[.int .i64 g.nodes, vx, vy, va]) g := by
  obtain ⟨u, ⟨hs, _⟩, ho⟩ := h
  rw [← hs]; exact ho.raw
/-- a number drawn -/
theorem DrI.next (hC : DrC w0 B2 Bo p N1 L) (h : DrI w0 B2 Bo p N1 L vx vy va g k W) (hW : Kept (· = p) W W') (hd' : DrS W' p L k') : DrI w0 B2 Bo p N1 L vx vy va g k' W' := by
  obtain ⟨u, ⟨hs, hk, hd, hb⟩, ho⟩ := h
  have c1 := hC.p; have c2 := hC.lo; have c3 := hC.b2; have c4 := hC.bo; have c5 := hC.n1
  have c6 := hk.size
  obtain ⟨hd1, hd2, hd3, hd4⟩ := hd'
  obtain ⟨cs, hcs⟩ : ∃ cs, cs = Obj.cells #[.slice L.a L.l.length L.cap, .int .i64 (k' : Int)] 80 (0, 0) := ⟨_, rfl⟩
  obtain ⟨u', hu'⟩ : ∃ u' : World, u' = { u with heap := u.heap.setIfInBounds p cs } := ⟨_, rfl⟩
  have hne : ∀ b, b ≠ p → u'.heap[b]? = u.heap[b]? := fun b hb => by
    rw [hu']; exact Array.getElem?_setIfInBounds_ne (Ne.symm hb)
  have hpp : u'.heap[p]? = some cs := by
    rw [hu']; exact Array.getElem?_setIfInBounds_self_of_lt (by omega)
  have hsz : u'.heap.size = u.heap.size := by rw [hu']; simp
  have hWp : W'.heap[p]? = some cs := by rw [hcs]; exact hd1
  have hm := ho.kept.size
  refine ⟨u', ⟨hsz.trans hs, ⟨by rw [hu']; exact hk.os, by rw [hu']; exact hk.tape, by rw [hu']; exact hk.output, by rw [hsz]; exact hk.size, fun b hb hp => (hne b hp).trans (hk.block b hb hp)⟩, ⟨by show u'.heap[p]? = _; rw [hpp, hcs], hd2, hd3, fun i hi => ?_⟩, ?_⟩, ⟨?_, ?_, ?_⟩⟩
  · obtain ⟨b, off, ha, hbp, hl, hc⟩ := hd4 i hi
    refine ⟨b, off, ha, hbp, hl, (World.cell?_of_block ?_).trans hc⟩
    rw [hne b hbp, hW.block b (by omega) hbp, ho.kept.block b (by omega) (by omega)]
  · show u'.heap[B2]? = _
    rw [hne B2 (by omega)]; exact hb
  · exact (hW.block Bo ho.blk.lt (by omega)).trans ho.blk
  · have agr : ∀ {e : TypeId} {size : Nat} {v : Value} {n : Nat} {xs : List Value}, W.ownsRow u.heap.size e size v n xs → W'.ownsRow u'.heap.size e size v n xs := fun hr => by
      rw [hsz]
      exact ownsRow_agree' hr fun b hb => by
        obtain ⟨h1, _, h2⟩ := ownsRow_blk' hr hb
        exact hW.block b h2.lt (by omega)
    exact ⟨agr ho.own.1, agr ho.own.2.1, agr ho.own.2.2.1, ho.own.2.2.2⟩
  · have k2 := ho.kept
    refine ⟨by rw [hu']; exact hW.os.trans k2.os, by rw [hu']; exact hW.tape.trans k2.tape, by rw [hu']; exact hW.output.trans k2.output, by rw [hsz]; exact Nat.le_trans k2.size hW.size, fun b hb hne' => ?_⟩
    by_cases e : b = p
    · subst e; rw [hpp, hWp]
    · rw [hne b e, hW.block b (by omega) e]
      exact k2.block b (by omega) hne'
theorem DrI.below (h : DrI w0 B2 Bo p N1 L vx vy va g k W) (hb : Below W.heap.size W W') : DrI w0 B2 Bo p N1 L vx vy va g k W' := by
  obtain ⟨u, hu, ho⟩ := h
  exact ⟨u, hu, ho.below hb⟩
/-- block b is none of the rows', nor p, Bo, B2 -/
structure DrA (B2 Bo p N1 b : Nat) (vx vy va : Value) : Prop where
  n1 : N1 ≤ b
  x : some b ≠ vx.ownBlock
  y : some b ≠ vy.ownBlock
  a : some b ≠ va.ownBlock
  p : b ≠ p
  bo : b ≠ Bo
theorem DrI.apart (hC : DrC w0 B2 Bo p N1 L) (h : DrI w0 B2 Bo p N1 L vx vy va g k W) : DrA B2 Bo p N1 W.heap.size vx vy va := by
  have hp := (h.dr hC).1.lt
  have hb := h.blk.lt
  obtain ⟨u, ⟨hs, _, _, _⟩, ho⟩ := h
  have := ho.kept.size
  have nn : ∀ {e : TypeId} {size : Nat} {v : Value} {n : Nat} {xs : List Value}, W.ownsRow u.heap.size e size v n xs → some W.heap.size ≠ v.ownBlock := fun hr e => by
    have := (ownsRow_blk' hr e.symm).2.choose_spec.lt
    omega
  exact ⟨by omega, nn ho.own.1, nn ho.own.2.1, nn ho.own.2.2.1, by omega, by omega⟩
theorem DrI.setNew {b i : Nat} {v : Value} (h : DrI w0 B2 Bo p N1 L vx vy va g k W) (ha : DrA B2 Bo p N1 b vx vy va) : DrI w0 B2 Bo p N1 L vx vy va g k (W.setCell ⟨b, i, none⟩ v) := by
  obtain ⟨u, hu, ho⟩ := h
  have hs := hu.1
  have h1 := ha.n1
  have agr : ∀ {e : TypeId} {size : Nat} {x : Value} {n : Nat} {xs : List Value}, W.ownsRow u.heap.size e size x n xs → some b ≠ x.ownBlock → (W.setCell ⟨b, i, none⟩ v).ownsRow u.heap.size e size x n xs := fun hr hx =>
    ownsRow_agree' hr fun c hc => heap_setCell_other _ _ _ _ (fun e => hx (by rw [hc]; exact congrArg some e.symm))
  have hk := ho.kept
  refine ⟨u, hu, ⟨ho.blk.setOther ⟨b, i, none⟩ v (Ne.symm ha.bo), ⟨agr ho.own.1 ha.x, agr ho.own.2.1 ha.y, agr ho.own.2.2.1 ha.a, ho.own.2.2.2⟩, ⟨hk.os, hk.tape, hk.output, by simpa [World.setCell] using hk.size, fun c hc hne => (heap_setCell_other _ _ _ _ (fun e : c = b => by omega)).trans (hk.block c hc hne)⟩⟩⟩
/-- the beginning: a variable just made -/
theorem DrI.new {nodes : Int} {w2 : World} (hk : Kept (· = p) w0 w2) (hd : DrS w2 p L k) (hb : Blk w2 B2 #[.int .i64 0, .slice none 0 0, .slice none 0 0, .slice none 0 0] 26 (0, 0)) :
    DrI w0 B2 w2.heap.size p (w2.heap.size + 1) L (.slice none 0 0) (.slice none 0 0) (.slice none 0 0) ⟨nodes, [], [], []⟩ k (w2.alloc (.cells #[.int .i64 nodes, .slice none 0 0, .slice none 0 0, .slice none 0 0] 26)) := by
  have hbl : Below w2.heap.size w2 (w2.alloc (.cells #[.int .i64 nodes, .slice none 0 0, .slice none 0 0, .slice none 0 0] 26)) := (Below.refl _ _).alloc (Nat.le_refl _) _
  refine ⟨_, ⟨by simp, hk.alloc _, hd.below hbl, hb.alloc _⟩, ⟨Blk.new _ _ _ _, ⟨World.ownsRow_nil _ _ _ _, World.ownsRow_nil _ _ _ _, World.ownsRow_nil _ _ _ _, fun b hb => by cases hb⟩, Kept.refl _ _⟩⟩
end
end Go.Proofs.YtlddcnkiigamjaaDoor
/- A graph of ours in a variable: what else may be done with it; rows of arguments cut; operations that are passed over. -/
namespace Go.Proofs.YtlddcnkiigamjaaDoor
open Go.RowKit
/-- where a row that is ours begins -/
theorem ownForm {w : World} {base : Nat} {e : TypeId} {v : Value} {n size : Nat} {xs : List Value} (h : w.ownsRow base e size v n xs) : ∃ a c, v = .slice a n c ∧ (0 < n → ∃ g, a = some ⟨g, 0, none⟩) := by
  rcases h.2 with ⟨h, h0⟩ | ⟨g, cap, cur, h, _⟩
  · exact ⟨_, _, by rw [h0]; exact h, fun h => by omega⟩
  · exact ⟨_, _, h, fun _ => ⟨g, rfl⟩⟩
theorem OutI.cellA {w1 W : World} {Bo : Nat} {vx vy : Value} {g n cap : Nat} {r : Raw} (h : OutI w1 Bo vx vy (.slice (some ⟨g, 0, none⟩) n cap) r W) (hn : r.arcs.length = n) (k d : Nat) (hk : k < r.arcs.length) (hd : d < 3) :
    (∃ v, W.cell? ⟨g, k * 3 + d, none⟩ = some v) ∧ W.frozen? ⟨g, k * 3 + d, none⟩ = false := by
  obtain ⟨_, _, hg⟩ := ownsRow_blk' h.own.2.2.1 (g := g) rfl
  refine ⟨?_, hg.free _ (Or.inr (Nat.zero_le _))⟩
  have sA : SlA W (.slice (some ⟨g, 0, none⟩) n cap) r.arcs := slA_own hn (by have h := h.own.2.2.1; rwa [hn] at h)
  obtain ⟨b, off, e, d0, d1, d2⟩ := sA.at k hk
  obtain ⟨rfl, rfl⟩ : g = b ∧ 0 = off := by simpa using e
  rw [Nat.zero_add] at d0 d1 d2
  match d, hd with
  | 0, _ => exact ⟨_, d0⟩
  | 1, _ => exact ⟨_, d1⟩
  | 2, _ => exact ⟨_, d2⟩
section
variable {P : Program} {ops : Array Oper} {Q : Exit → Act → World → Prop} {S : World → Prop}
theorem heldA_skip {i d : Nat} {oi : Oper} {fuel : Nat} {listed : Array Bool} {tmps : Array Value} {ds : List Deferred} {w : World} (hi : ops[i]? = some oi) (hd : oi.dst = some d) (hs : Region.noSelect ops = true) (hf : Region.free .any ops listed i = true)
    (hr : (Region.ready .any ops listed).contains i = true) (hQ : ∀ c a w, Q (.panic c) (a.put oi.dst undef) w → Q (.panic c) a w) (hw : Region.wanted oi (yielded ops tmps) = false) (hS : S w)
    (h : wpAnyH P .any ops Q S fuel (listed.setIfInBounds i true) { tmps := tmps.setIfInBounds d undef, defers := ds } w) : wpAnyH P .any ops Q S (fuel + 1) listed { tmps := tmps, defers := ds } w :=
  wpAnyH_take hi hs hf hr hQ (Or.inr ⟨hw, rfl⟩) hS (by rw [hd]; exact h)
end
theorem inC_map (L : List Int) : L.flatMap inC = L.map (Value.int .i64) := by
  induction L with
  | nil => rfl
  | cons x L ih => rw [List.flatMap_cons, ih]; rfl
theorem OutI.takeY {w1 W : World} {Bo : Nat} {vx va : Value} {g n cap : Nat} {r : Raw} (h : OutI w1 Bo vx (.slice (some ⟨g, 0, none⟩) n cap) va r W) (hn : r.Y.length = n) (m : Nat) (hm : m ≤ n) :
    OutI w1 Bo vx (.slice (some ⟨g, 0, none⟩) m cap) va { r with Y := r.Y.take m } (W.setCell ⟨Bo, 2, none⟩ (.slice (some ⟨g, 0, none⟩) m cap)) := by
  have hown := h.own.2.1
  obtain ⟨hl, h2⟩ := hown
  have hY : W.ownsRow w1.heap.size 2 1 (.slice (some ⟨g, 0, none⟩) m cap) (r.Y.take m).length ((r.Y.take m).flatMap inC) := by
    have hlm : (r.Y.take m).length = m := by rw [List.length_take]; omega
    rw [hlm]
    refine ⟨by rw [inC_map, List.length_map, hlm, Nat.mul_one], ?_⟩
    rcases h2 with ⟨e, _⟩ | ⟨g', cap', cur, ev, hb, hg, hnc, hcm, hcs, ht⟩
    · cases e
    · obtain ⟨rfl, _, rfl⟩ : g = g' ∧ n = r.Y.length ∧ cap = cap' := by simpa using ev
      refine .inr ⟨g, cap, cur, rfl, hb, hg, by omega, hcm, hcs, ?_⟩
      have : (cur.toList.take (r.Y.length * 1)).take (m * 1) = (r.Y.flatMap inC).take (m * 1) := by rw [ht]
      rw [List.take_take, Nat.min_eq_left (by omega)] at this
      rw [this, inC_map, inC_map, List.map_take, Nat.mul_one]
  have hO : Own3 w1.heap.size W vx (.slice (some ⟨g, 0, none⟩) m cap) va { r with Y := r.Y.take m } := ⟨h.own.1, hY, h.own.2.2.1, fun b h1 h3 => h.own.2.2.2 b h1 (by simpa [Value.ownBlock] using h3)⟩
  exact ⟨h.blk.set 2 _, hO.set (p := ⟨Bo, 2, none⟩) h.blk (by decide) (by decide) _, h.kept.setCell (p := ⟨Bo, 2, none⟩) rfl _⟩
theorem OutI.setN {w1 W : World} {Bo : Nat} {vx vy va : Value} {r : Raw} (h : OutI w1 Bo vx vy va r W) (n : Int) : OutI w1 Bo vx vy va { r with nodes := n } (W.setCell ⟨Bo, 0, none⟩ (.int .i64 n)) :=
  ⟨h.blk.set 0 _, Own3.set (r := { r with nodes := n }) (p := ⟨Bo, 0, none⟩) h.own h.blk (by decide) (by decide) _, h.kept.setCell (p := ⟨Bo, 0, none⟩) rfl _⟩
theorem ownCellB {w : World} {lo : Nat} {e : TypeId} {gl c : Nat} {R : List Int} (h : w.ownsRow lo e 1 (.slice (some ⟨gl, 0, none⟩) R.length c) R.length (R.flatMap inC)) {i : Nat} (hi : i < R.length) : ∃ x, w.cell? ⟨gl, i, none⟩ = some x := by
  obtain ⟨b, off, e2, hc⟩ := (slX_own rfl h).at i hi
  obtain ⟨rfl, rfl⟩ : gl = b ∧ 0 = off := by simpa using e2
  rw [Nat.zero_add] at hc
  exact ⟨_, hc⟩
theorem OutI.cellX {w1 W : World} {Bo : Nat} {vy va : Value} {g n cap : Nat} {r : Raw} (h : OutI w1 Bo (.slice (some ⟨g, 0, none⟩) n cap) vy va r W) (hn : r.X.length = n) (k : Nat) (hk : k < n) : (∃ v, W.cell? ⟨g, k, none⟩ = some v) ∧ W.frozen? ⟨g, k, none⟩ = false := by
  subst hn
  obtain ⟨_, _, hg⟩ := ownsRow_blk' h.own.1 (g := g) rfl
  exact ⟨ownCellB h.own.1 hk, hg.free _ (Or.inr (Nat.zero_le _))⟩
theorem OutI.cellY {w1 W : World} {Bo : Nat} {vx va : Value} {g n cap : Nat} {r : Raw} (h : OutI w1 Bo vx (.slice (some ⟨g, 0, none⟩) n cap) va r W) (hn : r.Y.length = n) (k : Nat) (hk : k < n) : (∃ v, W.cell? ⟨g, k, none⟩ = some v) ∧ W.frozen? ⟨g, k, none⟩ = false := by
  subst hn
  obtain ⟨_, _, hg⟩ := ownsRow_blk' h.own.2.1 (g := g) rfl
  exact ⟨ownCellB h.own.2.1 hk, hg.free _ (Or.inr (Nat.zero_le _))⟩
theorem SlA.cut {w : World} {a : Option Addr} {n cap : Nat} {L : List Ar} (h : SlA w (.slice a n cap) L) (m : Nat) (hm : m ≤ L.length) : SlA w (.slice a m cap) (L.take m) := by
  obtain ⟨a', cap', e, h1, h2, h3⟩ := h
  obtain ⟨rfl, rfl, rfl⟩ : a = a' ∧ n = L.length ∧ cap = cap' := by simpa using e
  have hl : (L.take m).length = m := by rw [List.length_take]; omega
  refine ⟨a, cap, by rw [hl], by omega, h2, fun i hi => ?_⟩
  have hi' : i < L.length := by omega
  rw [List.getElem_take]
  exact h3 i hi'
end Go.Proofs.YtlddcnkiigamjaaDoor
